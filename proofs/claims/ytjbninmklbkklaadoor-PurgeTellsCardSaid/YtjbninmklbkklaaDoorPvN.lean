/-
  purge: rows of rows, frozen; the reference's Twin.
-/
import Derived.Test.YtjbninmklbkklaaDoorPvM
import Derived.Test.YtjbninmklbkklaaDoorPvH
set_option linter.unusedSimpArgs false
set_option linter.unusedVariables false
set_option maxRecDepth 100000
namespace Go.Proofs.YtjbninmklbkklaaDoor
open Go Go.Ax
variable {fuel : Nat} {M : Mem} {Q : AV → Mem → Prop} {d : Nat}

theorem frzL_app {f : AV → Option AV} : ∀ {a b a' b' : List AV}, frzL f a = some a' → frzL f b = some b' → frzL f (a ++ b) = some (a' ++ b')
  | [], b, a', b', h1, h2 => by
    simp only [frzL, Option.some.injEq] at h1
    subst h1
    exact h2
  | x :: a, b, a', b', h1, h2 => by
    simp only [frzL] at h1
    split at h1
    · rename_i y hy
      split at h1
      · rename_i r hr
        simp only [Option.some.injEq] at h1
        subst h1
        simp only [List.cons_append, frzL, hy, frzL_app hr h2]
      · cases h1
    · cases h1
theorem ev_frzR {B : Nat} {x : EvR} (h : InR M B x) {k : Nat} (hk : 1 < k) : ∃ da' ca', (∀ N : Mem, (∀ j, N.get j = M.get j) → frzL (Go.Ax.frz N 0 k) (evRow x.e x.da x.ca) = some (evRow x.e da' ca')) ∧ Bs da' x.e.data ∧ Sl 1 isInt ca' x.e.crash := by
  obtain ⟨da', b1, f1⟩ := slm_frz2 h.1 cel_U8 k hk
  obtain ⟨ca', b2, f2⟩ := slm_frz2 h.2.1 cel_Int k hk
  refine ⟨da', ca', fun N hN => ?_, b1, b2⟩
  have hs := fun v => frz_sc (M := N) (m := 0) (k := k) v (by omega)
  simp only [evRow, frzL, hs, f1 N fun j _ => hN j, f2 N fun j _ => hN j]
theorem rows_frzR {B k : Nat} (hk : 1 < k) : ∀ {rows : List (List AV)} {lr : List EvR}, All2 isEvR rows lr → (∀ x ∈ lr, InR M B x) →
    ∃ rows', (∀ N : Mem, (∀ j, N.get j = M.get j) → frzL (Go.Ax.frz N 0 k) rows.flatten = some rows'.flatten) ∧ All2 isEv rows' (lr.map (·.e)) ∧ (∀ r ∈ rows', r.length = 17)
  | _, _, .nil, _ => ⟨[], fun _ _ => rfl, .nil, by simp⟩
  | _, _, .cons (y := x) (m := lr) a t, h => by
    obtain ⟨da', ca', i1, b1, b2⟩ := ev_frzR (h x (by simp)) hk
    obtain ⟨rows', i2, hA, hl⟩ := rows_frzR hk t fun y hy => h y (by simp [hy])
    obtain ⟨rfl, _⟩ := a
    refine ⟨evRow x.e da' ca' :: rows', fun N hN => ?_, .cons ⟨da', ca', rfl, b1, b2⟩ hA, ?_⟩
    · rw [List.flatten_cons, List.flatten_cons]
      exact frzL_app (i1 N hN) (i2 N hN)
    · intro r hr
      rcases List.mem_cons.1 hr with rfl | hr
      · rfl
      · exact hl r hr
theorem RR.frz {B : Nat} {o : AV} {l : List Ev} (h : RR M B o l) {k : Nat} (hk : 1 < k) : ∃ o', (∀ N : Mem, (∀ j, N.get j = M.get j) → Go.Ax.frz N 0 (k + 1) o = some o') ∧ Sl 17 isEv o' l := by
  obtain ⟨lr, rfl, h2, h3, _, _⟩ := h
  rcases h2 with ⟨rfl, rfl⟩ | ⟨id, rows, cap, rfl, _, hg, hA, hr⟩
  · exact ⟨NIL, fun _ _ => rfl, .inl ⟨rfl, rfl⟩⟩
  · obtain ⟨rows', i1, hA', hl'⟩ := rows_frzR (k := k) hk hA h3
    have hfl := flat_len hr
    have hfl' := flat_len hl'
    have hn : rows'.length = rows.length := by rw [hA'.length_eq, List.length_map, hA.length_eq]
    have hble : Nat.ble (0 + rows.length * 17) rows.flatten.length = true := ble_t (by omega)
    have hsl : slot rows'.flatten 0 (rows.length * 17) = rows'.flatten := slot_all _ _ (by rw [hfl', hn])
    refine ⟨.pv rows'.flatten rows.length cap 17, fun N hN => ?_, .inr ⟨rows', cap, by rw [hn], hA', hl'⟩⟩
    simp only [Go.Ax.frz, rd_row ((hN id).trans hg), hble, i1 N hN, hsl, Nat.ble_eq_true_of_le (Nat.zero_le id)]
set_option maxHeartbeats 8000000 in
theorem twin1_run {a : AV} {l : List Ev} (hS : Sl 17 isEv a l) (hl : l.length ≤ 100000) (hd : ∀ e ∈ l, e.data.length ≤ 140737488355328 ∧ e.crash.length ≤ 17592186044416) (hf : l.length + 100 < fuel) : ∃ ro, Sl 17 isEv ro l ∧ ∀ M, callN Tryd.prog (fsT tbl) fuel (d + 1) (.fn 16) [a] M = some (ro, M) := by
  have ll := hS.len
  refine gc_ex tf16 rfl (fun M => by simp (maxSteps := 2000000) (disch := first | omega | assumption | (simp only [DS, Nat.reduceAdd, *]; done) | (simp only [DZ]; omega)) only [RUN, RU, footA, feetIn, resultsA, tupOf, frzL, slot, lay, icyL, fillA, repCells, kR, reduceIte, Nat.reduceEqDiff, Nat.reduceBEq, Nat.reduceLT, Nat.reduceAdd, Nat.reduceLeDiff, Nat.reduceSub, Nat.reduceMul, Int.reduceLT, Int.reduceLE, Int.reduceEq, Int.reduceAdd, Int.reduceSub, Int.reduceMul, hS.fz.rows, hS.fz.one, hS.fz.cells, hS.fz.icy, hS.fz.frz]) ?_
  refine call_gc tf16 rfl (by simp (maxSteps := 2000000) (disch := first | omega | assumption | (simp only [DS, Nat.reduceAdd, *]; done) | (simp only [DZ]; omega)) only [RUN, RU, footA, feetIn, resultsA, tupOf, frzL, slot, lay, icyL, fillA, repCells, kR, reduceIte, Nat.reduceEqDiff, Nat.reduceBEq, Nat.reduceLT, Nat.reduceAdd, Nat.reduceLeDiff, Nat.reduceSub, Nat.reduceMul, Int.reduceLT, Int.reduceLE, Int.reduceEq, Int.reduceAdd, Int.reduceSub, Int.reduceMul, hS.fz.rows, hS.fz.one, hS.fz.cells, hS.fz.icy, hS.fz.frz]) (by simp [a16]) fun b' ht hx => ?_
  have h0 := hx 0 _ rfl
  clear hx
  simp only [a16, c16] at ht ⊢
  simp (maxSteps := 2000000) (disch := first | omega | assumption | (simp only [DS, Nat.reduceAdd, *]; done) | (simp only [DZ]; omega)) only [RUN, RU, footA, feetIn, resultsA, tupOf, frzL, slot, lay, icyL, fillA, repCells, kR, reduceIte, Nat.reduceEqDiff, Nat.reduceBEq, Nat.reduceLT, Nat.reduceAdd, Nat.reduceLeDiff, Nat.reduceSub, Nat.reduceMul, Int.reduceLT, Int.reduceLE, Int.reduceEq, Int.reduceAdd, Int.reduceSub, Int.reduceMul, h0, ll, hS.fz.rows, hS.fz.one, hS.fz.cells, hS.fz.icy, hS.fz.frz]
  refine w_loop (I := fun n t N => ∃ (i : Nat) (o : AV), n = l.length - i ∧ i ≤ l.length ∧ nth undefA t 0 = a ∧ nth undefA t 3 = o ∧ nth undefA t 4 = I64 i ∧ Wf N ∧ RR N 0 o (l.take i)) (n := l.length) (by omega) ?_ ?_
  · refine ⟨0, NIL, rfl, Nat.zero_le _, ?_, ?_, ?_, Wf.mem0, RR.nil _ _⟩ <;> simp (maxSteps := 2000000) (disch := first | omega | assumption | (simp only [DS, Nat.reduceAdd, *]; done) | (simp only [DZ]; omega)) only [RUN, RU, footA, feetIn, resultsA, tupOf, frzL, slot, lay, icyL, fillA, repCells, kR, reduceIte, Nat.reduceEqDiff, Nat.reduceBEq, Nat.reduceLT, Nat.reduceAdd, Nat.reduceLeDiff, Nat.reduceSub, Nat.reduceMul, Int.reduceLT, Int.reduceLE, Int.reduceEq, Int.reduceAdd, Int.reduceSub, Int.reduceMul, h0]
    all_goals first | rfl | assumption | done
  · rintro n t N hlt ⟨i, o, rfl, hi, g0, g3, g4, wN, hR⟩
    simp only [ht] at hlt ⊢
    clear h0 ht
    by_cases hlt' : i < l.length
    · have q1 : decide ((i : Int) < l.length) = true := decide_eq_true (by omega)
      have w1 : IntKind.i64.wrap ((i : Int) + 1) = ((i + 1 : Nat) : Int) := by rw [wrap_i64] <;> omega
      obtain ⟨r, hr, hev, _⟩ := hS.iad i hlt'
      have hdd := hd l[i] (List.getElem_mem hlt')
      have htk : l.take (i + 1) = l.take i ++ [l[i]] := take_snoc l i hlt'
      have hle : (l.take i).length ≤ 100000 := by rw [List.length_take]; omega
      generalize l[i] = e at *
      obtain ⟨da, ca, hrow, h1, h2⟩ := id hev
      have od := h1.one
      have oc := h2.one
      subst hrow
      have oo := hR.one
      have oco := hR.cells
      have lr := hR.rows (Nat.le_refl N.size)
      unfold evRow at hr
      simp (maxSteps := 2000000) (disch := first | omega | assumption | (simp only [DS, Nat.reduceAdd, *]; done) | (simp only [DZ]; omega)) only [RUN, RU, footA, feetIn, resultsA, tupOf, frzL, slot, lay, icyL, fillA, repCells, kR, reduceIte, Nat.reduceEqDiff, Nat.reduceBEq, Nat.reduceLT, Nat.reduceAdd, Nat.reduceLeDiff, Nat.reduceSub, Nat.reduceMul, Int.reduceLT, Int.reduceLE, Int.reduceEq, Int.reduceAdd, Int.reduceSub, Int.reduceMul, g0, g3, g4, ll, hS.fz.rows, hS.fz.one, hS.fz.cells, hS.fz.icy, hS.fz.frz, q1, hr, h1.fz.rows, h1.fz.one, h1.fz.cells, h1.fz.icy, h1.fz.frz, h2.fz.rows, h2.fz.one, h2.fz.cells, h2.fz.icy, h2.fz.frz, od, oc, wN]
      refine w3_app (T := isU8) ?wf SlM.nil cel_U8 h1 ?hs ?hb1 ?hb2 fun a1 M1 m1 v1 s1 _ k1 n1 _ rl1 oa1 ca1 => ?kk
      case wf => simp (maxSteps := 2000000) (disch := first | omega | assumption | (simp only [DS, Nat.reduceAdd, *]; done) | (simp only [DZ]; omega)) only [RUN, RU, footA, feetIn, resultsA, tupOf, frzL, slot, lay, icyL, fillA, repCells, kR, reduceIte, Nat.reduceEqDiff, Nat.reduceBEq, Nat.reduceLT, Nat.reduceAdd, Nat.reduceLeDiff, Nat.reduceSub, Nat.reduceMul, Int.reduceLT, Int.reduceLE, Int.reduceEq, Int.reduceAdd, Int.reduceSub, Int.reduceMul, wN]
      case hs => omega
      case hb1 => simp only [List.length_nil]; omega
      case hb2 => simp only [List.length_nil]; omega
      simp only [upd_size, add_size, List.nil_append] at s1 k1 n1 m1
      have g1' := k1 N.size (by omega) (fun h => by cases h)
      simp (maxSteps := 2000000) (disch := first | omega | assumption | (simp only [DS, Nat.reduceAdd, *]; done) | (simp only [DZ]; omega)) only [RUN, RU, footA, feetIn, resultsA, tupOf, frzL, slot, lay, icyL, fillA, repCells, kR, reduceIte, Nat.reduceEqDiff, Nat.reduceBEq, Nat.reduceLT, Nat.reduceAdd, Nat.reduceLeDiff, Nat.reduceSub, Nat.reduceMul, Int.reduceLT, Int.reduceLE, Int.reduceEq, Int.reduceAdd, Int.reduceSub, Int.reduceMul, wN] at g1'
      have b1 : ∀ j, rowOf a1 = some j → N.size < j := fun j hj => by
        rcases n1 j hj with h | h
        · cases h
        · omega
      have lM1 : N.size < M1.size := by omega
      simp (maxSteps := 2000000) (disch := first | omega | assumption | (simp only [DS, Nat.reduceAdd, *]; done) | (simp only [DZ]; omega)) only [RUN, RU, footA, feetIn, resultsA, tupOf, frzL, slot, lay, icyL, fillA, repCells, kR, reduceIte, Nat.reduceEqDiff, Nat.reduceBEq, Nat.reduceLT, Nat.reduceAdd, Nat.reduceLeDiff, Nat.reduceSub, Nat.reduceMul, Int.reduceLT, Int.reduceLE, Int.reduceEq, Int.reduceAdd, Int.reduceSub, Int.reduceMul, g0, g3, g4, v1, g1', oa1, ca1, rl1, h2.fz.rows, h2.fz.one, h2.fz.cells, h2.fz.icy, h2.fz.frz]
      refine w3_app (T := isInt) ?wfx SlM.nil cel_Int h2 ?hsx ?hb1x ?hb2x fun a2 M2 m2 v2 s2 _ k2 n2 _ rl2 oa2 ca2 => ?kkx
      case wfx => simp (maxSteps := 2000000) (disch := first | omega | assumption | (simp only [DS, Nat.reduceAdd, *]; done) | (simp only [DZ]; omega)) only [RUN, RU, footA, feetIn, resultsA, tupOf, frzL, slot, lay, icyL, fillA, repCells, kR, reduceIte, Nat.reduceEqDiff, Nat.reduceBEq, Nat.reduceLT, Nat.reduceAdd, Nat.reduceLeDiff, Nat.reduceSub, Nat.reduceMul, Int.reduceLT, Int.reduceLE, Int.reduceEq, Int.reduceAdd, Int.reduceSub, Int.reduceMul, v1]
      case hsx => omega
      case hb1x => simp only [List.length_nil]; omega
      case hb2x => simp only [List.length_nil]; omega
      simp only [upd_size, add_size, List.nil_append] at s2 k2 n2 m2
      have g2' := k2 N.size (by omega) (fun h => by cases h)
      simp (maxSteps := 2000000) (disch := first | omega | assumption | (simp only [DS, Nat.reduceAdd, *]; done) | (simp only [DZ]; omega)) only [RUN, RU, footA, feetIn, resultsA, tupOf, frzL, slot, lay, icyL, fillA, repCells, kR, reduceIte, Nat.reduceEqDiff, Nat.reduceBEq, Nat.reduceLT, Nat.reduceAdd, Nat.reduceLeDiff, Nat.reduceSub, Nat.reduceMul, Int.reduceLT, Int.reduceLE, Int.reduceEq, Int.reduceAdd, Int.reduceSub, Int.reduceMul, v1] at g2'
      have b2 : ∀ j, rowOf a2 = some j → M1.size ≤ j := fun j hj => by
        rcases n2 j hj with h | h
        · cases h
        · omega
      have lM2 : N.size < M2.size := by omega
      have rl1' : ((rowsOf a1).all fun i => Nat.blt i M2.size) = true := rows_lt m1.rl (by omega)
      have rl1'' : ((rowsOf a1).all fun i => Nat.blt i (M2.size + 1)) = true := rows_lt m1.rl (by omega)
      have rl2'' : ((rowsOf a2).all fun i => Nat.blt i (M2.size + 1)) = true := rows_lt m2.rl (by omega)
      have lr' := hR.rows (show N.size ≤ M2.size by omega)
      have lr'' := hR.rows (show N.size ≤ M2.size + 1 by omega)
      simp (maxSteps := 2000000) (disch := first | omega | assumption | (simp only [DS, Nat.reduceAdd, *]; done) | (simp only [DZ]; omega)) only [RUN, RU, footA, feetIn, resultsA, tupOf, frzL, slot, lay, icyL, fillA, repCells, kR, reduceIte, Nat.reduceEqDiff, Nat.reduceBEq, Nat.reduceLT, Nat.reduceAdd, Nat.reduceLeDiff, Nat.reduceSub, Nat.reduceMul, Int.reduceLT, Int.reduceLE, Int.reduceEq, Int.reduceAdd, Int.reduceSub, Int.reduceMul, g0, g3, g4, v2, g2', oa1, ca1, oa2, ca2, rl1', rl2, rl1'', rl2'', lr', lr'', oo, oco]
      have nn : ∀ j, rowOf NIL ≠ some j := fun j h => by cases h
      have ex : ∀ x y, evRow e x y = [U8 e.kind.toNat, U8 e.lb.lv, U32 e.lb.cats, U8 e.num, I64 e.user, I64 e.k, I64 e.many, STR e.text, U8 e.to.lv, U32 e.to.cats, U8 e.what, x, I64 e.gu, U8 e.gl.lv, U32 e.gl.cats, BL e.gok, y] := fun _ _ => rfl
      have low : ∀ (cs : AObj) j, j < N.size → (M2.upd N.size cs).get j = N.get j := fun cs j hj => by
        rw [get_upd_ne v2 _ _ _ (by omega), k2 j (by omega) (nn j), get_upd_ne v1 _ _ _ (by omega), k1 j (by omega) (nn j), get_upd_ne (wN.add _) _ _ _ (by omega), get_add wN _ _ hj]
      have R2 := fun cs : AObj => hR.keep (N := M2.upd N.size cs) fun j _ h2 => low cs j h2
      have hin : ∀ cs : AObj, InR (M2.upd N.size cs) 0 ⟨e, a1, a2⟩ := fun cs => ⟨m1.keep fun j hj => by
          have := b1 j hj
          have := m1.lt j hj
          rw [get_upd_ne v2 _ _ _ (by omega), k2 j (by omega) (nn j), get_upd_ne v1 _ _ _ (by omega)], m2.keep fun j hj => by
          have := b2 j hj
          rw [get_upd_ne v2 _ _ _ (by omega)], fun _ _ => Nat.zero_le _, fun _ _ => Nat.zero_le _⟩
      rw [← ex]
      refine RR.app (x := ⟨e, a1, a2⟩) (B := 0) (v2.upd _ _) (R2 _) ⟨rfl, oa1, oa2, ca1, ca2⟩ (hin _) (fun j hj => ?_) (by omega) (Nat.zero_le _) fun o' M' hR' w' le kp nw => ?_
      · have := (hR.lt j hj).2
        exact ⟨fun h => by have := b1 j h; omega, fun h => by have := b2 j h; omega⟩
      · have oo' := hR'.one
        simp (maxSteps := 2000000) (disch := first | omega | assumption | (simp only [DS, Nat.reduceAdd, *]; done) | (simp only [DZ]; omega)) only [RUN, RU, footA, feetIn, resultsA, tupOf, frzL, slot, lay, icyL, fillA, repCells, kR, reduceIte, Nat.reduceEqDiff, Nat.reduceBEq, Nat.reduceLT, Nat.reduceAdd, Nat.reduceLeDiff, Nat.reduceSub, Nat.reduceMul, Int.reduceLT, Int.reduceLE, Int.reduceEq, Int.reduceAdd, Int.reduceSub, Int.reduceMul, g0, g3, g4, w1]
        exact ⟨hlt, l.length - (i + 1), by omega, i + 1, o', rfl, by omega, rfl, rfl, w', by rw [htk]; exact hR'⟩
    · obtain rfl : i = l.length := by omega
      have q1 : decide ((l.length : Int) < l.length) = false := decide_eq_false (by omega)
      obtain ⟨ro, fr, hro⟩ := hR.frz (k := 11) (by omega)
      rw [List.take_length] at hro
      have oo := hR.one
      have lr := hR.rows (Nat.le_refl N.size)
      have fr' := fr N fun _ => rfl
      simp (maxSteps := 2000000) (disch := first | omega | assumption | (simp only [DS, Nat.reduceAdd, *]; done) | (simp only [DZ]; omega)) only [RUN, RU, footA, feetIn, resultsA, tupOf, frzL, slot, lay, icyL, fillA, repCells, kR, reduceIte, Nat.reduceEqDiff, Nat.reduceBEq, Nat.reduceLT, Nat.reduceAdd, Nat.reduceLeDiff, Nat.reduceSub, Nat.reduceMul, Int.reduceLT, Int.reduceLE, Int.reduceEq, Int.reduceAdd, Int.reduceSub, Int.reduceMul, g0, g3, g4, ll, hS.fz.rows, hS.fz.one, hS.fz.cells, hS.fz.icy, hS.fz.frz, q1, fr']
      exact ⟨ro, hro, rfl⟩
end Go.Proofs.YtjbninmklbkklaaDoor
