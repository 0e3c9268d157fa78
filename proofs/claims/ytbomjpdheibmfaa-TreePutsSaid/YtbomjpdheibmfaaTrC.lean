/-
  Runs: row, Join, At.
-/
import Derived.Test.YtbomjpdheibmfaaTrB
import Derived.Test.YtbomjpdheibmfaaSbI
import Derived.Test.YtbomjpdheibmfaaEf
set_option linter.unusedSimpArgs false
set_option linter.unusedVariables false
set_option maxRecDepth 100000
namespace Go.Proofs.Ytbomjpdheibmfaa
open Go Go.Ax
variable {fuel : Nat} {M : Mem} {Q : AV → Mem → Prop} {d : Nat}
theorem take_snocT {α : Type} (l : List α) (i : Nat) (h : i < l.length) : l.take (i + 1) = l.take i ++ [l[i]] := by
  rw [List.take_add_one, List.getElem?_eq_getElem h]; rfl
def rowL (l : List Rn) : List Int := l.flatMap (·.rs)
theorem rowL_snoc (l : List Rn) (x : Rn) : rowL (l ++ [x]) = rowL l ++ x.rs := by simp [rowL]
set_option maxHeartbeats 4000000 in
theorem row_0 {a : AV} {l : List Rn} (hS : SlM M 10 isRn a l) (hl : l.length ≤ 10) (hd : ∀ r ∈ l, r.rs.length ≤ 1000000) (hf : 100 < fuel) (wf : Wf M) (hw : M.wm ≤ M.size) (k : ∀ o N, Kept M N → SlM N 1 isI32 o (rowL l) → (∀ j, rowOf o = some j → M.size ≤ j) → Q o N) :
    W3 (callN Try.prog (fsT tbl) fuel (d + 1) (.fn 54) [a] M) Q := by
  have ll := hS.len
  refine call_0 tf54 rfl (by simp [a54]) fun b' ht hx => ?_
  have h0 := hx 0 _ rfl
  clear hx
  simp only [a54, c54] at ht ⊢
  simp (maxSteps := 2000000) (disch := first | omega | assumption | (simp only [DS, Nat.reduceAdd, *]; done) | (simp only [DZ]; omega)) only [RUN, RU, zD, zC, zB, zE, zG, slot, lay, zH, zF, zA, kR, reduceIte, Nat.reduceEqDiff, Nat.reduceBEq, Nat.reduceLT, Nat.reduceAdd, Nat.reduceLeDiff, Nat.reduceSub, Nat.reduceMul, Int.reduceLT, Int.reduceLE, Int.reduceEq, Int.reduceAdd, Int.reduceSub, Int.reduceMul, h0, ll]
  refine w_loop (I := fun n t N => ∃ (i : Nat) (o : AV), n = l.length - i ∧ i ≤ l.length ∧ nth undefA t 2 = o ∧ nth undefA t 5 = a ∧ nth undefA t 6 = I64 l.length ∧ nth undefA t 7 = I64 i ∧ Kept M N ∧ SlM N 1 isI32 o (rowL (l.take i)) ∧ (∀ j, rowOf o = some j → M.size ≤ j) ∧ (rowL (l.take i)).length ≤ 1000000 * i) (n := l.length) (by omega) ?_ ?_
  · refine ⟨0, NIL, rfl, Nat.zero_le _, ?_, ?_, ?_, ?_, Kept.refl wf, SlM.nil, (fun _ h => by cases h), Nat.le_refl 0⟩ <;> simp (maxSteps := 2000000) (disch := first | omega | assumption | (simp only [DS, Nat.reduceAdd, *]; done) | (simp only [DZ]; omega)) only [RUN, RU, zD, zC, zB, zE, zG, slot, lay, zH, zF, zA, kR, reduceIte, Nat.reduceEqDiff, Nat.reduceBEq, Nat.reduceLT, Nat.reduceAdd, Nat.reduceLeDiff, Nat.reduceSub, Nat.reduceMul, Int.reduceLT, Int.reduceLE, Int.reduceEq, Int.reduceAdd, Int.reduceSub, Int.reduceMul, h0, ll]
    all_goals first | rfl | assumption | done
  · rintro n t N hlt ⟨i, o, rfl, hi, g2, g5, g6, g7, kN, sm, nr, bd⟩
    simp only [ht] at hlt ⊢
    have oo := sm.one
    have oc := sm.cells
    have w := kN.wf
    have le := kN.le
    have wm := kN.wm
    by_cases hc : i < l.length
    · have q1 : decide ((i : Int) < l.length) = true := decide_eq_true (by omega)
      have w1 : IntKind.i64.wrap ((i : Int) + 1) = ((i + 1 : Nat) : Int) := by rw [wrap_i64] <;> omega
      obtain ⟨id, cs, r, hrow, lid, hg, hcs, hiad, hr, hrl, hpt, _⟩ := hS.atS hc
      have gN := (kN.get id lid).trans hg
      have hts := rowL_snoc (l.take i) l[i]
      rw [← take_snocT l i hc] at hts
      have hde := hd l[i] (List.getElem_mem hc)
      generalize l[i] = e at *
      obtain ⟨ra, rfl, hra, hok⟩ := hr
      have ora := hra.one
      have lid' : id < N.size := by omega
      have rlo := rows_lt sm.rl (show N.size ≤ N.size + 1 by omega)
      simp (maxSteps := 2000000) (disch := first | omega | assumption | (simp only [DS, Nat.reduceAdd, *]; done) | (simp only [DZ]; omega)) only [RUN, RU, zD, zC, zB, zE, zG, slot, lay, zH, zF, zA, kR, reduceIte, Nat.reduceEqDiff, Nat.reduceBEq, Nat.reduceLT, Nat.reduceAdd, Nat.reduceLeDiff, Nat.reduceSub, Nat.reduceMul, Int.reduceLT, Int.reduceLE, Int.reduceEq, Int.reduceAdd, Int.reduceSub, Int.reduceMul, g2, g5, g6, g7, q1, hiad, gN, hpt, hra.fz.rows, hra.fz.one, hra.fz.cells, hra.fz.icy, hra.fz.frz, w, oo, oc, rlo]
      refine w3_dirt (fun j hj => by have := nr j hj; simp only [upd_wm, add_wm]; omega) (w3_app (bytes := 4) (by simp (maxSteps := 2000000) (disch := first | omega | assumption | (simp only [DS, Nat.reduceAdd, *]; done) | (simp only [DZ]; omega)) only [RUN, RU, zD, zC, zB, zE, zG, slot, lay, zH, zF, zA, kR, reduceIte, Nat.reduceEqDiff, Nat.reduceBEq, Nat.reduceLT, Nat.reduceAdd, Nat.reduceLeDiff, Nat.reduceSub, Nat.reduceMul, Int.reduceLT, Int.reduceLE, Int.reduceEq, Int.reduceAdd, Int.reduceSub, Int.reduceMul, w]) (sm.keep fun j hj => ?_) fz_I32.cel hra (by omega) (by omega) (by omega) fun o' M' sm' w' le1 le2 kp nw wm' rl on oc' di' => ?_)
      · have := sm.lt j hj
        simp (maxSteps := 2000000) (disch := first | omega | assumption | (simp only [DS, Nat.reduceAdd, *]; done) | (simp only [DZ]; omega)) only [RUN, RU, zD, zC, zB, zE, zG, slot, lay, zH, zF, zA, kR, reduceIte, Nat.reduceEqDiff, Nat.reduceBEq, Nat.reduceLT, Nat.reduceAdd, Nat.reduceLeDiff, Nat.reduceSub, Nat.reduceMul, Int.reduceLT, Int.reduceLE, Int.reduceEq, Int.reduceAdd, Int.reduceSub, Int.reduceMul, w]
      simp only [upd_size, add_size] at le1 le2 kp nw
      simp (maxSteps := 2000000) (disch := first | omega | assumption | (simp only [DS, Nat.reduceAdd, *]; done) | (simp only [DZ]; omega)) only [RUN, RU, zD, zC, zB, zE, zG, slot, lay, zH, zF, zA, kR, reduceIte, Nat.reduceEqDiff, Nat.reduceBEq, Nat.reduceLT, Nat.reduceAdd, Nat.reduceLeDiff, Nat.reduceSub, Nat.reduceMul, Int.reduceLT, Int.reduceLE, Int.reduceEq, Int.reduceAdd, Int.reduceSub, Int.reduceMul, g2, g5, g6, g7, w1]
      refine ⟨hlt, l.length - (i + 1), by omega, i + 1, o', rfl, by omega, rfl, rfl, ⟨w', by omega, fun j hj => ?_, wm'.trans wm, di'.trans ((kN.add _).upd hw le _).di⟩, by rw [hts]; exact sm', fun j hj => (nw j hj).elim (nr j) (fun h => by omega), ?_⟩
      · rw [kp j (by omega) (fun h => by have := nr j h; omega), get_upd_ne (w.add _) _ _ _ (by omega), get_add w _ _ (by omega)]
        exact kN.get j hj
      · rw [hts, List.length_append]; omega
    · obtain rfl : i = l.length := by omega
      have q1 : decide ((l.length : Int) < l.length) = false := decide_eq_false (by omega)
      rw [List.take_length] at sm
      simp (maxSteps := 2000000) (disch := first | omega | assumption | (simp only [DS, Nat.reduceAdd, *]; done) | (simp only [DZ]; omega)) only [RUN, RU, zD, zC, zB, zE, zG, slot, lay, zH, zF, zA, kR, reduceIte, Nat.reduceEqDiff, Nat.reduceBEq, Nat.reduceLT, Nat.reduceAdd, Nat.reduceLeDiff, Nat.reduceSub, Nat.reduceMul, Int.reduceLT, Int.reduceLE, Int.reduceEq, Int.reduceAdd, Int.reduceSub, Int.reduceMul, g2, g5, g6, g7, q1, oo, oc]
      exact k o N kN sm nr
def Rn.both (a b : Rn) : Rn := ⟨⟨a.sp.f, a.sp.n + b.sp.n⟩, a.af, a.rs ++ b.rs⟩
def joinE (a b : Rn) : Int := if a.may = true ∧ b.may = true then (if (a.both b).cutE a.sp.n = 0 ∧ (a.both b).fst a.sp.n = a ∧ (a.both b).snd a.sp.n = b then 0 else 2) else 8
def joinR (a b : Rn) : Rn := if joinE a b = 0 then a.both b else Rn.z
def joinK (a b : Rn) (v : AV) : Prop := ∃ r, v = .tup [.agg (rnR (joinR a b) r), I64 (joinE a b)] ∧ Sl 1 isI32 r (joinR a b).rs
theorem cutA_len (r : Rn) (n : Int) : (r.cutA n).rs.length ≤ r.rs.length := by
  unfold Rn.cutA
  split
  · simp only [Rn.fst, List.length_take]; omega
  · exact Nat.zero_le _
theorem cutB_len (r : Rn) (n : Int) : (r.cutB n).rs.length ≤ r.rs.length := by
  unfold Rn.cutB
  split
  · simp only [Rn.snd, List.length_drop]; omega
  · exact Nat.zero_le _
theorem isRn_lit {a b : Rn} {ra rb : AV} (hA : Sl 1 isI32 ra a.rs) (hB : Sl 1 isI32 rb b.rs) (ha : a.ok) (hb : b.ok) : All2 isRn [rnR a ra, rnR b rb] [a, b] := .cons ⟨ra, rfl, hA, ha⟩ (.cons ⟨rb, rfl, hB, hb⟩ .nil)
set_option maxHeartbeats 16000000 in
theorem runjoin_run {a b : Rn} {ra rb : AV} (hA : Sl 1 isI32 ra a.rs) (hB : Sl 1 isI32 rb b.rs) (ha : a.ok) (hb : b.ok) (hla : a.rs.length ≤ 1000000) (hlb : b.rs.length ≤ 1000000) (hf : 2000000 < fuel) : ∃ v, joinK a b v ∧ ∀ M, callN Try.prog (fsT tbl) fuel (d + 8) (.fn 38) [.agg (rnR a ra), .agg (rnR b rb)] M = some (v, M) := by
  have ora := hA.one
  have orb := hB.one
  have hca := fun M => @runcheck_run fuel (d + 1) a ra hA (by omega) M
  have hcb := fun M => @runcheck_run fuel (d + 1) b rb hB (by omega) M
  refine gc_ex tf38 rfl (fun M => by simp only [zH, rn_icy hA.fz, rn_icy hB.fz]) ?_
  refine call_gc tf38 rfl (by simp only [zH, rn_icy hA.fz, rn_icy hB.fz]) (by simp [a38]) fun b' ht hx => ?_
  have h0 := hx 0 _ rfl
  have h1 := hx 1 _ rfl
  clear hx
  simp only [a38, c38] at ht ⊢
  unfold joinK joinR joinE
  by_cases hm : a.may = true ∧ b.may = true
  · obtain ⟨ma, mb⟩ := hm
    rw [ma] at hca
    rw [mb] at hcb
    simp only [ma, mb, and_self, if_true]
    have ba := Spn.may_le (Rn.may_sp ma)
    have bb := Spn.may_le (Rn.may_sp mb)
    have w1 : IntKind.i64.wrap (a.sp.n + b.sp.n) = a.sp.n + b.sp.n := wrap_i64 (by omega) (by omega)
    simp (maxSteps := 2000000) (disch := first | omega | assumption | (simp only [DS, Nat.reduceAdd, *]; done) | (simp only [DZ]; omega)) only [RUN, RU, zD, zC, zB, zE, zG, slot, lay, zH, zF, zA, kR, reduceIte, Nat.reduceEqDiff, Nat.reduceBEq, Nat.reduceLT, Nat.reduceAdd, Nat.reduceLeDiff, Nat.reduceSub, Nat.reduceMul, Int.reduceLT, Int.reduceLE, Int.reduceEq, Int.reduceAdd, Int.reduceSub, Int.reduceMul, h0, h1, hA.fz.rows, hA.fz.one, hA.fz.cells, hA.fz.icy, hA.fz.frz, hB.fz.rows, hB.fz.one, hB.fz.cells, hB.fz.icy, hB.fz.frz, hca, hcb, err_t, z00, IMX, pB_max2, pB_min2, pB_max3, BMM, w1]
    refine row_0 (d := d + 6) (l := [a, b]) (slm_lit (isRn_lit hA hB ha hb) (by simp) rfl (.inr rfl) (by simp (maxSteps := 2000000) (disch := first | omega | assumption | (simp only [DS, Nat.reduceAdd, *]; done) | (simp only [DZ]; omega)) only [RUN, RU, zD, zC, zB, zE, zG, slot, lay, zH, zF, zA, kR, reduceIte, Nat.reduceEqDiff, Nat.reduceBEq, Nat.reduceLT, Nat.reduceAdd, Nat.reduceLeDiff, Nat.reduceSub, Nat.reduceMul, Int.reduceLT, Int.reduceLE, Int.reduceEq, Int.reduceAdd, Int.reduceSub, Int.reduceMul]; rfl)) (by simp) (by simp; exact ⟨hla, hlb⟩) (by omega) (by simp (maxSteps := 2000000) (disch := first | omega | assumption | (simp only [DS, Nat.reduceAdd, *]; done) | (simp only [DZ]; omega)) only [RUN, RU, zD, zC, zB, zE, zG, slot, lay, zH, zF, zA, kR, reduceIte, Nat.reduceEqDiff, Nat.reduceBEq, Nat.reduceLT, Nat.reduceAdd, Nat.reduceLeDiff, Nat.reduceSub, Nat.reduceMul, Int.reduceLT, Int.reduceLE, Int.reduceEq, Int.reduceAdd, Int.reduceSub, Int.reduceMul]) (by simp (maxSteps := 2000000) (disch := first | omega | assumption | (simp only [DS, Nat.reduceAdd, *]; done) | (simp only [DZ]; omega)) only [RUN, RU, zD, zC, zB, zE, zG, slot, lay, zH, zF, zA, kR, reduceIte, Nat.reduceEqDiff, Nat.reduceBEq, Nat.reduceLT, Nat.reduceAdd, Nat.reduceLeDiff, Nat.reduceSub, Nat.reduceMul, Int.reduceLT, Int.reduceLE, Int.reduceEq, Int.reduceAdd, Int.reduceSub, Int.reduceMul]; exact Nat.le_refl _) fun o X kX sm nr => ?_
    have wX := kX.wf
    have hd : X.dirty = false := kX.di
    have hsX : 4 ≤ X.size := kX.le
    have k0 := kX.get 0 (by show 0 < 4; omega)
    have k1 := kX.get 1 (by show 1 < 4; omega)
    have k2 := kX.get 2 (by show 2 < 4; omega)
    simp (maxSteps := 2000000) (disch := first | omega | assumption | (simp only [DS, Nat.reduceAdd, *]; done) | (simp only [DZ]; omega)) only [RUN, RU, zD, zC, zB, zE, zG, slot, lay, zH, zF, zA, kR, reduceIte, Nat.reduceEqDiff, Nat.reduceBEq, Nat.reduceLT, Nat.reduceAdd, Nat.reduceLeDiff, Nat.reduceSub, Nat.reduceMul, Int.reduceLT, Int.reduceLE, Int.reduceEq, Int.reduceAdd, Int.reduceSub, Int.reduceMul] at k0 k1 k2
    have oo := sm.one
    have oc := sm.cells
    have nr' : ∀ j, rowOf o = some j → 4 ≤ j := nr
    have rlo := rows_lt sm.rl (show X.size ≤ X.size by omega)
    have rlo1 := rows_lt sm.rl (show X.size ≤ X.size + 1 by omega)
    have sm' : SlM X 1 isI32 o (a.rs ++ b.rs) := by simpa [rowL] using sm
    simp (maxSteps := 2000000) (disch := first | omega | assumption | (simp only [DS, Nat.reduceAdd, *]; done) | (simp only [DZ]; omega)) only [RUN, RU, zD, zC, zB, zE, zG, slot, lay, zH, zF, zA, kR, reduceIte, Nat.reduceEqDiff, Nat.reduceBEq, Nat.reduceLT, Nat.reduceAdd, Nat.reduceLeDiff, Nat.reduceSub, Nat.reduceMul, Int.reduceLT, Int.reduceLE, Int.reduceEq, Int.reduceAdd, Int.reduceSub, Int.reduceMul, wX, hd, k0, k1, k2, oo, oc, rlo, rlo1]
    refine ⟨rfl, ?_⟩
    have kY := ((kX.bk.add (.row false (rnR Rn.z NIL))).upd (Nat.zero_le _) (show _ ≤ X.size from kX.le) (.row false (rnR (a.both b) o)))
    have wY := kY.wf
    refine w3_handrowR (n := d + 6) (R := cutK (a.both b) a.sp.n) (spR (a.both b).sp ++ idR a.af) o (rest := [I64 a.sp.n]) (l := (a.both b).rs) tf35 rfl (fun y hy => (List.mem_append.1 hy).elim (fz_spR _ y) (fz_idR _ y)) (sm'.keep fun j hj => ?_) (by simp (maxSteps := 2000000) (disch := first | omega | assumption | (simp only [DS, Nat.reduceAdd, *]; done) | (simp only [DZ]; omega)) only [RUN, RU, zD, zC, zB, zE, zG, slot, lay, zH, zF, zA, kR, reduceIte, Nat.reduceEqDiff, Nat.reduceBEq, Nat.reduceLT, Nat.reduceAdd, Nat.reduceLeDiff, Nat.reduceSub, Nat.reduceMul, Int.reduceLT, Int.reduceLE, Int.reduceEq, Int.reduceAdd, Int.reduceSub, Int.reduceMul, wX]) fz_I32 (fun M => by simp only [zH, icy12]) (fun a2 b2 => ?_) fun v a2 N2 hv b2 w2 s2 k2' r2 f2 => ?_
    · have := sm'.lt j hj
      simp (maxSteps := 2000000) (disch := first | omega | assumption | (simp only [DS, Nat.reduceAdd, *]; done) | (simp only [DZ]; omega)) only [RUN, RU, zD, zC, zB, zE, zG, slot, lay, zH, zF, zA, kR, reduceIte, Nat.reduceEqDiff, Nat.reduceBEq, Nat.reduceLT, Nat.reduceAdd, Nat.reduceLeDiff, Nat.reduceSub, Nat.reduceMul, Int.reduceLT, Int.reduceLE, Int.reduceEq, Int.reduceAdd, Int.reduceSub, Int.reduceMul, wX]
    · exact runcut_run (o := a.both b) (d := d) b2 (by omega)
    obtain ⟨ca, cb, rfl, hca', hcb'⟩ := hv
    have oca := hca'.one
    have ocb := hcb'.one
    have j0 := k2' 0 (fun h => by have := nr' 0 h; omega)
    have j1 := k2' 1 (fun h => by have := nr' 1 h; omega)
    have j2 := k2' 2 (fun h => by have := nr' 2 h; omega)
    have j3 := k2' X.size (fun h => by have := sm'.lt _ h; omega)
    simp only [upd_size, add_size, bk_size] at s2
    simp (maxSteps := 2000000) (disch := first | omega | assumption | (simp only [DS, Nat.reduceAdd, *]; done) | (simp only [DZ]; omega)) only [RUN, RU, zD, zC, zB, zE, zG, slot, lay, zH, zF, zA, kR, reduceIte, Nat.reduceEqDiff, Nat.reduceBEq, Nat.reduceLT, Nat.reduceAdd, Nat.reduceLeDiff, Nat.reduceSub, Nat.reduceMul, Int.reduceLT, Int.reduceLE, Int.reduceEq, Int.reduceAdd, Int.reduceSub, Int.reduceMul, k0, k1, k2, wX] at j0 j1 j2 j3
    have z0 := Mem.get_lt j0
    have z1 := Mem.get_lt j1
    have z2 := Mem.get_lt j2
    have z3 := Mem.get_lt j3
    clear kY wY k2' kX k0 k1 k2 nr
    have bl : (a.both b).rs.length ≤ 2000000 := by show (a.rs ++ b.rs).length ≤ _; rw [List.length_append]; omega
    have la := cutA_len (a.both b) a.sp.n
    have lb := cutB_len (a.both b) a.sp.n
    have hsa := fun M => runsame_run (fuel := fuel) (d := d + 5) (o := (a.both b).cutA a.sp.n) (p := a) hca' hA (by omega) (by omega) M
    have hsb := fun M => runsame_run (fuel := fuel) (d := d + 5) (o := (a.both b).cutB a.sp.n) (p := b) hcb' hB (by omega) (by omega) M
    have hfr := fun N7 hN => f2 N7 11 (by omega) hN
    clear f2
    have eA : ∀ (q : (a.both b).cutE a.sp.n = 0), (a.both b).cutA a.sp.n = (a.both b).fst a.sp.n := fun q => by unfold Rn.cutA; rw [if_pos q]
    have eB : ∀ (q : (a.both b).cutE a.sp.n = 0), (a.both b).cutB a.sp.n = (a.both b).snd a.sp.n := fun q => by unfold Rn.cutB; rw [if_pos q]
    generalize hA' : (a.both b).cutA a.sp.n = cA at *
    generalize hB' : (a.both b).cutB a.sp.n = cB at *
    by_cases q1 : (a.both b).cutE a.sp.n = 0
    · have q1' : decide ((a.both b).cutE a.sp.n = 0) = true := decide_eq_true q1
      rw [← eA q1, ← eB q1]
      cases q2 : rnEq cA a with
      | false =>
        have q2' : ¬(cA = a) := fun h => by rw [(rnEq_iff cA a).2 h] at q2; cases q2
        rw [q2] at hsa
        simp only [q2', false_and, and_false, if_false]
        simp (maxSteps := 2000000) (disch := first | omega | assumption | (simp only [DS, Nat.reduceAdd, *]; done) | (simp only [DZ]; omega)) only [RUN, RU, zD, zC, zB, zE, zG, slot, lay, zH, zF, zA, kR, reduceIte, Nat.reduceEqDiff, Nat.reduceBEq, Nat.reduceLT, Nat.reduceAdd, Nat.reduceLeDiff, Nat.reduceSub, Nat.reduceMul, Int.reduceLT, Int.reduceLE, Int.reduceEq, Int.reduceAdd, Int.reduceSub, Int.reduceMul, w2, j0, j1, j2, j3, hA.fz.rows, hA.fz.one, hA.fz.cells, hA.fz.icy, hA.fz.frz, hB.fz.rows, hB.fz.one, hB.fz.cells, hB.fz.icy, hB.fz.frz, hca'.fz.rows, hca'.fz.one, hca'.fz.cells, hca'.fz.icy, hca'.fz.frz, hcb'.fz.rows, hcb'.fz.one, hcb'.fz.cells, hcb'.fz.icy, hcb'.fz.frz, q1', hsa]
        exact ⟨_, ⟨NIL, rfl, .inl ⟨rfl, rfl⟩⟩, rfl⟩
      | true =>
        have q2' := (rnEq_iff cA a).1 q2
        rw [q2] at hsa
        cases q3 : rnEq cB b with
        | false =>
          have q3' : ¬(cB = b) := fun h => by rw [(rnEq_iff cB b).2 h] at q3; cases q3
          rw [q3] at hsb
          simp only [q3', and_false, if_false]
          simp (maxSteps := 2000000) (disch := first | omega | assumption | (simp only [DS, Nat.reduceAdd, *]; done) | (simp only [DZ]; omega)) only [RUN, RU, zD, zC, zB, zE, zG, slot, lay, zH, zF, zA, kR, reduceIte, Nat.reduceEqDiff, Nat.reduceBEq, Nat.reduceLT, Nat.reduceAdd, Nat.reduceLeDiff, Nat.reduceSub, Nat.reduceMul, Int.reduceLT, Int.reduceLE, Int.reduceEq, Int.reduceAdd, Int.reduceSub, Int.reduceMul, w2, j0, j1, j2, j3, hA.fz.rows, hA.fz.one, hA.fz.cells, hA.fz.icy, hA.fz.frz, hB.fz.rows, hB.fz.one, hB.fz.cells, hB.fz.icy, hB.fz.frz, hca'.fz.rows, hca'.fz.one, hca'.fz.cells, hca'.fz.icy, hca'.fz.frz, hcb'.fz.rows, hcb'.fz.one, hcb'.fz.cells, hcb'.fz.icy, hcb'.fz.frz, q1', hsa, hsb]
          exact ⟨_, ⟨NIL, rfl, .inl ⟨rfl, rfl⟩⟩, rfl⟩
        | true =>
          have q3' := (rnEq_iff cB b).1 q3
          rw [q3] at hsb
          simp only [eq_true (show (a.both b).cutE a.sp.n = 0 ∧ cA = a ∧ cB = b from ⟨q1, q2', q3'⟩), if_true]
          simp (maxSteps := 2000000) (disch := first | omega | assumption | (simp only [DS, Nat.reduceAdd, *]; done) | (simp only [DZ]; omega)) only [RUN, RU, zD, zC, zB, zE, zG, slot, lay, zH, zF, zA, kR, reduceIte, Nat.reduceEqDiff, Nat.reduceBEq, Nat.reduceLT, Nat.reduceAdd, Nat.reduceLeDiff, Nat.reduceSub, Nat.reduceMul, Int.reduceLT, Int.reduceLE, Int.reduceEq, Int.reduceAdd, Int.reduceSub, Int.reduceMul, w2, j0, j1, j2, j3, hA.fz.rows, hA.fz.one, hA.fz.cells, hA.fz.icy, hA.fz.frz, hB.fz.rows, hB.fz.one, hB.fz.cells, hB.fz.icy, hB.fz.frz, hca'.fz.rows, hca'.fz.one, hca'.fz.cells, hca'.fz.icy, hca'.fz.frz, hcb'.fz.rows, hcb'.fz.one, hcb'.fz.cells, hcb'.fz.icy, hcb'.fz.frz, q1', hsa, hsb, oo, oc]
          have lo : ∀ j, rowOf o = some j → j < N2.size := fun j hj => by have := sm'.lt j hj; omega
          rw [hfr _ (fun j hj => by
            have u1 := lo j hj
            have u2 := nr' j hj
            simp (maxSteps := 2000000) (disch := first | omega | assumption | (simp only [DS, Nat.reduceAdd, *]; done) | (simp only [DZ]; omega)) only [RUN, RU, zD, zC, zB, zE, zG, slot, lay, zH, zF, zA, kR, reduceIte, Nat.reduceEqDiff, Nat.reduceBEq, Nat.reduceLT, Nat.reduceAdd, Nat.reduceLeDiff, Nat.reduceSub, Nat.reduceMul, Int.reduceLT, Int.reduceLE, Int.reduceEq, Int.reduceAdd, Int.reduceSub, Int.reduceMul, w2])]
          exact ⟨_, ⟨a2, rfl, b2⟩, rfl⟩
    · have q1' : decide ((a.both b).cutE a.sp.n = 0) = false := decide_eq_false q1
      simp only [q1, false_and, if_false]
      simp (maxSteps := 2000000) (disch := first | omega | assumption | (simp only [DS, Nat.reduceAdd, *]; done) | (simp only [DZ]; omega)) only [RUN, RU, zD, zC, zB, zE, zG, slot, lay, zH, zF, zA, kR, reduceIte, Nat.reduceEqDiff, Nat.reduceBEq, Nat.reduceLT, Nat.reduceAdd, Nat.reduceLeDiff, Nat.reduceSub, Nat.reduceMul, Int.reduceLT, Int.reduceLE, Int.reduceEq, Int.reduceAdd, Int.reduceSub, Int.reduceMul, w2, j0, j1, j2, j3, hA.fz.rows, hA.fz.one, hA.fz.cells, hA.fz.icy, hA.fz.frz, hB.fz.rows, hB.fz.one, hB.fz.cells, hB.fz.icy, hB.fz.frz, hca'.fz.rows, hca'.fz.one, hca'.fz.cells, hca'.fz.icy, hca'.fz.frz, hcb'.fz.rows, hcb'.fz.one, hcb'.fz.cells, hcb'.fz.icy, hcb'.fz.frz, q1']
      exact ⟨_, ⟨NIL, rfl, .inl ⟨rfl, rfl⟩⟩, rfl⟩
  · have hz : imax (err a.may) (err b.may) = 8 := by
      cases ma : a.may <;> cases mb : b.may <;> first | rfl | exact absurd ⟨ma, mb⟩ hm
    simp only [hm, if_false]
    have q8 : ((8 : Int) = 0) = False := by decide
    simp (maxSteps := 2000000) (disch := first | omega | assumption | (simp only [DS, Nat.reduceAdd, *]; done) | (simp only [DZ]; omega)) only [RUN, RU, zD, zC, zB, zE, zG, slot, lay, zH, zF, zA, kR, reduceIte, Nat.reduceEqDiff, Nat.reduceBEq, Nat.reduceLT, Nat.reduceAdd, Nat.reduceLeDiff, Nat.reduceSub, Nat.reduceMul, Int.reduceLT, Int.reduceLE, Int.reduceEq, Int.reduceAdd, Int.reduceSub, Int.reduceMul, h0, h1, hA.fz.rows, hA.fz.one, hA.fz.cells, hA.fz.icy, hA.fz.frz, hB.fz.rows, hB.fz.one, hB.fz.cells, hB.fz.icy, hB.fz.frz, hca, hcb, hz, z80, pB_max2, pB_min2, pB_max3, BMM, q8, if_false]
    exact ⟨_, ⟨NIL, rfl, .inl ⟨rfl, rfl⟩⟩, rfl⟩
def atE (r : Rn) (n : Int) : Int := if r.may = true then (if n < 0 ∨ r.sp.n ≤ n then 2 else 0) else 8
def Rn.afAt (r : Rn) (n : Int) : Eid := if 0 < n then r.sp.at (n - 1) else r.af
set_option maxHeartbeats 8000000 in
theorem runat_run {o : Rn} {ra : AV} {n : Int} (hR : Sl 1 isI32 ra o.rs) (hf : 100 < fuel) (M : Mem) : callN Try.prog (fsT tbl) fuel (d + 7) (.fn 10) [.agg (rnR o ra), I64 n] M = some (if atE o n = 0 then .tup [idA (o.sp.at n), idA (o.afAt n), I32 (o.rs.getD n.toNat 0), I64 0] else .tup [idA Eid.z, idA Eid.z, I32 0, I64 (atE o n)], M) := by
  have ora := hR.one
  have hck := fun M => @runcheck_run fuel d o ra hR hf M
  have hat := fun n M => @ids_at fuel (d + 1) o.sp n M
  apply w3_eq
  refine call_gc tf10 rfl (by simp only [zH, rn_icy hR.fz, icy12]) (by simp [a10]) fun b' ht hx => ?_
  have h0 := hx 0 _ rfl
  have h1 := hx 1 _ rfl
  clear hx
  simp only [a10, c10] at ht ⊢
  unfold atE
  cases hm : o.may with
  | false =>
    rw [hm] at hck
    have q8 : ((8 : Int) = 0) = False := by decide
    simp only [Bool.false_eq_true, if_false, q8]
    simp (maxSteps := 2000000) (disch := first | omega | assumption | (simp only [DS, Nat.reduceAdd, *]; done) | (simp only [DZ]; omega)) only [RUN, RU, zD, zC, zB, zE, zG, slot, lay, zH, zF, zA, kR, reduceIte, Nat.reduceEqDiff, Nat.reduceBEq, Nat.reduceLT, Nat.reduceAdd, Nat.reduceLeDiff, Nat.reduceSub, Nat.reduceMul, Int.reduceLT, Int.reduceLE, Int.reduceEq, Int.reduceAdd, Int.reduceSub, Int.reduceMul, h0, h1, hR.fz.rows, hR.fz.one, hR.fz.cells, hR.fz.icy, hR.fz.frz, hck, err_f, z80]
    all_goals rfl
  | true =>
    rw [hm] at hck
    have hs := Rn.may_sp hm
    have hb := Spn.may_le hs
    have hml := Rn.may_len hm
    simp only [hs, if_true] at hat ⊢
    by_cases q : n < 0 ∨ o.sp.n ≤ n
    · have hat := hat n
      simp only [q, if_true] at hat ⊢
      have q2 : ((2 : Int) = 0) = False := by decide
      simp only [q2, if_false]
      simp (maxSteps := 2000000) (disch := first | omega | assumption | (simp only [DS, Nat.reduceAdd, *]; done) | (simp only [DZ]; omega)) only [RUN, RU, zD, zC, zB, zE, zG, slot, lay, zH, zF, zA, kR, reduceIte, Nat.reduceEqDiff, Nat.reduceBEq, Nat.reduceLT, Nat.reduceAdd, Nat.reduceLeDiff, Nat.reduceSub, Nat.reduceMul, Int.reduceLT, Int.reduceLE, Int.reduceEq, Int.reduceAdd, Int.reduceSub, Int.reduceMul, h0, h1, hR.fz.rows, hR.fz.one, hR.fz.cells, hR.fz.icy, hR.fz.frz, hck, hat, err_t, z00]
      all_goals rfl
    · obtain ⟨m, rfl⟩ : ∃ m : Nat, n = m := ⟨n.toNat, by omega⟩
      have hat0 := hat (m : Int)
      simp only [q, if_false] at hat0 ⊢
      simp only [if_true]
      obtain ⟨r, hr, rfl, _⟩ := hR.iad m (by omega)
      have eg : o.rs.getD (m : Int).toNat 0 = o.rs[m] := by
        rw [Int.toNat_natCast, List.getD_eq_getElem?_getD, List.getElem?_eq_getElem (by omega)]; rfl
      rw [eg]
      unfold Rn.afAt
      by_cases q0 : (0 : Int) < m
      · have q0' : decide ((0 : Int) < m) = true := decide_eq_true q0
        have hat1 := hat ((m : Int) - 1)
        simp only [show ¬((m : Int) - 1 < 0 ∨ o.sp.n ≤ (m : Int) - 1) by omega, if_false] at hat1
        have w1 : IntKind.i64.wrap ((m : Int) - 1) = (m : Int) - 1 := wrap_i64 (by omega) (by omega)
        simp (maxSteps := 2000000) (disch := first | omega | assumption | (simp only [DS, Nat.reduceAdd, *]; done) | (simp only [DZ]; omega)) only [RUN, RU, zD, zC, zB, zE, zG, slot, lay, zH, zF, zA, kR, reduceIte, Nat.reduceEqDiff, Nat.reduceBEq, Nat.reduceLT, Nat.reduceAdd, Nat.reduceLeDiff, Nat.reduceSub, Nat.reduceMul, Int.reduceLT, Int.reduceLE, Int.reduceEq, Int.reduceAdd, Int.reduceSub, Int.reduceMul, h0, h1, hR.fz.rows, hR.fz.one, hR.fz.cells, hR.fz.icy, hR.fz.frz, hck, hat0, hat1, err_t, z00, q0, q0', w1, hr, if_true]
        all_goals exact ⟨rfl, rfl⟩
      · have q0' : decide ((0 : Int) < m) = false := decide_eq_false q0
        simp (maxSteps := 2000000) (disch := first | omega | assumption | (simp only [DS, Nat.reduceAdd, *]; done) | (simp only [DZ]; omega)) only [RUN, RU, zD, zC, zB, zE, zG, slot, lay, zH, zF, zA, kR, reduceIte, Nat.reduceEqDiff, Nat.reduceBEq, Nat.reduceLT, Nat.reduceAdd, Nat.reduceLeDiff, Nat.reduceSub, Nat.reduceMul, Int.reduceLT, Int.reduceLE, Int.reduceEq, Int.reduceAdd, Int.reduceSub, Int.reduceMul, h0, h1, hR.fz.rows, hR.fz.one, hR.fz.cells, hR.fz.icy, hR.fz.frz, hck, hat0, err_t, z00, q0, q0', hr, if_false]
        all_goals exact ⟨rfl, rfl⟩
end Go.Proofs.Ytbomjpdheibmfaa
