/-
  purge: Twin in the caller's memory.
-/
import Derived.Test.YtjbninmklbkklaaDoorPvA
set_option linter.unusedSimpArgs false
set_option linter.unusedVariables false
set_option maxRecDepth 100000
namespace Go.Proofs.YtjbninmklbkklaaDoor
open Go Go.Ax
variable {fuel : Nat} {M : Mem} {Q : AV → Mem → Prop} {d : Nat}

/-- A slice of ours, of events whose lists are rows of ours, all from B on. -/
def RR (M : Mem) (B : Nat) (o : AV) (l : List Ev) : Prop := ∃ lr : List EvR, lr.map (·.e) = l ∧ SlM M 17 isEvR o lr ∧ (∀ x ∈ lr, InR M B x) ∧ (∀ j, rowOf o = some j → B ≤ j) ∧ (∀ x ∈ lr, ∀ j, rowOf o = some j → rowOf x.da ≠ some j ∧ rowOf x.ca ≠ some j)
theorem RR.nil (M : Mem) (B : Nat) : RR M B NIL [] := ⟨[], rfl, SlM.nil, by simp, (fun j h => by cases h), by simp⟩
theorem RR.keep {N : Mem} {B : Nat} {o : AV} {l : List Ev} (h : RR M B o l) (k : ∀ j, B ≤ j → j < M.size → N.get j = M.get j) : RR N B o l := by
  obtain ⟨lr, h1, h2, h3, h4, h5⟩ := h
  exact ⟨lr, h1, h2.keep fun j hj => k j (h4 j hj) (h2.lt j hj), fun x hx => (h3 x hx).keep fun j hj => k j (hj.elim ((h3 x hx).2.2.1 j) ((h3 x hx).2.2.2 j)) ((h3 x hx).lt j hj), h4, h5⟩
theorem RR.len {B : Nat} {o : AV} {l : List Ev} (h : RR M B o l) : ∀ N, lenO N o = some (I64 l.length, N) := by
  obtain ⟨lr, rfl, h2, _⟩ := h
  intro N
  rw [h2.len N, List.length_map]
theorem RR.one {B : Nat} {o : AV} {l : List Ev} (h : RR M B o l) : oneA o = true := by obtain ⟨lr, rfl, h2, _⟩ := h; exact h2.one
theorem RR.cells {B : Nat} {o : AV} {l : List Ev} (h : RR M B o l) : cellsA o = [o] := by obtain ⟨lr, rfl, h2, _⟩ := h; exact h2.cells
theorem RR.rows {B : Nat} {o : AV} {l : List Ev} (h : RR M B o l) {n : Nat} (hn : M.size ≤ n) : ((rowsOf o).all fun i => Nat.blt i n) = true := by obtain ⟨lr, rfl, h2, _⟩ := h; exact rows_lt h2.rl hn
theorem RR.lt {B : Nat} {o : AV} {l : List Ev} (h : RR M B o l) : ∀ j, rowOf o = some j → B ≤ j ∧ j < M.size := by obtain ⟨lr, rfl, h2, _, h4, _⟩ := h; exact fun j hj => ⟨h4 j hj, h2.lt j hj⟩
theorem InR.mono {B B' : Nat} {x : EvR} (h : InR M B x) (hb : B' ≤ B) : InR M B' x := ⟨h.1, h.2.1, fun j hj => Nat.le_trans hb (h.2.2.1 j hj), fun j hj => Nat.le_trans hb (h.2.2.2 j hj)⟩
theorem RR.app {N : Mem} {B : Nat} {o : AV} {l : List Ev} {x : EvR} (wf : Wf N) (h : RR N B o l) (hx : isEvR (evRow x.e x.da x.ca) x) (hi : InR N B x) (hne : ∀ j, rowOf o = some j → rowOf x.da ≠ some j ∧ rowOf x.ca ≠ some j) (hb : l.length + 1 ≤ 1000000) (hB : B ≤ N.size)
    (kk : ∀ o' M', RR M' B o' (l ++ [x.e]) → Wf M' → N.size ≤ M'.size → (∀ j, j < N.size → rowOf o ≠ some j → M'.get j = N.get j) → (∀ id, rowOf o' = some id → rowOf o = some id ∨ N.size ≤ id) → Q o' M') : W3 (appO (N.add (.row false (evRow x.e x.da x.ca))) 17 144 o (.sl N.size 0 1 (some 1) 17)) Q := by
  obtain ⟨lr, rfl, h2, h3, h4, h5⟩ := h
  rw [List.length_map] at hb
  refine w3_ev wf h2 hx hb fun o' M' m w le kp nw _ _ _ => kk o' M' ⟨lr ++ [x], by simp, m, fun y hy => ?_, fun j hj => ?_, fun y hy j hj => ?_⟩ w le kp nw
  · rcases List.mem_append.1 hy with hy | hy
    · exact (h3 y hy).keep fun j hj => kp j ((h3 y hy).lt j hj) fun hr => hj.elim (h5 y hy j hr).1 (h5 y hy j hr).2
    · simp only [List.mem_singleton] at hy
      subst hy
      exact hi.keep fun j hj => kp j (hi.lt j hj) fun hr => hj.elim (hne j hr).1 (hne j hr).2
  · rcases nw j hj with h | h
    · exact h4 j h
    · omega
  · have hyN : InR N B y ∧ (∀ j, rowOf o = some j → rowOf y.da ≠ some j ∧ rowOf y.ca ≠ some j) := by
      rcases List.mem_append.1 hy with hy | hy
      · exact ⟨h3 y hy, h5 y hy⟩
      · simp only [List.mem_singleton] at hy
        subst hy; exact ⟨hi, hne⟩
    rcases nw j hj with h | h
    · exact hyN.2 j h
    · exact ⟨fun e => by have := hyN.1.lt j (.inl e); omega, fun e => by have := hyN.1.lt j (.inr e); omega⟩
set_option maxHeartbeats 8000000 in
theorem ptwin0 {a : AV} {l : List Ev} (hS : Sl 17 isEv a l) (hl : l.length ≤ 100000) (hd : ∀ e ∈ l, e.data.length ≤ 140737488355328 ∧ e.crash.length ≤ 17592186044416) (hf : l.length + 100 < fuel) (wf : Wf M)
    (k : ∀ o N, Wf N → M.size ≤ N.size → (∀ j, j < M.size → N.get j = M.get j) → RR N M.size o l → Q o N) :
    W3 (callN Tryd.prog (fsT tbl) fuel (d + 3) (.fn 19) [a] M) Q := by
  have ll := hS.len
  have lr := hS.rows mem0
  refine call_0 tf19 rfl (by simp [a19]) fun b' ht hx => ?_
  have h0 := hx 0 _ rfl
  clear hx
  simp only [a19, c19] at ht ⊢
  simp (maxSteps := 2000000) (disch := first | omega | assumption | (simp only [DS, Nat.reduceAdd, *]; done) | (simp only [DZ]; omega)) only [RUN, RU, footA, feetIn, resultsA, tupOf, frzL, slot, lay, icyL, fillA, repCells, kR, reduceIte, Nat.reduceEqDiff, Nat.reduceBEq, Nat.reduceLT, Nat.reduceAdd, Nat.reduceLeDiff, Nat.reduceSub, Nat.reduceMul, Int.reduceLT, Int.reduceLE, Int.reduceEq, Int.reduceAdd, Int.reduceSub, Int.reduceMul, h0, ll, lr]
  refine w_loop (I := fun n t N => ∃ (i : Nat) (o : AV), n = l.length - i ∧ i ≤ l.length ∧ nth undefA t 2 = o ∧ nth undefA t 5 = a ∧ nth undefA t 6 = I64 l.length ∧ nth undefA t 7 = I64 i ∧ Wf N ∧ M.size ≤ N.size ∧ (∀ j, j < M.size → N.get j = M.get j) ∧ RR N M.size o (l.take i)) (n := l.length) (by omega) ?_ ?_
  · refine ⟨0, NIL, rfl, by omega, ?_, ?_, ?_, ?_, wf, Nat.le_refl _, fun _ _ => rfl, RR.nil _ _⟩ <;> simp (maxSteps := 2000000) (disch := first | omega | assumption | (simp only [DS, Nat.reduceAdd, *]; done) | (simp only [DZ]; omega)) only [RUN, RU, footA, feetIn, resultsA, tupOf, frzL, slot, lay, icyL, fillA, repCells, kR, reduceIte, Nat.reduceEqDiff, Nat.reduceBEq, Nat.reduceLT, Nat.reduceAdd, Nat.reduceLeDiff, Nat.reduceSub, Nat.reduceMul, Int.reduceLT, Int.reduceLE, Int.reduceEq, Int.reduceAdd, Int.reduceSub, Int.reduceMul, h0]
    all_goals rfl
  · rintro n t N hl' ⟨i, o, rfl, hi, t2, t5, t6, t7, wN, sN, kN, hR⟩
    simp only [ht] at hl' ⊢
    clear h0 ht b'
    by_cases hlt : i < l.length
    · have hc' : decide ((i : Int) < l.length) = true := decide_eq_true (by omega)
      have w1 : IntKind.i64.wrap ((i : Int) + 1) = ((i + 1 : Nat) : Int) := by rw [wrap_i64] <;> omega
      obtain ⟨r, hr, hev, _⟩ := hS.iad i hlt
      have hdd := hd l[i] (List.getElem_mem hlt)
      have htk : l.take (i + 1) = l.take i ++ [l[i]] := by rw [List.take_add_one, List.getElem?_eq_getElem hlt]; rfl
      have hle : (l.take i).length ≤ 100000 := by rw [List.length_take]; omega
      generalize l[i] = e at *
      obtain ⟨da, ca, hrow, h1, h2⟩ := id hev
      have rd := h1.rows mem0
      have rc := h2.rows mem0
      have od := h1.one
      have oc := h2.one
      have cd := h1.cells
      have cc := h2.cells
      have hev' : isEv (evRow e da ca) e := ⟨da, ca, rfl, h1, h2⟩
      subst hrow
      have oo := hR.one
      have oco := hR.cells
      unfold evRow at hr
      simp (maxSteps := 2000000) (disch := first | omega | assumption | (simp only [DS, Nat.reduceAdd, *]; done) | (simp only [DZ]; omega)) only [RUN, RU, footA, feetIn, resultsA, tupOf, frzL, slot, lay, icyL, fillA, repCells, kR, reduceIte, Nat.reduceEqDiff, Nat.reduceBEq, Nat.reduceLT, Nat.reduceAdd, Nat.reduceLeDiff, Nat.reduceSub, Nat.reduceMul, Int.reduceLT, Int.reduceLE, Int.reduceEq, Int.reduceAdd, Int.reduceSub, Int.reduceMul, t2, t5, t6, t7, hc', w1, hr, rd, rc, od, oc, cd, cc, wN]
      refine twin0 hev' hdd.1 hdd.2 (by simp (maxSteps := 2000000) (disch := first | omega | assumption | (simp only [DS, Nat.reduceAdd, *]; done) | (simp only [DZ]; omega)) only [RUN, RU, footA, feetIn, resultsA, tupOf, frzL, slot, lay, icyL, fillA, repCells, kR, reduceIte, Nat.reduceEqDiff, Nat.reduceBEq, Nat.reduceLT, Nat.reduceAdd, Nat.reduceLeDiff, Nat.reduceSub, Nat.reduceMul, Int.reduceLT, Int.reduceLE, Int.reduceEq, Int.reduceAdd, Int.reduceSub, Int.reduceMul, wN]) fun x N2 w2 s2 k2 xe hx hin => ?_
      simp only [add_size, upd_size] at s2 k2 hin
      subst xe
      have R2 : RR N2 M.size o (l.take i) := hR.keep fun j h1 h2 => by
        have hj : N.size ≠ j := by omega
        rw [k2 j (by omega)]
        simp (maxSteps := 2000000) (disch := first | omega | assumption | (simp only [DS, Nat.reduceAdd, *]; done) | (simp only [DZ]; omega)) only [RUN, RU, footA, feetIn, resultsA, tupOf, frzL, slot, lay, icyL, fillA, repCells, kR, reduceIte, Nat.reduceEqDiff, Nat.reduceBEq, Nat.reduceLT, Nat.reduceAdd, Nat.reduceLeDiff, Nat.reduceSub, Nat.reduceMul, Int.reduceLT, Int.reduceLE, Int.reduceEq, Int.reduceAdd, Int.reduceSub, Int.reduceMul, wN]
      obtain ⟨_, od', oc', cd', cc'⟩ := id hx
      have rl1 := rows_lt hin.1.rl (show N2.size ≤ N2.size + 1 by omega)
      have rl2 := rows_lt hin.2.1.rl (show N2.size ≤ N2.size + 1 by omega)
      have rl3 := hR.rows (show N.size ≤ N2.size + 1 by omega)
      have rl4 := rows_lt hin.1.rl (Nat.le_refl N2.size)
      have rl5 := rows_lt hin.2.1.rl (Nat.le_refl N2.size)
      have ex : evRow x.e x.da x.ca = [U8 x.e.kind.toNat, U8 x.e.lb.lv, U32 x.e.lb.cats, U8 x.e.num, I64 x.e.user, I64 x.e.k, I64 x.e.many, STR x.e.text, U8 x.e.to.lv, U32 x.e.to.cats, U8 x.e.what, x.da, I64 x.e.gu, U8 x.e.gl.lv, U32 x.e.gl.cats, BL x.e.gok, x.ca] := rfl
      rw [ex]
      simp (maxSteps := 2000000) (disch := first | omega | assumption | (simp only [DS, Nat.reduceAdd, *]; done) | (simp only [DZ]; omega)) only [RUN, RU, footA, feetIn, resultsA, tupOf, frzL, slot, lay, icyL, fillA, repCells, kR, reduceIte, Nat.reduceEqDiff, Nat.reduceBEq, Nat.reduceLT, Nat.reduceAdd, Nat.reduceLeDiff, Nat.reduceSub, Nat.reduceMul, Int.reduceLT, Int.reduceLE, Int.reduceEq, Int.reduceAdd, Int.reduceSub, Int.reduceMul, t2, t5, t6, t7, w1, od', oc', cd', cc', rl1, rl2, rl3, rl4, rl5, oo, oco, w2]
      rw [← ex]
      refine RR.app (B := M.size) w2 R2 hx (hin.mono (by omega)) (fun j hj => ?_) (by omega) (by omega) fun o' M' hR' w' le kp nw => ?_
      · have := hR.lt j hj
        exact ⟨fun h => by have := hin.2.2.1 j h; omega, fun h => by have := hin.2.2.2 j h; omega⟩
      · simp (maxSteps := 2000000) (disch := first | omega | assumption | (simp only [DS, Nat.reduceAdd, *]; done) | (simp only [DZ]; omega)) only [RUN, RU, footA, feetIn, resultsA, tupOf, frzL, slot, lay, icyL, fillA, repCells, kR, reduceIte, Nat.reduceEqDiff, Nat.reduceBEq, Nat.reduceLT, Nat.reduceAdd, Nat.reduceLeDiff, Nat.reduceSub, Nat.reduceMul, Int.reduceLT, Int.reduceLE, Int.reduceEq, Int.reduceAdd, Int.reduceSub, Int.reduceMul, t2, t5, t6, t7, w1]
        refine ⟨hl', l.length - (i + 1), by omega, i + 1, o', rfl, by omega, rfl, rfl, w', by omega, fun j hj => ?_, by rw [htk]; exact hR'⟩
        have hj2 : N.size ≠ j := by omega
        rw [kp j (by omega) (fun h => by have := hR.lt j h; omega), k2 j (by omega), ← kN j hj]
        simp (maxSteps := 2000000) (disch := first | omega | assumption | (simp only [DS, Nat.reduceAdd, *]; done) | (simp only [DZ]; omega)) only [RUN, RU, footA, feetIn, resultsA, tupOf, frzL, slot, lay, icyL, fillA, repCells, kR, reduceIte, Nat.reduceEqDiff, Nat.reduceBEq, Nat.reduceLT, Nat.reduceAdd, Nat.reduceLeDiff, Nat.reduceSub, Nat.reduceMul, Int.reduceLT, Int.reduceLE, Int.reduceEq, Int.reduceAdd, Int.reduceSub, Int.reduceMul, wN]
    · obtain rfl : i = l.length := by omega
      have hc' : decide ((l.length : Int) < l.length) = false := decide_eq_false (by omega)
      rw [List.take_length] at hR
      simp (maxSteps := 2000000) (disch := first | omega | assumption | (simp only [DS, Nat.reduceAdd, *]; done) | (simp only [DZ]; omega)) only [RUN, RU, footA, feetIn, resultsA, tupOf, frzL, slot, lay, icyL, fillA, repCells, kR, reduceIte, Nat.reduceEqDiff, Nat.reduceBEq, Nat.reduceLT, Nat.reduceAdd, Nat.reduceLeDiff, Nat.reduceSub, Nat.reduceMul, Int.reduceLT, Int.reduceLE, Int.reduceEq, Int.reduceAdd, Int.reduceSub, Int.reduceMul, t2, t5, t6, t7, hc']
      exact k o N wN sN kN hR
end Go.Proofs.YtjbninmklbkklaaDoor
