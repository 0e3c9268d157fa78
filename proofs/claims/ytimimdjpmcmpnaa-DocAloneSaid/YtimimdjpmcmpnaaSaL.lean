/-
  An element's chain: made.
-/
import Derived.Test.YtimimdjpmcmpnaaSaK
import Derived.Test.YtimimdjpmcmpnaaEf
set_option linter.unusedSimpArgs false
set_option linter.unusedVariables false
set_option maxRecDepth 100000
namespace Go.Proofs.Ytimimdjpmcmpnaa
open Go Go.Ax
variable {fuel : Nat} {M : Mem} {Q : AV → Mem → Prop} {d : Nat} {a o : AV} {x : Eid} {v : Lb} {l : List Op}

theorem raises_0 (hS : Sl 17 isOp a l) (wf : Wf M) (k : Q (.fn 96 [] [.ptr M.size 0, .ptr (M.size + 1) 0, .ptr (M.size + 1 + 1) 0]) (((M.add (.row false [a])).add (.row false (idR x))).add (.row false (lbR v)))) :
    W3 (callN Try.prog (fsT tbl) fuel (d + 1) (.fn 95) [a, idA x, lbA v] M) Q := by
  have oa := hS.one
  refine call_0 tf95 rfl (by simp [a95]) fun b' ht hx => ?_
  have h0 := hx 0 _ rfl
  have h1 := hx 1 _ rfl
  have h2 := hx 2 _ rfl
  clear hx
  simp only [a95, c95] at ht ⊢
  simp (maxSteps := 2000000) (disch := first | omega | assumption | (simp only [DS, Nat.reduceAdd, *]; done) | (simp only [DZ]; omega)) only [RUN, RU, footA, feetIn, resultsA, tupOf, frzL, slot, lay, icyL, fillA, repCells, kR, reduceIte, Nat.reduceEqDiff, Nat.reduceBEq, Nat.reduceLT, Nat.reduceAdd, Nat.reduceLeDiff, Nat.reduceSub, Nat.reduceMul, Int.reduceLT, Int.reduceLE, Int.reduceEq, Int.reduceAdd, Int.reduceSub, Int.reduceMul, h0, h1, h2, hS.fz.rows, hS.fz.one, hS.fz.cells, hS.fz.icy, hS.fz.frz, wf]
  exact k
theorem raises1_at {X : Mem} {tm : List AV} {o0 : AV} {out : List Lb} (hS : Sl 17 isOp a l) (hl : l.length ≤ 50000) (hn : out.length ≤ 50000) (hf : l.length + out.length < fuel) (w : Wf X) (h7 : nth undefA tm 7 = .ptr 3 0) (hlen : tm.length = 27) (hX : X.size = 7) (g3 : X.get 3 = some (.row false [o0])) (g4 : X.get 4 = some (.row false [a])) (g5 : X.get 5 = some (.row false (idR x))) (g6 : X.get 6 = some (.row false (lbR v))) (sm : SlM X 2 isLb o0 out) (ro : ∀ j, rowOf o0 = some j → j = 2)
    (k : ∀ u o' N, MI N tm a x v o' ((raisesL l x v).foldl addL out) → Q u N) :
    W3 (callN Try.prog (fsT tbl) fuel (d + 6) (.fn 96) ([] ++ [.yl (X.size + 1)] ++ [.ptr 4 0, .ptr 5 0, .ptr 6 0]) ((X.add (.dfr false)).add (.loop .ready none tm [17] cM1 cM2 X.size))) Q := by
  have w1 := w.add (.dfr false)
  have u : ∀ j, j < 7 → ((X.add (.dfr false)).add (.loop .ready none tm [17] cM1 cM2 X.size)).get j = X.get j := fun j hj => by
    rw [get_add w1 _ _ (by rw [add_size]; omega), get_add w _ _ (by omega)]
  have e : X.size + 1 = 8 := by omega
  have key := raises1_0 (d := d) (fuel := fuel) (Q := Q) (M := (X.add (.dfr false)).add (.loop .ready none tm [17] cM1 cM2 X.size)) (x := x) (v := v) (o0 := o0) (out := out) hS hl hn hf ⟨w1.add _, by simp only [add_size]; omega, (u 3 (by omega)).trans g3, (u 4 (by omega)).trans g4, (u 5 (by omega)).trans g5, (u 6 (by omega)).trans g6, by rw [get_add w1 _ _ (by rw [add_size]; omega), ← hX]; exact get_add_new w _ _ (Nat.le_refl _) (Nat.lt_succ_self _), by
      have := get_add_new w1 (.loop .ready none tm [17] cM1 cM2 X.size) 8 (by rw [add_size]; omega) (by rw [add_size]; omega)
      rw [hX] at this ⊢
      exact this, sm.keep fun j hj => u j (by have := ro j hj; omega), fun j hj => .inl (ro j hj)⟩ h7 hlen k
  rw [← e] at key
  exact key
set_option maxHeartbeats 8000000 in
theorem made_run (hS : Sl 17 isOp a l) (hl : l.length ≤ 40000) (hf : l.length + 100 < fuel) (hx : x.ok) : ∃ r, Sl 2 isLb r (made l x v) ∧ ∀ M, callN Try.prog (fsT tbl) fuel (d + 7) (.fn 92) [a, idA x, lbA v] M = some (r, M) := by
  have oa := hS.one
  refine gc_ex tf92 rfl (fun M => by simp only [icyL, fun M => hS.icy M 12 (by omega), fz_icyA (fz_idR x) (show 1 < 12 by omega), fz_icyA (fz_lbR v) (show 1 < 12 by omega)]) ?_
  refine call_gc tf92 rfl (by simp only [icyL, fun M => hS.icy M 12 (by omega), fz_icyA (fz_idR x) (show 1 < 12 by omega), fz_icyA (fz_lbR v) (show 1 < 12 by omega)]) (by simp [a92]) fun b' ht hx => ?_
  have h0 := hx 0 _ rfl
  have h1 := hx 1 _ rfl
  have h2 := hx 2 _ rfl
  clear hx
  simp only [a92, c92] at ht ⊢
  simp (maxSteps := 2000000) (disch := first | omega | assumption | (simp only [DS, Nat.reduceAdd, *]; done) | (simp only [DZ]; omega)) only [RUN, RU, footA, feetIn, resultsA, tupOf, frzL, slot, lay, icyL, fillA, repCells, kR, reduceIte, Nat.reduceEqDiff, Nat.reduceBEq, Nat.reduceLT, Nat.reduceAdd, Nat.reduceLeDiff, Nat.reduceSub, Nat.reduceMul, Int.reduceLT, Int.reduceLE, Int.reduceEq, Int.reduceAdd, Int.reduceSub, Int.reduceMul, h0, h1, h2, hS.fz.rows, hS.fz.one, hS.fz.cells, hS.fz.icy, hS.fz.frz]
  refine raises_0 hS (by simp (maxSteps := 2000000) (disch := first | omega | assumption | (simp only [DS, Nat.reduceAdd, *]; done) | (simp only [DZ]; omega)) only [RUN, RU, footA, feetIn, resultsA, tupOf, frzL, slot, lay, icyL, fillA, repCells, kR, reduceIte, Nat.reduceEqDiff, Nat.reduceBEq, Nat.reduceLT, Nat.reduceAdd, Nat.reduceLeDiff, Nat.reduceSub, Nat.reduceMul, Int.reduceLT, Int.reduceLE, Int.reduceEq, Int.reduceAdd, Int.reduceSub, Int.reduceMul]) ?_
  simp (maxSteps := 2000000) (disch := first | omega | assumption | (simp only [DS, Nat.reduceAdd, *]; done) | (simp only [DZ]; omega)) only [RUN, RU, footA, feetIn, resultsA, tupOf, frzL, slot, lay, icyL, fillA, repCells, kR, reduceIte, Nat.reduceEqDiff, Nat.reduceBEq, Nat.reduceLT, Nat.reduceAdd, Nat.reduceLeDiff, Nat.reduceSub, Nat.reduceMul, Int.reduceLT, Int.reduceLE, Int.reduceEq, Int.reduceAdd, Int.reduceSub, Int.reduceMul, h0, h1, h2, hS.fz.rows, hS.fz.one, hS.fz.cells, hS.fz.icy, hS.fz.frz]
  refine w_range (g := 96) (first := []) (cap := [.ptr 4 0, .ptr 5 0, .ptr 6 0]) (by simp (maxSteps := 2000000) (disch := first | omega | assumption | (simp only [DS, Nat.reduceAdd, *]; done) | (simp only [DZ]; omega)) only [RUN, RU, footA, feetIn, resultsA, tupOf, frzL, slot, lay, icyL, fillA, repCells, kR, reduceIte, Nat.reduceEqDiff, Nat.reduceBEq, Nat.reduceLT, Nat.reduceAdd, Nat.reduceLeDiff, Nat.reduceSub, Nat.reduceMul, Int.reduceLT, Int.reduceLE, Int.reduceEq, Int.reduceAdd, Int.reduceSub, Int.reduceMul]) (by simp (maxSteps := 2000000) (disch := first | omega | assumption | (simp only [DS, Nat.reduceAdd, *]; done) | (simp only [DZ]; omega)) only [RUN, RU, footA, feetIn, resultsA, tupOf, frzL, slot, lay, icyL, fillA, repCells, kR, reduceIte, Nat.reduceEqDiff, Nat.reduceBEq, Nat.reduceLT, Nat.reduceAdd, Nat.reduceLeDiff, Nat.reduceSub, Nat.reduceMul, Int.reduceLT, Int.reduceLE, Int.reduceEq, Int.reduceAdd, Int.reduceSub, Int.reduceMul]) ?_
  refine raises1_at (x := x) (v := v) (out := [x.hd.lb]) (o0 := .sl 2 0 1 (some 1) 2) (d := d) hS (by omega) (by simp) (by simp; omega) ?_ ?_ ?_ ?_ ?_ ?_ ?_ ?_ ?_ ?_ fun u o N m => ?_
  · simp (maxSteps := 2000000) (disch := first | omega | assumption | (simp only [DS, Nat.reduceAdd, *]; done) | (simp only [DZ]; omega)) only [RUN, RU, footA, feetIn, resultsA, tupOf, frzL, slot, lay, icyL, fillA, repCells, kR, reduceIte, Nat.reduceEqDiff, Nat.reduceBEq, Nat.reduceLT, Nat.reduceAdd, Nat.reduceLeDiff, Nat.reduceSub, Nat.reduceMul, Int.reduceLT, Int.reduceLE, Int.reduceEq, Int.reduceAdd, Int.reduceSub, Int.reduceMul]
  · simp (maxSteps := 2000000) (disch := first | omega | assumption | (simp only [DS, Nat.reduceAdd, *]; done) | (simp only [DZ]; omega)) only [RUN, RU, footA, feetIn, resultsA, tupOf, frzL, slot, lay, icyL, fillA, repCells, kR, reduceIte, Nat.reduceEqDiff, Nat.reduceBEq, Nat.reduceLT, Nat.reduceAdd, Nat.reduceLeDiff, Nat.reduceSub, Nat.reduceMul, Int.reduceLT, Int.reduceLE, Int.reduceEq, Int.reduceAdd, Int.reduceSub, Int.reduceMul]
  · rw [St_len]; exact ht
  · simp (maxSteps := 2000000) (disch := first | omega | assumption | (simp only [DS, Nat.reduceAdd, *]; done) | (simp only [DZ]; omega)) only [RUN, RU, footA, feetIn, resultsA, tupOf, frzL, slot, lay, icyL, fillA, repCells, kR, reduceIte, Nat.reduceEqDiff, Nat.reduceBEq, Nat.reduceLT, Nat.reduceAdd, Nat.reduceLeDiff, Nat.reduceSub, Nat.reduceMul, Int.reduceLT, Int.reduceLE, Int.reduceEq, Int.reduceAdd, Int.reduceSub, Int.reduceMul]
  · simp (maxSteps := 2000000) (disch := first | omega | assumption | (simp only [DS, Nat.reduceAdd, *]; done) | (simp only [DZ]; omega)) only [RUN, RU, footA, feetIn, resultsA, tupOf, frzL, slot, lay, icyL, fillA, repCells, kR, reduceIte, Nat.reduceEqDiff, Nat.reduceBEq, Nat.reduceLT, Nat.reduceAdd, Nat.reduceLeDiff, Nat.reduceSub, Nat.reduceMul, Int.reduceLT, Int.reduceLE, Int.reduceEq, Int.reduceAdd, Int.reduceSub, Int.reduceMul]
  · simp (maxSteps := 2000000) (disch := first | omega | assumption | (simp only [DS, Nat.reduceAdd, *]; done) | (simp only [DZ]; omega)) only [RUN, RU, footA, feetIn, resultsA, tupOf, frzL, slot, lay, icyL, fillA, repCells, kR, reduceIte, Nat.reduceEqDiff, Nat.reduceBEq, Nat.reduceLT, Nat.reduceAdd, Nat.reduceLeDiff, Nat.reduceSub, Nat.reduceMul, Int.reduceLT, Int.reduceLE, Int.reduceEq, Int.reduceAdd, Int.reduceSub, Int.reduceMul]
  · simp (maxSteps := 2000000) (disch := first | omega | assumption | (simp only [DS, Nat.reduceAdd, *]; done) | (simp only [DZ]; omega)) only [RUN, RU, footA, feetIn, resultsA, tupOf, frzL, slot, lay, icyL, fillA, repCells, kR, reduceIte, Nat.reduceEqDiff, Nat.reduceBEq, Nat.reduceLT, Nat.reduceAdd, Nat.reduceLeDiff, Nat.reduceSub, Nat.reduceMul, Int.reduceLT, Int.reduceLE, Int.reduceEq, Int.reduceAdd, Int.reduceSub, Int.reduceMul]
  · simp (maxSteps := 2000000) (disch := first | omega | assumption | (simp only [DS, Nat.reduceAdd, *]; done) | (simp only [DZ]; omega)) only [RUN, RU, footA, feetIn, resultsA, tupOf, frzL, slot, lay, icyL, fillA, repCells, kR, reduceIte, Nat.reduceEqDiff, Nat.reduceBEq, Nat.reduceLT, Nat.reduceAdd, Nat.reduceLeDiff, Nat.reduceSub, Nat.reduceMul, Int.reduceLT, Int.reduceLE, Int.reduceEq, Int.reduceAdd, Int.reduceSub, Int.reduceMul]
  · refine .inr ⟨2, [lbR x.hd.lb], some 1, rfl, .inr rfl, ?_, .cons ⟨rfl, hx.1.1⟩ .nil, by simp⟩
    simp (maxSteps := 2000000) (disch := first | omega | assumption | (simp only [DS, Nat.reduceAdd, *]; done) | (simp only [DZ]; omega)) only [RUN, RU, footA, feetIn, resultsA, tupOf, frzL, slot, lay, icyL, fillA, repCells, kR, reduceIte, Nat.reduceEqDiff, Nat.reduceBEq, Nat.reduceLT, Nat.reduceAdd, Nat.reduceLeDiff, Nat.reduceSub, Nat.reduceMul, Int.reduceLT, Int.reduceLE, Int.reduceEq, Int.reduceAdd, Int.reduceSub, Int.reduceMul]
    rfl
  · rintro j ⟨⟩
    rfl
  · have g3 := m.g3
    have l3 := Mem.get_lt g3
    have g7 := m.g7
    have wf := m.wf
    have sm := m.sm
    have ro := m.ro
    have oo := sm.one
    have sz := m.sz
    refine ⟨wf, by have := m.sz; simp only [add_size, upd_size, mem0_size]; omega, _, _, _, _, _, m.g8, ?_⟩
    generalize hX : N.upd _ _ = X
    have wX : Wf X := by rw [← hX]; exact wf.upd _ _
    have gX : ∀ j, j ≠ 8 → X.get j = N.get j := fun j hj => by rw [← hX]; exact get_upd_ne wf _ _ _ (fun e => hj e.symm)
    have x3 := (gX 3 (by omega)).trans g3
    have x7 := (gX 7 (by omega)).trans g7
    have l3' := Mem.get_lt x3
    have l7' := Mem.get_lt x7
    simp (maxSteps := 2000000) (disch := first | omega | assumption | (simp only [DS, Nat.reduceAdd, *]; done) | (simp only [DZ]; omega)) only [RUN, RU, footA, feetIn, resultsA, tupOf, frzL, slot, lay, icyL, fillA, repCells, kR, reduceIte, Nat.reduceEqDiff, Nat.reduceBEq, Nat.reduceLT, Nat.reduceAdd, Nat.reduceLeDiff, Nat.reduceSub, Nat.reduceMul, Int.reduceLT, Int.reduceLE, Int.reduceEq, Int.reduceAdd, Int.reduceSub, Int.reduceMul, x3, oo, wX]
    refine fin_mark wX x7 ?_
    obtain ⟨rr, hz, hr⟩ := (sm.keep fun j hj => by rw [get_upd_ne wX _ _ _ (by have := ro j hj; omega)]; exact gX j (by have := ro j hj; omega) : SlM (X.upd 7 (.dfr true)) 2 isLb o _).frz fz_Lb.cel (k := 12) (by omega)
    simp (maxSteps := 2000000) (disch := first | omega | assumption | (simp only [DS, Nat.reduceAdd, *]; done) | (simp only [DZ]; omega)) only [RUN, RU, footA, feetIn, resultsA, tupOf, frzL, slot, lay, icyL, fillA, repCells, kR, reduceIte, Nat.reduceEqDiff, Nat.reduceBEq, Nat.reduceLT, Nat.reduceAdd, Nat.reduceLeDiff, Nat.reduceSub, Nat.reduceMul, Int.reduceLT, Int.reduceLE, Int.reduceEq, Int.reduceAdd, Int.reduceSub, Int.reduceMul, hz]
    exact ⟨rr, hr, rfl⟩
end Go.Proofs.Ytimimdjpmcmpnaa
