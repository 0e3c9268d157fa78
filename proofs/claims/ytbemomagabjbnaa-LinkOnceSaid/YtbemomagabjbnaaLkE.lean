/-
  link: of, New, put.
-/
import Derived.Test.YtbemomagabjbnaaLkB
import Derived.Test.YtbemomagabjbnaaLkC
set_option linter.unusedSimpArgs false
set_option linter.unusedVariables false
set_option maxRecDepth 100000
namespace Go.Proofs.Ytbemomagabjbnaa
open Go Go.Ax
variable {fuel : Nat} {M : Mem} {Q : AV → Mem → Prop} {d : Nat}

theorem may_facts {e : End} (h : e.may = true) : e.out.length ≤ 32 ∧ (∀ x ∈ e.out, x.body.length ≤ 900) ∧ 0 ≤ e.ep ∧ e.ep < 2147483648 ∧ 1 ≤ e.nx ∧ e.nx < 16777216 ∧ 1 ≤ e.want ∧ e.want < 16777216 := by
  rw [may_eq, Bool.and_eq_true] at h
  obtain ⟨h1, h2⟩ := h
  simp only [End.plain, Bool.and_eq_true, decide_eq_true_eq, from'] at h1
  refine ⟨h1.1.1.2, fun x hx => ?_, by omega, by omega, by omega, by omega, by omega, by omega⟩
  obtain ⟨i, hi, rfl⟩ := List.getElem_of_mem hx
  have := List.all_eq_true.1 h2 i (List.mem_range.2 hi)
  simp only [End.mayAt, List.getElem?_eq_getElem hi, Bool.and_eq_true, decide_eq_true_eq] at this
  exact this.2

set_option maxHeartbeats 4000000 in
theorem of_run (e : End) (ae : AV) (he : IsEnd ae e) (hf : 1000 < fuel) (wf : Wf M)
    (k1 : e.may = false → ∀ M', Wf M' → M.size ≤ M'.size → (∀ j, j < M.size → M'.get j = M.get j) → Q (.tup [.sc (.pointer none), I64 8]) M')
    (k2 : e.may = true → ∀ u o' M', Wf M' → M.size ≤ M'.size → (∀ j, j < M.size → M'.get j = M.get j) → M.size ≤ u → M'.get u = some (.row false [I64 e.ep, I64 e.nx, o', I64 e.want, I64 e.since, BL e.owe]) → SlM M' 2 isItem o' e.out →
      (∀ id, rowOf o' = some id → M.size ≤ id ∧ id ≠ u) → Q (.tup [.ptr u 0, I64 0]) M') :
    W3 (callN Try.prog (fsT tbl) fuel (d + 3) (.fn 26) [ae] M) Q := by
  have hck := fun M => check_run (P := Try.prog) (fuel := fuel) (M := M) (d := d) e ae he hf
  have he' := he
  obtain ⟨o, rfl, hS⟩ := he
  have o1 := hS.one
  refine call_0 tf26 rfl (by simp [a26]) fun b ht hx => ?_
  have h0 := hx 0 _ rfl
  clear hx
  simp only [a26, c26] at ht ⊢
  cases hm : e.may with
  | false =>
    have kk := k1 hm
    simp only [hm, if_false, Bool.false_eq_true] at hck
    simp (maxSteps := 2000000) (disch := first | omega | assumption | (simp only [DS, Nat.reduceAdd, *]; done) | (simp only [DZ]; omega)) only [RUN, RU, footA, feetIn, resultsA, tupOf, frzL, slot, lay, icyL, fillA, repCells, kR, reduceIte, Nat.reduceEqDiff, Nat.reduceBEq, Nat.reduceLT, Nat.reduceAdd, Nat.reduceLeDiff, Nat.reduceSub, Nat.reduceMul, Int.reduceLT, Int.reduceLE, Int.reduceEq, Int.reduceAdd, Int.reduceSub, Int.reduceMul, h0, hck, o1]
    refine kk _ (by rw [wf_add]; exact wf) (by rw [add_size]; omega) (fun j hj => get_add wf _ _ hj)
  | true =>
    simp only [hm, if_true] at hck
    obtain ⟨hn, hb, _⟩ := may_facts hm
    simp (maxSteps := 2000000) (disch := first | omega | assumption | (simp only [DS, Nat.reduceAdd, *]; done) | (simp only [DZ]; omega)) only [RUN, RU, footA, feetIn, resultsA, tupOf, frzL, slot, lay, icyL, fillA, repCells, kR, reduceIte, Nat.reduceEqDiff, Nat.reduceBEq, Nat.reduceLT, Nat.reduceAdd, Nat.reduceLeDiff, Nat.reduceSub, Nat.reduceMul, Int.reduceLT, Int.reduceLE, Int.reduceEq, Int.reduceAdd, Int.reduceSub, Int.reduceMul, h0, hck, o1]
    refine twin_run e _ he' hf hn hb (by rw [wf_add]; exact wf) ?_
    intro o' M1 wf1 s1 keep hSM new
    simp only [add_size] at s1 new
    have o1' := hSM.one
    simp (maxSteps := 2000000) (disch := first | omega | assumption | (simp only [DS, Nat.reduceAdd, *]; done) | (simp only [DZ]; omega)) only [RUN, RU, footA, feetIn, resultsA, tupOf, frzL, slot, lay, icyL, fillA, repCells, kR, reduceIte, Nat.reduceEqDiff, Nat.reduceBEq, Nat.reduceLT, Nat.reduceAdd, Nat.reduceLeDiff, Nat.reduceSub, Nat.reduceMul, Int.reduceLT, Int.reduceLE, Int.reduceEq, Int.reduceAdd, Int.reduceSub, Int.reduceMul, *]
    refine k2 hm M1.size o' _ (by rw [wf_add]; exact wf1) (by rw [add_size]; omega) (fun j hj => ?_) (by omega) ?_ ?_ (fun id h => ?_)
    · rw [get_add wf1 _ _ (by omega), keep j (by rw [add_size]; omega), get_add wf _ _ hj]
    · rw [get_add_new wf1 _ _ (Nat.le_refl _) (by omega)]
    · exact hSM.keep fun id h => get_add wf1 _ _ (hSM.lt id h)
    · have := hSM.lt id h
      have := new id h
      omega

theorem new_run (n : Int) : callN Try.prog (fsT tbl) fuel (d + 2) (.fn 22) [I64 n] M = some (.tup [.agg (if from' n 0 2147483648 then [I64 n, I64 1, NIL, I64 1, I64 0, BL false] else [I64 0, I64 0, NIL, I64 0, I64 0, BL false]), I64 (if from' n 0 2147483648 then 0 else 2)], M) := by
  apply w3_eq
  refine call_gc tf22 rfl (by simp (maxSteps := 2000000) (disch := first | omega | assumption | (simp only [DS, Nat.reduceAdd, *]; done) | (simp only [DZ]; omega)) only [RUN, RU, footA, feetIn, resultsA, tupOf, frzL, slot, lay, icyL, fillA, repCells, kR, reduceIte, Nat.reduceEqDiff, Nat.reduceBEq, Nat.reduceLT, Nat.reduceAdd, Nat.reduceLeDiff, Nat.reduceSub, Nat.reduceMul, Int.reduceLT, Int.reduceLE, Int.reduceEq, Int.reduceAdd, Int.reduceSub, Int.reduceMul]) (by simp [a22]) fun b ht hx => ?_
  have h0 := hx 0 _ rfl
  clear hx
  simp only [a22, c22] at ht ⊢
  cases hc : from' n 0 2147483648
  · simp (maxSteps := 2000000) (disch := first | omega | assumption | (simp only [DS, Nat.reduceAdd, *]; done) | (simp only [DZ]; omega)) only [RUN, RU, footA, feetIn, resultsA, tupOf, frzL, slot, lay, icyL, fillA, repCells, kR, reduceIte, Nat.reduceEqDiff, Nat.reduceBEq, Nat.reduceLT, Nat.reduceAdd, Nat.reduceLeDiff, Nat.reduceSub, Nat.reduceMul, Int.reduceLT, Int.reduceLE, Int.reduceEq, Int.reduceAdd, Int.reduceSub, Int.reduceMul, h0, from_run, hc, if_false, Bool.false_eq_true]
  · simp (maxSteps := 2000000) (disch := first | omega | assumption | (simp only [DS, Nat.reduceAdd, *]; done) | (simp only [DZ]; omega)) only [RUN, RU, footA, feetIn, resultsA, tupOf, frzL, slot, lay, icyL, fillA, repCells, kR, reduceIte, Nat.reduceEqDiff, Nat.reduceBEq, Nat.reduceLT, Nat.reduceAdd, Nat.reduceLeDiff, Nat.reduceSub, Nat.reduceMul, Int.reduceLT, Int.reduceLE, Int.reduceEq, Int.reduceAdd, Int.reduceSub, Int.reduceMul, h0, from_run, hc, if_true]
end Go.Proofs.Ytbemomagabjbnaa
