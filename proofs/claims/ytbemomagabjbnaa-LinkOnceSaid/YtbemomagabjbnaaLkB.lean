/-
  link.Check.
-/
import Derived.Test.YtbemomagabjbnaaLkA
set_option linter.unusedSimpArgs false
set_option linter.unusedVariables false
set_option maxRecDepth 100000
namespace Go.Proofs.Ytbemomagabjbnaa
open Go Go.Ax
variable {P : Program} {fuel : Nat} {M : Mem} {Q : AV → Mem → Prop} {d : Nat}

def End.plain (e : End) : Bool := from' e.ep 0 2147483648 && from' e.nx 1 16777216 && from' e.want 1 16777216 && decide (e.out.length ≤ 32) && from' e.since 0 3 && !(decide (e.out.length = 0) && decide (0 < e.since))
def End.mayAt (e : End) (i : Nat) : Bool := match e.out[i]? with
      | some x => decide (1 ≤ x.seq) && decide (x.seq = e.nx - e.out.length + i) && decide (x.body.length ≤ 900)
      | none => true
theorem may_eq (e : End) : e.may = (e.plain && (List.range e.out.length).all e.mayAt) := rfl

set_option maxHeartbeats 4000000 in
theorem check_run (e : End) (ae : AV) (he : IsEnd ae e) (hf : 1000 < fuel) : callN P (fsT tbl) fuel (d + 2) (.fn 11) [ae] M = some (I64 (if e.may then 0 else 8), M) := by
  obtain ⟨o, rfl, hS⟩ := he
  obtain ⟨ep, nx, out, want, since, owe⟩ := e
  simp only at hS
  apply w3_eq
  refine call_gc (tf11) rfl (by simp (maxSteps := 2000000) (disch := first | omega | assumption | (simp only [DS, Nat.reduceAdd, *]; done) | (simp only [DZ]; omega)) only [RUN, RU, footA, feetIn, resultsA, tupOf, frzL, slot, lay, icyL, fillA, repCells, kR, reduceIte, Nat.reduceEqDiff, Nat.reduceBEq, Nat.reduceLT, Nat.reduceAdd, Nat.reduceLeDiff, Nat.reduceSub, Nat.reduceMul, Int.reduceLT, Int.reduceLE, Int.reduceEq, Int.reduceAdd, Int.reduceSub, Int.reduceMul, hS.icy]) (by simp [a11]) fun b ht hx => ?_
  have h0 := hx 0 _ rfl
  have o1 := hS.one
  clear hx
  simp only [a11, c11] at ht ⊢
  (simp (maxSteps := 2000000) (disch := first | omega | assumption | (simp only [DS, Nat.reduceAdd, *]; done) | (simp only [DZ]; omega)) only [RUN, RU, footA, feetIn, resultsA, tupOf, frzL, slot, lay, icyL, fillA, repCells, kR, reduceIte, Nat.reduceEqDiff, Nat.reduceBEq, Nat.reduceLT, Nat.reduceAdd, Nat.reduceLeDiff, Nat.reduceSub, Nat.reduceMul, Int.reduceLT, Int.reduceLE, Int.reduceEq, Int.reduceAdd, Int.reduceSub, Int.reduceMul, from_run, hS.len, *])
  repeat' (first | (refine grd_split _ _ _ _ _ _ _ (fun hg => ?_) (fun hg => ?_) <;> (try simp (maxSteps := 2000000) (disch := first | omega | assumption | (simp only [DS, Nat.reduceAdd, *]; done) | (simp only [DZ]; omega)) only [RUN, RU, footA, feetIn, resultsA, tupOf, frzL, slot, lay, icyL, fillA, repCells, kR, reduceIte, Nat.reduceEqDiff, Nat.reduceBEq, Nat.reduceLT, Nat.reduceAdd, Nat.reduceLeDiff, Nat.reduceSub, Nat.reduceMul, Int.reduceLT, Int.reduceLE, Int.reduceEq, Int.reduceAdd, Int.reduceSub, Int.reduceMul, from_run, hS.len, *])) | (refine cnd_split (fun hg => ?_) (fun hg => ?_) <;> (try simp (maxSteps := 2000000) (disch := first | omega | assumption | (simp only [DS, Nat.reduceAdd, *]; done) | (simp only [DZ]; omega)) only [RUN, RU, footA, feetIn, resultsA, tupOf, frzL, slot, lay, icyL, fillA, repCells, kR, reduceIte, Nat.reduceEqDiff, Nat.reduceBEq, Nat.reduceLT, Nat.reduceAdd, Nat.reduceLeDiff, Nat.reduceSub, Nat.reduceMul, Int.reduceLT, Int.reduceLE, Int.reduceEq, Int.reduceAdd, Int.reduceSub, Int.reduceMul, from_run, hS.len, *])) | (refine gdd_split _ _ _ _ _ _ _ _ (fun hg => ?_) (fun hg => ?_) <;> (try simp (maxSteps := 2000000) (disch := first | omega | assumption | (simp only [DS, Nat.reduceAdd, *]; done) | (simp only [DZ]; omega)) only [RUN, RU, footA, feetIn, resultsA, tupOf, frzL, slot, lay, icyL, fillA, repCells, kR, reduceIte, Nat.reduceEqDiff, Nat.reduceBEq, Nat.reduceLT, Nat.reduceAdd, Nat.reduceLeDiff, Nat.reduceSub, Nat.reduceMul, Int.reduceLT, Int.reduceLE, Int.reduceEq, Int.reduceAdd, Int.reduceSub, Int.reduceMul, from_run, hS.len, *])))
  all_goals try (rw [may_eq, show End.plain _ = false by simp_all [End.plain, from'] <;> omega]; rfl)
  all_goals
    have hp : End.plain ⟨ep, nx, out, want, since, owe⟩ = true := by simp_all [End.plain, from'] <;> omega
    have hn : out.length ≤ 32 := by simp only [End.plain, Bool.and_eq_true, decide_eq_true_eq] at hp; exact hp.1.1.2
    have hnx := hp
    simp only [End.plain, Bool.and_eq_true, decide_eq_true_eq, from'] at hnx
    rw [may_eq, hp, Bool.true_and]
    refine w_loop (I := fun n t M => ∃ i : Nat, i ≤ out.length ∧ n = out.length - i ∧ (∀ j, j < i → End.mayAt ⟨ep, nx, out, want, since, owe⟩ j = true) ∧ nth undefA t 1 = .ptr 0 0 ∧ nth undefA t 45 = o ∧ nth undefA t 46 = I64 out.length ∧ nth undefA t 47 = I64 i ∧
      Wf M ∧ 0 < M.size ∧ M.get 0 = some (.row false [I64 ep, I64 nx, o, I64 want, I64 since, BL owe])) (n := out.length) (by omega) ?_ ?_
    · refine ⟨0, by omega, by omega, fun j h => by omega, ?_, ?_, ?_, ?_, ?_, ?_, ?_⟩ <;> simp (maxSteps := 2000000) (disch := first | omega | assumption | (simp only [DS, Nat.reduceAdd, *]; done) | (simp only [DZ]; omega)) only [RUN, RU, footA, feetIn, resultsA, tupOf, frzL, slot, lay, icyL, fillA, repCells, kR, reduceIte, Nat.reduceEqDiff, Nat.reduceBEq, Nat.reduceLT, Nat.reduceAdd, Nat.reduceLeDiff, Nat.reduceSub, Nat.reduceMul, Int.reduceLT, Int.reduceLE, Int.reduceEq, Int.reduceAdd, Int.reduceSub, Int.reduceMul, *]
      · rfl
    · rintro n t M hl ⟨i, hi, hn', hall, g1, g45, g46, g47, wf, ms, m0⟩
      simp only [ht] at hl ⊢
      clear h0 ht b
      by_cases hlt : i < out.length
      · have hc : decide ((i : Int) < out.length) = true := by simp; omega
        obtain ⟨r, hr, ⟨ab, rfl, hb⟩, hrl⟩ := hS.iad i hlt
        have b1 := hb.one
        have w1 : IntKind.i64.wrap ((i : Int) + 1) = ((i + 1 : Nat) : Int) := by rw [wrap_i64] <;> omega
        have w2 : IntKind.i64.wrap (nx - (out.length : Int)) = nx - out.length := by rw [wrap_i64] <;> omega
        have w3 : IntKind.i64.wrap (nx - (out.length : Int) + i) = nx - out.length + i := by rw [wrap_i64] <;> omega
        have hgi : out[i]? = some out[i] := by simp [hlt]
        (simp (maxSteps := 2000000) (disch := first | omega | assumption | (simp only [DS, Nat.reduceAdd, *]; done) | (simp only [DZ]; omega)) only [RUN, RU, footA, feetIn, resultsA, tupOf, frzL, slot, lay, icyL, fillA, repCells, kR, reduceIte, Nat.reduceEqDiff, Nat.reduceBEq, Nat.reduceLT, Nat.reduceAdd, Nat.reduceLeDiff, Nat.reduceSub, Nat.reduceMul, Int.reduceLT, Int.reduceLE, Int.reduceEq, Int.reduceAdd, Int.reduceSub, Int.reduceMul, hb.len, hS.len, *])
        repeat' (first | (refine grd_split _ _ _ _ _ _ _ (fun hg => ?_) (fun hg => ?_) <;> (try simp (maxSteps := 2000000) (disch := first | omega | assumption | (simp only [DS, Nat.reduceAdd, *]; done) | (simp only [DZ]; omega)) only [RUN, RU, footA, feetIn, resultsA, tupOf, frzL, slot, lay, icyL, fillA, repCells, kR, reduceIte, Nat.reduceEqDiff, Nat.reduceBEq, Nat.reduceLT, Nat.reduceAdd, Nat.reduceLeDiff, Nat.reduceSub, Nat.reduceMul, Int.reduceLT, Int.reduceLE, Int.reduceEq, Int.reduceAdd, Int.reduceSub, Int.reduceMul, hb.len, hS.len, *])) | (refine cnd_split (fun hg => ?_) (fun hg => ?_) <;> (try simp (maxSteps := 2000000) (disch := first | omega | assumption | (simp only [DS, Nat.reduceAdd, *]; done) | (simp only [DZ]; omega)) only [RUN, RU, footA, feetIn, resultsA, tupOf, frzL, slot, lay, icyL, fillA, repCells, kR, reduceIte, Nat.reduceEqDiff, Nat.reduceBEq, Nat.reduceLT, Nat.reduceAdd, Nat.reduceLeDiff, Nat.reduceSub, Nat.reduceMul, Int.reduceLT, Int.reduceLE, Int.reduceEq, Int.reduceAdd, Int.reduceSub, Int.reduceMul, hb.len, hS.len, *])) | (refine gdd_split _ _ _ _ _ _ _ _ (fun hg => ?_) (fun hg => ?_) <;> (try simp (maxSteps := 2000000) (disch := first | omega | assumption | (simp only [DS, Nat.reduceAdd, *]; done) | (simp only [DZ]; omega)) only [RUN, RU, footA, feetIn, resultsA, tupOf, frzL, slot, lay, icyL, fillA, repCells, kR, reduceIte, Nat.reduceEqDiff, Nat.reduceBEq, Nat.reduceLT, Nat.reduceAdd, Nat.reduceLeDiff, Nat.reduceSub, Nat.reduceMul, Int.reduceLT, Int.reduceLE, Int.reduceEq, Int.reduceAdd, Int.reduceSub, Int.reduceMul, hb.len, hS.len, *])))
        all_goals try
          rw [show (List.range out.length).all (End.mayAt ⟨ep, nx, out, want, since, owe⟩) = false by
            rw [List.all_eq_false]
            refine ⟨i, List.mem_range.2 hlt, ?_⟩
            simp only [End.mayAt, hgi]
            simp_all <;> omega]
          rfl
        refine ⟨out.length - (i + 1), by omega, i + 1, by omega, rfl, fun j hj => ?_, rfl, by omega⟩
        by_cases e : j = i
        · subst e
          simp only [End.mayAt, hgi]
          simp_all <;> omega
        · exact hall j (by omega)
      · have hc : decide ((i : Int) < out.length) = false := by simp; omega
        (simp (maxSteps := 2000000) (disch := first | omega | assumption | (simp only [DS, Nat.reduceAdd, *]; done) | (simp only [DZ]; omega)) only [RUN, RU, footA, feetIn, resultsA, tupOf, frzL, slot, lay, icyL, fillA, repCells, kR, reduceIte, Nat.reduceEqDiff, Nat.reduceBEq, Nat.reduceLT, Nat.reduceAdd, Nat.reduceLeDiff, Nat.reduceSub, Nat.reduceMul, Int.reduceLT, Int.reduceLE, Int.reduceEq, Int.reduceAdd, Int.reduceSub, Int.reduceMul, *])
        repeat' (first | (refine grd_split _ _ _ _ _ _ _ (fun hg => ?_) (fun hg => ?_) <;> (try simp (maxSteps := 2000000) (disch := first | omega | assumption | (simp only [DS, Nat.reduceAdd, *]; done) | (simp only [DZ]; omega)) only [RUN, RU, footA, feetIn, resultsA, tupOf, frzL, slot, lay, icyL, fillA, repCells, kR, reduceIte, Nat.reduceEqDiff, Nat.reduceBEq, Nat.reduceLT, Nat.reduceAdd, Nat.reduceLeDiff, Nat.reduceSub, Nat.reduceMul, Int.reduceLT, Int.reduceLE, Int.reduceEq, Int.reduceAdd, Int.reduceSub, Int.reduceMul, *])) | (refine cnd_split (fun hg => ?_) (fun hg => ?_) <;> (try simp (maxSteps := 2000000) (disch := first | omega | assumption | (simp only [DS, Nat.reduceAdd, *]; done) | (simp only [DZ]; omega)) only [RUN, RU, footA, feetIn, resultsA, tupOf, frzL, slot, lay, icyL, fillA, repCells, kR, reduceIte, Nat.reduceEqDiff, Nat.reduceBEq, Nat.reduceLT, Nat.reduceAdd, Nat.reduceLeDiff, Nat.reduceSub, Nat.reduceMul, Int.reduceLT, Int.reduceLE, Int.reduceEq, Int.reduceAdd, Int.reduceSub, Int.reduceMul, *])) | (refine gdd_split _ _ _ _ _ _ _ _ (fun hg => ?_) (fun hg => ?_) <;> (try simp (maxSteps := 2000000) (disch := first | omega | assumption | (simp only [DS, Nat.reduceAdd, *]; done) | (simp only [DZ]; omega)) only [RUN, RU, footA, feetIn, resultsA, tupOf, frzL, slot, lay, icyL, fillA, repCells, kR, reduceIte, Nat.reduceEqDiff, Nat.reduceBEq, Nat.reduceLT, Nat.reduceAdd, Nat.reduceLeDiff, Nat.reduceSub, Nat.reduceMul, Int.reduceLT, Int.reduceLE, Int.reduceEq, Int.reduceAdd, Int.reduceSub, Int.reduceMul, *])))
        rw [show (List.range out.length).all (End.mayAt ⟨ep, nx, out, want, since, owe⟩) = true by
            rw [List.all_eq_true]
            exact fun j hj => hall j (by have := List.mem_range.1 hj; omega)]
        rfl
end Go.Proofs.Ytbemomagabjbnaa
