/-
  link: small contracts.
-/
import Derived.Test.YtbemomagabjbnaaTb
set_option linter.unusedSimpArgs false
set_option linter.unusedVariables false
set_option maxRecDepth 100000
namespace Go.Proofs.Ytbemomagabjbnaa
open Go Go.Ax
variable {P : Program} {fuel : Nat} {M : Mem} {Q : AV → Mem → Prop} {d : Nat}

structure Item where
  seq : Int
  body : List UInt8
structure End where
  ep : Int
  nx : Int
  out : List Item
  want : Int
  since : Int
  owe : Bool
def isItem (r : List AV) (x : Item) : Prop := ∃ a, r = [I64 x.seq, a] ∧ Bs a x.body
def IsEnd (a : AV) (e : End) : Prop := ∃ o, a = .agg [I64 e.ep, I64 e.nx, o, I64 e.want, I64 e.since, BL e.owe] ∧ Sl 2 isItem o e.out

def from' (a b c : Int) : Bool := decide (b ≤ a) && decide (a < c)
/-- May it be? -/
def End.may (e : End) : Bool :=
  from' e.ep 0 2147483648 && from' e.nx 1 16777216 && from' e.want 1 16777216 && decide (e.out.length ≤ 32) && from' e.since 0 3 && !(decide (e.out.length = 0) && decide (0 < e.since)) &&
    (List.range e.out.length).all fun i => match e.out[i]? with
      | some x => decide (1 ≤ x.seq) && decide (x.seq = e.nx - e.out.length + i) && decide (x.body.length ≤ 900)
      | none => true

theorem from_run (a b c : Int) : callN P (fsT tbl) fuel (d + 1) (.fn 28) [I64 a, I64 b, I64 c] M = some (BL (from' a b c), M) := by
  apply w3_eq
  refine call_gc (tf28) rfl (by simp (maxSteps := 2000000) (disch := first | omega | assumption | (simp only [DS, Nat.reduceAdd, *]; done) | (simp only [DZ]; omega)) only [RUN, RU, footA, feetIn, resultsA, tupOf, frzL, slot, lay, icyL, fillA, repCells, kR, reduceIte, Nat.reduceEqDiff, Nat.reduceBEq, Nat.reduceLT, Nat.reduceAdd, Nat.reduceLeDiff, Nat.reduceSub, Nat.reduceMul, Int.reduceLT, Int.reduceLE, Int.reduceEq, Int.reduceAdd, Int.reduceSub, Int.reduceMul]) (by simp [a28]) fun b ht hx => ?_
  have h0 := hx 0 _ rfl
  have h1 := hx 1 _ rfl
  have h2 := hx 2 _ rfl
  clear hx
  simp only [a28, c28] at ht ⊢
  unfold from'
  simp (maxSteps := 2000000) (disch := first | omega | assumption | (simp only [DS, Nat.reduceAdd, *]; done) | (simp only [DZ]; omega)) only [RUN, RU, footA, feetIn, resultsA, tupOf, frzL, slot, lay, icyL, fillA, repCells, kR, reduceIte, Nat.reduceEqDiff, Nat.reduceBEq, Nat.reduceLT, Nat.reduceAdd, Nat.reduceLeDiff, Nat.reduceSub, Nat.reduceMul, Int.reduceLT, Int.reduceLE, Int.reduceEq, Int.reduceAdd, Int.reduceSub, Int.reduceMul, h0, h1, h2]
  refine grd_split _ _ _ _ _ _ _ (fun hg => ?_) (fun hg => ?_)
  · simp (maxSteps := 2000000) (disch := first | omega | assumption | (simp only [DS, Nat.reduceAdd, *]; done) | (simp only [DZ]; omega)) only [RUN, RU, footA, feetIn, resultsA, tupOf, frzL, slot, lay, icyL, fillA, repCells, kR, reduceIte, Nat.reduceEqDiff, Nat.reduceBEq, Nat.reduceLT, Nat.reduceAdd, Nat.reduceLeDiff, Nat.reduceSub, Nat.reduceMul, Int.reduceLT, Int.reduceLE, Int.reduceEq, Int.reduceAdd, Int.reduceSub, Int.reduceMul, h0, h1, h2, hg]
  · simp (maxSteps := 2000000) (disch := first | omega | assumption | (simp only [DS, Nat.reduceAdd, *]; done) | (simp only [DZ]; omega)) only [RUN, RU, footA, feetIn, resultsA, tupOf, frzL, slot, lay, icyL, fillA, repCells, kR, reduceIte, Nat.reduceEqDiff, Nat.reduceBEq, Nat.reduceLT, Nat.reduceAdd, Nat.reduceLeDiff, Nat.reduceSub, Nat.reduceMul, Int.reduceLT, Int.reduceLE, Int.reduceEq, Int.reduceAdd, Int.reduceSub, Int.reduceMul, h0, h1, h2, hg, Bool.false_and]
end Go.Proofs.Ytbemomagabjbnaa
