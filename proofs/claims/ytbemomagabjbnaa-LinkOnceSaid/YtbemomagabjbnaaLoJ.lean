/-
  Pairs of ends; made.
-/
import Derived.Test.YtbemomagabjbnaaLoI
set_option linter.unusedSimpArgs false
set_option linter.unusedVariables false
set_option maxRecDepth 100000
namespace Go.Proofs.Ytbemomagabjbnaa
open Go Go.Ax
variable {fuel : Nat} {M : Mem} {Q : AV → Mem → Prop} {d : Nat}

/-- Two ends, what is under way to each, what was put, and what was told. -/
structure Pair where
  a : End
  b : End
  up : List Pk
  down : List Pk
  put : List UInt8
  told : List UInt8
  ok : Bool
def IsPair (v : AV) (x : Pair) : Prop := ∃ oa ob au ad ap at', v = .agg [I64 x.a.ep, I64 x.a.nx, oa, I64 x.a.want, I64 x.a.since, BL x.a.owe, I64 x.b.ep, I64 x.b.nx, ob, I64 x.b.want, I64 x.b.since, BL x.b.owe, au, ad, ap, at', BL x.ok] ∧
  Sl 2 isItem oa x.a.out ∧ Sl 2 isItem ob x.b.out ∧ Sl 4 isPkR au x.up ∧ Sl 4 isPkR ad x.down ∧ Bs ap x.put ∧ Bs at' x.told
def newE (n : Int) : End := ⟨n, 1, [], 1, 0, false⟩
def Pair.new (n : Int) : Pair := ⟨newE n, newE n, [], [], [], [], true⟩
theorem IsPair.new (n : Int) : IsPair (.agg [I64 n, I64 1, NIL, I64 1, I64 0, BL false, I64 n, I64 1, NIL, I64 1, I64 0, BL false, NIL, NIL, NIL, NIL, BL true]) (Pair.new n) :=
  ⟨NIL, NIL, NIL, NIL, NIL, NIL, rfl, .inl ⟨rfl, rfl⟩, .inl ⟨rfl, rfl⟩, .inl ⟨rfl, rfl⟩, .inl ⟨rfl, rfl⟩, .inl ⟨rfl, rfl⟩, .inl ⟨rfl, rfl⟩⟩

set_option maxHeartbeats 8000000 in
theorem made_run (n : Int) (h1 : 0 ≤ n) (h2 : n < 2147483648) (M : Mem) : callN Try.prog (fsT tbl) fuel (d + 3) (.fn 12) [I64 n] M = some (.agg [I64 n, I64 1, NIL, I64 1, I64 0, BL false, I64 n, I64 1, NIL, I64 1, I64 0, BL false, NIL, NIL, NIL, NIL, BL true], M) := by
  have hnew := fun M => @new_run fuel M d n
  have hf : from' n 0 2147483648 = true := by unfold from'; simp; omega
  simp only [hf, if_true] at hnew
  have q0 : decide ((0 : Int) = 0) = true := rfl
  apply w3_eq
  refine call_gc tf12 rfl (by simp (maxSteps := 2000000) (disch := first | omega | assumption | (simp only [DS, Nat.reduceAdd, *]; done) | (simp only [DZ]; omega)) only [RUN, RU, footA, feetIn, resultsA, tupOf, frzL, slot, lay, icyL, fillA, repCells, kR, reduceIte, Nat.reduceEqDiff, Nat.reduceBEq, Nat.reduceLT, Nat.reduceAdd, Nat.reduceLeDiff, Nat.reduceSub, Nat.reduceMul, Int.reduceLT, Int.reduceLE, Int.reduceEq, Int.reduceAdd, Int.reduceSub, Int.reduceMul]) (by simp [a12]) fun b ht hx => ?_
  have h0 := hx 0 _ rfl
  clear hx
  simp only [a12, c12] at ht ⊢
  simp (maxSteps := 2000000) (disch := first | omega | assumption | (simp only [DS, Nat.reduceAdd, *]; done) | (simp only [DZ]; omega)) only [RUN, RU, footA, feetIn, resultsA, tupOf, frzL, slot, lay, icyL, fillA, repCells, kR, reduceIte, Nat.reduceEqDiff, Nat.reduceBEq, Nat.reduceLT, Nat.reduceAdd, Nat.reduceLeDiff, Nat.reduceSub, Nat.reduceMul, Int.reduceLT, Int.reduceLE, Int.reduceEq, Int.reduceAdd, Int.reduceSub, Int.reduceMul, h0, hnew, q0]
end Go.Proofs.Ytbemomagabjbnaa
