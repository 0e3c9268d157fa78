/-
  link: CheckPacket.
-/
import Derived.Test.YtbemomagabjbnaaLkA
set_option linter.unusedSimpArgs false
set_option linter.unusedVariables false
set_option maxRecDepth 100000
namespace Go.Proofs.Ytbemomagabjbnaa
open Go Go.Ax
variable {fuel : Nat} {M : Mem} {Q : AV → Mem → Prop} {d : Nat}

structure Pk where
  ep : Int
  seq : Int
  ack : Int
  body : List UInt8
def IsPk (a : AV) (p : Pk) : Prop := ∃ o, a = .agg [I64 p.ep, I64 p.seq, I64 p.ack, o] ∧ Bs o p.body
def isPkR (r : List AV) (p : Pk) : Prop := ∃ o, r = [I64 p.ep, I64 p.seq, I64 p.ack, o] ∧ Bs o p.body
def Pk.may (p : Pk) : Bool := from' p.ep 0 2147483648 && from' p.seq 0 16777216 && from' p.ack 0 16777216 && decide (p.body.length ≤ 900) && !(decide (p.seq = 0) && decide (0 < p.body.length))
theorem IsPk.icy {a : AV} {p : Pk} (h : IsPk a p) (M : Mem) : icyL (icy 12) M [a] = some ([a], M) := by
  obtain ⟨o, rfl, hb⟩ := h
  simp (maxSteps := 2000000) (disch := first | omega | assumption | (simp only [DS, Nat.reduceAdd, *]; done) | (simp only [DZ]; omega)) only [RUN, RU, footA, feetIn, resultsA, tupOf, frzL, slot, lay, icyL, fillA, repCells, kR, reduceIte, Nat.reduceEqDiff, Nat.reduceBEq, Nat.reduceLT, Nat.reduceAdd, Nat.reduceLeDiff, Nat.reduceSub, Nat.reduceMul, Int.reduceLT, Int.reduceLE, Int.reduceEq, Int.reduceAdd, Int.reduceSub, Int.reduceMul, hb.icy]

set_option maxHeartbeats 8000000 in
theorem pk_check {a : AV} {p : Pk} (h : IsPk a p) (hl : p.body.length ≤ 1000000000) (M : Mem) : callN Try.prog (fsT tbl) fuel (d + 2) (.fn 20) [a] M = some (I64 (if p.may then 0 else 8), M) := by
  have ic := h.icy
  obtain ⟨o, rfl, hb⟩ := h
  obtain ⟨e, s, k, body⟩ := p
  simp only at hb hl ic ⊢
  have hlen := hb.len
  have ro := hb.rows mem0
  have hfr := fun a b c M => @from_run Try.prog fuel M d a b c
  apply w3_eq
  refine call_gc tf20 rfl (ic M) (by simp [a20]) fun b ht hx => ?_
  have h0 := hx 0 _ rfl
  clear hx
  simp only [a20, c20] at ht ⊢
  unfold Pk.may
  simp only
  (simp (maxSteps := 2000000) (disch := first | omega | assumption | (simp only [DS, Nat.reduceAdd, *]; done) | (simp only [DZ]; omega)) only [RUN, RU, footA, feetIn, resultsA, tupOf, frzL, slot, lay, icyL, fillA, repCells, kR, reduceIte, Nat.reduceEqDiff, Nat.reduceBEq, Nat.reduceLT, Nat.reduceAdd, Nat.reduceLeDiff, Nat.reduceSub, Nat.reduceMul, Int.reduceLT, Int.reduceLE, Int.reduceEq, Int.reduceAdd, Int.reduceSub, Int.reduceMul, h0, hlen, hfr, hb.one, hb.cells, ro, *])
  repeat' (first | (refine grd_split _ _ _ _ _ _ _ (fun hg => ?_) (fun hg => ?_) <;> (try simp (maxSteps := 2000000) (disch := first | omega | assumption | (simp only [DS, Nat.reduceAdd, *]; done) | (simp only [DZ]; omega)) only [RUN, RU, footA, feetIn, resultsA, tupOf, frzL, slot, lay, icyL, fillA, repCells, kR, reduceIte, Nat.reduceEqDiff, Nat.reduceBEq, Nat.reduceLT, Nat.reduceAdd, Nat.reduceLeDiff, Nat.reduceSub, Nat.reduceMul, Int.reduceLT, Int.reduceLE, Int.reduceEq, Int.reduceAdd, Int.reduceSub, Int.reduceMul, h0, hlen, hfr, hb.one, hb.cells, ro, *])) | (refine cnd_split (fun hg => ?_) (fun hg => ?_) <;> (try simp (maxSteps := 2000000) (disch := first | omega | assumption | (simp only [DS, Nat.reduceAdd, *]; done) | (simp only [DZ]; omega)) only [RUN, RU, footA, feetIn, resultsA, tupOf, frzL, slot, lay, icyL, fillA, repCells, kR, reduceIte, Nat.reduceEqDiff, Nat.reduceBEq, Nat.reduceLT, Nat.reduceAdd, Nat.reduceLeDiff, Nat.reduceSub, Nat.reduceMul, Int.reduceLT, Int.reduceLE, Int.reduceEq, Int.reduceAdd, Int.reduceSub, Int.reduceMul, h0, hlen, hfr, hb.one, hb.cells, ro, *])) | (refine gdd_split _ _ _ _ _ _ _ _ (fun hg => ?_) (fun hg => ?_) <;> (try simp (maxSteps := 2000000) (disch := first | omega | assumption | (simp only [DS, Nat.reduceAdd, *]; done) | (simp only [DZ]; omega)) only [RUN, RU, footA, feetIn, resultsA, tupOf, frzL, slot, lay, icyL, fillA, repCells, kR, reduceIte, Nat.reduceEqDiff, Nat.reduceBEq, Nat.reduceLT, Nat.reduceAdd, Nat.reduceLeDiff, Nat.reduceSub, Nat.reduceMul, Int.reduceLT, Int.reduceLE, Int.reduceEq, Int.reduceAdd, Int.reduceSub, Int.reduceMul, h0, hlen, hfr, hb.one, hb.cells, ro, *])))
  all_goals clear ic hlen hfr ro hb ht h0
  all_goals simp only [Bool.not_true, Bool.not_false, Bool.not_eq_false', Bool.not_eq_true', decide_eq_true_eq, decide_eq_false_iff_not] at *
  all_goals first | (have h9 : decide (body.length ≤ 900) = true := decide_eq_true (by omega)) | (have h9 : decide (body.length ≤ 900) = false := decide_eq_false (by omega)) | skip
  all_goals first | (have h8 : decide (0 < body.length) = true := decide_eq_true (by omega)) | (have h8 : decide (0 < body.length) = false := decide_eq_false (by omega)) | skip
  all_goals (simp [*])
theorem Pk.may_iff (p : Pk) : p.may = true ↔ (0 ≤ p.ep ∧ p.ep < 2147483648) ∧ (0 ≤ p.seq ∧ p.seq < 16777216) ∧ (0 ≤ p.ack ∧ p.ack < 16777216) ∧ p.body.length ≤ 900 ∧ (p.seq = 0 → p.body.length = 0) := by
  unfold Pk.may from'
  simp only [Bool.and_eq_true, decide_eq_true_eq, Bool.not_eq_true', Bool.and_eq_false_iff, decide_eq_false_iff_not]
  constructor
  · rintro ⟨⟨⟨⟨⟨h1, h2⟩, h3, h4⟩, h5, h6⟩, h7⟩, h8⟩
    exact ⟨⟨h1, h2⟩, ⟨h3, h4⟩, ⟨h5, h6⟩, h7, fun h => by omega⟩
  · rintro ⟨⟨h1, h2⟩, ⟨h3, h4⟩, ⟨h5, h6⟩, h7, h8⟩
    refine ⟨⟨⟨⟨⟨h1, h2⟩, h3, h4⟩, h5, h6⟩, h7⟩, ?_⟩
    by_cases h : p.seq = 0
    · right; have := h8 h; omega
    · exact .inl h
end Go.Proofs.Ytbemomagabjbnaa
