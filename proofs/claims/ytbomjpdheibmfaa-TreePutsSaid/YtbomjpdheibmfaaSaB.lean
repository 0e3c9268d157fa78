/-
  Labels and ids: Leq, Check, CheckHandle, CheckSpan.
-/
import Derived.Test.YtbomjpdheibmfaaSaA
set_option linter.unusedSimpArgs false
set_option linter.unusedVariables false
set_option maxRecDepth 100000
namespace Go.Proofs.Ytbomjpdheibmfaa
open Go Go.Ax
variable {fuel : Nat} {M : Mem} {Q : AV → Mem → Prop} {d : Nat}
def lacks (a b : Int) : Int := IntKind.u32.wrap ((BitVec.ofInt 32 a &&& ~~~ BitVec.ofInt 32 b).toNat : Nat)
def Lb.leq (a b : Lb) : Bool := decide (a.lv ≤ b.lv) && decide (lacks a.cats b.cats = 0)
def Lb.may (a : Lb) : Bool := !decide (15 < a.lv)
def Hd.may (h : Hd) : Bool := h.lb.may && decide (h.num < 8)
def Eid.may (x : Eid) : Bool := x.hd.may && decide (1 ≤ x.c) && decide (x.c ≤ 1099511627776)
def Spn.may (s : Spn) : Bool := s.f.may && decide (1 ≤ s.n) && decide (s.n ≤ 64) && decide (s.f.c + s.n ≤ 1099511627777)
def err (b : Bool) : Int := if b then 0 else 8
theorem err_t : err true = 0 := rfl
theorem err_f : err false = 8 := rfl
theorem lcheck_run (a : Lb) (M : Mem) : callN Try.prog (fsT tbl) fuel (d + 1) (.fn 58) [lbA a] M = some (I64 (err a.may), M) := by
  apply w3_eq
  refine call_gc tf58 rfl (by simp (maxSteps := 2000000) (disch := first | omega | assumption | (simp only [DS, Nat.reduceAdd, *]; done) | (simp only [DZ]; omega)) only [RUN, RU, zD, zC, zB, zE, zG, slot, lay, zH, zF, zA, kR, reduceIte, Nat.reduceEqDiff, Nat.reduceBEq, Nat.reduceLT, Nat.reduceAdd, Nat.reduceLeDiff, Nat.reduceSub, Nat.reduceMul, Int.reduceLT, Int.reduceLE, Int.reduceEq, Int.reduceAdd, Int.reduceSub, Int.reduceMul]) (by simp [a58]) fun b' ht hx => ?_
  have h0 := hx 0 _ rfl
  clear hx
  simp only [a58, c58] at ht ⊢
  unfold Lb.may
  cases q : decide (15 < a.lv) <;> simp (maxSteps := 2000000) (disch := first | omega | assumption | (simp only [DS, Nat.reduceAdd, *]; done) | (simp only [DZ]; omega)) only [RUN, RU, zD, zC, zB, zE, zG, slot, lay, zH, zF, zA, kR, reduceIte, Nat.reduceEqDiff, Nat.reduceBEq, Nat.reduceLT, Nat.reduceAdd, Nat.reduceLeDiff, Nat.reduceSub, Nat.reduceMul, Int.reduceLT, Int.reduceLE, Int.reduceEq, Int.reduceAdd, Int.reduceSub, Int.reduceMul, h0, q, err_t, err_f]
theorem right_run (b : Bool) (M : Mem) : callN Try.prog (fsT tbl) fuel (d + 1) (.fn 46) [BL b] M = some (I64 (err b), M) := by
  apply w3_eq
  refine call_gc tf46 rfl (by simp (maxSteps := 2000000) (disch := first | omega | assumption | (simp only [DS, Nat.reduceAdd, *]; done) | (simp only [DZ]; omega)) only [RUN, RU, zD, zC, zB, zE, zG, slot, lay, zH, zF, zA, kR, reduceIte, Nat.reduceEqDiff, Nat.reduceBEq, Nat.reduceLT, Nat.reduceAdd, Nat.reduceLeDiff, Nat.reduceSub, Nat.reduceMul, Int.reduceLT, Int.reduceLE, Int.reduceEq, Int.reduceAdd, Int.reduceSub, Int.reduceMul]) (by simp [a46]) fun b' ht hx => ?_
  have h0 := hx 0 _ rfl
  clear hx
  simp only [a46, c46] at ht ⊢
  cases b <;> simp (maxSteps := 2000000) (disch := first | omega | assumption | (simp only [DS, Nat.reduceAdd, *]; done) | (simp only [DZ]; omega)) only [RUN, RU, zD, zC, zB, zE, zG, slot, lay, zH, zF, zA, kR, reduceIte, Nat.reduceEqDiff, Nat.reduceBEq, Nat.reduceLT, Nat.reduceAdd, Nat.reduceLeDiff, Nat.reduceSub, Nat.reduceMul, Int.reduceLT, Int.reduceLE, Int.reduceEq, Int.reduceAdd, Int.reduceSub, Int.reduceMul, h0, err_t, err_f]
theorem z00 : decide ((0 : Int) = 0) = true := rfl
theorem z80 : decide ((8 : Int) = 0) = false := rfl
theorem chandle_run (h : Hd) (M : Mem) : callN Try.prog (fsT tbl) fuel (d + 2) (.fn 47) [hdA h] M = some (I64 (err h.may), M) := by
  have hl := fun M => @lcheck_run fuel d h.lb M
  have hr := fun b M => @right_run fuel d b M
  apply w3_eq
  refine call_gc tf47 rfl (by simp (maxSteps := 2000000) (disch := first | omega | assumption | (simp only [DS, Nat.reduceAdd, *]; done) | (simp only [DZ]; omega)) only [RUN, RU, zD, zC, zB, zE, zG, slot, lay, zH, zF, zA, kR, reduceIte, Nat.reduceEqDiff, Nat.reduceBEq, Nat.reduceLT, Nat.reduceAdd, Nat.reduceLeDiff, Nat.reduceSub, Nat.reduceMul, Int.reduceLT, Int.reduceLE, Int.reduceEq, Int.reduceAdd, Int.reduceSub, Int.reduceMul]) (by simp [a47]) fun b' ht hx => ?_
  have h0 := hx 0 _ rfl
  clear hx
  simp only [a47, c47] at ht ⊢
  unfold Hd.may
  cases hm : h.lb.may <;> rw [hm] at hl
  · simp (maxSteps := 2000000) (disch := first | omega | assumption | (simp only [DS, Nat.reduceAdd, *]; done) | (simp only [DZ]; omega)) only [RUN, RU, zD, zC, zB, zE, zG, slot, lay, zH, zF, zA, kR, reduceIte, Nat.reduceEqDiff, Nat.reduceBEq, Nat.reduceLT, Nat.reduceAdd, Nat.reduceLeDiff, Nat.reduceSub, Nat.reduceMul, Int.reduceLT, Int.reduceLE, Int.reduceEq, Int.reduceAdd, Int.reduceSub, Int.reduceMul, h0, hl, hr, err_f, z80, Bool.false_and]
  · simp (maxSteps := 2000000) (disch := first | omega | assumption | (simp only [DS, Nat.reduceAdd, *]; done) | (simp only [DZ]; omega)) only [RUN, RU, zD, zC, zB, zE, zG, slot, lay, zH, zF, zA, kR, reduceIte, Nat.reduceEqDiff, Nat.reduceBEq, Nat.reduceLT, Nat.reduceAdd, Nat.reduceLeDiff, Nat.reduceSub, Nat.reduceMul, Int.reduceLT, Int.reduceLE, Int.reduceEq, Int.reduceAdd, Int.reduceSub, Int.reduceMul, h0, hl, hr, err_t, z00]
theorem cid_run (x : Eid) (M : Mem) : callN Try.prog (fsT tbl) fuel (d + 3) (.fn 30) [idA x] M = some (I64 (err x.may), M) := by
  have hl := fun M => @chandle_run fuel d x.hd M
  have hr := fun b M => @right_run fuel (d + 1) b M
  apply w3_eq
  refine call_gc tf30 rfl (by simp (maxSteps := 2000000) (disch := first | omega | assumption | (simp only [DS, Nat.reduceAdd, *]; done) | (simp only [DZ]; omega)) only [RUN, RU, zD, zC, zB, zE, zG, slot, lay, zH, zF, zA, kR, reduceIte, Nat.reduceEqDiff, Nat.reduceBEq, Nat.reduceLT, Nat.reduceAdd, Nat.reduceLeDiff, Nat.reduceSub, Nat.reduceMul, Int.reduceLT, Int.reduceLE, Int.reduceEq, Int.reduceAdd, Int.reduceSub, Int.reduceMul]) (by simp [a30]) fun b' ht hx => ?_
  have h0 := hx 0 _ rfl
  clear hx
  simp only [a30, c30] at ht ⊢
  unfold Eid.may
  cases hm : x.hd.may <;> rw [hm] at hl
  · simp (maxSteps := 2000000) (disch := first | omega | assumption | (simp only [DS, Nat.reduceAdd, *]; done) | (simp only [DZ]; omega)) only [RUN, RU, zD, zC, zB, zE, zG, slot, lay, zH, zF, zA, kR, reduceIte, Nat.reduceEqDiff, Nat.reduceBEq, Nat.reduceLT, Nat.reduceAdd, Nat.reduceLeDiff, Nat.reduceSub, Nat.reduceMul, Int.reduceLT, Int.reduceLE, Int.reduceEq, Int.reduceAdd, Int.reduceSub, Int.reduceMul, h0, hl, hr, err_f, z80, Bool.false_and]
  · cases q : decide (1 ≤ x.c)
    · simp (maxSteps := 2000000) (disch := first | omega | assumption | (simp only [DS, Nat.reduceAdd, *]; done) | (simp only [DZ]; omega)) only [RUN, RU, zD, zC, zB, zE, zG, slot, lay, zH, zF, zA, kR, reduceIte, Nat.reduceEqDiff, Nat.reduceBEq, Nat.reduceLT, Nat.reduceAdd, Nat.reduceLeDiff, Nat.reduceSub, Nat.reduceMul, Int.reduceLT, Int.reduceLE, Int.reduceEq, Int.reduceAdd, Int.reduceSub, Int.reduceMul, h0, hl, hr, err_t, z00, q, Bool.false_and]
    · simp (maxSteps := 2000000) (disch := first | omega | assumption | (simp only [DS, Nat.reduceAdd, *]; done) | (simp only [DZ]; omega)) only [RUN, RU, zD, zC, zB, zE, zG, slot, lay, zH, zF, zA, kR, reduceIte, Nat.reduceEqDiff, Nat.reduceBEq, Nat.reduceLT, Nat.reduceAdd, Nat.reduceLeDiff, Nat.reduceSub, Nat.reduceMul, Int.reduceLT, Int.reduceLE, Int.reduceEq, Int.reduceAdd, Int.reduceSub, Int.reduceMul, h0, hl, hr, err_t, z00, q]
theorem cspan_run (s : Spn) (M : Mem) : callN Try.prog (fsT tbl) fuel (d + 4) (.fn 31) [spA s] M = some (I64 (err s.may), M) := by
  have hl := fun M => @cid_run fuel d s.f M
  have hr := fun b M => @right_run fuel (d + 2) b M
  apply w3_eq
  refine call_gc tf31 rfl (by simp (maxSteps := 2000000) (disch := first | omega | assumption | (simp only [DS, Nat.reduceAdd, *]; done) | (simp only [DZ]; omega)) only [RUN, RU, zD, zC, zB, zE, zG, slot, lay, zH, zF, zA, kR, reduceIte, Nat.reduceEqDiff, Nat.reduceBEq, Nat.reduceLT, Nat.reduceAdd, Nat.reduceLeDiff, Nat.reduceSub, Nat.reduceMul, Int.reduceLT, Int.reduceLE, Int.reduceEq, Int.reduceAdd, Int.reduceSub, Int.reduceMul]) (by simp [a31]) fun b' ht hx => ?_
  have h0 := hx 0 _ rfl
  clear hx
  simp only [a31, c31] at ht ⊢
  unfold Spn.may
  cases hm : s.f.may <;> rw [hm] at hl
  · simp (maxSteps := 2000000) (disch := first | omega | assumption | (simp only [DS, Nat.reduceAdd, *]; done) | (simp only [DZ]; omega)) only [RUN, RU, zD, zC, zB, zE, zG, slot, lay, zH, zF, zA, kR, reduceIte, Nat.reduceEqDiff, Nat.reduceBEq, Nat.reduceLT, Nat.reduceAdd, Nat.reduceLeDiff, Nat.reduceSub, Nat.reduceMul, Int.reduceLT, Int.reduceLE, Int.reduceEq, Int.reduceAdd, Int.reduceSub, Int.reduceMul, h0, hl, hr, err_f, z80, Bool.false_and]
  · cases q1 : decide (1 ≤ s.n)
    · simp (maxSteps := 2000000) (disch := first | omega | assumption | (simp only [DS, Nat.reduceAdd, *]; done) | (simp only [DZ]; omega)) only [RUN, RU, zD, zC, zB, zE, zG, slot, lay, zH, zF, zA, kR, reduceIte, Nat.reduceEqDiff, Nat.reduceBEq, Nat.reduceLT, Nat.reduceAdd, Nat.reduceLeDiff, Nat.reduceSub, Nat.reduceMul, Int.reduceLT, Int.reduceLE, Int.reduceEq, Int.reduceAdd, Int.reduceSub, Int.reduceMul, h0, hl, hr, err_t, z00, q1, Bool.false_and]
    · cases q2 : decide (s.n ≤ 64)
      · simp (maxSteps := 2000000) (disch := first | omega | assumption | (simp only [DS, Nat.reduceAdd, *]; done) | (simp only [DZ]; omega)) only [RUN, RU, zD, zC, zB, zE, zG, slot, lay, zH, zF, zA, kR, reduceIte, Nat.reduceEqDiff, Nat.reduceBEq, Nat.reduceLT, Nat.reduceAdd, Nat.reduceLeDiff, Nat.reduceSub, Nat.reduceMul, Int.reduceLT, Int.reduceLE, Int.reduceEq, Int.reduceAdd, Int.reduceSub, Int.reduceMul, h0, hl, hr, err_t, z00, q1, q2, Bool.false_and]
      · have w : IntKind.i64.wrap (IntKind.i64.wrap (s.f.c + s.n) - 1) = s.f.c + s.n - 1 := by
          unfold Eid.may at hm
          simp only [Bool.and_eq_true, decide_eq_true_eq] at hm q1 q2
          rw [wrap_i64 (n := s.f.c + s.n) (by omega) (by omega), wrap_i64 (by omega) (by omega)]
        have q3 : decide (s.f.c + s.n - 1 ≤ 1099511627776) = decide (s.f.c + s.n ≤ 1099511627777) := by
          rw [Bool.eq_iff_iff, decide_eq_true_iff, decide_eq_true_iff]; omega
        simp (maxSteps := 2000000) (disch := first | omega | assumption | (simp only [DS, Nat.reduceAdd, *]; done) | (simp only [DZ]; omega)) only [RUN, RU, zD, zC, zB, zE, zG, slot, lay, zH, zF, zA, kR, reduceIte, Nat.reduceEqDiff, Nat.reduceBEq, Nat.reduceLT, Nat.reduceAdd, Nat.reduceLeDiff, Nat.reduceSub, Nat.reduceMul, Int.reduceLT, Int.reduceLE, Int.reduceEq, Int.reduceAdd, Int.reduceSub, Int.reduceMul, h0, hl, hr, err_t, z00, q1, q2, w, q3]
end Go.Proofs.Ytbomjpdheibmfaa
