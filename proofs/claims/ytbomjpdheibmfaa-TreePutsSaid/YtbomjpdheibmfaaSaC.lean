/-
  Ids: next, Has, At.
-/
import Derived.Test.YtbomjpdheibmfaaSaB
set_option linter.unusedSimpArgs false
set_option linter.unusedVariables false
set_option maxRecDepth 100000
namespace Go.Proofs.Ytbomjpdheibmfaa
open Go Go.Ax
variable {fuel : Nat} {M : Mem} {Q : AV → Mem → Prop} {d : Nat}
def Spn.at (s : Spn) (n : Int) : Eid := ⟨s.f.hd, s.f.c + n⟩
theorem next_run (x : Eid) (n : Int) (M : Mem) : callN Try.prog (fsT tbl) fuel (d + 1) (.fn 34) [idA x, I64 n] M = some (idA ⟨x.hd, IntKind.i64.wrap (x.c + n)⟩, M) := by
  apply w3_eq
  refine call_gc tf34 rfl (by simp (maxSteps := 2000000) (disch := first | omega | assumption | (simp only [DS, Nat.reduceAdd, *]; done) | (simp only [DZ]; omega)) only [RUN, RU, zD, zC, zB, zE, zG, slot, lay, zH, zF, zA, kR, reduceIte, Nat.reduceEqDiff, Nat.reduceBEq, Nat.reduceLT, Nat.reduceAdd, Nat.reduceLeDiff, Nat.reduceSub, Nat.reduceMul, Int.reduceLT, Int.reduceLE, Int.reduceEq, Int.reduceAdd, Int.reduceSub, Int.reduceMul]) (by simp [a34]) fun b' ht hx => ?_
  have h0 := hx 0 _ rfl
  have h1 := hx 1 _ rfl
  clear hx
  simp only [a34, c34] at ht ⊢
  simp (maxSteps := 2000000) (disch := first | omega | assumption | (simp only [DS, Nat.reduceAdd, *]; done) | (simp only [DZ]; omega)) only [RUN, RU, zD, zC, zB, zE, zG, slot, lay, zH, zF, zA, kR, reduceIte, Nat.reduceEqDiff, Nat.reduceBEq, Nat.reduceLT, Nat.reduceAdd, Nat.reduceLeDiff, Nat.reduceSub, Nat.reduceMul, Int.reduceLT, Int.reduceLE, Int.reduceEq, Int.reduceAdd, Int.reduceSub, Int.reduceMul, h0, h1]
def Spn.has (s : Spn) (x : Eid) : Option Int := if s.may = true ∧ x.hd = s.f.hd ∧ s.f.c ≤ x.c ∧ x.c < s.f.c + s.n then some (x.c - s.f.c) else none
theorem Spn.may_le {s : Spn} (h : s.may = true) : 1 ≤ s.f.c ∧ s.f.c ≤ 1099511627776 ∧ 1 ≤ s.n ∧ s.n ≤ 64 ∧ s.f.c + s.n ≤ 1099511627777 := by
  unfold Spn.may Eid.may at h
  simp only [Bool.and_eq_true, decide_eq_true_eq] at h
  omega
theorem ids_has (s : Spn) (x : Eid) (M : Mem) : callN Try.prog (fsT tbl) fuel (d + 5) (.fn 33) [spA s, idA x] M = some (.tup [I64 ((s.has x).getD 0), BL (s.has x).isSome], M) := by
  have hc := fun M => @cspan_run fuel d s M
  have hn := fun x n M => @next_run fuel (d + 3) x n M
  have pIdN := @pIdN
  apply w3_eq
  refine call_gc tf33 rfl (by simp (maxSteps := 2000000) (disch := first | omega | assumption | (simp only [DS, Nat.reduceAdd, *]; done) | (simp only [DZ]; omega)) only [RUN, RU, zD, zC, zB, zE, zG, slot, lay, zH, zF, zA, kR, reduceIte, Nat.reduceEqDiff, Nat.reduceBEq, Nat.reduceLT, Nat.reduceAdd, Nat.reduceLeDiff, Nat.reduceSub, Nat.reduceMul, Int.reduceLT, Int.reduceLE, Int.reduceEq, Int.reduceAdd, Int.reduceSub, Int.reduceMul]) (by simp [a33]) fun b' ht hx => ?_
  have h0 := hx 0 _ rfl
  have h1 := hx 1 _ rfl
  clear hx
  simp only [a33, c33] at ht ⊢
  cases hm : s.may with
  | false =>
    rw [hm] at hc
    have e : s.has x = none := by unfold Spn.has; rw [if_neg (by simp [hm])]
    simp (maxSteps := 2000000) (disch := first | omega | assumption | (simp only [DS, Nat.reduceAdd, *]; done) | (simp only [DZ]; omega)) only [RUN, RU, zD, zC, zB, zE, zG, slot, lay, zH, zF, zA, kR, reduceIte, Nat.reduceEqDiff, Nat.reduceBEq, Nat.reduceLT, Nat.reduceAdd, Nat.reduceLeDiff, Nat.reduceSub, Nat.reduceMul, Int.reduceLT, Int.reduceLE, Int.reduceEq, Int.reduceAdd, Int.reduceSub, Int.reduceMul, h0, h1, hc, err_f, z80, e, Option.getD_none, Option.isSome_none]
  | true =>
    rw [hm] at hc
    have hb := Spn.may_le hm
    generalize hw : IntKind.i64.wrap (x.c - s.f.c) = n at *
    by_cases q1 : n < 0
    · have e : s.has x = none := by
        unfold Spn.has
        rw [if_neg]
        rintro ⟨_, _, h1, h2⟩
        rw [wrap_i64 (by omega) (by omega)] at hw
        omega
      have q : decide (n < 0) = true := decide_eq_true q1
      simp (maxSteps := 2000000) (disch := first | omega | assumption | (simp only [DS, Nat.reduceAdd, *]; done) | (simp only [DZ]; omega)) only [RUN, RU, zD, zC, zB, zE, zG, slot, lay, zH, zF, zA, kR, reduceIte, Nat.reduceEqDiff, Nat.reduceBEq, Nat.reduceLT, Nat.reduceAdd, Nat.reduceLeDiff, Nat.reduceSub, Nat.reduceMul, Int.reduceLT, Int.reduceLE, Int.reduceEq, Int.reduceAdd, Int.reduceSub, Int.reduceMul, h0, h1, hc, err_t, z00, hw, q, e, Option.getD_none, Option.isSome_none]
    · by_cases q2 : s.n ≤ n
      · have e : s.has x = none := by
          unfold Spn.has
          rw [if_neg]
          rintro ⟨_, _, h1, h2⟩
          rw [wrap_i64 (by omega) (by omega)] at hw
          omega
        have q : decide (n < 0) = false := decide_eq_false q1
        have q' : decide (s.n ≤ n) = true := decide_eq_true q2
        simp (maxSteps := 2000000) (disch := first | omega | assumption | (simp only [DS, Nat.reduceAdd, *]; done) | (simp only [DZ]; omega)) only [RUN, RU, zD, zC, zB, zE, zG, slot, lay, zH, zF, zA, kR, reduceIte, Nat.reduceEqDiff, Nat.reduceBEq, Nat.reduceLT, Nat.reduceAdd, Nat.reduceLeDiff, Nat.reduceSub, Nat.reduceMul, Int.reduceLT, Int.reduceLE, Int.reduceEq, Int.reduceAdd, Int.reduceSub, Int.reduceMul, h0, h1, hc, err_t, z00, hw, q, q', e, Option.getD_none, Option.isSome_none]
      · have q : decide (n < 0) = false := decide_eq_false q1
        have q' : decide (s.n ≤ n) = false := decide_eq_false q2
        have w2 : IntKind.i64.wrap (s.f.c + n) = s.f.c + n := wrap_i64 (by omega) (by omega)
        by_cases q3 : x = ⟨s.f.hd, s.f.c + n⟩
        · have e : s.has x = some n := by
            unfold Spn.has
            rw [if_pos ⟨hm, by rw [q3], by rw [q3]; show s.f.c ≤ s.f.c + n; omega, by rw [q3]; show s.f.c + n < _; omega⟩, q3]
            congr 1
            show s.f.c + n - s.f.c = n
            omega
          have q4 : decide (x = ⟨s.f.hd, s.f.c + n⟩) = true := decide_eq_true q3
          simp (maxSteps := 2000000) (disch := first | omega | assumption | (simp only [DS, Nat.reduceAdd, *]; done) | (simp only [DZ]; omega)) only [RUN, RU, zD, zC, zB, zE, zG, slot, lay, zH, zF, zA, kR, reduceIte, Nat.reduceEqDiff, Nat.reduceBEq, Nat.reduceLT, Nat.reduceAdd, Nat.reduceLeDiff, Nat.reduceSub, Nat.reduceMul, Int.reduceLT, Int.reduceLE, Int.reduceEq, Int.reduceAdd, Int.reduceSub, Int.reduceMul, h0, h1, hc, err_t, z00, hw, q, q', hn, w2, ↓pIdN, peIdN_val, ETA, q4, e, Option.getD_some, Option.isSome_some]
        · have e : s.has x = none := by
            unfold Spn.has
            rw [if_neg]
            rintro ⟨_, h0, h1, h2⟩
            rw [wrap_i64 (by omega) (by omega)] at hw
            apply q3
            obtain ⟨xh, xc⟩ := x
            simp only at h0 hw ⊢
            rw [h0, ← hw]
            congr 1
            omega
          have q4 : decide (x = ⟨s.f.hd, s.f.c + n⟩) = false := decide_eq_false q3
          simp (maxSteps := 2000000) (disch := first | omega | assumption | (simp only [DS, Nat.reduceAdd, *]; done) | (simp only [DZ]; omega)) only [RUN, RU, zD, zC, zB, zE, zG, slot, lay, zH, zF, zA, kR, reduceIte, Nat.reduceEqDiff, Nat.reduceBEq, Nat.reduceLT, Nat.reduceAdd, Nat.reduceLeDiff, Nat.reduceSub, Nat.reduceMul, Int.reduceLT, Int.reduceLE, Int.reduceEq, Int.reduceAdd, Int.reduceSub, Int.reduceMul, h0, h1, hc, err_t, z00, hw, q, q', hn, w2, ↓pIdN, peIdN_val, ETA, q4, e, Option.getD_none, Option.isSome_none]
theorem ids_at (s : Spn) (n : Int) (M : Mem) : callN Try.prog (fsT tbl) fuel (d + 5) (.fn 17) [spA s, I64 n] M = some (if s.may then (if n < 0 ∨ s.n ≤ n then .tup [idA Eid.z, I64 2] else .tup [idA (s.at n), I64 0]) else .tup [idA Eid.z, I64 8], M) := by
  have hc := fun M => @cspan_run fuel d s M
  have hn := fun x n M => @next_run fuel (d + 3) x n M
  apply w3_eq
  refine call_gc tf17 rfl (by simp (maxSteps := 2000000) (disch := first | omega | assumption | (simp only [DS, Nat.reduceAdd, *]; done) | (simp only [DZ]; omega)) only [RUN, RU, zD, zC, zB, zE, zG, slot, lay, zH, zF, zA, kR, reduceIte, Nat.reduceEqDiff, Nat.reduceBEq, Nat.reduceLT, Nat.reduceAdd, Nat.reduceLeDiff, Nat.reduceSub, Nat.reduceMul, Int.reduceLT, Int.reduceLE, Int.reduceEq, Int.reduceAdd, Int.reduceSub, Int.reduceMul]) (by simp [a17]) fun b' ht hx => ?_
  have h0 := hx 0 _ rfl
  have h1 := hx 1 _ rfl
  clear hx
  simp only [a17, c17] at ht ⊢
  cases hm : s.may with
  | false =>
    rw [hm] at hc
    simp (maxSteps := 2000000) (disch := first | omega | assumption | (simp only [DS, Nat.reduceAdd, *]; done) | (simp only [DZ]; omega)) only [RUN, RU, zD, zC, zB, zE, zG, slot, lay, zH, zF, zA, kR, reduceIte, Nat.reduceEqDiff, Nat.reduceBEq, Nat.reduceLT, Nat.reduceAdd, Nat.reduceLeDiff, Nat.reduceSub, Nat.reduceMul, Int.reduceLT, Int.reduceLE, Int.reduceEq, Int.reduceAdd, Int.reduceSub, Int.reduceMul, h0, h1, hc, err_f, z80, Bool.false_eq_true, if_false]
  | true =>
    rw [hm] at hc
    have hb := Spn.may_le hm
    by_cases q1 : n < 0
    · have q : decide (n < 0) = true := decide_eq_true q1
      simp (maxSteps := 2000000) (disch := first | omega | assumption | (simp only [DS, Nat.reduceAdd, *]; done) | (simp only [DZ]; omega)) only [RUN, RU, zD, zC, zB, zE, zG, slot, lay, zH, zF, zA, kR, reduceIte, Nat.reduceEqDiff, Nat.reduceBEq, Nat.reduceLT, Nat.reduceAdd, Nat.reduceLeDiff, Nat.reduceSub, Nat.reduceMul, Int.reduceLT, Int.reduceLE, Int.reduceEq, Int.reduceAdd, Int.reduceSub, Int.reduceMul, h0, h1, hc, err_t, z00, q, q1, true_or, if_true]
    · have q : decide (n < 0) = false := decide_eq_false q1
      by_cases q2 : s.n ≤ n
      · have q' : decide (s.n ≤ n) = true := decide_eq_true q2
        simp (maxSteps := 2000000) (disch := first | omega | assumption | (simp only [DS, Nat.reduceAdd, *]; done) | (simp only [DZ]; omega)) only [RUN, RU, zD, zC, zB, zE, zG, slot, lay, zH, zF, zA, kR, reduceIte, Nat.reduceEqDiff, Nat.reduceBEq, Nat.reduceLT, Nat.reduceAdd, Nat.reduceLeDiff, Nat.reduceSub, Nat.reduceMul, Int.reduceLT, Int.reduceLE, Int.reduceEq, Int.reduceAdd, Int.reduceSub, Int.reduceMul, h0, h1, hc, err_t, z00, q, q', q1, q2, or_true, if_true]
      · have q' : decide (s.n ≤ n) = false := decide_eq_false q2
        have w2 : IntKind.i64.wrap (s.f.c + n) = s.f.c + n := wrap_i64 (by omega) (by omega)
        unfold Spn.at
        simp (maxSteps := 2000000) (disch := first | omega | assumption | (simp only [DS, Nat.reduceAdd, *]; done) | (simp only [DZ]; omega)) only [RUN, RU, zD, zC, zB, zE, zG, slot, lay, zH, zF, zA, kR, reduceIte, Nat.reduceEqDiff, Nat.reduceBEq, Nat.reduceLT, Nat.reduceAdd, Nat.reduceLeDiff, Nat.reduceSub, Nat.reduceMul, Int.reduceLT, Int.reduceLE, Int.reduceEq, Int.reduceAdd, Int.reduceSub, Int.reduceMul, h0, h1, hc, err_t, z00, q, q', q1, q2, or_self, if_true, if_false, hn, w2]
end Go.Proofs.Ytbomjpdheibmfaa
