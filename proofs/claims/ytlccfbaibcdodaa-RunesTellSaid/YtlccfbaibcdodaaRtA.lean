/-
  The reference for runes: Is, six, Bytes, head, first.
-/
import Derived.Test.YtlccfbaibcdodaaRnL
set_option linter.unusedSimpArgs false
set_option linter.unusedVariables false
set_option maxRecDepth 100000
namespace Go.Proofs.Ytlccfbaibcdodaa
open Go Go.Ax
variable {fuel : Nat} {M : Mem} {Q : AV → Mem → Prop} {d : Nat}

theorem is_run (x : Int) : callN Try.prog (fsT tbl) fuel (d + 1) (.fn 33) [I64 x] M = some (BL (valid x), M) := by
  apply w3_eq
  refine call_gc tf33 rfl (by simp (maxSteps := 2000000) (disch := first | omega | assumption | (simp only [DS, Nat.reduceAdd, *]; done) | (simp only [DZ]; omega)) only [RUN, RU, footA, feetIn, resultsA, tupOf, frzL, slot, lay, icyL, fillA, repCells, kR, reduceIte, Nat.reduceEqDiff, Nat.reduceBEq, Nat.reduceLT, Nat.reduceAdd, Nat.reduceLeDiff, Nat.reduceSub, Nat.reduceMul, Int.reduceLT, Int.reduceLE, Int.reduceEq, Int.reduceAdd, Int.reduceSub, Int.reduceMul]) (by simp [a33]) fun b ht hx => ?_
  have h0 := hx 0 _ rfl
  clear hx
  simp only [a33, c33] at ht ⊢
  have key : valid x = (decide (0 ≤ x) && decide (x ≤ 1114111) && (decide (x < 55296) || decide (57343 < x))) := by
    unfold valid
    by_cases h1 : 0 ≤ x <;> by_cases h2 : x ≤ 1114111 <;> by_cases h3 : x < 55296 <;> by_cases h4 : 57343 < x <;> simp [h1, h2, h3, h4] <;> omega
  rw [key]
  (simp (maxSteps := 2000000) (disch := first | omega | assumption | (simp only [DS, Nat.reduceAdd, *]; done) | (simp only [DZ]; omega)) only [RUN, RU, footA, feetIn, resultsA, tupOf, frzL, slot, lay, icyL, fillA, repCells, kR, reduceIte, Nat.reduceEqDiff, Nat.reduceBEq, Nat.reduceLT, Nat.reduceAdd, Nat.reduceLeDiff, Nat.reduceSub, Nat.reduceMul, Int.reduceLT, Int.reduceLE, Int.reduceEq, Int.reduceAdd, Int.reduceSub, Int.reduceMul, *])
  repeat' (first | (refine grd_split _ _ _ _ _ _ _ (fun hg => ?_) (fun hg => ?_) <;> (try simp (maxSteps := 2000000) (disch := first | omega | assumption | (simp only [DS, Nat.reduceAdd, *]; done) | (simp only [DZ]; omega)) only [RUN, RU, footA, feetIn, resultsA, tupOf, frzL, slot, lay, icyL, fillA, repCells, kR, reduceIte, Nat.reduceEqDiff, Nat.reduceBEq, Nat.reduceLT, Nat.reduceAdd, Nat.reduceLeDiff, Nat.reduceSub, Nat.reduceMul, Int.reduceLT, Int.reduceLE, Int.reduceEq, Int.reduceAdd, Int.reduceSub, Int.reduceMul, *])) | (refine cnd_split (fun hg => ?_) (fun hg => ?_) <;> (try simp (maxSteps := 2000000) (disch := first | omega | assumption | (simp only [DS, Nat.reduceAdd, *]; done) | (simp only [DZ]; omega)) only [RUN, RU, footA, feetIn, resultsA, tupOf, frzL, slot, lay, icyL, fillA, repCells, kR, reduceIte, Nat.reduceEqDiff, Nat.reduceBEq, Nat.reduceLT, Nat.reduceAdd, Nat.reduceLeDiff, Nat.reduceSub, Nat.reduceMul, Int.reduceLT, Int.reduceLE, Int.reduceEq, Int.reduceAdd, Int.reduceSub, Int.reduceMul, *])) | (refine gdd_split _ _ _ _ _ _ _ _ (fun hg => ?_) (fun hg => ?_) <;> (try simp (maxSteps := 2000000) (disch := first | omega | assumption | (simp only [DS, Nat.reduceAdd, *]; done) | (simp only [DZ]; omega)) only [RUN, RU, footA, feetIn, resultsA, tupOf, frzL, slot, lay, icyL, fillA, repCells, kR, reduceIte, Nat.reduceEqDiff, Nat.reduceBEq, Nat.reduceLT, Nat.reduceAdd, Nat.reduceLeDiff, Nat.reduceSub, Nat.reduceMul, Int.reduceLT, Int.reduceLE, Int.reduceEq, Int.reduceAdd, Int.reduceSub, Int.reduceMul, *])))
  all_goals simp_all
/-- A number, divided so often by 64. -/
def div64 (n : Nat) : Nat → Nat
  | 0 => n
  | k + 1 => div64 n k / 64
theorem six_run (n up : Nat) (hu : up < 10) (hf : 1000 < fuel) (hn : n < 9223372036854775808) (M : Mem) : callN Try.prog (fsT tbl) fuel (d + 1) (.fn 42) [I64 n, I64 up] M = some (U8 (128 + div64 n up % 64 : Nat), M) := by
  have hd : ∀ k, div64 n k ≤ n := fun k => by
    induction k with
    | zero => exact Nat.le_refl _
    | succ k ih => exact Nat.le_trans (Nat.div_le_self _ _) ih
  apply w3_eq
  refine call_gc tf42 rfl (by simp (maxSteps := 2000000) (disch := first | omega | assumption | (simp only [DS, Nat.reduceAdd, *]; done) | (simp only [DZ]; omega)) only [RUN, RU, footA, feetIn, resultsA, tupOf, frzL, slot, lay, icyL, fillA, repCells, kR, reduceIte, Nat.reduceEqDiff, Nat.reduceBEq, Nat.reduceLT, Nat.reduceAdd, Nat.reduceLeDiff, Nat.reduceSub, Nat.reduceMul, Int.reduceLT, Int.reduceLE, Int.reduceEq, Int.reduceAdd, Int.reduceSub, Int.reduceMul]) (by simp [a42]) fun b ht hx => ?_
  have h0 := hx 0 _ rfl
  have h1 := hx 1 _ rfl
  clear hx
  simp only [a42, c42] at ht ⊢
  simp (maxSteps := 2000000) (disch := first | omega | assumption | (simp only [DS, Nat.reduceAdd, *]; done) | (simp only [DZ]; omega)) only [RUN, RU, footA, feetIn, resultsA, tupOf, frzL, slot, lay, icyL, fillA, repCells, kR, reduceIte, Nat.reduceEqDiff, Nat.reduceBEq, Nat.reduceLT, Nat.reduceAdd, Nat.reduceLeDiff, Nat.reduceSub, Nat.reduceMul, Int.reduceLT, Int.reduceLE, Int.reduceEq, Int.reduceAdd, Int.reduceSub, Int.reduceMul, h0, h1]
  refine w_loop (I := fun m t N => ∃ i : Nat, i ≤ up ∧ m = up - i ∧ nth undefA t 0 = I64 (div64 n i : Nat) ∧ nth undefA t 1 = I64 up ∧ nth undefA t 5 = I64 i) (n := up) (by omega) ?_ ?_
  · refine ⟨0, by omega, by omega, ?_, ?_, ?_⟩
    all_goals simp (maxSteps := 2000000) (disch := first | omega | assumption | (simp only [DS, Nat.reduceAdd, *]; done) | (simp only [DZ]; omega)) only [RUN, RU, footA, feetIn, resultsA, tupOf, frzL, slot, lay, icyL, fillA, repCells, kR, reduceIte, Nat.reduceEqDiff, Nat.reduceBEq, Nat.reduceLT, Nat.reduceAdd, Nat.reduceLeDiff, Nat.reduceSub, Nat.reduceMul, Int.reduceLT, Int.reduceLE, Int.reduceEq, Int.reduceAdd, Int.reduceSub, Int.reduceMul, h0, h1]
    all_goals rfl
  · rintro m t N hl' ⟨i, hi, hm, t0, t1, t5⟩
    simp only [ht] at hl' ⊢
    clear h0 h1 ht b
    have hdi := hd i
    by_cases hlt : i < up
    · have hc' : decide ((i : Int) < up) = true := decide_eq_true (by omega)
      have w1 : IntKind.i64.wrap ((i : Int) + 1) = ((i + 1 : Nat) : Int) := by rw [wrap_i64] <;> omega
      have w2 : IntKind.i64.wrap (Int.tdiv (div64 n i : Nat) 64) = ((div64 n (i + 1) : Nat) : Int) := by
        rw [Int.tdiv_eq_ediv_of_nonneg (by omega), wrap_i64]
        · simp only [div64]; omega
        · omega
        · omega
      have z : ((64 : Int) = 0) = False := by simp
      simp (maxSteps := 2000000) (disch := first | omega | assumption | (simp only [DS, Nat.reduceAdd, *]; done) | (simp only [DZ]; omega)) only [RUN, RU, footA, feetIn, resultsA, tupOf, frzL, slot, lay, icyL, fillA, repCells, kR, reduceIte, Nat.reduceEqDiff, Nat.reduceBEq, Nat.reduceLT, Nat.reduceAdd, Nat.reduceLeDiff, Nat.reduceSub, Nat.reduceMul, Int.reduceLT, Int.reduceLE, Int.reduceEq, Int.reduceAdd, Int.reduceSub, Int.reduceMul, t0, t1, t5, hc', w1, vQuo, z, w2]
      exact ⟨hl', up - (i + 1), by omega, i + 1, by omega, rfl, rfl, rfl⟩
    · obtain rfl : i = up := by omega
      have hc' : decide ((i : Int) < i) = false := decide_eq_false (by omega)
      have w2 : Int.tmod (div64 n i : Nat) 64 = ((div64 n i % 64 : Nat) : Int) := by rw [Int.tmod_eq_emod_of_nonneg (by omega)]; omega
      have w3 : IntKind.i64.wrap (128 + ((div64 n i % 64 : Nat) : Int)) = ((128 + div64 n i % 64 : Nat) : Int) := by rw [wrap_i64] <;> omega
      have cv := fun t r x => pConv2 (P := Try.prog) (t := t) Try.underlying3 Try.underlying5 r x
      have w4 : IntKind.u8.wrap ((128 + div64 n i % 64 : Nat) : Int) = ((128 + div64 n i % 64 : Nat) : Int) := by simp [IntKind.wrap, IntKind.bits, IntKind.signed]; omega
      have z : ((64 : Int) = 0) = False := by simp
      simp (maxSteps := 2000000) (disch := first | omega | assumption | (simp only [DS, Nat.reduceAdd, *]; done) | (simp only [DZ]; omega)) only [RUN, RU, footA, feetIn, resultsA, tupOf, frzL, slot, lay, icyL, fillA, repCells, kR, reduceIte, Nat.reduceEqDiff, Nat.reduceBEq, Nat.reduceLT, Nat.reduceAdd, Nat.reduceLeDiff, Nat.reduceSub, Nat.reduceMul, Int.reduceLT, Int.reduceLE, Int.reduceEq, Int.reduceAdd, Int.reduceSub, Int.reduceMul, t0, t1, t5, hc', vRem, z, w2, w3, cv, pc1_int, w4]
theorem u8_wrap (n : Nat) (h : n < 256) : IntKind.u8.wrap (n : Int) = (n : Int) := by simp [IntKind.wrap, IntKind.bits, IntKind.signed]; omega
set_option maxHeartbeats 4000000 in
theorem bytes_run (n : Nat) (hn : n ≤ 1114111) (hf : 1000 < fuel) : ∃ r, Bs r (bytesU n) ∧ ∀ M, callN Try.prog (fsT tbl) fuel (d + 2) (.fn 35) [I64 n] M = some (r, M) := by
  have ic : ∀ M, icyL (icy 12) M [I64 n] = some ([I64 n], M) := fun M => by simp (maxSteps := 2000000) (disch := first | omega | assumption | (simp only [DS, Nat.reduceAdd, *]; done) | (simp only [DZ]; omega)) only [RUN, RU, footA, feetIn, resultsA, tupOf, frzL, slot, lay, icyL, fillA, repCells, kR, reduceIte, Nat.reduceEqDiff, Nat.reduceBEq, Nat.reduceLT, Nat.reduceAdd, Nat.reduceLeDiff, Nat.reduceSub, Nat.reduceMul, Int.reduceLT, Int.reduceLE, Int.reduceEq, Int.reduceAdd, Int.reduceSub, Int.reduceMul]
  have cv := fun t r x => pConv2 (P := Try.prog) (t := t) Try.underlying3 Try.underlying5 r x
  have s0 := fun M => six_run (fuel := fuel) (d := d) n 0 (by omega) hf (by omega) M
  have s1 := fun M => six_run (fuel := fuel) (d := d) n 1 (by omega) hf (by omega) M
  have s2 := fun M => six_run (fuel := fuel) (d := d) n 2 (by omega) hf (by omega) M
  have e0 : ((0 : Nat) : Int) = 0 := rfl
  have e1 : ((1 : Nat) : Int) = 1 := rfl
  have e2 : ((2 : Nat) : Int) = 2 := rfl
  rw [e0] at s0
  rw [e1] at s1
  rw [e2] at s2
  have lit : ∀ (l : List Nat), (∀ x ∈ l, x < 256) → ∀ k, k = l.length → Bs (.pv (l.map fun x => U8 (x : Nat)) k (some k) 1) (l.map UInt8.ofNat) := fun l hl k hk => by
    have := bs_pv (l.map UInt8.ofNat) (some k) (n := k) (by simp [hk])
    rw [show u8s (l.map UInt8.ofNat) = l.map fun x => U8 (x : Nat) by
      simp only [u8s, List.map_map]
      apply List.map_congr_left
      intro x hx
      have := hl x hx
      simp [UInt8.toNat_ofNat', Nat.mod_eq_of_lt this]] at this
    exact this
  have key : W3 (callN Try.prog (fsT tbl) fuel (d + 2) (.fn 35) [I64 n] mem0) (fun r _ => Bs r (bytesU n)) := by
    refine call_gc tf35 rfl (ic mem0) (by simp [a35]) fun b ht hx => ?_
    have h0 := hx 0 _ rfl
    clear hx
    simp only [a35, c35] at ht ⊢
    have td : ∀ k : Nat, Int.tdiv (n : Int) (k : Int) = ((n / k : Nat) : Int) := fun k => by rw [Int.tdiv_eq_ediv_of_nonneg (by omega)]; rfl
    unfold bytesU bytesN
    by_cases g1 : n < 128
    · have q1 : decide ((n : Int) < 128) = true := decide_eq_true (by omega)
      have w := u8_wrap n (by omega)
      rw [if_pos g1]
      simp (maxSteps := 2000000) (disch := first | omega | assumption | (simp only [DS, Nat.reduceAdd, *]; done) | (simp only [DZ]; omega)) only [RUN, RU, footA, feetIn, resultsA, tupOf, frzL, slot, lay, icyL, fillA, repCells, kR, reduceIte, Nat.reduceEqDiff, Nat.reduceBEq, Nat.reduceLT, Nat.reduceAdd, Nat.reduceLeDiff, Nat.reduceSub, Nat.reduceMul, Int.reduceLT, Int.reduceLE, Int.reduceEq, Int.reduceAdd, Int.reduceSub, Int.reduceMul, h0, q1, cv, pc1_int, w]
      exact lit [n] (by simp; omega) 1 rfl
    have q1 : decide ((n : Int) < 128) = false := decide_eq_false (by omega)
    by_cases g2 : n < 2048
    · have q2 : decide ((n : Int) < 2048) = true := decide_eq_true (by omega)
      have w1 := td 64
      have w2 : IntKind.i64.wrap ((n / 64 : Nat) : Int) = ((n / 64 : Nat) : Int) := by rw [wrap_i64] <;> omega
      have w3 : IntKind.i64.wrap (192 + ((n / 64 : Nat) : Int)) = ((192 + n / 64 : Nat) : Int) := by rw [wrap_i64] <;> omega
      have w4 := u8_wrap (192 + n / 64) (by omega)
      have z : ((64 : Int) = 0) = False := by simp
      rw [show ((64 : Nat) : Int) = 64 from rfl] at w1
      rw [if_neg g1, if_pos g2]
      simp (maxSteps := 2000000) (disch := first | omega | assumption | (simp only [DS, Nat.reduceAdd, *]; done) | (simp only [DZ]; omega)) only [RUN, RU, footA, feetIn, resultsA, tupOf, frzL, slot, lay, icyL, fillA, repCells, kR, reduceIte, Nat.reduceEqDiff, Nat.reduceBEq, Nat.reduceLT, Nat.reduceAdd, Nat.reduceLeDiff, Nat.reduceSub, Nat.reduceMul, Int.reduceLT, Int.reduceLE, Int.reduceEq, Int.reduceAdd, Int.reduceSub, Int.reduceMul, h0, q1, q2, cv, pc1_int, vQuo, z, w1, w2, w3, w4, s0]
      exact lit [192 + n / 64, 128 + n % 64] (by simp; omega) 2 rfl
    have q2 : decide ((n : Int) < 2048) = false := decide_eq_false (by omega)
    by_cases g3 : n < 65536
    · have q3 : decide ((n : Int) < 65536) = true := decide_eq_true (by omega)
      have w1 := td 4096
      have w2 : IntKind.i64.wrap ((n / 4096 : Nat) : Int) = ((n / 4096 : Nat) : Int) := by rw [wrap_i64] <;> omega
      have w3 : IntKind.i64.wrap (224 + ((n / 4096 : Nat) : Int)) = ((224 + n / 4096 : Nat) : Int) := by rw [wrap_i64] <;> omega
      have w4 := u8_wrap (224 + n / 4096) (by omega)
      have z : ((4096 : Int) = 0) = False := by simp
      rw [show ((4096 : Nat) : Int) = 4096 from rfl] at w1
      rw [if_neg g1, if_neg g2, if_pos g3]
      simp (maxSteps := 2000000) (disch := first | omega | assumption | (simp only [DS, Nat.reduceAdd, *]; done) | (simp only [DZ]; omega)) only [RUN, RU, footA, feetIn, resultsA, tupOf, frzL, slot, lay, icyL, fillA, repCells, kR, reduceIte, Nat.reduceEqDiff, Nat.reduceBEq, Nat.reduceLT, Nat.reduceAdd, Nat.reduceLeDiff, Nat.reduceSub, Nat.reduceMul, Int.reduceLT, Int.reduceLE, Int.reduceEq, Int.reduceAdd, Int.reduceSub, Int.reduceMul, h0, q1, q2, q3, cv, pc1_int, vQuo, z, w1, w2, w3, w4, s0, s1]
      exact lit [224 + n / 4096, 128 + n / 64 % 64, 128 + n % 64] (by simp; omega) 3 rfl
    · have q3 : decide ((n : Int) < 65536) = false := decide_eq_false (by omega)
      have w1 := td 262144
      have w2 : IntKind.i64.wrap ((n / 262144 : Nat) : Int) = ((n / 262144 : Nat) : Int) := by rw [wrap_i64] <;> omega
      have w3 : IntKind.i64.wrap (240 + ((n / 262144 : Nat) : Int)) = ((240 + n / 262144 : Nat) : Int) := by rw [wrap_i64] <;> omega
      have w4 := u8_wrap (240 + n / 262144) (by omega)
      have z : ((262144 : Int) = 0) = False := by simp
      rw [show ((262144 : Nat) : Int) = 262144 from rfl] at w1
      rw [if_neg g1, if_neg g2, if_neg g3]
      simp (maxSteps := 2000000) (disch := first | omega | assumption | (simp only [DS, Nat.reduceAdd, *]; done) | (simp only [DZ]; omega)) only [RUN, RU, footA, feetIn, resultsA, tupOf, frzL, slot, lay, icyL, fillA, repCells, kR, reduceIte, Nat.reduceEqDiff, Nat.reduceBEq, Nat.reduceLT, Nat.reduceAdd, Nat.reduceLeDiff, Nat.reduceSub, Nat.reduceMul, Int.reduceLT, Int.reduceLE, Int.reduceEq, Int.reduceAdd, Int.reduceSub, Int.reduceMul, h0, q1, q2, q3, cv, pc1_int, vQuo, z, w1, w2, w3, w4, s0, s1, s2]
      have := lit [240 + n / 262144, 128 + n / 4096 % 64, 128 + n / 64 % 64, 128 + n % 64] (by simp; omega) 4 rfl
      rw [show n / 4096 = n / 64 / 64 by omega] at *
      exact this
  obtain ⟨r, N, hcl, hr⟩ := key
  exact ⟨r, hr, fun M => call_own tf35 rfl hcl (ic mem0) (ic M)⟩
theorem head_run (c : Nat) (hc : c < 256) (M : Mem) : callN Try.prog (fsT tbl) fuel (d + 1) (.fn 41) [I64 c] M = some (.tup [I64 (headN c).1, I64 (headN c).2], M) := by
  apply w3_eq
  refine call_gc tf41 rfl (by simp (maxSteps := 2000000) (disch := first | omega | assumption | (simp only [DS, Nat.reduceAdd, *]; done) | (simp only [DZ]; omega)) only [RUN, RU, footA, feetIn, resultsA, tupOf, frzL, slot, lay, icyL, fillA, repCells, kR, reduceIte, Nat.reduceEqDiff, Nat.reduceBEq, Nat.reduceLT, Nat.reduceAdd, Nat.reduceLeDiff, Nat.reduceSub, Nat.reduceMul, Int.reduceLT, Int.reduceLE, Int.reduceEq, Int.reduceAdd, Int.reduceSub, Int.reduceMul]) (by simp [a41]) fun b ht hx => ?_
  have h0 := hx 0 _ rfl
  clear hx
  simp only [a41, c41] at ht ⊢
  unfold headN
  by_cases g1 : c < 128
  · have q1 : decide ((c : Int) < 128) = true := decide_eq_true (by omega)
    rw [if_pos g1]
    simp (maxSteps := 2000000) (disch := first | omega | assumption | (simp only [DS, Nat.reduceAdd, *]; done) | (simp only [DZ]; omega)) only [RUN, RU, footA, feetIn, resultsA, tupOf, frzL, slot, lay, icyL, fillA, repCells, kR, reduceIte, Nat.reduceEqDiff, Nat.reduceBEq, Nat.reduceLT, Nat.reduceAdd, Nat.reduceLeDiff, Nat.reduceSub, Nat.reduceMul, Int.reduceLT, Int.reduceLE, Int.reduceEq, Int.reduceAdd, Int.reduceSub, Int.reduceMul, h0, q1]
    rfl
  have q1 : decide ((c : Int) < 128) = false := decide_eq_false (by omega)
  by_cases g2 : c < 192
  · have q2 : decide ((192 : Int) ≤ c) = false := decide_eq_false (by omega)
    have q3 : decide ((224 : Int) ≤ c) = false := decide_eq_false (by omega)
    have q4 : decide ((240 : Int) ≤ c) = false := decide_eq_false (by omega)
    rw [if_neg g1, if_neg (by omega), if_neg (by omega), if_neg (by omega)]
    simp (maxSteps := 2000000) (disch := first | omega | assumption | (simp only [DS, Nat.reduceAdd, *]; done) | (simp only [DZ]; omega)) only [RUN, RU, footA, feetIn, resultsA, tupOf, frzL, slot, lay, icyL, fillA, repCells, kR, reduceIte, Nat.reduceEqDiff, Nat.reduceBEq, Nat.reduceLT, Nat.reduceAdd, Nat.reduceLeDiff, Nat.reduceSub, Nat.reduceMul, Int.reduceLT, Int.reduceLE, Int.reduceEq, Int.reduceAdd, Int.reduceSub, Int.reduceMul, h0, q1, q2, q3, q4]
    rfl
  have q2 : decide ((192 : Int) ≤ c) = true := decide_eq_true (by omega)
  by_cases g3 : c < 224
  · have q3 : decide ((c : Int) < 224) = true := decide_eq_true (by omega)
    have w : IntKind.i64.wrap ((c : Int) - 192) = ((c - 192 : Nat) : Int) := by rw [wrap_i64] <;> omega
    rw [if_neg g1, if_pos (by omega)]
    simp (maxSteps := 2000000) (disch := first | omega | assumption | (simp only [DS, Nat.reduceAdd, *]; done) | (simp only [DZ]; omega)) only [RUN, RU, footA, feetIn, resultsA, tupOf, frzL, slot, lay, icyL, fillA, repCells, kR, reduceIte, Nat.reduceEqDiff, Nat.reduceBEq, Nat.reduceLT, Nat.reduceAdd, Nat.reduceLeDiff, Nat.reduceSub, Nat.reduceMul, Int.reduceLT, Int.reduceLE, Int.reduceEq, Int.reduceAdd, Int.reduceSub, Int.reduceMul, h0, q1, q2, q3, w]
    rfl
  have q3 : decide ((c : Int) < 224) = false := decide_eq_false (by omega)
  have q4 : decide ((224 : Int) ≤ c) = true := decide_eq_true (by omega)
  by_cases g4 : c < 240
  · have q5 : decide ((c : Int) < 240) = true := decide_eq_true (by omega)
    have w : IntKind.i64.wrap ((c : Int) - 224) = ((c - 224 : Nat) : Int) := by rw [wrap_i64] <;> omega
    rw [if_neg g1, if_neg (by omega), if_pos (by omega)]
    simp (maxSteps := 2000000) (disch := first | omega | assumption | (simp only [DS, Nat.reduceAdd, *]; done) | (simp only [DZ]; omega)) only [RUN, RU, footA, feetIn, resultsA, tupOf, frzL, slot, lay, icyL, fillA, repCells, kR, reduceIte, Nat.reduceEqDiff, Nat.reduceBEq, Nat.reduceLT, Nat.reduceAdd, Nat.reduceLeDiff, Nat.reduceSub, Nat.reduceMul, Int.reduceLT, Int.reduceLE, Int.reduceEq, Int.reduceAdd, Int.reduceSub, Int.reduceMul, h0, q1, q2, q3, q4, q5, w]
    rfl
  have q5 : decide ((c : Int) < 240) = false := decide_eq_false (by omega)
  have q6 : decide ((240 : Int) ≤ c) = true := decide_eq_true (by omega)
  by_cases g5 : c < 248
  · have q7 : decide ((c : Int) < 248) = true := decide_eq_true (by omega)
    have w : IntKind.i64.wrap ((c : Int) - 240) = ((c - 240 : Nat) : Int) := by rw [wrap_i64] <;> omega
    rw [if_neg g1, if_neg (by omega), if_neg (by omega), if_pos (by omega)]
    simp (maxSteps := 2000000) (disch := first | omega | assumption | (simp only [DS, Nat.reduceAdd, *]; done) | (simp only [DZ]; omega)) only [RUN, RU, footA, feetIn, resultsA, tupOf, frzL, slot, lay, icyL, fillA, repCells, kR, reduceIte, Nat.reduceEqDiff, Nat.reduceBEq, Nat.reduceLT, Nat.reduceAdd, Nat.reduceLeDiff, Nat.reduceSub, Nat.reduceMul, Int.reduceLT, Int.reduceLE, Int.reduceEq, Int.reduceAdd, Int.reduceSub, Int.reduceMul, h0, q1, q2, q3, q4, q5, q6, q7, w]
    rfl
  · have q7 : decide ((c : Int) < 248) = false := decide_eq_false (by omega)
    rw [if_neg g1, if_neg (by omega), if_neg (by omega), if_neg (by omega)]
    simp (maxSteps := 2000000) (disch := first | omega | assumption | (simp only [DS, Nat.reduceAdd, *]; done) | (simp only [DZ]; omega)) only [RUN, RU, footA, feetIn, resultsA, tupOf, frzL, slot, lay, icyL, fillA, repCells, kR, reduceIte, Nat.reduceEqDiff, Nat.reduceBEq, Nat.reduceLT, Nat.reduceAdd, Nat.reduceLeDiff, Nat.reduceSub, Nat.reduceMul, Int.reduceLT, Int.reduceLE, Int.reduceEq, Int.reduceAdd, Int.reduceSub, Int.reduceMul, h0, q1, q2, q3, q4, q5, q6, q7]
    rfl
end Go.Proofs.Ytlccfbaibcdodaa
