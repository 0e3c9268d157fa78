/-
  purge: the reference's May, MayHandle, has, Leq, Its, MayOne, Check, Crashes.
-/
import Derived.Test.YtjbninmklbkklaaDoorPvD
set_option linter.unusedSimpArgs false
set_option linter.unusedVariables false
set_option maxRecDepth 100000
namespace Go.Proofs.YtjbninmklbkklaaDoor
open Go Go.Ax
variable {fuel : Nat} {M : Mem} {Q : AV → Mem → Prop} {d : Nat}

/-- The categories are a number of 32 bits. -/
def Lb.ok (a : Lb) : Prop := 0 ≤ a.cats ∧ a.cats < 4294967296
def bitI (c : Int) (i : Nat) : Bool := decide ((c.toNat / 2 ^ i) % 2 = 1)
theorem lacks_iff {a b : Int} (ha : 0 ≤ a ∧ a < 4294967296) (hb : 0 ≤ b ∧ b < 4294967296) : lacks a b = 0 ↔ ∀ i, i < 32 → bitI a i = true → bitI b i = true := by
  obtain ⟨n, rfl⟩ : ∃ n : Nat, a = n := ⟨a.toNat, by omega⟩
  obtain ⟨m, rfl⟩ : ∃ m : Nat, b = m := ⟨b.toNat, by omega⟩
  have e1 : ∀ (n i : Nat), i < 32 → bitI (n : Int) i = (BitVec.ofInt 32 (n : Int)).getLsbD i := fun n i hi => by
    rw [BitVec.ofInt_natCast, BitVec.getLsbD_ofNat, decide_eq_true hi, Bool.true_and, Nat.testBit_eq_decide_div_mod_eq]
    rfl
  have e2 : lacks n m = ((BitVec.ofInt 32 (n : Int) &&& ~~~ BitVec.ofInt 32 (m : Int)).toNat : Int) := by
    have := (BitVec.ofInt 32 (n : Int) &&& ~~~ BitVec.ofInt 32 (m : Int)).isLt
    unfold lacks
    generalize (BitVec.ofInt 32 (n : Int) &&& ~~~ BitVec.ofInt 32 (m : Int)).toNat = z at *
    simp [IntKind.wrap, IntKind.bits, IntKind.signed]
    omega
  rw [e2]
  have e3 : ((BitVec.ofInt 32 (n : Int) &&& ~~~ BitVec.ofInt 32 (m : Int)).toNat : Int) = 0 ↔ (BitVec.ofInt 32 (n : Int) &&& ~~~ BitVec.ofInt 32 (m : Int)) = 0#32 := by
    rw [← BitVec.toNat_inj]; simp
  rw [e3]
  constructor
  · intro h i hi h1
    rw [e1 _ _ hi] at h1 ⊢
    have := congrArg (fun v => BitVec.getLsbD v i) h
    simp only [BitVec.getLsbD_and, BitVec.getLsbD_not, h1, hi, BitVec.getLsbD_zero, decide_true, Bool.true_and, Bool.not_eq_false'] at this
    exact this
  · intro h
    apply BitVec.eq_of_getLsbD_eq
    intro i hi
    have := h i hi
    rw [e1 _ _ hi, e1 _ _ hi] at this
    simp only [BitVec.getLsbD_and, BitVec.getLsbD_not, hi, BitVec.getLsbD_zero, decide_true, Bool.true_and]
    cases h1 : (BitVec.ofInt 32 (n : Int)).getLsbD i with
    | false => rfl
    | true => rw [this h1]; rfl
theorem may1_run (v : Lb) (M : Mem) : callN Tryd.prog (fsT tbl) fuel (d + 1) (.fn 30) [lbA v] M = some (BL v.may, M) := by
  apply w3_eq
  refine call_gc tf30 rfl (by simp (maxSteps := 2000000) (disch := first | omega | assumption | (simp only [DS, Nat.reduceAdd, *]; done) | (simp only [DZ]; omega)) only [RUN, RU, footA, feetIn, resultsA, tupOf, frzL, slot, lay, icyL, fillA, repCells, kR, reduceIte, Nat.reduceEqDiff, Nat.reduceBEq, Nat.reduceLT, Nat.reduceAdd, Nat.reduceLeDiff, Nat.reduceSub, Nat.reduceMul, Int.reduceLT, Int.reduceLE, Int.reduceEq, Int.reduceAdd, Int.reduceSub, Int.reduceMul]) (by simp [a30]) fun b' ht hx => ?_
  have h0 := hx 0 _ rfl
  clear hx
  simp only [a30, c30] at ht ⊢
  unfold Lb.may
  by_cases q : 15 < v.lv
  · have q1 : decide (v.lv ≤ 15) = false := decide_eq_false (by omega)
    have q2 : decide (15 < v.lv) = true := decide_eq_true q
    simp (maxSteps := 2000000) (disch := first | omega | assumption | (simp only [DS, Nat.reduceAdd, *]; done) | (simp only [DZ]; omega)) only [RUN, RU, footA, feetIn, resultsA, tupOf, frzL, slot, lay, icyL, fillA, repCells, kR, reduceIte, Nat.reduceEqDiff, Nat.reduceBEq, Nat.reduceLT, Nat.reduceAdd, Nat.reduceLeDiff, Nat.reduceSub, Nat.reduceMul, Int.reduceLT, Int.reduceLE, Int.reduceEq, Int.reduceAdd, Int.reduceSub, Int.reduceMul, h0, q1, q2]
  · have q1 : decide (v.lv ≤ 15) = true := decide_eq_true (by omega)
    have q2 : decide (15 < v.lv) = false := decide_eq_false q
    simp (maxSteps := 2000000) (disch := first | omega | assumption | (simp only [DS, Nat.reduceAdd, *]; done) | (simp only [DZ]; omega)) only [RUN, RU, footA, feetIn, resultsA, tupOf, frzL, slot, lay, icyL, fillA, repCells, kR, reduceIte, Nat.reduceEqDiff, Nat.reduceBEq, Nat.reduceLT, Nat.reduceAdd, Nat.reduceLeDiff, Nat.reduceSub, Nat.reduceMul, Int.reduceLT, Int.reduceLE, Int.reduceEq, Int.reduceAdd, Int.reduceSub, Int.reduceMul, h0, q1, q2]
theorem mayh_run (l : Lb) (n : Int) (M : Mem) : callN Tryd.prog (fsT tbl) fuel (d + 2) (.fn 49) [hdA l n] M = some (BL (hdMay l n), M) := by
  have hm := fun M => @may1_run fuel d l M
  apply w3_eq
  refine call_gc tf49 rfl (by simp (maxSteps := 2000000) (disch := first | omega | assumption | (simp only [DS, Nat.reduceAdd, *]; done) | (simp only [DZ]; omega)) only [RUN, RU, footA, feetIn, resultsA, tupOf, frzL, slot, lay, icyL, fillA, repCells, kR, reduceIte, Nat.reduceEqDiff, Nat.reduceBEq, Nat.reduceLT, Nat.reduceAdd, Nat.reduceLeDiff, Nat.reduceSub, Nat.reduceMul, Int.reduceLT, Int.reduceLE, Int.reduceEq, Int.reduceAdd, Int.reduceSub, Int.reduceMul]) (by simp [a49]) fun b' ht hx => ?_
  have h0 := hx 0 _ rfl
  clear hx
  simp only [a49, c49] at ht ⊢
  unfold hdMay
  cases q : l.may <;> rw [q] at hm <;> simp (maxSteps := 2000000) (disch := first | omega | assumption | (simp only [DS, Nat.reduceAdd, *]; done) | (simp only [DZ]; omega)) only [RUN, RU, footA, feetIn, resultsA, tupOf, frzL, slot, lay, icyL, fillA, repCells, kR, reduceIte, Nat.reduceEqDiff, Nat.reduceBEq, Nat.reduceLT, Nat.reduceAdd, Nat.reduceLeDiff, Nat.reduceSub, Nat.reduceMul, Int.reduceLT, Int.reduceLE, Int.reduceEq, Int.reduceAdd, Int.reduceSub, Int.reduceMul, h0, hm, Bool.false_and]
theorem has_run (v : Lb) (hv : v.ok) (i : Nat) (hi : i < 32) (M : Mem) : callN Tryd.prog (fsT tbl) fuel (d + 1) (.fn 52) [lbA v, I64 i] M = some (BL (bitI v.cats i), M) := by
  have cv := fun t r x => pConv2 (P := Tryd.prog) (t := t) Tryd.underlying3 Tryd.underlying83 r x
  have w : IntKind.u64.wrap (i : Int) = i := by simp [IntKind.wrap, IntKind.bits, IntKind.signed]; omega
  have sh : ∀ ty, binV Tryd.prog .shr ty .u32 v.cats .u64 (i : Int) = some (.int .u32 ((v.cats.toNat / 2 ^ i : Nat) : Int)) := fun ty => by
    rw [vShr _ _ _ _ _ (by omega)]
    have : min (Int.toNat (i : Int)) (IntKind.u32).bits = i := by simp [IntKind.bits]; omega
    rw [this]
    obtain ⟨n, hn⟩ : ∃ n : Nat, v.cats = n := ⟨v.cats.toNat, by have := hv.1; omega⟩
    have h2 : (0 : Int) ≤ 2 ^ i := by exact_mod_cast Nat.zero_le (2 ^ i)
    rw [hn, Int.fdiv_eq_ediv_of_nonneg _ h2, Int.toNat_natCast]
    simp
  have hr : ∀ (ty : TypeId) (n : Nat), binV Tryd.prog .rem ty .u32 (n : Int) .u32 2 = some (.int .u32 ((n % 2 : Nat) : Int)) := fun ty n => by
    rw [vRem, if_neg (by omega)]
    simp [Int.tmod_eq_emod_of_nonneg]
  apply w3_eq
  refine call_gc tf52 rfl (by simp (maxSteps := 2000000) (disch := first | omega | assumption | (simp only [DS, Nat.reduceAdd, *]; done) | (simp only [DZ]; omega)) only [RUN, RU, footA, feetIn, resultsA, tupOf, frzL, slot, lay, icyL, fillA, repCells, kR, reduceIte, Nat.reduceEqDiff, Nat.reduceBEq, Nat.reduceLT, Nat.reduceAdd, Nat.reduceLeDiff, Nat.reduceSub, Nat.reduceMul, Int.reduceLT, Int.reduceLE, Int.reduceEq, Int.reduceAdd, Int.reduceSub, Int.reduceMul]) (by simp [a52]) fun b' ht hx => ?_
  have h0 := hx 0 _ rfl
  have h1 := hx 1 _ rfl
  clear hx
  simp only [a52, c52] at ht ⊢
  unfold bitI
  have q : decide (((v.cats.toNat / 2 ^ i % 2 : Nat) : Int) = 1) = decide (v.cats.toNat / 2 ^ i % 2 = 1) := by
    rw [Bool.eq_iff_iff, decide_eq_true_iff, decide_eq_true_iff]; omega
  simp (maxSteps := 2000000) (disch := first | omega | assumption | (simp only [DS, Nat.reduceAdd, *]; done) | (simp only [DZ]; omega)) only [RUN, RU, footA, feetIn, resultsA, tupOf, frzL, slot, lay, icyL, fillA, repCells, kR, reduceIte, Nat.reduceEqDiff, Nat.reduceBEq, Nat.reduceLT, Nat.reduceAdd, Nat.reduceLeDiff, Nat.reduceSub, Nat.reduceMul, Int.reduceLT, Int.reduceLE, Int.reduceEq, Int.reduceAdd, Int.reduceSub, Int.reduceMul, h0, h1, cv, pc1_int, w, sh, hr, q]
theorem leq1_run (a b : Lb) (ha : a.ok) (hb : b.ok) (hf : 40 < fuel) (M : Mem) : callN Tryd.prog (fsT tbl) fuel (d + 2) (.fn 46) [lbA a, lbA b] M = some (BL (a.leq b), M) := by
  have hh := fun i hi M => @has_run fuel d a ha i hi M
  have kh := fun i hi M => @has_run fuel d b hb i hi M
  have key := lacks_iff ha hb
  apply w3_eq
  refine call_gc tf46 rfl (by simp (maxSteps := 2000000) (disch := first | omega | assumption | (simp only [DS, Nat.reduceAdd, *]; done) | (simp only [DZ]; omega)) only [RUN, RU, footA, feetIn, resultsA, tupOf, frzL, slot, lay, icyL, fillA, repCells, kR, reduceIte, Nat.reduceEqDiff, Nat.reduceBEq, Nat.reduceLT, Nat.reduceAdd, Nat.reduceLeDiff, Nat.reduceSub, Nat.reduceMul, Int.reduceLT, Int.reduceLE, Int.reduceEq, Int.reduceAdd, Int.reduceSub, Int.reduceMul]) (by simp [a46]) fun b' ht hx => ?_
  have h0 := hx 0 _ rfl
  have h1 := hx 1 _ rfl
  clear hx
  simp only [a46, c46] at ht ⊢
  simp (maxSteps := 2000000) (disch := first | omega | assumption | (simp only [DS, Nat.reduceAdd, *]; done) | (simp only [DZ]; omega)) only [RUN, RU, footA, feetIn, resultsA, tupOf, frzL, slot, lay, icyL, fillA, repCells, kR, reduceIte, Nat.reduceEqDiff, Nat.reduceBEq, Nat.reduceLT, Nat.reduceAdd, Nat.reduceLeDiff, Nat.reduceSub, Nat.reduceMul, Int.reduceLT, Int.reduceLE, Int.reduceEq, Int.reduceAdd, Int.reduceSub, Int.reduceMul, h0, h1]
  refine w_loop (I := fun n t N => ∃ (i : Nat), n = 32 - i ∧ i ≤ 32 ∧ nth undefA t 2 = .ptr 0 0 ∧ nth undefA t 3 = .ptr 1 0 ∧ nth undefA t 5 = I64 i ∧ N = (mem0.add (.row false [U8 a.lv, U32 a.cats])).add (.row false [U8 b.lv, U32 b.cats]) ∧ (∀ j, j < i → bitI a.cats j = true → bitI b.cats j = true)) (n := 32) (by omega) ?_ ?_
  · refine ⟨0, rfl, Nat.zero_le _, ?_, ?_, ?_, rfl, (fun _ h => absurd h (by omega))⟩ <;> simp (maxSteps := 2000000) (disch := first | omega | assumption | (simp only [DS, Nat.reduceAdd, *]; done) | (simp only [DZ]; omega)) only [RUN, RU, footA, feetIn, resultsA, tupOf, frzL, slot, lay, icyL, fillA, repCells, kR, reduceIte, Nat.reduceEqDiff, Nat.reduceBEq, Nat.reduceLT, Nat.reduceAdd, Nat.reduceLeDiff, Nat.reduceSub, Nat.reduceMul, Int.reduceLT, Int.reduceLE, Int.reduceEq, Int.reduceAdd, Int.reduceSub, Int.reduceMul, h0, h1]
    all_goals first | rfl | assumption | done
  · rintro n t N hlt ⟨i, rfl, hi, g2, g3, g5, hm, hj⟩
    simp only [ht] at hlt ⊢
    subst hm
    by_cases hc : i < 32
    · have q1 : decide ((i : Int) < 32) = true := decide_eq_true (by omega)
      have w1 : IntKind.i64.wrap ((i : Int) + 1) = ((i + 1 : Nat) : Int) := by rw [wrap_i64] <;> omega
      cases b1 : bitI a.cats i with
      | false =>
        simp (maxSteps := 2000000) (disch := first | omega | assumption | (simp only [DS, Nat.reduceAdd, *]; done) | (simp only [DZ]; omega)) only [RUN, RU, footA, feetIn, resultsA, tupOf, frzL, slot, lay, icyL, fillA, repCells, kR, reduceIte, Nat.reduceEqDiff, Nat.reduceBEq, Nat.reduceLT, Nat.reduceAdd, Nat.reduceLeDiff, Nat.reduceSub, Nat.reduceMul, Int.reduceLT, Int.reduceLE, Int.reduceEq, Int.reduceAdd, Int.reduceSub, Int.reduceMul, g2, g3, g5, q1, w1, hh, b1]
        exact ⟨hlt, 32 - (i + 1), by omega, i + 1, rfl, by omega, rfl, fun j hj' hb' => by
          rcases Nat.lt_succ_iff_lt_or_eq.1 hj' with h | rfl
          · exact hj j h hb'
          · rw [b1] at hb'; cases hb'⟩
      | true =>
        cases b2 : bitI b.cats i with
        | true =>
          simp (maxSteps := 2000000) (disch := first | omega | assumption | (simp only [DS, Nat.reduceAdd, *]; done) | (simp only [DZ]; omega)) only [RUN, RU, footA, feetIn, resultsA, tupOf, frzL, slot, lay, icyL, fillA, repCells, kR, reduceIte, Nat.reduceEqDiff, Nat.reduceBEq, Nat.reduceLT, Nat.reduceAdd, Nat.reduceLeDiff, Nat.reduceSub, Nat.reduceMul, Int.reduceLT, Int.reduceLE, Int.reduceEq, Int.reduceAdd, Int.reduceSub, Int.reduceMul, g2, g3, g5, q1, w1, hh, kh, b1, b2]
          exact ⟨hlt, 32 - (i + 1), by omega, i + 1, rfl, by omega, rfl, fun j hj' hb' => by
            rcases Nat.lt_succ_iff_lt_or_eq.1 hj' with h | rfl
            · exact hj j h hb'
            · exact b2⟩
        | false =>
          have e : a.leq b = false := by
            unfold Lb.leq
            rw [Bool.and_eq_false_iff]
            right
            rw [decide_eq_false_iff_not, key]
            intro h
            have := h i hc b1
            rw [b2] at this; cases this
          simp (maxSteps := 2000000) (disch := first | omega | assumption | (simp only [DS, Nat.reduceAdd, *]; done) | (simp only [DZ]; omega)) only [RUN, RU, footA, feetIn, resultsA, tupOf, frzL, slot, lay, icyL, fillA, repCells, kR, reduceIte, Nat.reduceEqDiff, Nat.reduceBEq, Nat.reduceLT, Nat.reduceAdd, Nat.reduceLeDiff, Nat.reduceSub, Nat.reduceMul, Int.reduceLT, Int.reduceLE, Int.reduceEq, Int.reduceAdd, Int.reduceSub, Int.reduceMul, g2, g3, g5, q1, w1, hh, kh, b1, b2, e]
    · obtain rfl : i = 32 := by omega
      have e : a.leq b = decide (a.lv ≤ b.lv) := by
        unfold Lb.leq
        rw [decide_eq_true (p := lacks a.cats b.cats = 0) (key.2 hj), Bool.and_true]
      have q1 : decide (((32 : Nat) : Int) < 32) = false := rfl
      simp (maxSteps := 2000000) (disch := first | omega | assumption | (simp only [DS, Nat.reduceAdd, *]; done) | (simp only [DZ]; omega)) only [RUN, RU, footA, feetIn, resultsA, tupOf, frzL, slot, lay, icyL, fillA, repCells, kR, reduceIte, Nat.reduceEqDiff, Nat.reduceBEq, Nat.reduceLT, Nat.reduceAdd, Nat.reduceLeDiff, Nat.reduceSub, Nat.reduceMul, Int.reduceLT, Int.reduceLE, Int.reduceEq, Int.reduceAdd, Int.reduceSub, Int.reduceMul, g2, g3, g5, q1, e]
theorem its1_run {e : Ev} {da ca : AV} (h1 : Bs da e.data) (h2 : Sl 1 isInt ca e.crash) (hk : 1 ≤ e.kind.toNat) (hk2 : e.kind.toNat ≤ 20) (M : Mem) : callN Tryd.prog (fsT tbl) fuel (d + 1) (.fn 45) [.agg (evRow e da ca)] M = some (BL (itsK e.kind.toNat), M) := by
  have ic : ∀ M, icyL (icy 12) M [.agg (evRow e da ca)] = some ([.agg (evRow e da ca)], M) := fun M => by simp only [icyL, ev_icy1 h1 h2]
  apply w3_eq
  refine call_gc tf45 rfl (ic M) (by simp [a45]) fun b' ht hx => ?_
  have h0 := hx 0 _ rfl
  clear hx
  simp only [a45, c45] at ht ⊢
  unfold evRow at *
  have q1 : decide ((1 : Int) ≤ e.kind.toNat) = true := decide_eq_true (by omega)
  have q2 : decide ((e.kind.toNat : Int) ≤ 20) = true := decide_eq_true (by omega)
  unfold itsK
  by_cases q : e.kind.toNat ≤ 16
  · have q3 : decide ((e.kind.toNat : Int) ≤ 16) = true := decide_eq_true (by omega)
    have q4 : decide (17 ≤ (e.kind.toNat : Int)) = false := decide_eq_false (by omega)
    simp (maxSteps := 2000000) (disch := first | omega | assumption | (simp only [DS, Nat.reduceAdd, *]; done) | (simp only [DZ]; omega)) only [RUN, RU, footA, feetIn, resultsA, tupOf, frzL, slot, lay, icyL, fillA, repCells, kR, reduceIte, Nat.reduceEqDiff, Nat.reduceBEq, Nat.reduceLT, Nat.reduceAdd, Nat.reduceLeDiff, Nat.reduceSub, Nat.reduceMul, Int.reduceLT, Int.reduceLE, Int.reduceEq, Int.reduceAdd, Int.reduceSub, Int.reduceMul, h0, h1.fz.rows, h1.fz.one, h1.fz.cells, h1.fz.icy, h1.fz.frz, h2.fz.rows, h2.fz.one, h2.fz.cells, h2.fz.icy, h2.fz.frz, q1, q2, q3, q4, Bool.false_and]
  · have q3 : decide ((e.kind.toNat : Int) ≤ 16) = false := decide_eq_false (by omega)
    have q4 : decide (17 ≤ (e.kind.toNat : Int)) = true := decide_eq_true (by omega)
    simp (maxSteps := 2000000) (disch := first | omega | assumption | (simp only [DS, Nat.reduceAdd, *]; done) | (simp only [DZ]; omega)) only [RUN, RU, footA, feetIn, resultsA, tupOf, frzL, slot, lay, icyL, fillA, repCells, kR, reduceIte, Nat.reduceEqDiff, Nat.reduceBEq, Nat.reduceLT, Nat.reduceAdd, Nat.reduceLeDiff, Nat.reduceSub, Nat.reduceMul, Int.reduceLT, Int.reduceLE, Int.reduceEq, Int.reduceAdd, Int.reduceSub, Int.reduceMul, h0, h1.fz.rows, h1.fz.one, h1.fz.cells, h1.fz.icy, h1.fz.frz, h2.fz.rows, h2.fz.one, h2.fz.cells, h2.fz.icy, h2.fz.frz, q1, q2, q3, q4, Bool.false_and]
end Go.Proofs.YtjbninmklbkklaaDoor
