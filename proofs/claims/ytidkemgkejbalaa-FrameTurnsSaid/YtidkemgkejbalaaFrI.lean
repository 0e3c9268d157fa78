/-
  num: Get.
-/
import Derived.Test.YtidkemgkejbalaaFrH
set_option linter.unusedSimpArgs false
set_option linter.unusedVariables false
set_option maxRecDepth 100000
namespace Go.Proofs.Ytidkemgkejbalaa
open Go Go.Ax
variable {fuel : Nat} {M : Mem} {Q : AV → Mem → Prop} {d : Nat}

set_option maxHeartbeats 8000000 in
theorem get_num {a : AV} {l : List UInt8} (hS : Bs a l) (hl2 : l.length ≤ 1000000000) (hf : 1000 < fuel) (M : Mem) : callN Try.prog (fsT tbl) fuel (d + 3) (.fn 13) [a] M = some (.tup [I64 (getM l).1, I64 (getM l).2.1, I64 (getM l).2.2], M) := by
  have hlen := hS.len
  apply w3_eq
  refine call_gc tf13 rfl (by simp (maxSteps := 2000000) (disch := first | omega | assumption | (simp only [add_size, upd_size, mem0_size, List.length_cons, List.length_nil, wf_add, wf_upd, wf_mem0, lo_wf, bk_wf, lo_size, bk_size, List.all_cons, List.all_nil, one_sc_int, one_sc_bool, one_sc_string, one_sc_slice, one_sc_ptr, one_ptr, one_sl, one_pv, one_cp, one_fn, Bool.and_true, Nat.reduceAdd, *]; done) | (simp only [add_size, upd_size, mem0_size, lo_size, bk_size, List.length_cons, List.length_nil]; omega)) only [RUN, footA, feetIn, resultsA, tupOf, frzL, slot, lay, icyL, fillA, repCells, kR, reduceIte, Nat.reduceEqDiff, Nat.reduceBEq, Nat.reduceLT, Nat.reduceAdd, Nat.reduceLeDiff, Nat.reduceSub, Nat.reduceMul, Int.reduceLT, Int.reduceLE, Int.reduceEq, Int.reduceAdd, Int.reduceSub, Int.reduceMul, decide_true, decide_false, Int.lt_irrefl, Nat.beq_eq, Option.map_some, Option.map_none, List.contains_cons, List.contains_nil, Bool.or_true, Bool.true_or, Bool.or_false, Bool.false_or, Bool.not_true, Bool.not_false, Bool.and_self, List.elem_nil, List.all_nil, List.all_cons, Bool.and_true, Bool.true_and, true_and, and_true, List.map_cons, List.map_nil, List.nil_append, List.cons_append, List.append_nil, Nat.zero_add, Nat.add_zero, List.drop_succ_cons, List.drop_zero, List.take_succ_cons, List.take_zero, List.getElem?_cons_zero, List.getElem?_cons_succ, List.length_cons, List.length_nil, hS.icy]) (by simp [a13]) fun b ht hx => ?_
  have h0 := hx 0 _ rfl
  clear hx
  simp only [a13, c13] at ht ⊢
  have ra : rowsOf a = [] := hS.rows mem0
  cases l with
  | nil =>
    have q1 : decide ((([] : List UInt8).length : Int) = 0) = true := by rfl
    rw [show getM [] = (0, 0, 8) from rfl]
    replace hlen : ∀ M, lenO M a = some (I64 0, M) := hlen
    simp (maxSteps := 2000000) (disch := first | omega | assumption | (simp only [add_size, upd_size, mem0_size, List.length_cons, List.length_nil, wf_add, wf_upd, wf_mem0, lo_wf, bk_wf, lo_size, bk_size, List.all_cons, List.all_nil, one_sc_int, one_sc_bool, one_sc_string, one_sc_slice, one_sc_ptr, one_ptr, one_sl, one_pv, one_cp, one_fn, Bool.and_true, Nat.reduceAdd, *]; done) | (simp only [add_size, upd_size, mem0_size, lo_size, bk_size, List.length_cons, List.length_nil]; omega)) only [RUN, footA, feetIn, resultsA, tupOf, frzL, slot, lay, icyL, fillA, repCells, kR, reduceIte, Nat.reduceEqDiff, Nat.reduceBEq, Nat.reduceLT, Nat.reduceAdd, Nat.reduceLeDiff, Nat.reduceSub, Nat.reduceMul, Int.reduceLT, Int.reduceLE, Int.reduceEq, Int.reduceAdd, Int.reduceSub, Int.reduceMul, decide_true, decide_false, Int.lt_irrefl, Nat.beq_eq, Option.map_some, Option.map_none, List.contains_cons, List.contains_nil, Bool.or_true, Bool.true_or, Bool.or_false, Bool.false_or, Bool.not_true, Bool.not_false, Bool.and_self, List.elem_nil, List.all_nil, List.all_cons, Bool.and_true, Bool.true_and, true_and, and_true, List.map_cons, List.map_nil, List.nil_append, List.cons_append, List.append_nil, Nat.zero_add, Nat.add_zero, List.drop_succ_cons, List.drop_zero, List.take_succ_cons, List.take_zero, List.getElem?_cons_zero, List.getElem?_cons_succ, List.length_cons, List.length_nil, h0, hlen]
  | cons x r =>
    have hx8 := x.toNat_lt
    obtain ⟨n, hn⟩ : ∃ n, (x :: r).length = n := ⟨_, rfl⟩
    have hn' : r.length + 1 = n := by rw [← hn]; rfl
    rw [hn] at hlen hl2
    have q1 : decide ((n : Int) = 0) = false := by simp; omega
    obtain ⟨rr, hr, rfl, _⟩ := hS.iad 0 (by simp)
    replace hr : ∀ M, iadO M 1 a (some 0) = some (.cp [U8 x.toNat] 0, M) := hr
    have n0 : natOf (.sc (.int .i64 0)) = some 0 := rfl
    have cv := fun t r x => pConv2 (P := Try.prog) (t := t) Try.underlying5 Try.underlying3 r x
    have wx : IntKind.i64.wrap (x.toNat : Int) = x.toNat := by rw [wrap_i64] <;> omega
    have w1 : IntKind.i64.wrap ((x.toNat : Int) - 248) = (x.toNat : Int) - 248 := by rw [wrap_i64] <;> omega
    have w2 : IntKind.i64.wrap ((x.toNat : Int) - 248 + 1) = (x.toNat : Int) - 247 := by rw [wrap_i64] <;> omega
    obtain ⟨k, hk⟩ : ∃ k, x.toNat - 247 = k := ⟨_, rfl⟩
    have hmx : (if (x.toNat : Int) - 247 > 0 then (x.toNat : Int) - 247 else 0) = (k : Int) := by split <;> omega
    by_cases h1 : x.toNat < 248
    · obtain rfl : k = 0 := by omega
      replace hmx : (if (x.toNat : Int) - 247 > 0 then (x.toNat : Int) - 247 else 0) = 0 := hmx
      rw [show getM (x :: r) = ((x.toNat : Int), 1, 0) by simp [getM, h1]]
      simp (maxSteps := 2000000) (disch := first | omega | assumption | (simp only [add_size, upd_size, mem0_size, List.length_cons, List.length_nil, wf_add, wf_upd, wf_mem0, lo_wf, bk_wf, lo_size, bk_size, List.all_cons, List.all_nil, one_sc_int, one_sc_bool, one_sc_string, one_sc_slice, one_sc_ptr, one_ptr, one_sl, one_pv, one_cp, one_fn, Bool.and_true, Nat.reduceAdd, *]; done) | (simp only [add_size, upd_size, mem0_size, lo_size, bk_size, List.length_cons, List.length_nil]; omega)) only [RUN, footA, feetIn, resultsA, tupOf, frzL, slot, lay, icyL, fillA, repCells, kR, reduceIte, Nat.reduceEqDiff, Nat.reduceBEq, Nat.reduceLT, Nat.reduceAdd, Nat.reduceLeDiff, Nat.reduceSub, Nat.reduceMul, Int.reduceLT, Int.reduceLE, Int.reduceEq, Int.reduceAdd, Int.reduceSub, Int.reduceMul, decide_true, decide_false, Int.lt_irrefl, Nat.beq_eq, Option.map_some, Option.map_none, List.contains_cons, List.contains_nil, Bool.or_true, Bool.true_or, Bool.or_false, Bool.false_or, Bool.not_true, Bool.not_false, Bool.and_self, List.elem_nil, List.all_nil, List.all_cons, Bool.and_true, Bool.true_and, true_and, and_true, List.map_cons, List.map_nil, List.nil_append, List.cons_append, List.append_nil, Nat.zero_add, Nat.add_zero, List.drop_succ_cons, List.drop_zero, List.take_succ_cons, List.take_zero, List.getElem?_cons_zero, List.getElem?_cons_succ, List.length_cons, List.length_nil, h0, hlen, q1, hr, n0, cv, pc1_int, wx, w1, w2, pMax2, pmx_int, hmx, ra]
    have q2 : decide ((k : Int) = 0) = false := by simp; omega
    by_cases h2 : 254 < x.toNat
    · have q3 : decide ((7 : Int) < k) = true := by simp; omega
      rw [show getM (x :: r) = (0, 0, 8) by simp only [getM]; rw [if_neg h1, if_pos (.inl h2)]]
      simp (maxSteps := 2000000) (disch := first | omega | assumption | (simp only [add_size, upd_size, mem0_size, List.length_cons, List.length_nil, wf_add, wf_upd, wf_mem0, lo_wf, bk_wf, lo_size, bk_size, List.all_cons, List.all_nil, one_sc_int, one_sc_bool, one_sc_string, one_sc_slice, one_sc_ptr, one_ptr, one_sl, one_pv, one_cp, one_fn, Bool.and_true, Nat.reduceAdd, *]; done) | (simp only [add_size, upd_size, mem0_size, lo_size, bk_size, List.length_cons, List.length_nil]; omega)) only [RUN, footA, feetIn, resultsA, tupOf, frzL, slot, lay, icyL, fillA, repCells, kR, reduceIte, Nat.reduceEqDiff, Nat.reduceBEq, Nat.reduceLT, Nat.reduceAdd, Nat.reduceLeDiff, Nat.reduceSub, Nat.reduceMul, Int.reduceLT, Int.reduceLE, Int.reduceEq, Int.reduceAdd, Int.reduceSub, Int.reduceMul, decide_true, decide_false, Int.lt_irrefl, Nat.beq_eq, Option.map_some, Option.map_none, List.contains_cons, List.contains_nil, Bool.or_true, Bool.true_or, Bool.or_false, Bool.false_or, Bool.not_true, Bool.not_false, Bool.and_self, List.elem_nil, List.all_nil, List.all_cons, Bool.and_true, Bool.true_and, true_and, and_true, List.map_cons, List.map_nil, List.nil_append, List.cons_append, List.append_nil, Nat.zero_add, Nat.add_zero, List.drop_succ_cons, List.drop_zero, List.take_succ_cons, List.take_zero, List.getElem?_cons_zero, List.getElem?_cons_succ, List.length_cons, List.length_nil, h0, hlen, q1, hr, n0, cv, pc1_int, wx, w1, w2, pMax2, pmx_int, hmx, ra, q2, q3]
    have q3 : decide ((7 : Int) < k) = false := by simp; omega
    by_cases h3 : r.length < k
    · have q4 : decide ((n : Int) ≤ k) = true := by simp; omega
      rw [show getM (x :: r) = (0, 0, 8) by simp only [getM]; rw [if_neg h1, if_pos (.inr (by omega))]]
      simp (maxSteps := 2000000) (disch := first | omega | assumption | (simp only [add_size, upd_size, mem0_size, List.length_cons, List.length_nil, wf_add, wf_upd, wf_mem0, lo_wf, bk_wf, lo_size, bk_size, List.all_cons, List.all_nil, one_sc_int, one_sc_bool, one_sc_string, one_sc_slice, one_sc_ptr, one_ptr, one_sl, one_pv, one_cp, one_fn, Bool.and_true, Nat.reduceAdd, *]; done) | (simp only [add_size, upd_size, mem0_size, lo_size, bk_size, List.length_cons, List.length_nil]; omega)) only [RUN, footA, feetIn, resultsA, tupOf, frzL, slot, lay, icyL, fillA, repCells, kR, reduceIte, Nat.reduceEqDiff, Nat.reduceBEq, Nat.reduceLT, Nat.reduceAdd, Nat.reduceLeDiff, Nat.reduceSub, Nat.reduceMul, Int.reduceLT, Int.reduceLE, Int.reduceEq, Int.reduceAdd, Int.reduceSub, Int.reduceMul, decide_true, decide_false, Int.lt_irrefl, Nat.beq_eq, Option.map_some, Option.map_none, List.contains_cons, List.contains_nil, Bool.or_true, Bool.true_or, Bool.or_false, Bool.false_or, Bool.not_true, Bool.not_false, Bool.and_self, List.elem_nil, List.all_nil, List.all_cons, Bool.and_true, Bool.true_and, true_and, and_true, List.map_cons, List.map_nil, List.nil_append, List.cons_append, List.append_nil, Nat.zero_add, Nat.add_zero, List.drop_succ_cons, List.drop_zero, List.take_succ_cons, List.take_zero, List.getElem?_cons_zero, List.getElem?_cons_succ, List.length_cons, List.length_nil, h0, hlen, q1, hr, n0, cv, pc1_int, wx, w1, w2, pMax2, pmx_int, hmx, ra, q2, q3, q4]
    have q4 : decide ((n : Int) ≤ k) = false := by simp; omega
    have w3 : IntKind.i64.wrap (1 + (k : Int)) = ((k + 1 : Nat) : Int) := by rw [wrap_i64] <;> omega
    obtain ⟨a1, hc1, hb1⟩ := cut_at hS (i := 1) (j := k + 1) (by omega) (by omega)
    replace hc1 : ∀ M, slcO M 1 a (some (I64 1)) (some (I64 ((k + 1 : Nat) : Int))) none = some (a1, M) := hc1
    replace hb1 : Bs a1 (r.take k) := by
      have e : ((x :: r).drop 1).take (k + 1 - 1) = r.take k := by simp
      rw [e] at hb1; exact hb1
    have hlk : (r.take k).length = k := by rw [List.length_take]; omega
    have hl1 := hb1.len
    rw [hlk] at hl1
    have ra1 : rowsOf a1 = [] := hb1.rows mem0
    have hg : getM (x :: r) = if sizeM (dec (r.take k)) = 1 + (k : Int) then (((dec (r.take k) : Nat) : Int), 1 + (k : Int), 0) else (0, 0, 8) := by
      simp only [getM]; rw [if_neg h1, if_neg (by omega), hk]
    rw [hg]
    simp (maxSteps := 2000000) (disch := first | omega | assumption | (simp only [add_size, upd_size, mem0_size, List.length_cons, List.length_nil, wf_add, wf_upd, wf_mem0, lo_wf, bk_wf, lo_size, bk_size, List.all_cons, List.all_nil, one_sc_int, one_sc_bool, one_sc_string, one_sc_slice, one_sc_ptr, one_ptr, one_sl, one_pv, one_cp, one_fn, Bool.and_true, Nat.reduceAdd, *]; done) | (simp only [add_size, upd_size, mem0_size, lo_size, bk_size, List.length_cons, List.length_nil]; omega)) only [RUN, footA, feetIn, resultsA, tupOf, frzL, slot, lay, icyL, fillA, repCells, kR, reduceIte, Nat.reduceEqDiff, Nat.reduceBEq, Nat.reduceLT, Nat.reduceAdd, Nat.reduceLeDiff, Nat.reduceSub, Nat.reduceMul, Int.reduceLT, Int.reduceLE, Int.reduceEq, Int.reduceAdd, Int.reduceSub, Int.reduceMul, decide_true, decide_false, Int.lt_irrefl, Nat.beq_eq, Option.map_some, Option.map_none, List.contains_cons, List.contains_nil, Bool.or_true, Bool.true_or, Bool.or_false, Bool.false_or, Bool.not_true, Bool.not_false, Bool.and_self, List.elem_nil, List.all_nil, List.all_cons, Bool.and_true, Bool.true_and, true_and, and_true, List.map_cons, List.map_nil, List.nil_append, List.cons_append, List.append_nil, Nat.zero_add, Nat.add_zero, List.drop_succ_cons, List.drop_zero, List.take_succ_cons, List.take_zero, List.getElem?_cons_zero, List.getElem?_cons_succ, List.length_cons, List.length_nil, h0, hlen, q1, hr, n0, cv, pc1_int, wx, w1, w2, pMax2, pmx_int, hmx, ra, q2, q3, q4, w3, hc1, hl1, ra1]
    refine w_loop (I := fun m t N => ∃ j : Nat, j ≤ k ∧ m = k - j ∧ nth undefA t 2 = I64 (dec ((r.take k).take j)) ∧ nth undefA t 5 = I64 k ∧ nth undefA t 35 = a1 ∧ nth undefA t 36 = I64 k ∧ nth undefA t 37 = I64 j) (n := k) (by omega) ?_ ?_
    · refine ⟨0, by omega, rfl, ?_, ?_, ?_, ?_, ?_⟩
      all_goals simp (maxSteps := 2000000) (disch := first | omega | assumption | (simp only [add_size, upd_size, mem0_size, List.length_cons, List.length_nil, wf_add, wf_upd, wf_mem0, lo_wf, bk_wf, lo_size, bk_size, List.all_cons, List.all_nil, one_sc_int, one_sc_bool, one_sc_string, one_sc_slice, one_sc_ptr, one_ptr, one_sl, one_pv, one_cp, one_fn, Bool.and_true, Nat.reduceAdd, *]; done) | (simp only [add_size, upd_size, mem0_size, lo_size, bk_size, List.length_cons, List.length_nil]; omega)) only [RUN, footA, feetIn, resultsA, tupOf, frzL, slot, lay, icyL, fillA, repCells, kR, reduceIte, Nat.reduceEqDiff, Nat.reduceBEq, Nat.reduceLT, Nat.reduceAdd, Nat.reduceLeDiff, Nat.reduceSub, Nat.reduceMul, Int.reduceLT, Int.reduceLE, Int.reduceEq, Int.reduceAdd, Int.reduceSub, Int.reduceMul, decide_true, decide_false, Int.lt_irrefl, Nat.beq_eq, Option.map_some, Option.map_none, List.contains_cons, List.contains_nil, Bool.or_true, Bool.true_or, Bool.or_false, Bool.false_or, Bool.not_true, Bool.not_false, Bool.and_self, List.elem_nil, List.all_nil, List.all_cons, Bool.and_true, Bool.true_and, true_and, and_true, List.map_cons, List.map_nil, List.nil_append, List.cons_append, List.append_nil, Nat.zero_add, Nat.add_zero, List.drop_succ_cons, List.drop_zero, List.take_succ_cons, List.take_zero, List.getElem?_cons_zero, List.getElem?_cons_succ, List.length_cons, List.length_nil, h0]
      all_goals rfl
    · rintro m t N hl' ⟨j, hj, hm, t2, t5, t35, t36, t37⟩
      simp only [ht] at hl' ⊢
      clear h0 ht b
      by_cases hlt : j < k
      · have hc' : decide ((j : Int) < k) = true := by simp; omega
        have w4 : IntKind.i64.wrap ((j : Int) + 1) = ((j + 1 : Nat) : Int) := by rw [wrap_i64] <;> omega
        obtain ⟨y, hy⟩ : ∃ y, (r.take k)[j]? = some y := ⟨_, List.getElem?_eq_getElem (by omega)⟩
        obtain ⟨rr, hr2, hrr, _⟩ := hb1.iad j (by omega)
        rw [show (r.take k)[j]'(by omega) = y by rw [List.getElem?_eq_getElem (by omega)] at hy; exact Option.some.inj hy] at hrr
        obtain rfl : rr = [U8 y.toNat] := hrr
        have hy8 := y.toNat_lt
        have wy : IntKind.i64.wrap (y.toNat : Int) = y.toNat := by rw [wrap_i64] <;> omega
        have hds := dec_take_succ (r.take k) j y hy
        have hdl : dec ((r.take k).take j) < 281474976710656 := by
          have h := dec_lt ((r.take k).take j)
          have h2 : ((r.take k).take j).length ≤ 6 := by rw [List.length_take]; omega
          exact Nat.lt_of_lt_of_le h (Nat.le_trans (Nat.pow_le_pow_right (by omega) h2) (by decide))
        generalize dec ((r.take k).take j) = v at *
        have e1 := shl8 Try.prog 3 v (by omega)
        have e2 := or8 Try.prog 3 v y.toNat (by omega) (by omega)
        simp (maxSteps := 2000000) (disch := first | omega | assumption | (simp only [add_size, upd_size, mem0_size, List.length_cons, List.length_nil, wf_add, wf_upd, wf_mem0, lo_wf, bk_wf, lo_size, bk_size, List.all_cons, List.all_nil, one_sc_int, one_sc_bool, one_sc_string, one_sc_slice, one_sc_ptr, one_ptr, one_sl, one_pv, one_cp, one_fn, Bool.and_true, Nat.reduceAdd, *]; done) | (simp only [add_size, upd_size, mem0_size, lo_size, bk_size, List.length_cons, List.length_nil]; omega)) only [RUN, footA, feetIn, resultsA, tupOf, frzL, slot, lay, icyL, fillA, repCells, kR, reduceIte, Nat.reduceEqDiff, Nat.reduceBEq, Nat.reduceLT, Nat.reduceAdd, Nat.reduceLeDiff, Nat.reduceSub, Nat.reduceMul, Int.reduceLT, Int.reduceLE, Int.reduceEq, Int.reduceAdd, Int.reduceSub, Int.reduceMul, decide_true, decide_false, Int.lt_irrefl, Nat.beq_eq, Option.map_some, Option.map_none, List.contains_cons, List.contains_nil, Bool.or_true, Bool.true_or, Bool.or_false, Bool.false_or, Bool.not_true, Bool.not_false, Bool.and_self, List.elem_nil, List.all_nil, List.all_cons, Bool.and_true, Bool.true_and, true_and, and_true, List.map_cons, List.map_nil, List.nil_append, List.cons_append, List.append_nil, Nat.zero_add, Nat.add_zero, List.drop_succ_cons, List.drop_zero, List.take_succ_cons, List.take_zero, List.getElem?_cons_zero, List.getElem?_cons_succ, List.length_cons, List.length_nil, t2, t5, t35, t36, t37, hc', hr2, cv, pc1_int, wy, w4, e1, e2]
        exact ⟨hl', k - (j + 1), by omega, j + 1, by omega, rfl, by rw [hds], rfl⟩
      · have hc' : decide ((j : Int) < k) = false := by simp; omega
        obtain rfl : j = k := by omega
        rw [List.take_of_length_le (by omega)] at t2
        have hsz := fun M => size_run (fuel := fuel) (M := M) (d := d) (dec (r.take j)) (by omega)
        by_cases he : sizeM (dec (r.take j)) = 1 + (j : Int)
        · have q5 : decide (sizeM (dec (r.take j)) = ((j + 1 : Nat) : Int)) = true := by simp; omega
          have w5 : ((j + 1 : Nat) : Int) = 1 + (j : Int) := by omega
          rw [if_pos he]
          simp (maxSteps := 2000000) (disch := first | omega | assumption | (simp only [add_size, upd_size, mem0_size, List.length_cons, List.length_nil, wf_add, wf_upd, wf_mem0, lo_wf, bk_wf, lo_size, bk_size, List.all_cons, List.all_nil, one_sc_int, one_sc_bool, one_sc_string, one_sc_slice, one_sc_ptr, one_ptr, one_sl, one_pv, one_cp, one_fn, Bool.and_true, Nat.reduceAdd, *]; done) | (simp only [add_size, upd_size, mem0_size, lo_size, bk_size, List.length_cons, List.length_nil]; omega)) only [RUN, footA, feetIn, resultsA, tupOf, frzL, slot, lay, icyL, fillA, repCells, kR, reduceIte, Nat.reduceEqDiff, Nat.reduceBEq, Nat.reduceLT, Nat.reduceAdd, Nat.reduceLeDiff, Nat.reduceSub, Nat.reduceMul, Int.reduceLT, Int.reduceLE, Int.reduceEq, Int.reduceAdd, Int.reduceSub, Int.reduceMul, decide_true, decide_false, Int.lt_irrefl, Nat.beq_eq, Option.map_some, Option.map_none, List.contains_cons, List.contains_nil, Bool.or_true, Bool.true_or, Bool.or_false, Bool.false_or, Bool.not_true, Bool.not_false, Bool.and_self, List.elem_nil, List.all_nil, List.all_cons, Bool.and_true, Bool.true_and, true_and, and_true, List.map_cons, List.map_nil, List.nil_append, List.cons_append, List.append_nil, Nat.zero_add, Nat.add_zero, List.drop_succ_cons, List.drop_zero, List.take_succ_cons, List.take_zero, List.getElem?_cons_zero, List.getElem?_cons_succ, List.length_cons, List.length_nil, t2, t5, t35, t36, t37, hc', hsz, w3, q5]
          rw [w5]
        · have q5 : decide (sizeM (dec (r.take j)) = ((j + 1 : Nat) : Int)) = false := by simp; omega
          rw [if_neg he]
          simp (maxSteps := 2000000) (disch := first | omega | assumption | (simp only [add_size, upd_size, mem0_size, List.length_cons, List.length_nil, wf_add, wf_upd, wf_mem0, lo_wf, bk_wf, lo_size, bk_size, List.all_cons, List.all_nil, one_sc_int, one_sc_bool, one_sc_string, one_sc_slice, one_sc_ptr, one_ptr, one_sl, one_pv, one_cp, one_fn, Bool.and_true, Nat.reduceAdd, *]; done) | (simp only [add_size, upd_size, mem0_size, lo_size, bk_size, List.length_cons, List.length_nil]; omega)) only [RUN, footA, feetIn, resultsA, tupOf, frzL, slot, lay, icyL, fillA, repCells, kR, reduceIte, Nat.reduceEqDiff, Nat.reduceBEq, Nat.reduceLT, Nat.reduceAdd, Nat.reduceLeDiff, Nat.reduceSub, Nat.reduceMul, Int.reduceLT, Int.reduceLE, Int.reduceEq, Int.reduceAdd, Int.reduceSub, Int.reduceMul, decide_true, decide_false, Int.lt_irrefl, Nat.beq_eq, Option.map_some, Option.map_none, List.contains_cons, List.contains_nil, Bool.or_true, Bool.true_or, Bool.or_false, Bool.false_or, Bool.not_true, Bool.not_false, Bool.and_self, List.elem_nil, List.all_nil, List.all_cons, Bool.and_true, Bool.true_and, true_and, and_true, List.map_cons, List.map_nil, List.nil_append, List.cons_append, List.append_nil, Nat.zero_add, Nat.add_zero, List.drop_succ_cons, List.drop_zero, List.take_succ_cons, List.take_zero, List.getElem?_cons_zero, List.getElem?_cons_succ, List.length_cons, List.length_nil, t2, t5, t35, t36, t37, hc', hsz, w3, q5]
end Go.Proofs.Ytidkemgkejbalaa
