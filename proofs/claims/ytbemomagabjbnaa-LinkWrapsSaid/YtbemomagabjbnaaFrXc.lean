/-
  The reference: sums.
-/
import Derived.Test.YtbemomagabjbnaaFrXb
set_option linter.unusedSimpArgs false
set_option linter.unusedVariables false
set_option maxRecDepth 100000
namespace Go.Proofs.Ytbemomagabjbnaa
open Go Go.Ax
variable {fuel : Nat} {M : Mem} {Q : AV → Mem → Prop} {d : Nat}

theorem xor64 (P : Program) (ty : TypeId) (a b : Nat) (ha : a < 16777216) (hb : b < 16777216) : binV P .xor ty .i64 (a : Int) .i64 (b : Int) = some (.int .i64 ((a ^^^ b : Nat) : Int)) := by
  have hx := xor_lt24 ha hb
  simp only [binV, binOp, ne_eq, not_true_eq_false, if_false, Op.intBits]
  show some (Value.int .i64 (IntKind.i64.wrap ((BitVec.ofInt 64 (a : Int) ^^^ BitVec.ofInt 64 (b : Int)).toNat : Nat))) = _
  rw [BitVec.ofInt_natCast, BitVec.ofInt_natCast, BitVec.toNat_xor, BitVec.toNat_ofNat, BitVec.toNat_ofNat, Nat.mod_eq_of_lt (by omega), Nat.mod_eq_of_lt (by omega), wrap_i64] <;> omega

set_option maxHeartbeats 8000000 in
theorem rsumOf_run {a : AV} {l : List UInt8} {M : Mem} (hS : Rd M 1 isU8 a l) (hl : l.length < fuel) (hl2 : l.length ≤ 1000000000) (hf : 100 < fuel) : callN Try.prog (fsT tbl) fuel (d + 1) (.fn 54) [a] M = some (.sc (.int .u32 (sumOf l)), M) := by
  have hlen := hS.len
  apply w3_eq
  refine call_0 tf54 rfl (by simp [a54]) fun b ht hx => ?_
  have h0 := hx 0 _ rfl
  clear hx
  simp only [a54, c54] at ht ⊢
  simp (maxSteps := 2000000) (disch := first | omega | assumption | (simp only [add_size, upd_size, mem0_size, List.length_cons, List.length_nil, wf_add, wf_upd, wf_mem0, lo_wf, bk_wf, lo_size, bk_size, List.all_cons, List.all_nil, one_sc_int, one_sc_bool, one_sc_string, one_sc_slice, one_sc_ptr, one_ptr, one_sl, one_pv, one_cp, one_fn, Bool.and_true, Nat.reduceAdd, *]; done) | (simp only [add_size, upd_size, mem0_size, lo_size, bk_size, List.length_cons, List.length_nil]; omega)) only [RUN, footA, feetIn, resultsA, tupOf, frzL, slot, lay, icyL, fillA, repCells, kR, reduceIte, Nat.reduceEqDiff, Nat.reduceBEq, Nat.reduceLT, Nat.reduceAdd, Nat.reduceLeDiff, Nat.reduceSub, Nat.reduceMul, Int.reduceLT, Int.reduceLE, Int.reduceEq, Int.reduceAdd, Int.reduceSub, Int.reduceMul, decide_true, decide_false, Int.lt_irrefl, Nat.beq_eq, Option.map_some, Option.map_none, List.contains_cons, List.contains_nil, Bool.or_true, Bool.true_or, Bool.or_false, Bool.false_or, Bool.not_true, Bool.not_false, Bool.and_self, List.elem_nil, List.all_nil, List.all_cons, Bool.and_true, Bool.true_and, true_and, and_true, List.map_cons, List.map_nil, List.nil_append, List.cons_append, List.append_nil, Nat.zero_add, Nat.add_zero, List.drop_succ_cons, List.drop_zero, List.take_succ_cons, List.take_zero, List.getElem?_cons_zero, List.getElem?_cons_succ, List.length_cons, List.length_nil, h0, hlen]
  refine w_loop (I := fun n t N => M = N ∧ ∃ (i s : Nat), i ≤ l.length ∧ n = l.length - i ∧ nth undefA t 3 = I64 s ∧ nth undefA t 0 = a ∧ nth undefA t 4 = I64 i ∧ s < 16777216 ∧ s = (l.take i).foldl byteS 11994318) (n := l.length) hl ?_ ?_
  · refine ⟨rfl, 0, 11994318, by omega, by omega, ?_, ?_, ?_, by omega, rfl⟩
    all_goals simp (maxSteps := 2000000) (disch := first | omega | assumption | (simp only [add_size, upd_size, mem0_size, List.length_cons, List.length_nil, wf_add, wf_upd, wf_mem0, lo_wf, bk_wf, lo_size, bk_size, List.all_cons, List.all_nil, one_sc_int, one_sc_bool, one_sc_string, one_sc_slice, one_sc_ptr, one_ptr, one_sl, one_pv, one_cp, one_fn, Bool.and_true, Nat.reduceAdd, *]; done) | (simp only [add_size, upd_size, mem0_size, lo_size, bk_size, List.length_cons, List.length_nil]; omega)) only [RUN, footA, feetIn, resultsA, tupOf, frzL, slot, lay, icyL, fillA, repCells, kR, reduceIte, Nat.reduceEqDiff, Nat.reduceBEq, Nat.reduceLT, Nat.reduceAdd, Nat.reduceLeDiff, Nat.reduceSub, Nat.reduceMul, Int.reduceLT, Int.reduceLE, Int.reduceEq, Int.reduceAdd, Int.reduceSub, Int.reduceMul, decide_true, decide_false, Int.lt_irrefl, Nat.beq_eq, Option.map_some, Option.map_none, List.contains_cons, List.contains_nil, Bool.or_true, Bool.true_or, Bool.or_false, Bool.false_or, Bool.not_true, Bool.not_false, Bool.and_self, List.elem_nil, List.all_nil, List.all_cons, Bool.and_true, Bool.true_and, true_and, and_true, List.map_cons, List.map_nil, List.nil_append, List.cons_append, List.append_nil, Nat.zero_add, Nat.add_zero, List.drop_succ_cons, List.drop_zero, List.take_succ_cons, List.take_zero, List.getElem?_cons_zero, List.getElem?_cons_succ, List.length_cons, List.length_nil, h0]
    all_goals rfl
  · rintro n t N hl' ⟨rfl, i, s, hi, hn, t3, t0, t4, hs, hse⟩
    simp only [ht] at hl' ⊢
    clear h0 ht b
    by_cases hlt : i < l.length
    · have hc : decide ((i : Int) < l.length) = true := by simp; omega
      have w1 : IntKind.i64.wrap ((i : Int) + 1) = ((i + 1 : Nat) : Int) := by rw [wrap_i64] <;> omega
      obtain ⟨r, p, hr, rfl, _, hrp, hld⟩ := hS.elem i hlt
      have hld2 := (hld _ fun _ _ => rfl).2 _ rfl
      have RLa : RL _ a := hS.lt
      have RLp : RL _ p := fun id h => RLa id (by rw [← hrp]; exact h)
      have hx := l[i].toNat_lt
      have cv := fun t r x => pConv2 (P := Try.prog) (t := t) Try.underlying5 Try.underlying3 r x
      have w2 : IntKind.i64.wrap (l[i].toNat : Int) = (l[i].toNat : Int) := by rw [wrap_i64] <;> omega
      have hby := rbits_byte s l[i] hs
      have hfo : (l.take (i + 1)).foldl byteS 11994318 = byteS s l[i] := by
        rw [List.take_add_one, List.getElem?_eq_getElem hlt, Option.toList_some, List.foldl_append, ← hse, List.foldl_cons, List.foldl_nil]
      have hblt := byteS_lt s l[i] hs
      obtain ⟨x, hxe⟩ : ∃ x, l[i]'hlt = x := ⟨_, rfl⟩
      rw [hxe] at hx hld2 w2 hby hfo hblt
      clear hld hxe
      simp (maxSteps := 2000000) (disch := first | omega | assumption | (simp only [add_size, upd_size, mem0_size, List.length_cons, List.length_nil, wf_add, wf_upd, wf_mem0, lo_wf, bk_wf, lo_size, bk_size, List.all_cons, List.all_nil, one_sc_int, one_sc_bool, one_sc_string, one_sc_slice, one_sc_ptr, one_ptr, one_sl, one_pv, one_cp, one_fn, Bool.and_true, Nat.reduceAdd, *]; done) | (simp only [add_size, upd_size, mem0_size, lo_size, bk_size, List.length_cons, List.length_nil]; omega)) only [RUN, footA, feetIn, resultsA, tupOf, frzL, slot, lay, icyL, fillA, repCells, kR, reduceIte, Nat.reduceEqDiff, Nat.reduceBEq, Nat.reduceLT, Nat.reduceAdd, Nat.reduceLeDiff, Nat.reduceSub, Nat.reduceMul, Int.reduceLT, Int.reduceLE, Int.reduceEq, Int.reduceAdd, Int.reduceSub, Int.reduceMul, decide_true, decide_false, Int.lt_irrefl, Nat.beq_eq, Option.map_some, Option.map_none, List.contains_cons, List.contains_nil, Bool.or_true, Bool.true_or, Bool.or_false, Bool.false_or, Bool.not_true, Bool.not_false, Bool.and_self, List.elem_nil, List.all_nil, List.all_cons, Bool.and_true, Bool.true_and, true_and, and_true, List.map_cons, List.map_nil, List.nil_append, List.cons_append, List.append_nil, Nat.zero_add, Nat.add_zero, List.drop_succ_cons, List.drop_zero, List.take_succ_cons, List.take_zero, List.getElem?_cons_zero, List.getElem?_cons_succ, List.length_cons, List.length_nil, t3, t0, t4, hc, hlen, hr, cv, pc1_int, w2, hld2, rows_lt RLa, rows_lt RLp]
      refine w_loop (I := fun n t N => M = N ∧ ∃ (j : Nat), j ≤ 8 ∧ n = 8 - j ∧ nth undefA t 3 = I64 (rbits j s x.toNat) ∧ nth undefA t 5 = I64 ((x.toNat * 2 ^ j : Nat) : Int) ∧ nth undefA t 0 = a ∧ nth undefA t 4 = I64 i ∧ nth undefA t 6 = I64 j) (n := 8) (by omega) ?_ ?_
      · refine ⟨rfl, 0, by omega, by omega, ?_, ?_, ?_, ?_, ?_⟩
        all_goals simp (maxSteps := 2000000) (disch := first | omega | assumption | (simp only [add_size, upd_size, mem0_size, List.length_cons, List.length_nil, wf_add, wf_upd, wf_mem0, lo_wf, bk_wf, lo_size, bk_size, List.all_cons, List.all_nil, one_sc_int, one_sc_bool, one_sc_string, one_sc_slice, one_sc_ptr, one_ptr, one_sl, one_pv, one_cp, one_fn, Bool.and_true, Nat.reduceAdd, *]; done) | (simp only [add_size, upd_size, mem0_size, lo_size, bk_size, List.length_cons, List.length_nil]; omega)) only [RUN, footA, feetIn, resultsA, tupOf, frzL, slot, lay, icyL, fillA, repCells, kR, reduceIte, Nat.reduceEqDiff, Nat.reduceBEq, Nat.reduceLT, Nat.reduceAdd, Nat.reduceLeDiff, Nat.reduceSub, Nat.reduceMul, Int.reduceLT, Int.reduceLE, Int.reduceEq, Int.reduceAdd, Int.reduceSub, Int.reduceMul, decide_true, decide_false, Int.lt_irrefl, Nat.beq_eq, Option.map_some, Option.map_none, List.contains_cons, List.contains_nil, Bool.or_true, Bool.true_or, Bool.or_false, Bool.false_or, Bool.not_true, Bool.not_false, Bool.and_self, List.elem_nil, List.all_nil, List.all_cons, Bool.and_true, Bool.true_and, true_and, and_true, List.map_cons, List.map_nil, List.nil_append, List.cons_append, List.append_nil, Nat.zero_add, Nat.add_zero, List.drop_succ_cons, List.drop_zero, List.take_succ_cons, List.take_zero, List.getElem?_cons_zero, List.getElem?_cons_succ, List.length_cons, List.length_nil, t3, t0, t4]
        all_goals first | rfl | (rw [Nat.pow_zero, Nat.mul_one])
      · rintro n' t' N' hl'' ⟨rfl, j, hj, hn', u3, u5, u0, u4, u6⟩
        simp only [hl'] at hl'' ⊢
        have hsj := rbits_lt j s x.toNat hs
        have hrs := rbits_succ j s x.toNat
        have w3 : IntKind.i64.wrap ((j : Int) + 1) = ((j + 1 : Nat) : Int) := by rw [wrap_i64] <;> omega
        by_cases hj8 : j < 8
        · have hc2 : decide ((j : Int) < 8) = true := by simp; omega
          have hxx : x.toNat * 2 ^ j ≤ 65280 := by
            have := Nat.pow_le_pow_right (show 0 < 2 by omega) (show j ≤ 8 by omega)
            have h2 : x.toNat * 2 ^ j ≤ 255 * 2 ^ 8 := Nat.mul_le_mul (by omega) this
            omega
          have hx2 : x.toNat * 2 ^ (j + 1) = x.toNat * 2 ^ j * 2 := by rw [Nat.pow_succ, Nat.mul_assoc]
          generalize x.toNat * 2 ^ j = z at *
          generalize rbits j s x.toNat = q at *
          have e1 : binV Try.prog .quo 3 .i64 (q : Int) .i64 8388608 = some (.int .i64 ((q / 8388608 : Nat) : Int)) := quoN _ _ _ q 8388608 (by omega) (by rw [wrap_i64] <;> omega)
          have e2 : binV Try.prog .quo 3 .i64 (z : Int) .i64 128 = some (.int .i64 ((z / 128 : Nat) : Int)) := quoN _ _ _ z 128 (by omega) (by rw [wrap_i64] <;> omega)
          have e3 : binV Try.prog .rem 3 .i64 ((z / 128 : Nat) : Int) .i64 2 = some (.int .i64 ((z / 128 % 2 : Nat) : Int)) := remN _ _ _ _ 2 (by omega)
          have e4 : binV Try.prog .rem 3 .i64 (q : Int) .i64 8388608 = some (.int .i64 ((q % 8388608 : Nat) : Int)) := remN _ _ _ q 8388608 (by omega)
          have w5 : IntKind.i64.wrap (((q % 8388608 : Nat) : Int) * 2) = ((q % 8388608 * 2 : Nat) : Int) := by rw [wrap_i64] <;> omega
          have w6 : IntKind.i64.wrap ((z : Int) * 2) = ((z * 2 : Nat) : Int) := by rw [wrap_i64] <;> omega
          have e5 : binV Try.prog .xor 3 .i64 ((q % 8388608 * 2 : Nat) : Int) .i64 8801531 = some (.int .i64 (((q % 8388608 * 2) ^^^ 8801531 : Nat) : Int)) := xor64 _ _ _ 8801531 (by omega) (by omega)
          by_cases hb : q / 8388608 = z / 128 % 2
          · have c3 : decide (((q / 8388608 : Nat) : Int) = ((z / 128 % 2 : Nat) : Int)) = true := decide_eq_true (by omega)
            have hrb : rbit q z = q % 8388608 * 2 := by unfold rbit; rw [if_pos hb]
            simp (maxSteps := 2000000) (disch := first | omega | assumption | (simp only [add_size, upd_size, mem0_size, List.length_cons, List.length_nil, wf_add, wf_upd, wf_mem0, lo_wf, bk_wf, lo_size, bk_size, List.all_cons, List.all_nil, one_sc_int, one_sc_bool, one_sc_string, one_sc_slice, one_sc_ptr, one_ptr, one_sl, one_pv, one_cp, one_fn, Bool.and_true, Nat.reduceAdd, *]; done) | (simp only [add_size, upd_size, mem0_size, lo_size, bk_size, List.length_cons, List.length_nil]; omega)) only [RUN, footA, feetIn, resultsA, tupOf, frzL, slot, lay, icyL, fillA, repCells, kR, reduceIte, Nat.reduceEqDiff, Nat.reduceBEq, Nat.reduceLT, Nat.reduceAdd, Nat.reduceLeDiff, Nat.reduceSub, Nat.reduceMul, Int.reduceLT, Int.reduceLE, Int.reduceEq, Int.reduceAdd, Int.reduceSub, Int.reduceMul, decide_true, decide_false, Int.lt_irrefl, Nat.beq_eq, Option.map_some, Option.map_none, List.contains_cons, List.contains_nil, Bool.or_true, Bool.true_or, Bool.or_false, Bool.false_or, Bool.not_true, Bool.not_false, Bool.and_self, List.elem_nil, List.all_nil, List.all_cons, Bool.and_true, Bool.true_and, true_and, and_true, List.map_cons, List.map_nil, List.nil_append, List.cons_append, List.append_nil, Nat.zero_add, Nat.add_zero, List.drop_succ_cons, List.drop_zero, List.take_succ_cons, List.take_zero, List.getElem?_cons_zero, List.getElem?_cons_succ, List.length_cons, List.length_nil, u3, u5, u0, u4, u6, hc2, e1, e2, e3, e4, w3, w5, w6, c3]
            exact ⟨hl'', 8 - (j + 1), by omega, j + 1, by omega, rfl, by rw [hrs, hrb], by rw [hx2], rfl⟩
          · have c3 : decide (((q / 8388608 : Nat) : Int) = ((z / 128 % 2 : Nat) : Int)) = false := decide_eq_false (by omega)
            have hrb : rbit q z = (q % 8388608 * 2) ^^^ 8801531 := by unfold rbit; rw [if_neg hb]
            generalize (q % 8388608 * 2) ^^^ 8801531 = zz at e5 hrb
            simp (maxSteps := 2000000) (disch := first | omega | assumption | (simp only [add_size, upd_size, mem0_size, List.length_cons, List.length_nil, wf_add, wf_upd, wf_mem0, lo_wf, bk_wf, lo_size, bk_size, List.all_cons, List.all_nil, one_sc_int, one_sc_bool, one_sc_string, one_sc_slice, one_sc_ptr, one_ptr, one_sl, one_pv, one_cp, one_fn, Bool.and_true, Nat.reduceAdd, *]; done) | (simp only [add_size, upd_size, mem0_size, lo_size, bk_size, List.length_cons, List.length_nil]; omega)) only [RUN, footA, feetIn, resultsA, tupOf, frzL, slot, lay, icyL, fillA, repCells, kR, reduceIte, Nat.reduceEqDiff, Nat.reduceBEq, Nat.reduceLT, Nat.reduceAdd, Nat.reduceLeDiff, Nat.reduceSub, Nat.reduceMul, Int.reduceLT, Int.reduceLE, Int.reduceEq, Int.reduceAdd, Int.reduceSub, Int.reduceMul, decide_true, decide_false, Int.lt_irrefl, Nat.beq_eq, Option.map_some, Option.map_none, List.contains_cons, List.contains_nil, Bool.or_true, Bool.true_or, Bool.or_false, Bool.false_or, Bool.not_true, Bool.not_false, Bool.and_self, List.elem_nil, List.all_nil, List.all_cons, Bool.and_true, Bool.true_and, true_and, and_true, List.map_cons, List.map_nil, List.nil_append, List.cons_append, List.append_nil, Nat.zero_add, Nat.add_zero, List.drop_succ_cons, List.drop_zero, List.take_succ_cons, List.take_zero, List.getElem?_cons_zero, List.getElem?_cons_succ, List.length_cons, List.length_nil, u3, u5, u0, u4, u6, hc2, e1, e2, e3, e4, e5, w3, w5, w6, c3]
            exact ⟨hl'', 8 - (j + 1), by omega, j + 1, by omega, rfl, by rw [hrs, hrb], by rw [hx2], rfl⟩
        · have hc2 : decide ((j : Int) < 8) = false := by simp; omega
          obtain rfl : j = 8 := by omega
          rw [hby] at u3
          simp (maxSteps := 2000000) (disch := first | omega | assumption | (simp only [add_size, upd_size, mem0_size, List.length_cons, List.length_nil, wf_add, wf_upd, wf_mem0, lo_wf, bk_wf, lo_size, bk_size, List.all_cons, List.all_nil, one_sc_int, one_sc_bool, one_sc_string, one_sc_slice, one_sc_ptr, one_ptr, one_sl, one_pv, one_cp, one_fn, Bool.and_true, Nat.reduceAdd, *]; done) | (simp only [add_size, upd_size, mem0_size, lo_size, bk_size, List.length_cons, List.length_nil]; omega)) only [RUN, footA, feetIn, resultsA, tupOf, frzL, slot, lay, icyL, fillA, repCells, kR, reduceIte, Nat.reduceEqDiff, Nat.reduceBEq, Nat.reduceLT, Nat.reduceAdd, Nat.reduceLeDiff, Nat.reduceSub, Nat.reduceMul, Int.reduceLT, Int.reduceLE, Int.reduceEq, Int.reduceAdd, Int.reduceSub, Int.reduceMul, decide_true, decide_false, Int.lt_irrefl, Nat.beq_eq, Option.map_some, Option.map_none, List.contains_cons, List.contains_nil, Bool.or_true, Bool.true_or, Bool.or_false, Bool.false_or, Bool.not_true, Bool.not_false, Bool.and_self, List.elem_nil, List.all_nil, List.all_cons, Bool.and_true, Bool.true_and, true_and, and_true, List.map_cons, List.map_nil, List.nil_append, List.cons_append, List.append_nil, Nat.zero_add, Nat.add_zero, List.drop_succ_cons, List.drop_zero, List.take_succ_cons, List.take_zero, List.getElem?_cons_zero, List.getElem?_cons_succ, List.length_cons, List.length_nil, u3, u5, u0, u4, u6, hc2, w1]
          exact ⟨hl'', l.length - (i + 1), by omega, i + 1, byteS s x, by omega, rfl, rfl, rfl, hblt, by rw [hfo]⟩
    · have hc : decide ((i : Int) < l.length) = false := by simp; omega
      obtain rfl : i = l.length := by omega
      rw [List.take_length] at hse
      have cv := fun t r x => pConv2 (P := Try.prog) (t := t) Try.underlying3 Try.underlying93 r x
      have w2 : IntKind.u32.wrap (s : Int) = (s : Int) := wrap_u32N _ (by omega)
      have RLa : RL _ a := hS.lt
      simp (maxSteps := 2000000) (disch := first | omega | assumption | (simp only [add_size, upd_size, mem0_size, List.length_cons, List.length_nil, wf_add, wf_upd, wf_mem0, lo_wf, bk_wf, lo_size, bk_size, List.all_cons, List.all_nil, one_sc_int, one_sc_bool, one_sc_string, one_sc_slice, one_sc_ptr, one_ptr, one_sl, one_pv, one_cp, one_fn, Bool.and_true, Nat.reduceAdd, *]; done) | (simp only [add_size, upd_size, mem0_size, lo_size, bk_size, List.length_cons, List.length_nil]; omega)) only [RUN, footA, feetIn, resultsA, tupOf, frzL, slot, lay, icyL, fillA, repCells, kR, reduceIte, Nat.reduceEqDiff, Nat.reduceBEq, Nat.reduceLT, Nat.reduceAdd, Nat.reduceLeDiff, Nat.reduceSub, Nat.reduceMul, Int.reduceLT, Int.reduceLE, Int.reduceEq, Int.reduceAdd, Int.reduceSub, Int.reduceMul, decide_true, decide_false, Int.lt_irrefl, Nat.beq_eq, Option.map_some, Option.map_none, List.contains_cons, List.contains_nil, Bool.or_true, Bool.true_or, Bool.or_false, Bool.false_or, Bool.not_true, Bool.not_false, Bool.and_self, List.elem_nil, List.all_nil, List.all_cons, Bool.and_true, Bool.true_and, true_and, and_true, List.map_cons, List.map_nil, List.nil_append, List.cons_append, List.append_nil, Nat.zero_add, Nat.add_zero, List.drop_succ_cons, List.drop_zero, List.take_succ_cons, List.take_zero, List.getElem?_cons_zero, List.getElem?_cons_succ, List.length_cons, List.length_nil, t3, t0, t4, hc, hlen, cv, pc1_int, w2]
      rw [hse]; rfl
end Go.Proofs.Ytbemomagabjbnaa
