/-
  sum: Of, Bytes.
-/
import Derived.Test.YtidkemgkejbalaaFrA
set_option linter.unusedSimpArgs false
set_option linter.unusedVariables false
set_option maxRecDepth 100000
namespace Go.Proofs.Ytidkemgkejbalaa
open Go Go.Ax
variable {fuel : Nat} {M : Mem} {Q : AV → Mem → Prop} {d : Nat}

theorem wrap_u8N (n : Nat) : IntKind.u8.wrap (n : Int) = ((UInt8.ofNat n).toNat : Int) := by
  simp [IntKind.wrap, IntKind.bits, IntKind.signed, UInt8.toNat_ofNat']
theorem wrap_u32N (n : Nat) (h : n < 4294967296) : IntKind.u32.wrap (n : Int) = n := by
  simp [IntKind.wrap, IntKind.bits, IntKind.signed]
  omega
theorem xor32 (P : Program) (ty : TypeId) (a b : Nat) (ha : a < 4294967296) (hb : b < 4294967296) : binV P .xor ty .u32 (a : Int) .u32 (b : Int) = some (.int .u32 ((a ^^^ b : Nat) : Int)) := by
  simp only [binV, binOp, ne_eq, not_true_eq_false, if_false, Op.intBits]
  show some (Value.int .u32 (IntKind.u32.wrap ((BitVec.ofInt 32 (a : Int) ^^^ BitVec.ofInt 32 (b : Int)).toNat : Nat))) = _
  rw [BitVec.ofInt_natCast, BitVec.ofInt_natCast, BitVec.toNat_xor, BitVec.toNat_ofNat, BitVec.toNat_ofNat, Nat.mod_eq_of_lt (by simpa using ha), Nat.mod_eq_of_lt (by simpa using hb), wrap_u32N _ (Nat.xor_lt_two_pow (n := 32) (by simpa using ha) (by simpa using hb))]
theorem shl32 (P : Program) (ty : TypeId) (a k : Nat) (hk : k ≤ 32) (h : a * 2 ^ k < 4294967296) : binV P .shl ty .u32 (a : Int) .u64 (k : Int) = some (.int .u32 ((a * 2 ^ k : Nat) : Int)) := by
  rw [vShl ty .u32 .u64 a k (by omega)]
  congr 2
  rw [Int.toNat_natCast, Nat.min_eq_left (by simpa [IntKind.bits] using hk)]
  rw [← wrap_u32N _ h]
  congr 1
theorem shr32 (P : Program) (ty : TypeId) (a k : Nat) (hk : k ≤ 32) : binV P .shr ty .u32 (a : Int) .u64 (k : Int) = some (.int .u32 ((a / 2 ^ k : Nat) : Int)) := by
  rw [vShr ty .u32 .u64 a k (by omega)]
  congr 2
  rw [Int.toNat_natCast, Nat.min_eq_left (by simpa [IntKind.bits] using hk), Int.fdiv_eq_ediv_of_nonneg _ (by simp [Int.pow_nonneg])]
  simp

theorem sumB_run (s : Nat) (hs : s < 16777216) : ∃ r, Bs r (sumB s) ∧ ∀ M, callN Try.prog (fsT tbl) fuel (d + 1) (.fn 10) [.sc (.int .u32 s)] M = some (r, M) := by
  refine ⟨.pv [U8 (UInt8.ofNat (s / 65536)).toNat, U8 (UInt8.ofNat (s / 256)).toNat, U8 (UInt8.ofNat s).toNat] 3 (some 3) 1, .inr ⟨[[U8 (UInt8.ofNat (s / 65536)).toNat], [U8 (UInt8.ofNat (s / 256)).toNat], [U8 (UInt8.ofNat s).toNat]], some 3, rfl, .cons rfl (.cons rfl (.cons rfl .nil)), by simp⟩, fun M => ?_⟩
  apply w3_eq
  refine call_gc tf10 rfl (by simp (maxSteps := 2000000) (disch := first | omega | assumption | (simp only [add_size, upd_size, mem0_size, List.length_cons, List.length_nil, wf_add, wf_upd, wf_mem0, lo_wf, bk_wf, lo_size, bk_size, List.all_cons, List.all_nil, one_sc_int, one_sc_bool, one_sc_string, one_sc_slice, one_sc_ptr, one_ptr, one_sl, one_pv, one_cp, one_fn, Bool.and_true, Nat.reduceAdd, *]; done) | (simp only [add_size, upd_size, mem0_size, lo_size, bk_size, List.length_cons, List.length_nil]; omega)) only [RUN, footA, feetIn, resultsA, tupOf, frzL, slot, lay, icyL, fillA, repCells, kR, reduceIte, Nat.reduceEqDiff, Nat.reduceBEq, Nat.reduceLT, Nat.reduceAdd, Nat.reduceLeDiff, Nat.reduceSub, Nat.reduceMul, Int.reduceLT, Int.reduceLE, Int.reduceEq, Int.reduceAdd, Int.reduceSub, Int.reduceMul, decide_true, decide_false, Int.lt_irrefl, Nat.beq_eq, Option.map_some, Option.map_none, List.contains_cons, List.contains_nil, Bool.or_true, Bool.true_or, Bool.or_false, Bool.false_or, Bool.not_true, Bool.not_false, Bool.and_self, List.elem_nil, List.all_nil, List.all_cons, Bool.and_true, Bool.true_and, true_and, and_true, List.map_cons, List.map_nil, List.nil_append, List.cons_append, List.append_nil, Nat.zero_add, Nat.add_zero, List.drop_succ_cons, List.drop_zero, List.take_succ_cons, List.take_zero, List.getElem?_cons_zero, List.getElem?_cons_succ, List.length_cons, List.length_nil]) (by simp [a10]) fun b ht hx => ?_
  have h0 := hx 0 _ rfl
  clear hx
  simp only [a10, c10] at ht ⊢
  have e1 : binV Try.prog .shr 34 .u32 (s : Int) .u64 16 = some (.int .u32 ((s / 65536 : Nat) : Int)) := shr32 _ _ s 16 (by omega)
  have e2 : binV Try.prog .shr 34 .u32 (s : Int) .u64 8 = some (.int .u32 ((s / 256 : Nat) : Int)) := shr32 _ _ s 8 (by omega)
  have cv := fun t r x => pConv2 (P := Try.prog) (t := t) Try.underlying34 Try.underlying5 r x
  have fz : ∀ (M : Mem) (cs : List AV), M.get 0 = some (.row false cs) → cs.length = 3 → (∀ x ∈ cs, frz M 0 11 x = some x) → frz M 0 12 (.sl 0 0 3 (some 3) 1) = some (.pv cs 3 (some 3) 1) := fun M cs hg hl hc => by
    rw [frz_sl (rd_row hg) (by omega) (by omega) hc, slot_all _ _ (by omega)]
  have f0 := fz (mem0.add (.row false [U8 (UInt8.ofNat (s / 65536)).toNat, U8 (UInt8.ofNat (s / 256)).toNat, U8 (UInt8.ofNat s).toNat])) _ (get_add_new Wf.mem0 _ _ (Nat.le_refl _) (by rw [mem0_size]; omega)) rfl (by
    intro x hx; simp at hx; rcases hx with rfl | rfl | rfl <;> exact frz_sc _ (by omega))
  simp (maxSteps := 2000000) (disch := first | omega | assumption | (simp only [add_size, upd_size, mem0_size, List.length_cons, List.length_nil, wf_add, wf_upd, wf_mem0, lo_wf, bk_wf, lo_size, bk_size, List.all_cons, List.all_nil, one_sc_int, one_sc_bool, one_sc_string, one_sc_slice, one_sc_ptr, one_ptr, one_sl, one_pv, one_cp, one_fn, Bool.and_true, Nat.reduceAdd, *]; done) | (simp only [add_size, upd_size, mem0_size, lo_size, bk_size, List.length_cons, List.length_nil]; omega)) only [RUN, footA, feetIn, resultsA, tupOf, frzL, slot, lay, icyL, fillA, repCells, kR, reduceIte, Nat.reduceEqDiff, Nat.reduceBEq, Nat.reduceLT, Nat.reduceAdd, Nat.reduceLeDiff, Nat.reduceSub, Nat.reduceMul, Int.reduceLT, Int.reduceLE, Int.reduceEq, Int.reduceAdd, Int.reduceSub, Int.reduceMul, decide_true, decide_false, Int.lt_irrefl, Nat.beq_eq, Option.map_some, Option.map_none, List.contains_cons, List.contains_nil, Bool.or_true, Bool.true_or, Bool.or_false, Bool.false_or, Bool.not_true, Bool.not_false, Bool.and_self, List.elem_nil, List.all_nil, List.all_cons, Bool.and_true, Bool.true_and, true_and, and_true, List.map_cons, List.map_nil, List.nil_append, List.cons_append, List.append_nil, Nat.zero_add, Nat.add_zero, List.drop_succ_cons, List.drop_zero, List.take_succ_cons, List.take_zero, List.getElem?_cons_zero, List.getElem?_cons_succ, List.length_cons, List.length_nil, h0, e1, e2, cv, pc1_int, wrap_u8N, f0]

set_option maxHeartbeats 8000000 in
theorem sumOf_run {a : AV} {l : List UInt8} {M : Mem} (hS : Rd M 1 isU8 a l) (hl : l.length < fuel) (hl2 : l.length ≤ 1000000000) (hf : 100 < fuel) : callN Try.prog (fsT tbl) fuel (d + 1) (.fn 11) [a] M = some (.sc (.int .u32 (sumOf l)), M) := by
  have hlen := hS.len
  apply w3_eq
  refine call_0 tf11 rfl (by simp [a11]) fun b ht hx => ?_
  have h0 := hx 0 _ rfl
  clear hx
  simp only [a11, c11] at ht ⊢
  simp (maxSteps := 2000000) (disch := first | omega | assumption | (simp only [add_size, upd_size, mem0_size, List.length_cons, List.length_nil, wf_add, wf_upd, wf_mem0, lo_wf, bk_wf, lo_size, bk_size, List.all_cons, List.all_nil, one_sc_int, one_sc_bool, one_sc_string, one_sc_slice, one_sc_ptr, one_ptr, one_sl, one_pv, one_cp, one_fn, Bool.and_true, Nat.reduceAdd, *]; done) | (simp only [add_size, upd_size, mem0_size, lo_size, bk_size, List.length_cons, List.length_nil]; omega)) only [RUN, footA, feetIn, resultsA, tupOf, frzL, slot, lay, icyL, fillA, repCells, kR, reduceIte, Nat.reduceEqDiff, Nat.reduceBEq, Nat.reduceLT, Nat.reduceAdd, Nat.reduceLeDiff, Nat.reduceSub, Nat.reduceMul, Int.reduceLT, Int.reduceLE, Int.reduceEq, Int.reduceAdd, Int.reduceSub, Int.reduceMul, decide_true, decide_false, Int.lt_irrefl, Nat.beq_eq, Option.map_some, Option.map_none, List.contains_cons, List.contains_nil, Bool.or_true, Bool.true_or, Bool.or_false, Bool.false_or, Bool.not_true, Bool.not_false, Bool.and_self, List.elem_nil, List.all_nil, List.all_cons, Bool.and_true, Bool.true_and, true_and, and_true, List.map_cons, List.map_nil, List.nil_append, List.cons_append, List.append_nil, Nat.zero_add, Nat.add_zero, List.drop_succ_cons, List.drop_zero, List.take_succ_cons, List.take_zero, List.getElem?_cons_zero, List.getElem?_cons_succ, List.length_cons, List.length_nil, h0, hlen]
  refine w_loop (I := fun n t N => M = N ∧ ∃ (i s : Nat), i ≤ l.length ∧ n = l.length - i ∧ nth undefA t 3 = .sc (.int .u32 s) ∧ nth undefA t 6 = a ∧ nth undefA t 7 = I64 l.length ∧ nth undefA t 8 = I64 i ∧ s < 16777216 ∧ s = (l.take i).foldl byteS 11994318) (n := l.length) hl ?_ ?_
  · refine ⟨rfl, 0, 11994318, by omega, by omega, ?_, ?_, ?_, ?_, by omega, rfl⟩
    all_goals simp (maxSteps := 2000000) (disch := first | omega | assumption | (simp only [add_size, upd_size, mem0_size, List.length_cons, List.length_nil, wf_add, wf_upd, wf_mem0, lo_wf, bk_wf, lo_size, bk_size, List.all_cons, List.all_nil, one_sc_int, one_sc_bool, one_sc_string, one_sc_slice, one_sc_ptr, one_ptr, one_sl, one_pv, one_cp, one_fn, Bool.and_true, Nat.reduceAdd, *]; done) | (simp only [add_size, upd_size, mem0_size, lo_size, bk_size, List.length_cons, List.length_nil]; omega)) only [RUN, footA, feetIn, resultsA, tupOf, frzL, slot, lay, icyL, fillA, repCells, kR, reduceIte, Nat.reduceEqDiff, Nat.reduceBEq, Nat.reduceLT, Nat.reduceAdd, Nat.reduceLeDiff, Nat.reduceSub, Nat.reduceMul, Int.reduceLT, Int.reduceLE, Int.reduceEq, Int.reduceAdd, Int.reduceSub, Int.reduceMul, decide_true, decide_false, Int.lt_irrefl, Nat.beq_eq, Option.map_some, Option.map_none, List.contains_cons, List.contains_nil, Bool.or_true, Bool.true_or, Bool.or_false, Bool.false_or, Bool.not_true, Bool.not_false, Bool.and_self, List.elem_nil, List.all_nil, List.all_cons, Bool.and_true, Bool.true_and, true_and, and_true, List.map_cons, List.map_nil, List.nil_append, List.cons_append, List.append_nil, Nat.zero_add, Nat.add_zero, List.drop_succ_cons, List.drop_zero, List.take_succ_cons, List.take_zero, List.getElem?_cons_zero, List.getElem?_cons_succ, List.length_cons, List.length_nil, h0]
    all_goals rfl
  · rintro n t N hl' ⟨rfl, i, s, hi, hn, t3, t6, t7, t8, hs, hse⟩
    simp only [ht] at hl' ⊢
    clear h0 ht b
    by_cases hlt : i < l.length
    · have hc : decide ((i : Int) < l.length) = true := by simp; omega
      have w1 : IntKind.i64.wrap ((i : Int) + 1) = ((i + 1 : Nat) : Int) := by rw [wrap_i64] <;> omega
      obtain ⟨r, p, hr, rfl, _, hrp, hld⟩ := hS.elem i hlt
      have hld2 := (hld _ fun _ _ => rfl).2 _ rfl
      have RLa : RL _ a := hS.lt
      have RLp : RL _ p := fun id h => RLa id (by rw [← hrp]; exact h)
      have hx := l[i].toNat_lt
      have cv := fun t r x => pConv2 (P := Try.prog) (t := t) Try.underlying5 Try.underlying34 r x
      have w2 : IntKind.u32.wrap (l[i].toNat : Int) = (l[i].toNat : Int) := wrap_u32N _ (by omega)
      have e1 : binV Try.prog .shl 34 .u32 (l[i].toNat : Int) .u64 16 = some (.int .u32 ((l[i].toNat * 65536 : Nat) : Int)) := shl32 _ _ _ 16 (by omega) (by omega)
      have e2 := xor32 Try.prog 34 s (l[i].toNat * 65536) (by omega) (by omega)
      have hs0 : s ^^^ (l[i].toNat * 65536) < 16777216 := xor_lt24 hs (by omega)
      simp (maxSteps := 2000000) (disch := first | omega | assumption | (simp only [add_size, upd_size, mem0_size, List.length_cons, List.length_nil, wf_add, wf_upd, wf_mem0, lo_wf, bk_wf, lo_size, bk_size, List.all_cons, List.all_nil, one_sc_int, one_sc_bool, one_sc_string, one_sc_slice, one_sc_ptr, one_ptr, one_sl, one_pv, one_cp, one_fn, Bool.and_true, Nat.reduceAdd, *]; done) | (simp only [add_size, upd_size, mem0_size, lo_size, bk_size, List.length_cons, List.length_nil]; omega)) only [RUN, footA, feetIn, resultsA, tupOf, frzL, slot, lay, icyL, fillA, repCells, kR, reduceIte, Nat.reduceEqDiff, Nat.reduceBEq, Nat.reduceLT, Nat.reduceAdd, Nat.reduceLeDiff, Nat.reduceSub, Nat.reduceMul, Int.reduceLT, Int.reduceLE, Int.reduceEq, Int.reduceAdd, Int.reduceSub, Int.reduceMul, decide_true, decide_false, Int.lt_irrefl, Nat.beq_eq, Option.map_some, Option.map_none, List.contains_cons, List.contains_nil, Bool.or_true, Bool.true_or, Bool.or_false, Bool.false_or, Bool.not_true, Bool.not_false, Bool.and_self, List.elem_nil, List.all_nil, List.all_cons, Bool.and_true, Bool.true_and, true_and, and_true, List.map_cons, List.map_nil, List.nil_append, List.cons_append, List.append_nil, Nat.zero_add, Nat.add_zero, List.drop_succ_cons, List.drop_zero, List.take_succ_cons, List.take_zero, List.getElem?_cons_zero, List.getElem?_cons_succ, List.length_cons, List.length_nil, t3, t6, t7, t8, hc, hr, cv, pc1_int, w2, e1, e2, hld2, rows_lt RLa, rows_lt RLp]
      refine w_loop (I := fun n t N => M = N ∧ ∃ (j : Nat), j ≤ 8 ∧ n = 8 - j ∧ nth undefA t 3 = .sc (.int .u32 (stepN j (s ^^^ (l[i].toNat * 65536)))) ∧ nth undefA t 6 = a ∧ nth undefA t 7 = I64 l.length ∧ nth undefA t 8 = I64 i ∧ nth undefA t 17 = I64 j) (n := 8) (by omega) ?_ ?_
      · refine ⟨rfl, 0, by omega, by omega, ?_, ?_, ?_, ?_, ?_⟩
        all_goals simp (maxSteps := 2000000) (disch := first | omega | assumption | (simp only [add_size, upd_size, mem0_size, List.length_cons, List.length_nil, wf_add, wf_upd, wf_mem0, lo_wf, bk_wf, lo_size, bk_size, List.all_cons, List.all_nil, one_sc_int, one_sc_bool, one_sc_string, one_sc_slice, one_sc_ptr, one_ptr, one_sl, one_pv, one_cp, one_fn, Bool.and_true, Nat.reduceAdd, *]; done) | (simp only [add_size, upd_size, mem0_size, lo_size, bk_size, List.length_cons, List.length_nil]; omega)) only [RUN, footA, feetIn, resultsA, tupOf, frzL, slot, lay, icyL, fillA, repCells, kR, reduceIte, Nat.reduceEqDiff, Nat.reduceBEq, Nat.reduceLT, Nat.reduceAdd, Nat.reduceLeDiff, Nat.reduceSub, Nat.reduceMul, Int.reduceLT, Int.reduceLE, Int.reduceEq, Int.reduceAdd, Int.reduceSub, Int.reduceMul, decide_true, decide_false, Int.lt_irrefl, Nat.beq_eq, Option.map_some, Option.map_none, List.contains_cons, List.contains_nil, Bool.or_true, Bool.true_or, Bool.or_false, Bool.false_or, Bool.not_true, Bool.not_false, Bool.and_self, List.elem_nil, List.all_nil, List.all_cons, Bool.and_true, Bool.true_and, true_and, and_true, List.map_cons, List.map_nil, List.nil_append, List.cons_append, List.append_nil, Nat.zero_add, Nat.add_zero, List.drop_succ_cons, List.drop_zero, List.take_succ_cons, List.take_zero, List.getElem?_cons_zero, List.getElem?_cons_succ, List.length_cons, List.length_nil, t6, t7, t8]
        all_goals rfl
      · rintro n' t' N' hl'' ⟨rfl, j, hj, hn', u3, u6, u7, u8, u17⟩
        simp only [hl'] at hl'' ⊢
        have hsj := stepN_lt j _ hs0
        generalize hq : stepN j (s ^^^ (l[i].toNat * 65536)) = q at u3 hsj
        have hq1 : stepN (j + 1) (s ^^^ (l[i].toNat * 65536)) = stepS q := by rw [stepN_succ, hq]
        have w3 : IntKind.i64.wrap ((j : Int) + 1) = ((j + 1 : Nat) : Int) := by rw [wrap_i64] <;> omega
        by_cases hj8 : j < 8
        · have hc2 : decide ((j : Int) < 8) = true := by simp; omega
          have e3 : binV Try.prog .shl 34 .u32 (q : Int) .u64 1 = some (.int .u32 ((q * 2 : Nat) : Int)) := shl32 _ _ _ 1 (by omega) (by omega)
          have e4 : binV Try.prog .shr 34 .u32 ((q * 2 : Nat) : Int) .u64 24 = some (.int .u32 ((q * 2 / 16777216 : Nat) : Int)) := shr32 _ _ _ 24 (by omega)
          by_cases hb : 16777216 ≤ q * 2
          · have c3 : decide ((0 : Int) < ((q * 2 / 16777216 : Nat) : Int)) = true := by
              have : 0 < q * 2 / 16777216 := by omega
              simp; omega
            have e5 := xor32 Try.prog 34 (q * 2) 25578747 (by omega) (by omega)
            rw [show ((25578747 : Nat) : Int) = 25578747 by omega] at e5
            generalize hz : (q * 2) ^^^ 25578747 = z at e5
            have hst : stepS q = z := by unfold stepS; rw [if_pos hb, hz]
            simp (maxSteps := 2000000) (disch := first | omega | assumption | (simp only [add_size, upd_size, mem0_size, List.length_cons, List.length_nil, wf_add, wf_upd, wf_mem0, lo_wf, bk_wf, lo_size, bk_size, List.all_cons, List.all_nil, one_sc_int, one_sc_bool, one_sc_string, one_sc_slice, one_sc_ptr, one_ptr, one_sl, one_pv, one_cp, one_fn, Bool.and_true, Nat.reduceAdd, *]; done) | (simp only [add_size, upd_size, mem0_size, lo_size, bk_size, List.length_cons, List.length_nil]; omega)) only [RUN, footA, feetIn, resultsA, tupOf, frzL, slot, lay, icyL, fillA, repCells, kR, reduceIte, Nat.reduceEqDiff, Nat.reduceBEq, Nat.reduceLT, Nat.reduceAdd, Nat.reduceLeDiff, Nat.reduceSub, Nat.reduceMul, Int.reduceLT, Int.reduceLE, Int.reduceEq, Int.reduceAdd, Int.reduceSub, Int.reduceMul, decide_true, decide_false, Int.lt_irrefl, Nat.beq_eq, Option.map_some, Option.map_none, List.contains_cons, List.contains_nil, Bool.or_true, Bool.true_or, Bool.or_false, Bool.false_or, Bool.not_true, Bool.not_false, Bool.and_self, List.elem_nil, List.all_nil, List.all_cons, Bool.and_true, Bool.true_and, true_and, and_true, List.map_cons, List.map_nil, List.nil_append, List.cons_append, List.append_nil, Nat.zero_add, Nat.add_zero, List.drop_succ_cons, List.drop_zero, List.take_succ_cons, List.take_zero, List.getElem?_cons_zero, List.getElem?_cons_succ, List.length_cons, List.length_nil, u3, u6, u7, u8, u17, hc2, e3, e4, c3, e5, w3]
            exact ⟨hl'', 8 - (j + 1), by omega, j + 1, by omega, rfl, by rw [hq1, hst], rfl⟩
          · have c3 : decide ((0 : Int) < ((q * 2 / 16777216 : Nat) : Int)) = false := by
              have : q * 2 / 16777216 = 0 := by omega
              simp [this]
            have hst : stepS q = q * 2 := by unfold stepS; rw [if_neg hb]
            simp (maxSteps := 2000000) (disch := first | omega | assumption | (simp only [add_size, upd_size, mem0_size, List.length_cons, List.length_nil, wf_add, wf_upd, wf_mem0, lo_wf, bk_wf, lo_size, bk_size, List.all_cons, List.all_nil, one_sc_int, one_sc_bool, one_sc_string, one_sc_slice, one_sc_ptr, one_ptr, one_sl, one_pv, one_cp, one_fn, Bool.and_true, Nat.reduceAdd, *]; done) | (simp only [add_size, upd_size, mem0_size, lo_size, bk_size, List.length_cons, List.length_nil]; omega)) only [RUN, footA, feetIn, resultsA, tupOf, frzL, slot, lay, icyL, fillA, repCells, kR, reduceIte, Nat.reduceEqDiff, Nat.reduceBEq, Nat.reduceLT, Nat.reduceAdd, Nat.reduceLeDiff, Nat.reduceSub, Nat.reduceMul, Int.reduceLT, Int.reduceLE, Int.reduceEq, Int.reduceAdd, Int.reduceSub, Int.reduceMul, decide_true, decide_false, Int.lt_irrefl, Nat.beq_eq, Option.map_some, Option.map_none, List.contains_cons, List.contains_nil, Bool.or_true, Bool.true_or, Bool.or_false, Bool.false_or, Bool.not_true, Bool.not_false, Bool.and_self, List.elem_nil, List.all_nil, List.all_cons, Bool.and_true, Bool.true_and, true_and, and_true, List.map_cons, List.map_nil, List.nil_append, List.cons_append, List.append_nil, Nat.zero_add, Nat.add_zero, List.drop_succ_cons, List.drop_zero, List.take_succ_cons, List.take_zero, List.getElem?_cons_zero, List.getElem?_cons_succ, List.length_cons, List.length_nil, u3, u6, u7, u8, u17, hc2, e3, e4, c3, w3]
            exact ⟨hl'', 8 - (j + 1), by omega, j + 1, by omega, rfl, by rw [hq1, hst], rfl⟩
        · have hc2 : decide ((j : Int) < 8) = false := by simp; omega
          obtain rfl : j = 8 := by omega
          have htk : l.take (i + 1) = l.take i ++ [l[i]] := by rw [List.take_add_one, List.getElem?_eq_getElem hlt]; rfl
          simp (maxSteps := 2000000) (disch := first | omega | assumption | (simp only [add_size, upd_size, mem0_size, List.length_cons, List.length_nil, wf_add, wf_upd, wf_mem0, lo_wf, bk_wf, lo_size, bk_size, List.all_cons, List.all_nil, one_sc_int, one_sc_bool, one_sc_string, one_sc_slice, one_sc_ptr, one_ptr, one_sl, one_pv, one_cp, one_fn, Bool.and_true, Nat.reduceAdd, *]; done) | (simp only [add_size, upd_size, mem0_size, lo_size, bk_size, List.length_cons, List.length_nil]; omega)) only [RUN, footA, feetIn, resultsA, tupOf, frzL, slot, lay, icyL, fillA, repCells, kR, reduceIte, Nat.reduceEqDiff, Nat.reduceBEq, Nat.reduceLT, Nat.reduceAdd, Nat.reduceLeDiff, Nat.reduceSub, Nat.reduceMul, Int.reduceLT, Int.reduceLE, Int.reduceEq, Int.reduceAdd, Int.reduceSub, Int.reduceMul, decide_true, decide_false, Int.lt_irrefl, Nat.beq_eq, Option.map_some, Option.map_none, List.contains_cons, List.contains_nil, Bool.or_true, Bool.true_or, Bool.or_false, Bool.false_or, Bool.not_true, Bool.not_false, Bool.and_self, List.elem_nil, List.all_nil, List.all_cons, Bool.and_true, Bool.true_and, true_and, and_true, List.map_cons, List.map_nil, List.nil_append, List.cons_append, List.append_nil, Nat.zero_add, Nat.add_zero, List.drop_succ_cons, List.drop_zero, List.take_succ_cons, List.take_zero, List.getElem?_cons_zero, List.getElem?_cons_succ, List.length_cons, List.length_nil, u3, u6, u7, u8, u17, hc2, w1]
          refine ⟨hl'', l.length - (i + 1), by omega, i + 1, q, by omega, rfl, rfl, rfl, hsj, ?_⟩
          rw [htk, List.foldl_append, ← hse, ← hq, List.foldl_cons, List.foldl_nil, byteS]
    · have hc : decide ((i : Int) < l.length) = false := by simp; omega
      have : s = sumOf l := by rw [hse, show i = l.length by omega, List.take_length]; rfl
      subst this
      simp (maxSteps := 2000000) (disch := first | omega | assumption | (simp only [add_size, upd_size, mem0_size, List.length_cons, List.length_nil, wf_add, wf_upd, wf_mem0, lo_wf, bk_wf, lo_size, bk_size, List.all_cons, List.all_nil, one_sc_int, one_sc_bool, one_sc_string, one_sc_slice, one_sc_ptr, one_ptr, one_sl, one_pv, one_cp, one_fn, Bool.and_true, Nat.reduceAdd, *]; done) | (simp only [add_size, upd_size, mem0_size, lo_size, bk_size, List.length_cons, List.length_nil]; omega)) only [RUN, footA, feetIn, resultsA, tupOf, frzL, slot, lay, icyL, fillA, repCells, kR, reduceIte, Nat.reduceEqDiff, Nat.reduceBEq, Nat.reduceLT, Nat.reduceAdd, Nat.reduceLeDiff, Nat.reduceSub, Nat.reduceMul, Int.reduceLT, Int.reduceLE, Int.reduceEq, Int.reduceAdd, Int.reduceSub, Int.reduceMul, decide_true, decide_false, Int.lt_irrefl, Nat.beq_eq, Option.map_some, Option.map_none, List.contains_cons, List.contains_nil, Bool.or_true, Bool.true_or, Bool.or_false, Bool.false_or, Bool.not_true, Bool.not_false, Bool.and_self, List.elem_nil, List.all_nil, List.all_cons, Bool.and_true, Bool.true_and, true_and, and_true, List.map_cons, List.map_nil, List.nil_append, List.cons_append, List.append_nil, Nat.zero_add, Nat.add_zero, List.drop_succ_cons, List.drop_zero, List.take_succ_cons, List.take_zero, List.getElem?_cons_zero, List.getElem?_cons_succ, List.length_cons, List.length_nil, t3, t6, t7, t8, hc]
end Go.Proofs.Ytidkemgkejbalaa
