/-
  The reference: numbers' bytes, lengths of frames.
-/
import Derived.Test.YtbemomagabjbnaaFrXa
set_option linter.unusedSimpArgs false
set_option linter.unusedVariables false
set_option maxRecDepth 100000
namespace Go.Proofs.Ytbemomagabjbnaa
open Go Go.Ax
variable {fuel : Nat} {M : Mem} {Q : AV → Mem → Prop} {d : Nat}

set_option maxHeartbeats 8000000 in
theorem rput_run (n : Nat) (hn : n < 72057594037927936) (hf : 1000 < fuel) : ∃ r, Bs r (putL n) ∧ ∀ M, callN Try.prog (fsT tbl) fuel (d + 1) (.fn 51) [I64 n] M = some (r, M) := by
  have ic : ∀ M, icyL (icy 12) M [I64 n] = some ([I64 n], M) := fun M => by simp (maxSteps := 2000000) (disch := first | omega | assumption | (simp only [add_size, upd_size, mem0_size, List.length_cons, List.length_nil, wf_add, wf_upd, wf_mem0, lo_wf, bk_wf, lo_size, bk_size, List.all_cons, List.all_nil, one_sc_int, one_sc_bool, one_sc_string, one_sc_slice, one_sc_ptr, one_ptr, one_sl, one_pv, one_cp, one_fn, Bool.and_true, Nat.reduceAdd, *]; done) | (simp only [add_size, upd_size, mem0_size, lo_size, bk_size, List.length_cons, List.length_nil]; omega)) only [RUN, footA, feetIn, resultsA, tupOf, frzL, slot, lay, icyL, fillA, repCells, kR, reduceIte, Nat.reduceEqDiff, Nat.reduceBEq, Nat.reduceLT, Nat.reduceAdd, Nat.reduceLeDiff, Nat.reduceSub, Nat.reduceMul, Int.reduceLT, Int.reduceLE, Int.reduceEq, Int.reduceAdd, Int.reduceSub, Int.reduceMul, decide_true, decide_false, Int.lt_irrefl, Nat.beq_eq, Option.map_some, Option.map_none, List.contains_cons, List.contains_nil, Bool.or_true, Bool.true_or, Bool.or_false, Bool.false_or, Bool.not_true, Bool.not_false, Bool.and_self, List.elem_nil, List.all_nil, List.all_cons, Bool.and_true, Bool.true_and, true_and, and_true, List.map_cons, List.map_nil, List.nil_append, List.cons_append, List.append_nil, Nat.zero_add, Nat.add_zero, List.drop_succ_cons, List.drop_zero, List.take_succ_cons, List.take_zero, List.getElem?_cons_zero, List.getElem?_cons_succ, List.length_cons, List.length_nil]
  have cv := fun t r x => pConv2 (P := Try.prog) (t := t) Try.underlying3 Try.underlying5 r x
  have key : ∃ r, Bs r (putL n) ∧ W3 (callN Try.prog (fsT tbl) fuel (d + 1) (.fn 51) [I64 n] mem0) (fun r' _ => r' = r) := by
    by_cases hs : n < 248
    · have hp : putL n = [UInt8.ofNat n] := by unfold putL; rw [if_pos hs]
      rw [hp]
      refine ⟨.pv (u8s [UInt8.ofNat n]) 1 (some 1) 1, bs_pv _ _ rfl, ?_⟩
      have q1 : decide ((n : Int) < 248) = true := decide_eq_true (by omega)
      refine call_gc tf51 rfl (ic mem0) (by simp [a51]) fun b ht hx => ?_
      have h0 := hx 0 _ rfl
      clear hx
      simp only [a51, c51] at ht ⊢
      have f0 : frz (mem0.add (.row false [U8 (UInt8.ofNat n).toNat])) 0 12 (.sl 0 0 1 (some 1) 1) = some (.pv [U8 (UInt8.ofNat n).toNat] 1 (some 1) 1) := by
        have g : (mem0.add (.row false [U8 (UInt8.ofNat n).toNat])).get 0 = some (.row false [U8 (UInt8.ofNat n).toNat]) := get_add_new Wf.mem0 _ _ (Nat.le_refl _) (by rw [mem0_size]; omega)
        have q := frz_sl (k := 12) (off := 0) (n := 1) (st := 1) (cap := some 1) (rd_row g) (by simp) (by omega) (by
          intro x hx; simp at hx; subst hx; exact frz_sc _ (by omega))
        rw [q, slot_all _ _ (by simp)]
      simp (maxSteps := 2000000) (disch := first | omega | assumption | (simp only [add_size, upd_size, mem0_size, List.length_cons, List.length_nil, wf_add, wf_upd, wf_mem0, lo_wf, bk_wf, lo_size, bk_size, List.all_cons, List.all_nil, one_sc_int, one_sc_bool, one_sc_string, one_sc_slice, one_sc_ptr, one_ptr, one_sl, one_pv, one_cp, one_fn, Bool.and_true, Nat.reduceAdd, *]; done) | (simp only [add_size, upd_size, mem0_size, lo_size, bk_size, List.length_cons, List.length_nil]; omega)) only [RUN, footA, feetIn, resultsA, tupOf, frzL, slot, lay, icyL, fillA, repCells, kR, reduceIte, Nat.reduceEqDiff, Nat.reduceBEq, Nat.reduceLT, Nat.reduceAdd, Nat.reduceLeDiff, Nat.reduceSub, Nat.reduceMul, Int.reduceLT, Int.reduceLE, Int.reduceEq, Int.reduceAdd, Int.reduceSub, Int.reduceMul, decide_true, decide_false, Int.lt_irrefl, Nat.beq_eq, Option.map_some, Option.map_none, List.contains_cons, List.contains_nil, Bool.or_true, Bool.true_or, Bool.or_false, Bool.false_or, Bool.not_true, Bool.not_false, Bool.and_self, List.elem_nil, List.all_nil, List.all_cons, Bool.and_true, Bool.true_and, true_and, and_true, List.map_cons, List.map_nil, List.nil_append, List.cons_append, List.append_nil, Nat.zero_add, Nat.add_zero, List.drop_succ_cons, List.drop_zero, List.take_succ_cons, List.take_zero, List.getElem?_cons_zero, List.getElem?_cons_succ, List.length_cons, List.length_nil, h0, q1, cv, pc1_int, wrap_u8N, f0]
      rfl
    · have q1 : decide ((n : Int) < 248) = false := decide_eq_false (by omega)
      have hp : putL n = UInt8.ofNat (247 + fol n) :: be n (fol n) := by unfold putL; rw [if_neg hs]
      have hfol : fol n ≤ 7 := fol_le 6 n (by omega)
      have hf0 : fol0 n = fol n := by unfold fol0; rw [if_neg (by omega)]
      rw [hp]
      have key2 : W3 (callN Try.prog (fsT tbl) fuel (d + 1) (.fn 51) [I64 n] mem0) (fun r' _ => Bs r' (UInt8.ofNat (247 + fol n) :: be n (fol n))) := by
        refine call_gc tf51 rfl (ic mem0) (by simp [a51]) fun b ht hx => ?_
        have h0 := hx 0 _ rfl
        clear hx
        simp only [a51, c51] at ht ⊢
        simp (maxSteps := 2000000) (disch := first | omega | assumption | (simp only [add_size, upd_size, mem0_size, List.length_cons, List.length_nil, wf_add, wf_upd, wf_mem0, lo_wf, bk_wf, lo_size, bk_size, List.all_cons, List.all_nil, one_sc_int, one_sc_bool, one_sc_string, one_sc_slice, one_sc_ptr, one_ptr, one_sl, one_pv, one_cp, one_fn, Bool.and_true, Nat.reduceAdd, *]; done) | (simp only [add_size, upd_size, mem0_size, lo_size, bk_size, List.length_cons, List.length_nil]; omega)) only [RUN, footA, feetIn, resultsA, tupOf, frzL, slot, lay, icyL, fillA, repCells, kR, reduceIte, Nat.reduceEqDiff, Nat.reduceBEq, Nat.reduceLT, Nat.reduceAdd, Nat.reduceLeDiff, Nat.reduceSub, Nat.reduceMul, Int.reduceLT, Int.reduceLE, Int.reduceEq, Int.reduceAdd, Int.reduceSub, Int.reduceMul, decide_true, decide_false, Int.lt_irrefl, Nat.beq_eq, Option.map_some, Option.map_none, List.contains_cons, List.contains_nil, Bool.or_true, Bool.true_or, Bool.or_false, Bool.false_or, Bool.not_true, Bool.not_false, Bool.and_self, List.elem_nil, List.all_nil, List.all_cons, Bool.and_true, Bool.true_and, true_and, and_true, List.map_cons, List.map_nil, List.nil_append, List.cons_append, List.append_nil, Nat.zero_add, Nat.add_zero, List.drop_succ_cons, List.drop_zero, List.take_succ_cons, List.take_zero, List.getElem?_cons_zero, List.getElem?_cons_succ, List.length_cons, List.length_nil, h0, q1]
        refine w_loop (I := fun m t N => ∃ (j : Nat) (o : AV), j + fol0 (n / 256 ^ j) = fol n ∧ m = fol0 (n / 256 ^ j) ∧ Wf N ∧ SlM N 1 isU8 o (be n j) ∧ nth undefA t 3 = o ∧ nth undefA t 4 = I64 ((247 + j : Nat) : Int) ∧ nth undefA t 5 = I64 ((n / 256 ^ j : Nat) : Int)) (n := fol n) (by omega) ?_ ?_
        · refine ⟨0, NIL, by rw [Nat.pow_zero, Nat.div_one]; omega, by rw [Nat.pow_zero, Nat.div_one]; exact hf0.symm, Wf.mem0, SlM.nil, ?_, ?_, ?_⟩
          all_goals simp (maxSteps := 2000000) (disch := first | omega | assumption | (simp only [add_size, upd_size, mem0_size, List.length_cons, List.length_nil, wf_add, wf_upd, wf_mem0, lo_wf, bk_wf, lo_size, bk_size, List.all_cons, List.all_nil, one_sc_int, one_sc_bool, one_sc_string, one_sc_slice, one_sc_ptr, one_ptr, one_sl, one_pv, one_cp, one_fn, Bool.and_true, Nat.reduceAdd, *]; done) | (simp only [add_size, upd_size, mem0_size, lo_size, bk_size, List.length_cons, List.length_nil]; omega)) only [RUN, footA, feetIn, resultsA, tupOf, frzL, slot, lay, icyL, fillA, repCells, kR, reduceIte, Nat.reduceEqDiff, Nat.reduceBEq, Nat.reduceLT, Nat.reduceAdd, Nat.reduceLeDiff, Nat.reduceSub, Nat.reduceMul, Int.reduceLT, Int.reduceLE, Int.reduceEq, Int.reduceAdd, Int.reduceSub, Int.reduceMul, decide_true, decide_false, Int.lt_irrefl, Nat.beq_eq, Option.map_some, Option.map_none, List.contains_cons, List.contains_nil, Bool.or_true, Bool.true_or, Bool.or_false, Bool.false_or, Bool.not_true, Bool.not_false, Bool.and_self, List.elem_nil, List.all_nil, List.all_cons, Bool.and_true, Bool.true_and, true_and, and_true, List.map_cons, List.map_nil, List.nil_append, List.cons_append, List.append_nil, Nat.zero_add, Nat.add_zero, List.drop_succ_cons, List.drop_zero, List.take_succ_cons, List.take_zero, List.getElem?_cons_zero, List.getElem?_cons_succ, List.length_cons, List.length_nil, h0]
          all_goals first | rfl | (rw [Nat.pow_zero, Nat.div_one])
        · rintro m t N hl' ⟨j, o, hj, hm, wfN, hSo, t3, t4, t5⟩
          simp only [ht] at hl' ⊢
          clear h0 ht b
          obtain ⟨v, hv⟩ : ∃ v, n / 256 ^ j = v := ⟨_, rfl⟩
          have hvs := div_step n j v hv.symm
          rw [hv] at hj hm t5
          have hvn : v ≤ n := by rw [← hv]; exact Nat.div_le_self _ _
          have hj7 : j ≤ 7 := by omega
          have hbl := be_length n j
          by_cases h0v : 0 < v
          · have q2 : decide (0 < (v : Int)) = true := decide_eq_true (by omega)
            have hfs := fol0_step v h0v
            have e1 : binV Try.prog .rem 3 .i64 (v : Int) .i64 256 = some (.int .i64 ((v % 256 : Nat) : Int)) := remN _ _ _ v 256 (by omega)
            have e2 : binV Try.prog .quo 3 .i64 (v : Int) .i64 256 = some (.int .i64 ((v / 256 : Nat) : Int)) := quoN _ _ _ v 256 (by omega) (by rw [wrap_i64] <;> omega)
            have w1 : IntKind.i64.wrap (((247 + j : Nat) : Int) + 1) = ((247 + (j + 1) : Nat) : Int) := by rw [wrap_i64] <;> omega
            have wy := wrap_u8M v
            have hbs : be n (j + 1) = [UInt8.ofNat v] ++ be n j := by rw [show be n (j + 1) = UInt8.ofNat (n / 256 ^ j) :: be n j from rfl, hv]; rfl
            obtain ⟨y, hy⟩ : ∃ y, UInt8.ofNat v = y := ⟨_, rfl⟩
            rw [hy] at wy hbs
            have gy : (N.add (.row false [U8 y.toNat])).get N.size = some (.row false [U8 y.toNat]) := get_add_new wfN _ _ (Nat.le_refl _) (by omega)
            have hS1 : SlM (N.add (.row false [U8 y.toNat])) 1 isU8 (.sl N.size 0 1 (some 1) 1) [y] := .inr ⟨N.size, [[U8 y.toNat]], some 1, rfl, .inr rfl, gy, .cons rfl .nil, by simp⟩
            have hSo2 : SlM (N.add (.row false [U8 y.toNat])) 1 isU8 o (be n j) := hSo.keep fun id h => get_add wfN _ _ (hSo.lt id h)
            obtain ⟨rows, oo1, oo2, oo3, oo4⟩ := hSo2.open
            obtain ⟨o', M1, hap, hS2, wf1, _⟩ := hS1.appO (wfN.add _) oo1 oo2 oo3 oo4 (cel_U8.all oo3) (by omega) (bytes := 1) (by simp; omega) (by simp; omega)
            rw [← hbs] at hS2
            have RLo := rows_lt hSo2.rl (Nat.le_refl _)
            have RL1 := rows_lt hS1.rl (Nat.le_refl _)
            rw [add_size] at RLo
            simp (maxSteps := 2000000) (disch := first | omega | assumption | (simp only [add_size, upd_size, mem0_size, List.length_cons, List.length_nil, wf_add, wf_upd, wf_mem0, lo_wf, bk_wf, lo_size, bk_size, List.all_cons, List.all_nil, one_sc_int, one_sc_bool, one_sc_string, one_sc_slice, one_sc_ptr, one_ptr, one_sl, one_pv, one_cp, one_fn, Bool.and_true, Nat.reduceAdd, *]; done) | (simp only [add_size, upd_size, mem0_size, lo_size, bk_size, List.length_cons, List.length_nil]; omega)) only [RUN, footA, feetIn, resultsA, tupOf, frzL, slot, lay, icyL, fillA, repCells, kR, reduceIte, Nat.reduceEqDiff, Nat.reduceBEq, Nat.reduceLT, Nat.reduceAdd, Nat.reduceLeDiff, Nat.reduceSub, Nat.reduceMul, Int.reduceLT, Int.reduceLE, Int.reduceEq, Int.reduceAdd, Int.reduceSub, Int.reduceMul, decide_true, decide_false, Int.lt_irrefl, Nat.beq_eq, Option.map_some, Option.map_none, List.contains_cons, List.contains_nil, Bool.or_true, Bool.true_or, Bool.or_false, Bool.false_or, Bool.not_true, Bool.not_false, Bool.and_self, List.elem_nil, List.all_nil, List.all_cons, Bool.and_true, Bool.true_and, true_and, and_true, List.map_cons, List.map_nil, List.nil_append, List.cons_append, List.append_nil, Nat.zero_add, Nat.add_zero, List.drop_succ_cons, List.drop_zero, List.take_succ_cons, List.take_zero, List.getElem?_cons_zero, List.getElem?_cons_succ, List.length_cons, List.length_nil, t3, t4, t5, q2, e1, e2, cv, pc1_int, wy, hap, RLo, w1]
            exact ⟨hl', fol0 (n / 256 ^ (j + 1)), by rw [← hvs, hm]; omega, j + 1, o', by rw [← hvs]; omega, rfl, wf1, hS2, rfl, rfl, by rw [← hvs]⟩
          · obtain rfl : v = 0 := by omega
            have q2 : decide ((0 : Int) < 0) = false := rfl
            replace t5 : nth undefA t 5 = I64 0 := t5
            have hjf : j = fol n := by rw [show fol0 0 = 0 from rfl] at hj; omega
            rw [hjf] at hSo t4
            have wy := wrap_u8N (247 + fol n)
            obtain ⟨y, hy⟩ : ∃ y, UInt8.ofNat (247 + fol n) = y := ⟨_, rfl⟩
            rw [hy] at wy ⊢
            have gy : (N.add (.row false [U8 y.toNat])).get N.size = some (.row false [U8 y.toNat]) := get_add_new wfN _ _ (Nat.le_refl _) (by omega)
            have hS1 : SlM (N.add (.row false [U8 y.toNat])) 1 isU8 (.sl N.size 0 1 (some 1) 1) [y] := .inr ⟨N.size, [[U8 y.toNat]], some 1, rfl, .inr rfl, gy, .cons rfl .nil, by simp⟩
            have hSo2 : SlM (N.add (.row false [U8 y.toNat])) 1 isU8 o (be n (fol n)) := hSo.keep fun id h => get_add wfN _ _ (hSo.lt id h)
            obtain ⟨rows, oo1, oo2, oo3, oo4⟩ := hSo2.open
            obtain ⟨o', M1, hap, hS2, wf1, _⟩ := hS1.appO (wfN.add _) oo1 oo2 oo3 oo4 (cel_U8.all oo3) (by omega) (bytes := 1) (by simp [be_length]; omega) (by simp [be_length]; omega)
            obtain ⟨r6, hf6, hr6⟩ := hS2.frz cel_U8 (k := 12) (by omega)
            have RLo := rows_lt hSo2.rl (Nat.le_refl _)
            rw [add_size] at RLo
            simp (maxSteps := 2000000) (disch := first | omega | assumption | (simp only [add_size, upd_size, mem0_size, List.length_cons, List.length_nil, wf_add, wf_upd, wf_mem0, lo_wf, bk_wf, lo_size, bk_size, List.all_cons, List.all_nil, one_sc_int, one_sc_bool, one_sc_string, one_sc_slice, one_sc_ptr, one_ptr, one_sl, one_pv, one_cp, one_fn, Bool.and_true, Nat.reduceAdd, *]; done) | (simp only [add_size, upd_size, mem0_size, lo_size, bk_size, List.length_cons, List.length_nil]; omega)) only [RUN, footA, feetIn, resultsA, tupOf, frzL, slot, lay, icyL, fillA, repCells, kR, reduceIte, Nat.reduceEqDiff, Nat.reduceBEq, Nat.reduceLT, Nat.reduceAdd, Nat.reduceLeDiff, Nat.reduceSub, Nat.reduceMul, Int.reduceLT, Int.reduceLE, Int.reduceEq, Int.reduceAdd, Int.reduceSub, Int.reduceMul, decide_true, decide_false, Int.lt_irrefl, Nat.beq_eq, Option.map_some, Option.map_none, List.contains_cons, List.contains_nil, Bool.or_true, Bool.true_or, Bool.or_false, Bool.false_or, Bool.not_true, Bool.not_false, Bool.and_self, List.elem_nil, List.all_nil, List.all_cons, Bool.and_true, Bool.true_and, true_and, and_true, List.map_cons, List.map_nil, List.nil_append, List.cons_append, List.append_nil, Nat.zero_add, Nat.add_zero, List.drop_succ_cons, List.drop_zero, List.take_succ_cons, List.take_zero, List.getElem?_cons_zero, List.getElem?_cons_succ, List.length_cons, List.length_nil, t3, t4, t5, q2, cv, pc1_int, wy, hap, RLo, hf6]
            exact hr6
      obtain ⟨r, N, h1, h2⟩ := key2
      exact ⟨r, h2, r, N, h1, rfl⟩
  obtain ⟨r, hr, r', N, hk, rfl⟩ := key
  exact ⟨r', hr, fun M => call_own tf51 rfl hk (ic mem0) (ic M)⟩

set_option maxHeartbeats 4000000 in
theorem rlong_run (n : Nat) (hn : n < 1000000000) (hf : 1000 < fuel) (M : Mem) : callN Try.prog (fsT tbl) fuel (d + 2) (.fn 52) [I64 n] M = some (I64 (classM n), M) := by
  obtain ⟨r, hr, hput⟩ := rput_run (fuel := fuel) (d := d) n (by omega) hf
  have lr := hr.len
  have rr : rowsOf r = [] := hr.rows mem0
  have hpl := putL_le n (by omega)
  have w1 : IntKind.i64.wrap (1 + ((putL n).length : Int)) = ((1 + (putL n).length : Nat) : Int) := by rw [wrap_i64] <;> omega
  have w2 : IntKind.i64.wrap (((1 + (putL n).length : Nat) : Int) + n) = ((1 + (putL n).length + n : Nat) : Int) := by rw [wrap_i64] <;> omega
  have w3 : IntKind.i64.wrap (((1 + (putL n).length + n : Nat) : Int) + 3) = ((1 + (putL n).length + n + 3 : Nat) : Int) := by rw [wrap_i64] <;> omega
  apply w3_eq
  refine call_gc tf52 rfl (by simp (maxSteps := 2000000) (disch := first | omega | assumption | (simp only [add_size, upd_size, mem0_size, List.length_cons, List.length_nil, wf_add, wf_upd, wf_mem0, lo_wf, bk_wf, lo_size, bk_size, List.all_cons, List.all_nil, one_sc_int, one_sc_bool, one_sc_string, one_sc_slice, one_sc_ptr, one_ptr, one_sl, one_pv, one_cp, one_fn, Bool.and_true, Nat.reduceAdd, *]; done) | (simp only [add_size, upd_size, mem0_size, lo_size, bk_size, List.length_cons, List.length_nil]; omega)) only [RUN, footA, feetIn, resultsA, tupOf, frzL, slot, lay, icyL, fillA, repCells, kR, reduceIte, Nat.reduceEqDiff, Nat.reduceBEq, Nat.reduceLT, Nat.reduceAdd, Nat.reduceLeDiff, Nat.reduceSub, Nat.reduceMul, Int.reduceLT, Int.reduceLE, Int.reduceEq, Int.reduceAdd, Int.reduceSub, Int.reduceMul, decide_true, decide_false, Int.lt_irrefl, Nat.beq_eq, Option.map_some, Option.map_none, List.contains_cons, List.contains_nil, Bool.or_true, Bool.true_or, Bool.or_false, Bool.false_or, Bool.not_true, Bool.not_false, Bool.and_self, List.elem_nil, List.all_nil, List.all_cons, Bool.and_true, Bool.true_and, true_and, and_true, List.map_cons, List.map_nil, List.nil_append, List.cons_append, List.append_nil, Nat.zero_add, Nat.add_zero, List.drop_succ_cons, List.drop_zero, List.take_succ_cons, List.take_zero, List.getElem?_cons_zero, List.getElem?_cons_succ, List.length_cons, List.length_nil]) (by simp [a52]) fun b ht hx => ?_
  have h0 := hx 0 _ rfl
  clear hx
  simp only [a52, c52] at ht ⊢
  unfold classM
  generalize 1 + (putL n).length + n + 3 = m at *
  by_cases h1 : m ≤ 64
  · have q1 : decide ((m : Int) ≤ 64) = true := decide_eq_true (by omega)
    rw [if_pos h1]
    simp (maxSteps := 2000000) (disch := first | omega | assumption | (simp only [add_size, upd_size, mem0_size, List.length_cons, List.length_nil, wf_add, wf_upd, wf_mem0, lo_wf, bk_wf, lo_size, bk_size, List.all_cons, List.all_nil, one_sc_int, one_sc_bool, one_sc_string, one_sc_slice, one_sc_ptr, one_ptr, one_sl, one_pv, one_cp, one_fn, Bool.and_true, Nat.reduceAdd, *]; done) | (simp only [add_size, upd_size, mem0_size, lo_size, bk_size, List.length_cons, List.length_nil]; omega)) only [RUN, footA, feetIn, resultsA, tupOf, frzL, slot, lay, icyL, fillA, repCells, kR, reduceIte, Nat.reduceEqDiff, Nat.reduceBEq, Nat.reduceLT, Nat.reduceAdd, Nat.reduceLeDiff, Nat.reduceSub, Nat.reduceMul, Int.reduceLT, Int.reduceLE, Int.reduceEq, Int.reduceAdd, Int.reduceSub, Int.reduceMul, decide_true, decide_false, Int.lt_irrefl, Nat.beq_eq, Option.map_some, Option.map_none, List.contains_cons, List.contains_nil, Bool.or_true, Bool.true_or, Bool.or_false, Bool.false_or, Bool.not_true, Bool.not_false, Bool.and_self, List.elem_nil, List.all_nil, List.all_cons, Bool.and_true, Bool.true_and, true_and, and_true, List.map_cons, List.map_nil, List.nil_append, List.cons_append, List.append_nil, Nat.zero_add, Nat.add_zero, List.drop_succ_cons, List.drop_zero, List.take_succ_cons, List.take_zero, List.getElem?_cons_zero, List.getElem?_cons_succ, List.length_cons, List.length_nil, h0, hput, lr, rr, w1, w2, w3, q1]
    rfl
  have q1 : decide ((m : Int) ≤ 64) = false := decide_eq_false (by omega)
  rw [if_neg h1]
  by_cases h2 : m ≤ 256
  · have q2 : decide ((m : Int) ≤ 256) = true := decide_eq_true (by omega)
    rw [if_pos h2]
    simp (maxSteps := 2000000) (disch := first | omega | assumption | (simp only [add_size, upd_size, mem0_size, List.length_cons, List.length_nil, wf_add, wf_upd, wf_mem0, lo_wf, bk_wf, lo_size, bk_size, List.all_cons, List.all_nil, one_sc_int, one_sc_bool, one_sc_string, one_sc_slice, one_sc_ptr, one_ptr, one_sl, one_pv, one_cp, one_fn, Bool.and_true, Nat.reduceAdd, *]; done) | (simp only [add_size, upd_size, mem0_size, lo_size, bk_size, List.length_cons, List.length_nil]; omega)) only [RUN, footA, feetIn, resultsA, tupOf, frzL, slot, lay, icyL, fillA, repCells, kR, reduceIte, Nat.reduceEqDiff, Nat.reduceBEq, Nat.reduceLT, Nat.reduceAdd, Nat.reduceLeDiff, Nat.reduceSub, Nat.reduceMul, Int.reduceLT, Int.reduceLE, Int.reduceEq, Int.reduceAdd, Int.reduceSub, Int.reduceMul, decide_true, decide_false, Int.lt_irrefl, Nat.beq_eq, Option.map_some, Option.map_none, List.contains_cons, List.contains_nil, Bool.or_true, Bool.true_or, Bool.or_false, Bool.false_or, Bool.not_true, Bool.not_false, Bool.and_self, List.elem_nil, List.all_nil, List.all_cons, Bool.and_true, Bool.true_and, true_and, and_true, List.map_cons, List.map_nil, List.nil_append, List.cons_append, List.append_nil, Nat.zero_add, Nat.add_zero, List.drop_succ_cons, List.drop_zero, List.take_succ_cons, List.take_zero, List.getElem?_cons_zero, List.getElem?_cons_succ, List.length_cons, List.length_nil, h0, hput, lr, rr, w1, w2, w3, q1, q2]
    rfl
  · have q2 : decide ((m : Int) ≤ 256) = false := decide_eq_false (by omega)
    rw [if_neg h2]
    simp (maxSteps := 2000000) (disch := first | omega | assumption | (simp only [add_size, upd_size, mem0_size, List.length_cons, List.length_nil, wf_add, wf_upd, wf_mem0, lo_wf, bk_wf, lo_size, bk_size, List.all_cons, List.all_nil, one_sc_int, one_sc_bool, one_sc_string, one_sc_slice, one_sc_ptr, one_ptr, one_sl, one_pv, one_cp, one_fn, Bool.and_true, Nat.reduceAdd, *]; done) | (simp only [add_size, upd_size, mem0_size, lo_size, bk_size, List.length_cons, List.length_nil]; omega)) only [RUN, footA, feetIn, resultsA, tupOf, frzL, slot, lay, icyL, fillA, repCells, kR, reduceIte, Nat.reduceEqDiff, Nat.reduceBEq, Nat.reduceLT, Nat.reduceAdd, Nat.reduceLeDiff, Nat.reduceSub, Nat.reduceMul, Int.reduceLT, Int.reduceLE, Int.reduceEq, Int.reduceAdd, Int.reduceSub, Int.reduceMul, decide_true, decide_false, Int.lt_irrefl, Nat.beq_eq, Option.map_some, Option.map_none, List.contains_cons, List.contains_nil, Bool.or_true, Bool.true_or, Bool.or_false, Bool.false_or, Bool.not_true, Bool.not_false, Bool.and_self, List.elem_nil, List.all_nil, List.all_cons, Bool.and_true, Bool.true_and, true_and, and_true, List.map_cons, List.map_nil, List.nil_append, List.cons_append, List.append_nil, Nat.zero_add, Nat.add_zero, List.drop_succ_cons, List.drop_zero, List.take_succ_cons, List.take_zero, List.getElem?_cons_zero, List.getElem?_cons_succ, List.length_cons, List.length_nil, h0, hput, lr, rr, w1, w2, w3, q1, q2]
    rfl
end Go.Proofs.Ytbemomagabjbnaa
