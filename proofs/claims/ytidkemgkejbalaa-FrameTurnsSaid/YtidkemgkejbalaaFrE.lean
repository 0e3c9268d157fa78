/-
  num: Put.
-/
import Derived.Test.YtidkemgkejbalaaFrD
set_option linter.unusedSimpArgs false
set_option linter.unusedVariables false
set_option maxRecDepth 100000
namespace Go.Proofs.Ytidkemgkejbalaa
open Go Go.Ax
variable {fuel : Nat} {M : Mem} {Q : AV → Mem → Prop} {d : Nat}

theorem icyL_one {g : Mem → AV → Option (AV × Mem)} {M M' : Mem} {x y : AV} (h : g M x = some (y, M')) : icyL g M [x] = some ([y], M') := by simp only [icyL, h]

set_option maxHeartbeats 4000000 in
theorem put_num (n : Int) (hf : 1000 < fuel) : ∃ r, Bs r (putB n) ∧ ∀ M, callN Try.prog (fsT tbl) fuel (d + 3) (.fn 9) [I64 n] M = some (.tup [r, I64 (putC n)], M) := by
  have hsz := fun M => size_run (fuel := fuel) (M := M) (d := d) n (by omega)
  have ic : ∀ M, icyL (icy 12) M [I64 n] = some ([I64 n], M) := fun M => by simp (maxSteps := 2000000) (disch := first | omega | assumption | (simp only [add_size, upd_size, mem0_size, List.length_cons, List.length_nil, wf_add, wf_upd, wf_mem0, lo_wf, bk_wf, lo_size, bk_size, List.all_cons, List.all_nil, one_sc_int, one_sc_bool, one_sc_string, one_sc_slice, one_sc_ptr, one_ptr, one_sl, one_pv, one_cp, one_fn, Bool.and_true, Nat.reduceAdd, *]; done) | (simp only [add_size, upd_size, mem0_size, lo_size, bk_size, List.length_cons, List.length_nil]; omega)) only [RUN, footA, feetIn, resultsA, tupOf, frzL, slot, lay, icyL, fillA, repCells, kR, reduceIte, Nat.reduceEqDiff, Nat.reduceBEq, Nat.reduceLT, Nat.reduceAdd, Nat.reduceLeDiff, Nat.reduceSub, Nat.reduceMul, Int.reduceLT, Int.reduceLE, Int.reduceEq, Int.reduceAdd, Int.reduceSub, Int.reduceMul, decide_true, decide_false, Int.lt_irrefl, Nat.beq_eq, Option.map_some, Option.map_none, List.contains_cons, List.contains_nil, Bool.or_true, Bool.true_or, Bool.or_false, Bool.false_or, Bool.not_true, Bool.not_false, Bool.and_self, List.elem_nil, List.all_nil, List.all_cons, Bool.and_true, Bool.true_and, true_and, and_true, List.map_cons, List.map_nil, List.nil_append, List.cons_append, List.append_nil, Nat.zero_add, Nat.add_zero, List.drop_succ_cons, List.drop_zero, List.take_succ_cons, List.take_zero, List.getElem?_cons_zero, List.getElem?_cons_succ, List.length_cons, List.length_nil]
  by_cases hb : badN n
  · refine ⟨NIL, by rw [putB, if_pos hb]; exact .inl ⟨rfl, rfl⟩, fun M => ?_⟩
    have hs0 : sizeM n = 0 := by unfold sizeM; exact if_pos hb
    have w1 : IntKind.i64.wrap (-1) = -1 := by rfl
    have q1 : decide ((-1 : Int) < 0) = true := by rfl
    rw [putC, if_pos hb]
    apply w3_eq
    refine call_gc tf9 rfl (ic M) (by simp [a9]) fun b ht hx => ?_
    have h0 := hx 0 _ rfl
    clear hx
    simp only [a9, c9] at ht ⊢
    rw [hs0] at hsz
    simp (maxSteps := 2000000) (disch := first | omega | assumption | (simp only [add_size, upd_size, mem0_size, List.length_cons, List.length_nil, wf_add, wf_upd, wf_mem0, lo_wf, bk_wf, lo_size, bk_size, List.all_cons, List.all_nil, one_sc_int, one_sc_bool, one_sc_string, one_sc_slice, one_sc_ptr, one_ptr, one_sl, one_pv, one_cp, one_fn, Bool.and_true, Nat.reduceAdd, *]; done) | (simp only [add_size, upd_size, mem0_size, lo_size, bk_size, List.length_cons, List.length_nil]; omega)) only [RUN, footA, feetIn, resultsA, tupOf, frzL, slot, lay, icyL, fillA, repCells, kR, reduceIte, Nat.reduceEqDiff, Nat.reduceBEq, Nat.reduceLT, Nat.reduceAdd, Nat.reduceLeDiff, Nat.reduceSub, Nat.reduceMul, Int.reduceLT, Int.reduceLE, Int.reduceEq, Int.reduceAdd, Int.reduceSub, Int.reduceMul, decide_true, decide_false, Int.lt_irrefl, Nat.beq_eq, Option.map_some, Option.map_none, List.contains_cons, List.contains_nil, Bool.or_true, Bool.true_or, Bool.or_false, Bool.false_or, Bool.not_true, Bool.not_false, Bool.and_self, List.elem_nil, List.all_nil, List.all_cons, Bool.and_true, Bool.true_and, true_and, and_true, List.map_cons, List.map_nil, List.nil_append, List.cons_append, List.append_nil, Nat.zero_add, Nat.add_zero, List.drop_succ_cons, List.drop_zero, List.take_succ_cons, List.take_zero, List.getElem?_cons_zero, List.getElem?_cons_succ, List.length_cons, List.length_nil, h0, hsz, w1, q1]
  obtain ⟨m, rfl⟩ : ∃ m : Nat, n = m := ⟨n.toNat, by unfold badN at hb; omega⟩
  have hm7 : m < 72057594037927936 := by unfold badN at hb; omega
  rw [putB, if_neg hb, putC, if_neg hb, Int.toNat_natCast]
  have cv := fun t r x => pConv2 (P := Try.prog) (t := t) Try.underlying3 Try.underlying5 r x
  by_cases hs : m < 248
  · have hs1 : sizeM m = 1 := by unfold sizeM; exact (if_neg hb).trans (if_pos (by omega))
    rw [hs1] at hsz
    have hp : putL m = [UInt8.ofNat m] := by unfold putL; rw [if_pos hs]
    rw [hp]
    refine ⟨.pv (u8s [UInt8.ofNat m]) 1 (some 1) 1, bs_pv _ _ rfl, fun M => ?_⟩
    have w1 : IntKind.i64.wrap 0 = 0 := by rfl
    apply w3_eq
    refine call_gc tf9 rfl (ic M) (by simp [a9]) fun b ht hx => ?_
    have h0 := hx 0 _ rfl
    clear hx
    simp only [a9, c9] at ht ⊢
    have f0 : frz (mem0.add (.row false [U8 (UInt8.ofNat m).toNat])) 0 12 (.sl 0 0 1 (some 1) 1) = some (.pv [U8 (UInt8.ofNat m).toNat] 1 (some 1) 1) := by
      have g : (mem0.add (.row false [U8 (UInt8.ofNat m).toNat])).get 0 = some (.row false [U8 (UInt8.ofNat m).toNat]) := get_add_new Wf.mem0 _ _ (Nat.le_refl _) (by rw [mem0_size]; omega)
      have q := frz_sl (k := 12) (off := 0) (n := 1) (st := 1) (cap := some 1) (rd_row g) (by simp) (by omega) (by
        intro x hx; simp at hx; subst hx; exact frz_sc _ (by omega))
      rw [q, slot_all _ _ (by simp)]
    simp (maxSteps := 2000000) (disch := first | omega | assumption | (simp only [add_size, upd_size, mem0_size, List.length_cons, List.length_nil, wf_add, wf_upd, wf_mem0, lo_wf, bk_wf, lo_size, bk_size, List.all_cons, List.all_nil, one_sc_int, one_sc_bool, one_sc_string, one_sc_slice, one_sc_ptr, one_ptr, one_sl, one_pv, one_cp, one_fn, Bool.and_true, Nat.reduceAdd, *]; done) | (simp only [add_size, upd_size, mem0_size, lo_size, bk_size, List.length_cons, List.length_nil]; omega)) only [RUN, footA, feetIn, resultsA, tupOf, frzL, slot, lay, icyL, fillA, repCells, kR, reduceIte, Nat.reduceEqDiff, Nat.reduceBEq, Nat.reduceLT, Nat.reduceAdd, Nat.reduceLeDiff, Nat.reduceSub, Nat.reduceMul, Int.reduceLT, Int.reduceLE, Int.reduceEq, Int.reduceAdd, Int.reduceSub, Int.reduceMul, decide_true, decide_false, Int.lt_irrefl, Nat.beq_eq, Option.map_some, Option.map_none, List.contains_cons, List.contains_nil, Bool.or_true, Bool.true_or, Bool.or_false, Bool.false_or, Bool.not_true, Bool.not_false, Bool.and_self, List.elem_nil, List.all_nil, List.all_cons, Bool.and_true, Bool.true_and, true_and, and_true, List.map_cons, List.map_nil, List.nil_append, List.cons_append, List.append_nil, Nat.zero_add, Nat.add_zero, List.drop_succ_cons, List.drop_zero, List.take_succ_cons, List.take_zero, List.getElem?_cons_zero, List.getElem?_cons_succ, List.length_cons, List.length_nil, h0, hsz, w1, cv, pc1_int, wrap_u8N, f0]
    rfl
  have hfol : fol m ≤ 7 := fol_le 6 m (by omega)
  have hfp := fol_pos m
  have hs1 : sizeM m = 1 + fol m := by unfold sizeM; exact (if_neg hb).trans ((if_neg (by omega)).trans (by simp))
  rw [hs1] at hsz
  have hp : putL m = UInt8.ofNat (247 + fol m) :: be m (fol m) := by unfold putL; rw [if_neg hs]
  rw [hp]
  generalize hk : fol m = k at *
  have w1 : IntKind.i64.wrap (1 + (k : Int) - 1) = k := by rw [wrap_i64] <;> omega
  have w2 : IntKind.i64.wrap ((k : Int) - 1) = ((k - 1 : Nat) : Int) := by rw [wrap_i64] <;> omega
  have w5 : IntKind.i64.wrap (247 + (k : Int)) = ((247 + k : Nat) : Int) := by rw [wrap_i64] <;> omega
  have q1 : decide ((k : Int) < 0) = false := by simp
  have q2 : decide ((k : Int) = 0) = false := by simp; omega
  have hmk : mkslO mem0 1 1 (.int .u8 0) (some k) (some k) = some (.sl 0 0 k (some k) 1, mem0.add (.row false (List.replicate k (U8 0)))) := by
    rw [mksl_ok Wf.mem0 (Nat.le_refl _) (by omega) (by omega), rep_u8, mem0_size]
  obtain ⟨r, hr, hcall⟩ := join_run (fuel := fuel) (d := d + 1) (p := .pv [.pv (u8s [UInt8.ofNat (247 + k)]) 1 (some 1) 1, .pv (u8s (be m k)) k (some k) 1] 2 (some 2) 1) (ps := [[UInt8.ofNat (247 + k)], be m k])
    (.inr ⟨[[.pv (u8s [UInt8.ofNat (247 + k)]) 1 (some 1) 1], [.pv (u8s (be m k)) k (some k) 1]], some 2, rfl, .cons ⟨_, rfl, bs_pv _ _ rfl⟩ (.cons ⟨_, rfl, bs_pv _ _ (be_length m k).symm⟩ .nil), by simp⟩) (by simp; omega) (by omega) (by simp) (by simp [be_length]; omega)
  have key : W3 (callN Try.prog (fsT tbl) fuel (d + 3) (.fn 9) [I64 m] mem0) (fun r' _ => r' = .tup [r, I64 0]) := by
    refine call_gc tf9 rfl (ic mem0) (by simp [a9]) fun b ht hx => ?_
    have h0 := hx 0 _ rfl
    clear hx
    simp only [a9, c9] at ht ⊢
    simp (maxSteps := 2000000) (disch := first | omega | assumption | (simp only [add_size, upd_size, mem0_size, List.length_cons, List.length_nil, wf_add, wf_upd, wf_mem0, lo_wf, bk_wf, lo_size, bk_size, List.all_cons, List.all_nil, one_sc_int, one_sc_bool, one_sc_string, one_sc_slice, one_sc_ptr, one_ptr, one_sl, one_pv, one_cp, one_fn, Bool.and_true, Nat.reduceAdd, *]; done) | (simp only [add_size, upd_size, mem0_size, lo_size, bk_size, List.length_cons, List.length_nil]; omega)) only [RUN, footA, feetIn, resultsA, tupOf, frzL, slot, lay, icyL, fillA, repCells, kR, reduceIte, Nat.reduceEqDiff, Nat.reduceBEq, Nat.reduceLT, Nat.reduceAdd, Nat.reduceLeDiff, Nat.reduceSub, Nat.reduceMul, Int.reduceLT, Int.reduceLE, Int.reduceEq, Int.reduceAdd, Int.reduceSub, Int.reduceMul, decide_true, decide_false, Int.lt_irrefl, Nat.beq_eq, Option.map_some, Option.map_none, List.contains_cons, List.contains_nil, Bool.or_true, Bool.true_or, Bool.or_false, Bool.false_or, Bool.not_true, Bool.not_false, Bool.and_self, List.elem_nil, List.all_nil, List.all_cons, Bool.and_true, Bool.true_and, true_and, and_true, List.map_cons, List.map_nil, List.nil_append, List.cons_append, List.append_nil, Nat.zero_add, Nat.add_zero, List.drop_succ_cons, List.drop_zero, List.take_succ_cons, List.take_zero, List.getElem?_cons_zero, List.getElem?_cons_succ, List.length_cons, List.length_nil, h0, hsz, w1, q1, q2, x_mksl, hmk]
    refine w_loop (I := fun n t N => ∃ (i : Nat), i ≤ k ∧ n = k - i ∧ nth undefA t 0 = I64 m ∧ nth undefA t 4 = I64 k ∧ nth undefA t 5 = .sl 0 0 k (some k) 1 ∧ nth undefA t 13 = I64 k ∧ nth undefA t 14 = I64 i ∧ Wf N ∧ N.size = 1 ∧ N.get 0 = some (.row false (List.replicate (k - i) (U8 0) ++ u8s (be m i)))) (n := k) (by omega) ?_ ?_
    · refine ⟨0, by omega, by omega, ?_, ?_, ?_, ?_, ?_, Wf.mem0.add _, ?_, ?_⟩
      all_goals simp (maxSteps := 2000000) (disch := first | omega | assumption | (simp only [add_size, upd_size, mem0_size, List.length_cons, List.length_nil, wf_add, wf_upd, wf_mem0, lo_wf, bk_wf, lo_size, bk_size, List.all_cons, List.all_nil, one_sc_int, one_sc_bool, one_sc_string, one_sc_slice, one_sc_ptr, one_ptr, one_sl, one_pv, one_cp, one_fn, Bool.and_true, Nat.reduceAdd, *]; done) | (simp only [add_size, upd_size, mem0_size, lo_size, bk_size, List.length_cons, List.length_nil]; omega)) only [RUN, footA, feetIn, resultsA, tupOf, frzL, slot, lay, icyL, fillA, repCells, kR, reduceIte, Nat.reduceEqDiff, Nat.reduceBEq, Nat.reduceLT, Nat.reduceAdd, Nat.reduceLeDiff, Nat.reduceSub, Nat.reduceMul, Int.reduceLT, Int.reduceLE, Int.reduceEq, Int.reduceAdd, Int.reduceSub, Int.reduceMul, decide_true, decide_false, Int.lt_irrefl, Nat.beq_eq, Option.map_some, Option.map_none, List.contains_cons, List.contains_nil, Bool.or_true, Bool.true_or, Bool.or_false, Bool.false_or, Bool.not_true, Bool.not_false, Bool.and_self, List.elem_nil, List.all_nil, List.all_cons, Bool.and_true, Bool.true_and, true_and, and_true, List.map_cons, List.map_nil, List.nil_append, List.cons_append, List.append_nil, Nat.zero_add, Nat.add_zero, List.drop_succ_cons, List.drop_zero, List.take_succ_cons, List.take_zero, List.getElem?_cons_zero, List.getElem?_cons_succ, List.length_cons, List.length_nil, h0]
      all_goals first | rfl | skip
      rw [Nat.sub_zero, show be m 0 = [] from rfl, show u8s [] = [] from rfl, List.append_nil]
    · rintro n t N hl' ⟨i, hi, hn, t0, t4, t5, t13, t14, wfN, hN1, hg⟩
      simp only [ht] at hl' ⊢
      clear h0 ht b
      by_cases hlt : i < k
      · have hc' : decide ((i : Int) < k) = true := by simp; omega
        have w3 : IntKind.i64.wrap (((k - 1 : Nat) : Int) - i) = ((k - 1 - i : Nat) : Int) := by rw [wrap_i64] <;> omega
        have w4 : IntKind.i64.wrap (8 * (i : Int)) = ((8 * i : Nat) : Int) := by rw [wrap_i64] <;> omega
        have w6 : IntKind.i64.wrap ((i : Int) + 1) = ((i + 1 : Nat) : Int) := by rw [wrap_i64] <;> omega
        have e1 := shr64 Try.prog 3 m i (by omega)
        have hst : stO N 1 (.ptr 0 (k - 1 - i)) [U8 (UInt8.ofNat (m / 256 ^ i)).toNat] = some (undefA, N.upd 0 (.row false (List.replicate (k - (i + 1)) (U8 0) ++ u8s (be m (i + 1))))) := by
          have q := st2_row (M := N) 0 (k - 1 - i) 1 [U8 (UInt8.ofNat (m / 256 ^ i)).toNat] (List.replicate (k - i) (U8 0) ++ u8s (be m i)) false rfl (by rw [List.length_append, u8s_len, be_length, List.length_replicate]; omega) rfl (by omega) wfN
          rw [st_ptr2, hg, q, lay_be m k i hlt]
        have hia : iadO N 1 (.sl 0 0 k (some k) 1) (some (k - 1 - i)) = some (.ptr 0 (k - 1 - i), N) := by rw [iad_sl (by omega)]; simp
        simp (maxSteps := 2000000) (disch := first | omega | assumption | (simp only [add_size, upd_size, mem0_size, List.length_cons, List.length_nil, wf_add, wf_upd, wf_mem0, lo_wf, bk_wf, lo_size, bk_size, List.all_cons, List.all_nil, one_sc_int, one_sc_bool, one_sc_string, one_sc_slice, one_sc_ptr, one_ptr, one_sl, one_pv, one_cp, one_fn, Bool.and_true, Nat.reduceAdd, *]; done) | (simp only [add_size, upd_size, mem0_size, lo_size, bk_size, List.length_cons, List.length_nil]; omega)) only [RUN, footA, feetIn, resultsA, tupOf, frzL, slot, lay, icyL, fillA, repCells, kR, reduceIte, Nat.reduceEqDiff, Nat.reduceBEq, Nat.reduceLT, Nat.reduceAdd, Nat.reduceLeDiff, Nat.reduceSub, Nat.reduceMul, Int.reduceLT, Int.reduceLE, Int.reduceEq, Int.reduceAdd, Int.reduceSub, Int.reduceMul, decide_true, decide_false, Int.lt_irrefl, Nat.beq_eq, Option.map_some, Option.map_none, List.contains_cons, List.contains_nil, Bool.or_true, Bool.true_or, Bool.or_false, Bool.false_or, Bool.not_true, Bool.not_false, Bool.and_self, List.elem_nil, List.all_nil, List.all_cons, Bool.and_true, Bool.true_and, true_and, and_true, List.map_cons, List.map_nil, List.nil_append, List.cons_append, List.append_nil, Nat.zero_add, Nat.add_zero, List.drop_succ_cons, List.drop_zero, List.take_succ_cons, List.take_zero, List.getElem?_cons_zero, List.getElem?_cons_succ, List.length_cons, List.length_nil, t0, t4, t5, t13, t14, hc', w2, w3, w4, w6, cv, pc1_int, wrap_u8N, e1, hia, hst]
        exact ⟨hl', k - (i + 1), by omega, i + 1, by omega, rfl, rfl, wfN, hN1, rfl⟩
      · have hc' : decide ((i : Int) < k) = false := by simp; omega
        have hik : i = k := by omega
        subst hik
        have ge : N.get 0 = some (.row false (u8s (be m i))) := by rw [hg, Nat.sub_self]; rfl
        have wf1 : Wf (N.add (.row false [U8 (UInt8.ofNat (247 + i)).toNat])) := wfN.add _
        have wf2 : Wf ((N.add (.row false [U8 (UInt8.ofNat (247 + i)).toNat])).add (.row false [.sl N.size 0 1 (some 1) 1, .sl 0 0 i (some i) 1])) := wf1.add _
        have g0 : ((N.add (.row false [U8 (UInt8.ofNat (247 + i)).toNat])).add (.row false [.sl N.size 0 1 (some 1) 1, .sl 0 0 i (some i) 1])).get 0 = some (.row false (u8s (be m i))) := by
          rw [get_add wf1 _ _ (by rw [add_size]; omega), get_add wfN _ _ (by omega), ge]
        have g1 : ((N.add (.row false [U8 (UInt8.ofNat (247 + i)).toNat])).add (.row false [.sl N.size 0 1 (some 1) 1, .sl 0 0 i (some i) 1])).get N.size = some (.row false (u8s [UInt8.ofNat (247 + i)])) := by
          rw [get_add wf1 _ _ (by rw [add_size]; omega)]
          exact get_add_new wfN _ _ (Nat.le_refl _) (by omega)
        have g2 : ((N.add (.row false [U8 (UInt8.ofNat (247 + i)).toNat])).add (.row false [.sl N.size 0 1 (some 1) 1, .sl 0 0 i (some i) 1])).get (N.size + 1) = some (.row false [.sl N.size 0 1 (some 1) 1, .sl 0 0 i (some i) 1]) :=
          get_add_new wf1 _ _ (by rw [add_size]; omega) (by rw [add_size]; omega)
        have s2 : ((N.add (.row false [U8 (UInt8.ofNat (247 + i)).toNat])).add (.row false [.sl N.size 0 1 (some 1) 1, .sl 0 0 i (some i) 1])).size = N.size + 2 := by rw [add_size, add_size]
        obtain ⟨N5, hj⟩ : ∃ N5, callN Try.prog (fsT tbl) fuel (d + 2) (.fn 18) [.sl (N.size + 1) 0 2 (some 2) 1] ((N.add (.row false [U8 (UInt8.ofNat (247 + i)).toNat])).add (.row false [.sl N.size 0 1 (some 1) 1, .sl 0 0 i (some i) 1])) = some (r, N5) := by
          generalize (N.add (.row false [U8 (UInt8.ofNat (247 + i)).toNat])).add (.row false [.sl N.size 0 1 (some 1) 1, .sl 0 0 i (some i) 1]) = N2 at *
          have i1 := icy_row (k := 10) (n := 1) (st := 1) (cap := some 1) g1 rfl rfl (u8s_icy [UInt8.ofNat (247 + i)] (by omega) N2) g1 wf2 (by omega)
          have g0' := g0
          rw [← get_upd_ne wf2 (.fro (u8s [UInt8.ofNat (247 + i)])) N.size 0 (by omega)] at g0'
          have hbl : i * 1 = (u8s (be m i)).length := by rw [u8s_len, be_length]; omega
          have i2 := icy_row (k := 10) (n := i) (st := 1) (cap := some i) g0' hbl hbl (u8s_icy (be m i) (by omega) _) g0' (wf2.upd _ _) (by rw [upd_size]; omega)
          have i3 : icyL (icy 11) N2 [.sl N.size 0 1 (some 1) 1, .sl 0 0 i (some i) 1] = some ([.pv (u8s [UInt8.ofNat (247 + i)]) 1 (some 1) 1, .pv (u8s (be m i)) i (some i) 1], (N2.upd N.size (.fro (u8s [UInt8.ofNat (247 + i)]))).upd 0 (.fro (u8s (be m i)))) := by
            simp only [icyL, i1, i2]
          have g2' := g2
          rw [← get_upd_ne wf2 (.fro (u8s [UInt8.ofNat (247 + i)])) N.size (N.size + 1) (by omega), ← get_upd_ne (wf2.upd _ _) (.fro (u8s (be m i))) 0 (N.size + 1) (by omega)] at g2'
          have i4 := icy_row (k := 11) (n := 2) (st := 1) (cap := some 2) g2 rfl rfl i3 g2' ((wf2.upd _ _).upd _ _) (by rw [upd_size, upd_size]; omega)
          have i5 : ∃ N5, icyL (icy 12) N2 [.sl (N.size + 1) 0 2 (some 2) 1] = some ([.pv [.pv (u8s [UInt8.ofNat (247 + i)]) 1 (some 1) 1, .pv (u8s (be m i)) i (some i) 1] 2 (some 2) 1], N5) := by
            exact ⟨_, icyL_one (g := icy 12) i4⟩
          obtain ⟨N5, i5⟩ := i5
          exact ⟨N5, call_own tf18 rfl (hcall mem0) (M3 := mem0) rfl i5⟩
        have fr := fun M => hr.frz M 0 12 (by omega)
        simp (maxSteps := 2000000) (disch := first | omega | assumption | (simp only [add_size, upd_size, mem0_size, List.length_cons, List.length_nil, wf_add, wf_upd, wf_mem0, lo_wf, bk_wf, lo_size, bk_size, List.all_cons, List.all_nil, one_sc_int, one_sc_bool, one_sc_string, one_sc_slice, one_sc_ptr, one_ptr, one_sl, one_pv, one_cp, one_fn, Bool.and_true, Nat.reduceAdd, *]; done) | (simp only [add_size, upd_size, mem0_size, lo_size, bk_size, List.length_cons, List.length_nil]; omega)) only [RUN, footA, feetIn, resultsA, tupOf, frzL, slot, lay, icyL, fillA, repCells, kR, reduceIte, Nat.reduceEqDiff, Nat.reduceBEq, Nat.reduceLT, Nat.reduceAdd, Nat.reduceLeDiff, Nat.reduceSub, Nat.reduceMul, Int.reduceLT, Int.reduceLE, Int.reduceEq, Int.reduceAdd, Int.reduceSub, Int.reduceMul, decide_true, decide_false, Int.lt_irrefl, Nat.beq_eq, Option.map_some, Option.map_none, List.contains_cons, List.contains_nil, Bool.or_true, Bool.true_or, Bool.or_false, Bool.false_or, Bool.not_true, Bool.not_false, Bool.and_self, List.elem_nil, List.all_nil, List.all_cons, Bool.and_true, Bool.true_and, true_and, and_true, List.map_cons, List.map_nil, List.nil_append, List.cons_append, List.append_nil, Nat.zero_add, Nat.add_zero, List.drop_succ_cons, List.drop_zero, List.take_succ_cons, List.take_zero, List.getElem?_cons_zero, List.getElem?_cons_succ, List.length_cons, List.length_nil, t0, t4, t5, t13, t14, hc', w5, cv, pc1_int, wrap_u8N, hj, fr]
  obtain ⟨r', N, hcl, rfl⟩ := key
  exact ⟨r, by simpa using hr, fun M => call_own tf9 rfl hcl (ic mem0) (ic M)⟩
end Go.Proofs.Ytidkemgkejbalaa
