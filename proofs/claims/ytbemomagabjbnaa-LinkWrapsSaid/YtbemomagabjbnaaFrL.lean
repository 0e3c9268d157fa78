/-
  frame.Seal.
-/
import Derived.Test.YtbemomagabjbnaaFrK
set_option linter.unusedSimpArgs false
set_option linter.unusedVariables false
set_option maxRecDepth 100000
namespace Go.Proofs.Ytbemomagabjbnaa
open Go Go.Ax
variable {fuel : Nat} {M : Mem} {Q : AV → Mem → Prop} {d : Nat}

theorem lay_zero (h b : List UInt8) (z : Nat) (hz : b.length ≤ z) : lay (u8s (h ++ List.replicate z 0)) h.length (u8s b) = u8s (h ++ b ++ List.replicate (z - b.length) 0) := by
  obtain ⟨j, rfl⟩ : ∃ j, z = b.length + j := ⟨z - b.length, by omega⟩
  rw [Nat.add_sub_cancel_left]
  unfold lay
  rw [u8s_len]
  simp only [u8s, List.map_append, List.map_replicate]
  rw [List.take_left' (by simp), List.drop_append, List.drop_eq_nil_of_le (by simp), List.nil_append, List.length_map, Nat.add_sub_cancel_left, List.drop_replicate, Nat.add_sub_cancel_left]
/-- Where a row of bytes is laid over. -/
theorem slm_upd {M : Mem} (wf : Wf M) {id n : Nat} {cap : Option Nat} {l : List UInt8} (hn : n = l.length) (hc : cap = none ∨ cap = some n) (hid : id < M.size) : SlM (M.upd id (.row false (u8s l))) 1 isU8 (.sl id 0 n cap 1) l := by
  refine .inr ⟨id, l.map fun x => [U8 x.toNat], cap, by rw [hn, List.length_map], ?_, ?_, u8s_all2 l, ?_⟩
  · rcases hc with h | h
    · exact .inl h
    · exact .inr (by rw [h, hn, List.length_map])
  · rw [u8s_flat]; exact get_upd_eq wf _ _ hid
  · intro r hr
    obtain ⟨y, _, rfl⟩ := List.mem_map.1 hr
    rfl

set_option maxHeartbeats 8000000 in
theorem seal_run {a : AV} {l : List UInt8} (hS : Bs a l) (hl2 : l.length ≤ 1000000000) (hf : 3000 < fuel) : ∃ r, Bs r (if l.length ≤ 1000 then frameL l else []) ∧ ∀ M, callN Try.prog (fsT tbl) fuel (d + 4) (.fn 32) [a] M = some (.tup [r, I64 (if l.length ≤ 1000 then 0 else 4)], M) := by
  have hlen := hS.len
  have ic : ∀ M, icyL (icy 12) M [a] = some ([a], M) := fun M => by simp (maxSteps := 2000000) (disch := first | omega | assumption | (simp only [add_size, upd_size, mem0_size, List.length_cons, List.length_nil, wf_add, wf_upd, wf_mem0, lo_wf, bk_wf, lo_size, bk_size, List.all_cons, List.all_nil, one_sc_int, one_sc_bool, one_sc_string, one_sc_slice, one_sc_ptr, one_ptr, one_sl, one_pv, one_cp, one_fn, Bool.and_true, Nat.reduceAdd, *]; done) | (simp only [add_size, upd_size, mem0_size, lo_size, bk_size, List.length_cons, List.length_nil]; omega)) only [RUN, footA, feetIn, resultsA, tupOf, frzL, slot, lay, icyL, fillA, repCells, kR, reduceIte, Nat.reduceEqDiff, Nat.reduceBEq, Nat.reduceLT, Nat.reduceAdd, Nat.reduceLeDiff, Nat.reduceSub, Nat.reduceMul, Int.reduceLT, Int.reduceLE, Int.reduceEq, Int.reduceAdd, Int.reduceSub, Int.reduceMul, decide_true, decide_false, Int.lt_irrefl, Nat.beq_eq, Option.map_some, Option.map_none, List.contains_cons, List.contains_nil, Bool.or_true, Bool.true_or, Bool.or_false, Bool.false_or, Bool.not_true, Bool.not_false, Bool.and_self, List.elem_nil, List.all_nil, List.all_cons, Bool.and_true, Bool.true_and, true_and, and_true, List.map_cons, List.map_nil, List.nil_append, List.cons_append, List.append_nil, Nat.zero_add, Nat.add_zero, List.drop_succ_cons, List.drop_zero, List.take_succ_cons, List.take_zero, List.getElem?_cons_zero, List.getElem?_cons_succ, List.length_cons, List.length_nil, hS.icy]
  have hcl := fun M => class_run (fuel := fuel) (d := d) l.length (by omega) (by omega) M
  by_cases h1 : 1000 < l.length
  · refine ⟨NIL, by rw [if_neg (by omega)]; exact .inl ⟨rfl, rfl⟩, fun M => ?_⟩
    rw [if_neg (by omega)]
    simp only [if_neg (show ¬ l.length ≤ 1000 by omega)] at hcl
    apply w3_eq
    refine call_gc tf32 rfl (ic M) (by simp [a32]) fun b ht hx => ?_
    have h0 := hx 0 _ rfl
    clear hx
    simp only [a32, c32] at ht ⊢
    have ra : rowsOf a = [] := hS.rows mem0
    have q1 : decide ((4 : Int) = 0) = false := by rfl
    simp (maxSteps := 2000000) (disch := first | omega | assumption | (simp only [add_size, upd_size, mem0_size, List.length_cons, List.length_nil, wf_add, wf_upd, wf_mem0, lo_wf, bk_wf, lo_size, bk_size, List.all_cons, List.all_nil, one_sc_int, one_sc_bool, one_sc_string, one_sc_slice, one_sc_ptr, one_ptr, one_sl, one_pv, one_cp, one_fn, Bool.and_true, Nat.reduceAdd, *]; done) | (simp only [add_size, upd_size, mem0_size, lo_size, bk_size, List.length_cons, List.length_nil]; omega)) only [RUN, footA, feetIn, resultsA, tupOf, frzL, slot, lay, icyL, fillA, repCells, kR, reduceIte, Nat.reduceEqDiff, Nat.reduceBEq, Nat.reduceLT, Nat.reduceAdd, Nat.reduceLeDiff, Nat.reduceSub, Nat.reduceMul, Int.reduceLT, Int.reduceLE, Int.reduceEq, Int.reduceAdd, Int.reduceSub, Int.reduceMul, decide_true, decide_false, Int.lt_irrefl, Nat.beq_eq, Option.map_some, Option.map_none, List.contains_cons, List.contains_nil, Bool.or_true, Bool.true_or, Bool.or_false, Bool.false_or, Bool.not_true, Bool.not_false, Bool.and_self, List.elem_nil, List.all_nil, List.all_cons, Bool.and_true, Bool.true_and, true_and, and_true, List.map_cons, List.map_nil, List.nil_append, List.cons_append, List.append_nil, Nat.zero_add, Nat.add_zero, List.drop_succ_cons, List.drop_zero, List.take_succ_cons, List.take_zero, List.getElem?_cons_zero, List.getElem?_cons_succ, List.length_cons, List.length_nil, h0, hlen, hcl, ra, q1]
  have h2 : l.length ≤ 1000 := by omega
  rw [if_pos h2, if_pos h2]
  simp only [if_pos h2] at hcl
  obtain ⟨hd, hhd, hput⟩ := put_num (fuel := fuel) (d := d) (l.length : Int) (by omega)
  have hnb : ¬ badN (l.length : Int) := by unfold badN; omega
  rw [putB, if_neg hnb, Int.toNat_natCast] at hhd
  rw [putC, if_neg hnb] at hput
  have key : ∃ r, Bs r (frameL l) ∧ W3 (callN Try.prog (fsT tbl) fuel (d + 4) (.fn 32) [a] mem0) (fun r' _ => r' = .tup [r, I64 0]) := by
    have hp3 := putL_small l.length h2
    have hge := classM_ge l.length h2
    have hle := classM_le l.length
    have hhl := headL_length l
    have hcc := classM_cases l.length
    have m1 : SlM (mem0.add (.row false [U8 181])) 1 isU8 (.sl 0 0 1 (some 1) 1) [181] := by
      refine .inr ⟨0, [[U8 181]], some 1, rfl, .inr rfl, ?_, .cons rfl .nil, by simp⟩
      exact get_add_new Wf.mem0 _ _ (Nat.le_refl _) (by rw [mem0_size]; omega)
    obtain ⟨rows, ho1, ho2, ho3, ho4⟩ := hhd.open
    obtain ⟨a1, M1, e1, s1, wf1, _⟩ := m1.appO (Wf.mem0.add _) (ho1 _) ho2 ho3 ho4 (cel_U8.all ho3) (by omega) (bytes := 1) (by simp; omega) (by simp; omega)
    replace s1 : SlM M1 1 isU8 a1 (headL l) := s1
    have l1 := s1.len
    obtain ⟨z, hz⟩ : ∃ z, classM l.length - 3 - (headL l).length = z := ⟨_, rfl⟩
    have w1 : IntKind.i64.wrap ((classM l.length : Int) - 3) = ((classM l.length - 3 : Nat) : Int) := by rw [wrap_i64] <;> omega
    have w2 : IntKind.i64.wrap (((classM l.length - 3 : Nat) : Int) - (headL l).length) = (z : Int) := by rw [wrap_i64] <;> omega
    obtain ⟨a2, M2, e2, s2, wf2, _⟩ := appz_ok s1 wf1 z (by omega)
    have hr1 := rows_lt s1.rl (Nat.le_refl _)
    have ls2 : (headL l ++ List.replicate z (0 : UInt8)).length = classM l.length - 3 := by simp; omega
    rcases slm_form s2 with ⟨_, h0⟩ | ⟨id, cap, rfl, hcap, hg⟩
    · rw [h0] at ls2; simp at ls2; omega
    have ra : rowsOf a = [] := hS.rows mem0
    have rh : rowsOf hd = [] := hhd.rows mem0
    have q1 : decide ((0 : Int) = 0) = true := by rfl
    obtain ⟨cap3, e3⟩ := slm_from (M := M2) (i := (headL l).length) hcap hg (by omega)
    obtain ⟨k4, e4⟩ := cpy_ok wf2 (off := (headL l).length) (n := (headL l ++ List.replicate z 0).length - (headL l).length) (cap := cap3) hg hS (by omega) (by rw [u8s_len]; omega)
    have hlz := lay_zero (headL l) l z (by omega)
    have hbare : headL l ++ l ++ List.replicate (z - l.length) 0 = bareL l := by unfold bareL; congr 2; omega
    rw [hlz, hbare] at e4
    have hid : id < M2.size := Mem.get_lt hg
    have hid2 : id.blt M2.size = true := blt_t hid
    have hle2 : (headL l ++ List.replicate z 0).length = (bareL l).length := by rw [ls2, bareL_length l h2]
    have s4 := slm_upd wf2 (id := id) (n := (headL l ++ List.replicate z 0).length) (cap := cap) hle2 hcap hid
    have hbl := bareL_length l h2
    have hso := sumOf_run (fuel := fuel) (d := d + 2) (.inr s4) (by omega) (by omega) (by omega)
    obtain ⟨r, hr, hsb⟩ := sumB_run (fuel := fuel) (d := d + 2) (sumOf (bareL l)) (sumOf_lt _)
    have rr : rowsOf r = [] := hr.rows mem0
    obtain ⟨rows', oo1, oo2, oo3, oo4⟩ := hr.open
    obtain ⟨a5, M5, e5, s5, wf5, _⟩ := s4.appO (wf2.upd _ _) (oo1 _) oo2 oo3 oo4 (cel_U8.all oo3) (by omega) (bytes := 1) (by simp [sumB]; omega) (by simp [sumB]; omega)
    obtain ⟨r6, hf6, hr6⟩ := s5.frz cel_U8 (k := 12) (by omega)
    refine ⟨r6, hr6, ?_⟩
    refine call_gc tf32 rfl (ic mem0) (by simp [a32]) fun b ht hx => ?_
    have h0 := hx 0 _ rfl
    clear hx
    simp only [a32, c32] at ht ⊢
    simp (maxSteps := 2000000) (disch := first | omega | assumption | (simp only [add_size, upd_size, mem0_size, List.length_cons, List.length_nil, wf_add, wf_upd, wf_mem0, lo_wf, bk_wf, lo_size, bk_size, List.all_cons, List.all_nil, one_sc_int, one_sc_bool, one_sc_string, one_sc_slice, one_sc_ptr, one_ptr, one_sl, one_pv, one_cp, one_fn, Bool.and_true, Nat.reduceAdd, *]; done) | (simp only [add_size, upd_size, mem0_size, lo_size, bk_size, List.length_cons, List.length_nil]; omega)) only [RUN, footA, feetIn, resultsA, tupOf, frzL, slot, lay, icyL, fillA, repCells, kR, reduceIte, Nat.reduceEqDiff, Nat.reduceBEq, Nat.reduceLT, Nat.reduceAdd, Nat.reduceLeDiff, Nat.reduceSub, Nat.reduceMul, Int.reduceLT, Int.reduceLE, Int.reduceEq, Int.reduceAdd, Int.reduceSub, Int.reduceMul, decide_true, decide_false, Int.lt_irrefl, Nat.beq_eq, Option.map_some, Option.map_none, List.contains_cons, List.contains_nil, Bool.or_true, Bool.true_or, Bool.or_false, Bool.false_or, Bool.not_true, Bool.not_false, Bool.and_self, List.elem_nil, List.all_nil, List.all_cons, Bool.and_true, Bool.true_and, true_and, and_true, List.map_cons, List.map_nil, List.nil_append, List.cons_append, List.append_nil, Nat.zero_add, Nat.add_zero, List.drop_succ_cons, List.drop_zero, List.take_succ_cons, List.take_zero, List.getElem?_cons_zero, List.getElem?_cons_succ, List.length_cons, List.length_nil, h0, hlen, hcl, ra, rh, q1, hput, e1, l1, w1, w2, x_appz, e2, hr1, x_cpy, e3, e4, hid2, hso, rr, hsb, e5, hf6]
  obtain ⟨r, hr, r', N, hcl, rfl⟩ := key
  exact ⟨r, hr, fun M => call_own tf32 rfl hcl (ic mem0) (ic M)⟩
end Go.Proofs.Ytbemomagabjbnaa
