/-
  frame.Open.
-/
import Derived.Test.YtidkemgkejbalaaFrL0
set_option linter.unusedSimpArgs false
set_option linter.unusedVariables false
set_option maxRecDepth 100000
namespace Go.Proofs.Ytidkemgkejbalaa
open Go Go.Ax
variable {fuel : Nat} {M : Mem} {Q : AV → Mem → Prop} {d : Nat}

theorem fclone_run {a : AV} {l : List UInt8} (hS : Bs a l) (hl : l.length ≤ 4294967296) : ∃ r, Bs r l ∧ ∀ M, callN Try.prog (fsT tbl) fuel (d + 1) (.fn 14) [a] M = some (r, M) :=
  clone_gc cel_U8 tf14 Try.underlying22 hS (by omega) hl
theorem right_frame (b : List UInt8) : rightM (frameL b) = true := by
  have h : (frameL b).length - 3 = (bareL b).length := by simp [frameL, sumB]
  have e : (frameL b).take ((frameL b).length - 3) = bareL b := by rw [h]; simp [frameL]
  unfold rightM
  rw [e, decide_eq_true (by simp [frameL, sumB]), decide_eq_true (by rfl)]
  rfl
theorem openL_right (l : List UInt8) (h : rightM l = false) : openL l = none := by
  cases ho : openL l with
  | none => rfl
  | some b => rw [← (openL_some ho).2, right_frame] at h; cases h

/-- Bytes of ours, handed to a call. -/
theorem hand_own {N : Mem} {x5 : AV} {l : List UInt8} (wf : Wf N) (h : SlM N 1 isU8 x5 l) : ∃ a6 N6, icy 12 N x5 = some (a6, N6) ∧ Bs a6 l ∧ Wf N6 ∧ N6.size = N.size ∧ (∀ j, rowOf x5 ≠ some j → N6.get j = N.get j) ∧ (∀ N7, (∀ j, rowOf x5 = some j → N7.get j = N6.get j) → b2sO N7 x5 = some (STR l, N7)) := by
  rcases slm_form h with ⟨rfl, h0⟩ | ⟨id, cap, rfl, hcap, hg3⟩
  · rw [h0]; exact ⟨NIL, N, icy_sc _ (by omega), .inl ⟨rfl, rfl⟩, wf, rfl, fun _ _ => rfl, fun _ _ => rfl⟩
  · have hid := Mem.get_lt hg3
    refine ⟨.pv (u8s l) l.length cap 1, N.upd id (.fro (u8s l)), icy_row (k := 11) (n := l.length) (st := 1) hg3 (by rw [u8s_len]; omega) (by rw [u8s_len]; omega) (u8s_icy l (by omega) _) hg3 wf hid, bs_pv _ _ rfl, wf.upd _ _, upd_size _ _ _, fun j hj => get_upd_ne wf _ _ _ (fun e => hj (by rw [← e]; rfl)), fun N7 h7 => ?_⟩
    have hrd : N7.rd id = some (u8s l) := by rw [rd_get, h7 id rfl, get_upd_eq wf _ _ hid, rd1_fro]
    have hcs : cellsOf N7 (.sl id 0 l.length cap 1) = some (u8s l) := by
      simp only [cellsOf, hrd, Nat.zero_add, Nat.ble_eq_true_of_le (show l.length * 1 ≤ (u8s l).length by rw [u8s_len]; omega)]
      rw [slot_all _ _ (by rw [u8s_len]; omega)]
    have hby : bytesOf (u8s l) = some l := by rw [← u8s_flat]; exact bytesOf_eq (u8s_all2 l)
    simp only [b2sO, Nat.beq_refl, hcs, hby]

set_option maxHeartbeats 8000000 in
theorem open_run {a : AV} {l : List UInt8} (hS : Bs a l) (hl : l.length + 3000 < fuel) (hl2 : l.length ≤ 1000000000) : ∃ r, Bs r (openB l) ∧ ∀ M, callN Try.prog (fsT tbl) fuel (d + 5) (.fn 7) [a] M = some (.tup [r, I64 (openC l)], M) := by
  have hlen := hS.len
  have ic : ∀ M, icyL (icy 12) M [a] = some ([a], M) := fun M => by simp (maxSteps := 2000000) (disch := first | omega | assumption | (simp only [add_size, upd_size, mem0_size, List.length_cons, List.length_nil, wf_add, wf_upd, wf_mem0, lo_wf, bk_wf, lo_size, bk_size, List.all_cons, List.all_nil, one_sc_int, one_sc_bool, one_sc_string, one_sc_slice, one_sc_ptr, one_ptr, one_sl, one_pv, one_cp, one_fn, Bool.and_true, Nat.reduceAdd, *]; done) | (simp only [add_size, upd_size, mem0_size, lo_size, bk_size, List.length_cons, List.length_nil]; omega)) only [RUN, footA, feetIn, resultsA, tupOf, frzL, slot, lay, icyL, fillA, repCells, kR, reduceIte, Nat.reduceEqDiff, Nat.reduceBEq, Nat.reduceLT, Nat.reduceAdd, Nat.reduceLeDiff, Nat.reduceSub, Nat.reduceMul, Int.reduceLT, Int.reduceLE, Int.reduceEq, Int.reduceAdd, Int.reduceSub, Int.reduceMul, decide_true, decide_false, Int.lt_irrefl, Nat.beq_eq, Option.map_some, Option.map_none, List.contains_cons, List.contains_nil, Bool.or_true, Bool.true_or, Bool.or_false, Bool.false_or, Bool.not_true, Bool.not_false, Bool.and_self, List.elem_nil, List.all_nil, List.all_cons, Bool.and_true, Bool.true_and, true_and, and_true, List.map_cons, List.map_nil, List.nil_append, List.cons_append, List.append_nil, Nat.zero_add, Nat.add_zero, List.drop_succ_cons, List.drop_zero, List.take_succ_cons, List.take_zero, List.getElem?_cons_zero, List.getElem?_cons_succ, List.length_cons, List.length_nil, hS.icy]
  have ra : rowsOf a = [] := hS.rows mem0
  have bad : openL l = none → W3 (callN Try.prog (fsT tbl) fuel (d + 5) (.fn 7) [a] mem0) (fun r' _ => r' = .tup [NIL, I64 80]) → ∃ r, Bs r (openB l) ∧ ∀ M, callN Try.prog (fsT tbl) fuel (d + 5) (.fn 7) [a] M = some (.tup [r, I64 (openC l)], M) := by
    rintro h ⟨r', N, hcl, rfl⟩
    refine ⟨NIL, by unfold openB; rw [h]; exact .inl ⟨rfl, rfl⟩, fun M => ?_⟩
    unfold openC; rw [h]
    exact call_own tf7 rfl hcl (ic mem0) (ic M)
  have hri := fun M => right_run (fuel := fuel) (d := d + 1) hS (by omega) hl2 (by omega) M
  by_cases h4 : l.length < 4
  · refine bad (openL_short l (by omega)) ?_
    have q1 : decide ((l.length : Int) < 4) = true := by simp; omega
    refine call_gc tf7 rfl (ic mem0) (by simp [a7]) fun b ht hx => ?_
    have h0 := hx 0 _ rfl
    clear hx
    simp only [a7, c7] at ht ⊢
    simp (maxSteps := 2000000) (disch := first | omega | assumption | (simp only [add_size, upd_size, mem0_size, List.length_cons, List.length_nil, wf_add, wf_upd, wf_mem0, lo_wf, bk_wf, lo_size, bk_size, List.all_cons, List.all_nil, one_sc_int, one_sc_bool, one_sc_string, one_sc_slice, one_sc_ptr, one_ptr, one_sl, one_pv, one_cp, one_fn, Bool.and_true, Nat.reduceAdd, *]; done) | (simp only [add_size, upd_size, mem0_size, lo_size, bk_size, List.length_cons, List.length_nil]; omega)) only [RUN, footA, feetIn, resultsA, tupOf, frzL, slot, lay, icyL, fillA, repCells, kR, reduceIte, Nat.reduceEqDiff, Nat.reduceBEq, Nat.reduceLT, Nat.reduceAdd, Nat.reduceLeDiff, Nat.reduceSub, Nat.reduceMul, Int.reduceLT, Int.reduceLE, Int.reduceEq, Int.reduceAdd, Int.reduceSub, Int.reduceMul, decide_true, decide_false, Int.lt_irrefl, Nat.beq_eq, Option.map_some, Option.map_none, List.contains_cons, List.contains_nil, Bool.or_true, Bool.true_or, Bool.or_false, Bool.false_or, Bool.not_true, Bool.not_false, Bool.and_self, List.elem_nil, List.all_nil, List.all_cons, Bool.and_true, Bool.true_and, true_and, and_true, List.map_cons, List.map_nil, List.nil_append, List.cons_append, List.append_nil, Nat.zero_add, Nat.add_zero, List.drop_succ_cons, List.drop_zero, List.take_succ_cons, List.take_zero, List.getElem?_cons_zero, List.getElem?_cons_succ, List.length_cons, List.length_nil, h0, hlen, ra, q1]
  have q1 : decide ((l.length : Int) < 4) = false := by simp; omega
  cases hr : rightM l with
  | false =>
    refine bad (openL_right l hr) ?_
    rw [hr] at hri
    refine call_gc tf7 rfl (ic mem0) (by simp [a7]) fun b ht hx => ?_
    have h0 := hx 0 _ rfl
    clear hx
    simp only [a7, c7] at ht ⊢
    simp (maxSteps := 2000000) (disch := first | omega | assumption | (simp only [add_size, upd_size, mem0_size, List.length_cons, List.length_nil, wf_add, wf_upd, wf_mem0, lo_wf, bk_wf, lo_size, bk_size, List.all_cons, List.all_nil, one_sc_int, one_sc_bool, one_sc_string, one_sc_slice, one_sc_ptr, one_ptr, one_sl, one_pv, one_cp, one_fn, Bool.and_true, Nat.reduceAdd, *]; done) | (simp only [add_size, upd_size, mem0_size, lo_size, bk_size, List.length_cons, List.length_nil]; omega)) only [RUN, footA, feetIn, resultsA, tupOf, frzL, slot, lay, icyL, fillA, repCells, kR, reduceIte, Nat.reduceEqDiff, Nat.reduceBEq, Nat.reduceLT, Nat.reduceAdd, Nat.reduceLeDiff, Nat.reduceSub, Nat.reduceMul, Int.reduceLT, Int.reduceLE, Int.reduceEq, Int.reduceAdd, Int.reduceSub, Int.reduceMul, decide_true, decide_false, Int.lt_irrefl, Nat.beq_eq, Option.map_some, Option.map_none, List.contains_cons, List.contains_nil, Bool.or_true, Bool.true_or, Bool.or_false, Bool.false_or, Bool.not_true, Bool.not_false, Bool.and_self, List.elem_nil, List.all_nil, List.all_cons, Bool.and_true, Bool.true_and, true_and, and_true, List.map_cons, List.map_nil, List.nil_append, List.cons_append, List.append_nil, Nat.zero_add, Nat.add_zero, List.drop_succ_cons, List.drop_zero, List.take_succ_cons, List.take_zero, List.getElem?_cons_zero, List.getElem?_cons_succ, List.length_cons, List.length_nil, h0, hlen, ra, q1, hri]
  | true =>
  rw [hr] at hri
  obtain ⟨a1, hc1, hb1⟩ := cut_from hS (i := 1) (by omega)
  replace hc1 : ∀ M, slcO M 1 a (some (I64 1)) none none = some (a1, M) := hc1
  have ra1 : rowsOf a1 = [] := hb1.rows mem0
  have hge := fun M => get_num (fuel := fuel) (d := d + 1) hb1 (by simp; omega) (by omega) M
  rcases getM_form (l.drop 1) with hg | ⟨n, s, hg, hsl, h1s, hn, _⟩
  · refine bad (openL_bad l hg) ?_
    rw [hg] at hge
    have q2 : decide ((8 : Int) = 0) = false := by rfl
    refine call_gc tf7 rfl (ic mem0) (by simp [a7]) fun b ht hx => ?_
    have h0 := hx 0 _ rfl
    clear hx
    simp only [a7, c7] at ht ⊢
    simp (maxSteps := 2000000) (disch := first | omega | assumption | (simp only [add_size, upd_size, mem0_size, List.length_cons, List.length_nil, wf_add, wf_upd, wf_mem0, lo_wf, bk_wf, lo_size, bk_size, List.all_cons, List.all_nil, one_sc_int, one_sc_bool, one_sc_string, one_sc_slice, one_sc_ptr, one_ptr, one_sl, one_pv, one_cp, one_fn, Bool.and_true, Nat.reduceAdd, *]; done) | (simp only [add_size, upd_size, mem0_size, lo_size, bk_size, List.length_cons, List.length_nil]; omega)) only [RUN, footA, feetIn, resultsA, tupOf, frzL, slot, lay, icyL, fillA, repCells, kR, reduceIte, Nat.reduceEqDiff, Nat.reduceBEq, Nat.reduceLT, Nat.reduceAdd, Nat.reduceLeDiff, Nat.reduceSub, Nat.reduceMul, Int.reduceLT, Int.reduceLE, Int.reduceEq, Int.reduceAdd, Int.reduceSub, Int.reduceMul, decide_true, decide_false, Int.lt_irrefl, Nat.beq_eq, Option.map_some, Option.map_none, List.contains_cons, List.contains_nil, Bool.or_true, Bool.true_or, Bool.or_false, Bool.false_or, Bool.not_true, Bool.not_false, Bool.and_self, List.elem_nil, List.all_nil, List.all_cons, Bool.and_true, Bool.true_and, true_and, and_true, List.map_cons, List.map_nil, List.nil_append, List.cons_append, List.append_nil, Nat.zero_add, Nat.add_zero, List.drop_succ_cons, List.drop_zero, List.take_succ_cons, List.take_zero, List.getElem?_cons_zero, List.getElem?_cons_succ, List.length_cons, List.length_nil, h0, hlen, ra, q1, hri, hc1, ra1, hge, q2]
  rw [hg] at hge
  rw [List.length_drop] at hsl
  have q2 : decide ((0 : Int) = 0) = true := by rfl
  have w1 : IntKind.i64.wrap ((l.length : Int) - 1) = (l.length : Int) - 1 := by rw [wrap_i64] <;> omega
  have w2 : IntKind.i64.wrap ((l.length : Int) - 1 - s) = (l.length : Int) - 1 - s := by rw [wrap_i64] <;> omega
  have w3 : IntKind.i64.wrap ((l.length : Int) - 1 - s - 3) = (l.length : Int) - 1 - s - 3 := by rw [wrap_i64] <;> omega
  by_cases hfar : l.length < 1 + s + n + 3
  · refine bad (openL_far l n s hg hfar) ?_
    have q3 : decide ((l.length : Int) - 1 - s - 3 < n) = true := by simp; omega
    refine call_gc tf7 rfl (ic mem0) (by simp [a7]) fun b ht hx => ?_
    have h0 := hx 0 _ rfl
    clear hx
    simp only [a7, c7] at ht ⊢
    simp (maxSteps := 2000000) (disch := first | omega | assumption | (simp only [add_size, upd_size, mem0_size, List.length_cons, List.length_nil, wf_add, wf_upd, wf_mem0, lo_wf, bk_wf, lo_size, bk_size, List.all_cons, List.all_nil, one_sc_int, one_sc_bool, one_sc_string, one_sc_slice, one_sc_ptr, one_ptr, one_sl, one_pv, one_cp, one_fn, Bool.and_true, Nat.reduceAdd, *]; done) | (simp only [add_size, upd_size, mem0_size, lo_size, bk_size, List.length_cons, List.length_nil]; omega)) only [RUN, footA, feetIn, resultsA, tupOf, frzL, slot, lay, icyL, fillA, repCells, kR, reduceIte, Nat.reduceEqDiff, Nat.reduceBEq, Nat.reduceLT, Nat.reduceAdd, Nat.reduceLeDiff, Nat.reduceSub, Nat.reduceMul, Int.reduceLT, Int.reduceLE, Int.reduceEq, Int.reduceAdd, Int.reduceSub, Int.reduceMul, decide_true, decide_false, Int.lt_irrefl, Nat.beq_eq, Option.map_some, Option.map_none, List.contains_cons, List.contains_nil, Bool.or_true, Bool.true_or, Bool.or_false, Bool.false_or, Bool.not_true, Bool.not_false, Bool.and_self, List.elem_nil, List.all_nil, List.all_cons, Bool.and_true, Bool.true_and, true_and, and_true, List.map_cons, List.map_nil, List.nil_append, List.cons_append, List.append_nil, Nat.zero_add, Nat.add_zero, List.drop_succ_cons, List.drop_zero, List.take_succ_cons, List.take_zero, List.getElem?_cons_zero, List.getElem?_cons_succ, List.length_cons, List.length_nil, h0, hlen, ra, q1, hri, hc1, ra1, hge, q2, w1, w2, w3, q3]
  have q3 : decide ((l.length : Int) - 1 - s - 3 < n) = false := by simp; omega
  have w4 : IntKind.i64.wrap (1 + (s : Int)) = ((1 + s : Nat) : Int) := by rw [wrap_i64] <;> omega
  have w5 : IntKind.i64.wrap (((1 + s : Nat) : Int) + n) = ((1 + s + n : Nat) : Int) := by rw [wrap_i64] <;> omega
  obtain ⟨a2, hc2, hb2⟩ := cut_at hS (i := 1 + s) (j := 1 + s + n) (by omega) (by omega)
  rw [Nat.add_sub_cancel_left] at hb2
  have hln : ((l.drop (1 + s)).take n).length = n := by rw [List.length_take, List.length_drop]; omega
  have ra2 : rowsOf a2 = [] := hb2.rows mem0
  obtain ⟨a3, hb3, hcl⟩ := fclone_run (fuel := fuel) (d := d + 3) hb2 (by omega)
  have ra3 : rowsOf a3 = [] := hb3.rows mem0
  have hnear := openL_near l n s hg (by omega)
  generalize (l.drop (1 + s)).take n = body at *
  by_cases hn1 : 1000 < n
  · refine bad (openL_big l n s hg hn1) ?_
    have hse := fun M => seal0_err (fuel := fuel) (d := d) hb3 (by omega) (by omega) (by omega) M
    have q4 : decide ((4 : Int) = 0) = false := by rfl
    refine call_gc tf7 rfl (ic mem0) (by simp [a7]) fun b ht hx => ?_
    have h0 := hx 0 _ rfl
    clear hx
    simp only [a7, c7] at ht ⊢
    simp (maxSteps := 2000000) (disch := first | omega | assumption | (simp only [add_size, upd_size, mem0_size, List.length_cons, List.length_nil, wf_add, wf_upd, wf_mem0, lo_wf, bk_wf, lo_size, bk_size, List.all_cons, List.all_nil, one_sc_int, one_sc_bool, one_sc_string, one_sc_slice, one_sc_ptr, one_ptr, one_sl, one_pv, one_cp, one_fn, Bool.and_true, Nat.reduceAdd, *]; done) | (simp only [add_size, upd_size, mem0_size, lo_size, bk_size, List.length_cons, List.length_nil]; omega)) only [RUN, footA, feetIn, resultsA, tupOf, frzL, slot, lay, icyL, fillA, repCells, kR, reduceIte, Nat.reduceEqDiff, Nat.reduceBEq, Nat.reduceLT, Nat.reduceAdd, Nat.reduceLeDiff, Nat.reduceSub, Nat.reduceMul, Int.reduceLT, Int.reduceLE, Int.reduceEq, Int.reduceAdd, Int.reduceSub, Int.reduceMul, decide_true, decide_false, Int.lt_irrefl, Nat.beq_eq, Option.map_some, Option.map_none, List.contains_cons, List.contains_nil, Bool.or_true, Bool.true_or, Bool.or_false, Bool.false_or, Bool.not_true, Bool.not_false, Bool.and_self, List.elem_nil, List.all_nil, List.all_cons, Bool.and_true, Bool.true_and, true_and, and_true, List.map_cons, List.map_nil, List.nil_append, List.cons_append, List.append_nil, Nat.zero_add, Nat.add_zero, List.drop_succ_cons, List.drop_zero, List.take_succ_cons, List.take_zero, List.getElem?_cons_zero, List.getElem?_cons_succ, List.length_cons, List.length_nil, h0, hlen, ra, q1, hri, hc1, ra1, hge, q2, w1, w2, w3, q3, w4, w5, hc2, ra2, ra3, hcl, hse, q4]
  by_cases he : frameL body = l
  · rw [if_pos ⟨by omega, he⟩] at hnear
    refine ⟨a3, by unfold openB; rw [hnear]; exact hb3, fun M => ?_⟩
    unfold openC; rw [hnear]
    have key : W3 (callN Try.prog (fsT tbl) fuel (d + 5) (.fn 7) [a] mem0) (fun r' _ => r' = .tup [a3, I64 0]) := by
      refine call_gc tf7 rfl (ic mem0) (by simp [a7]) fun b ht hx => ?_
      have h0 := hx 0 _ rfl
      clear hx
      simp only [a7, c7] at ht ⊢
      have fr := fun M => hb3.frz M 0 12 (by omega)
      simp (maxSteps := 2000000) (disch := first | omega | assumption | (simp only [add_size, upd_size, mem0_size, List.length_cons, List.length_nil, wf_add, wf_upd, wf_mem0, lo_wf, bk_wf, lo_size, bk_size, List.all_cons, List.all_nil, one_sc_int, one_sc_bool, one_sc_string, one_sc_slice, one_sc_ptr, one_ptr, one_sl, one_pv, one_cp, one_fn, Bool.and_true, Nat.reduceAdd, *]; done) | (simp only [add_size, upd_size, mem0_size, lo_size, bk_size, List.length_cons, List.length_nil]; omega)) only [RUN, footA, feetIn, resultsA, tupOf, frzL, slot, lay, icyL, fillA, repCells, kR, reduceIte, Nat.reduceEqDiff, Nat.reduceBEq, Nat.reduceLT, Nat.reduceAdd, Nat.reduceLeDiff, Nat.reduceSub, Nat.reduceMul, Int.reduceLT, Int.reduceLE, Int.reduceEq, Int.reduceAdd, Int.reduceSub, Int.reduceMul, decide_true, decide_false, Int.lt_irrefl, Nat.beq_eq, Option.map_some, Option.map_none, List.contains_cons, List.contains_nil, Bool.or_true, Bool.true_or, Bool.or_false, Bool.false_or, Bool.not_true, Bool.not_false, Bool.and_self, List.elem_nil, List.all_nil, List.all_cons, Bool.and_true, Bool.true_and, true_and, and_true, List.map_cons, List.map_nil, List.nil_append, List.cons_append, List.append_nil, Nat.zero_add, Nat.add_zero, List.drop_succ_cons, List.drop_zero, List.take_succ_cons, List.take_zero, List.getElem?_cons_zero, List.getElem?_cons_succ, List.length_cons, List.length_nil, h0, hlen, ra, q1, hri, hc1, ra1, hge, q2, w1, w2, w3, q3, w4, w5, hc2, ra2, ra3, hcl]
      refine seal0_ok (d := d) hb3 (by omega) (by omega) Wf.mem0 (Nat.le_refl _) fun o N kN sN hrN => ?_
      obtain ⟨a6, N6, i6, b6, wf6, _⟩ := hand_own kN.wf sN
      have hbe := bequal_run (fuel := fuel) (d := d + 3) b6 hS mem0
      rw [decide_eq_true he] at hbe
      have hbe6 := call_own tf15 rfl hbe (M3 := mem0) (by simp only [icyL, b6.icy mem0 12 (by omega), hS.icy mem0 12 (by omega)]) (show icyL (icy 12) N [o, a] = some ([a6, a], N6) by simp only [icyL, i6, hS.icy N6 12 (by omega)])
      have RLo := rows_lt sN.rl (Nat.le_refl _)
      simp (maxSteps := 2000000) (disch := first | omega | assumption | (simp only [add_size, upd_size, mem0_size, List.length_cons, List.length_nil, wf_add, wf_upd, wf_mem0, lo_wf, bk_wf, lo_size, bk_size, List.all_cons, List.all_nil, one_sc_int, one_sc_bool, one_sc_string, one_sc_slice, one_sc_ptr, one_ptr, one_sl, one_pv, one_cp, one_fn, Bool.and_true, Nat.reduceAdd, *]; done) | (simp only [add_size, upd_size, mem0_size, lo_size, bk_size, List.length_cons, List.length_nil]; omega)) only [RUN, footA, feetIn, resultsA, tupOf, frzL, slot, lay, icyL, fillA, repCells, kR, reduceIte, Nat.reduceEqDiff, Nat.reduceBEq, Nat.reduceLT, Nat.reduceAdd, Nat.reduceLeDiff, Nat.reduceSub, Nat.reduceMul, Int.reduceLT, Int.reduceLE, Int.reduceEq, Int.reduceAdd, Int.reduceSub, Int.reduceMul, decide_true, decide_false, Int.lt_irrefl, Nat.beq_eq, Option.map_some, Option.map_none, List.contains_cons, List.contains_nil, Bool.or_true, Bool.true_or, Bool.or_false, Bool.false_or, Bool.not_true, Bool.not_false, Bool.and_self, List.elem_nil, List.all_nil, List.all_cons, Bool.and_true, Bool.true_and, true_and, and_true, List.map_cons, List.map_nil, List.nil_append, List.cons_append, List.append_nil, Nat.zero_add, Nat.add_zero, List.drop_succ_cons, List.drop_zero, List.take_succ_cons, List.take_zero, List.getElem?_cons_zero, List.getElem?_cons_succ, List.length_cons, List.length_nil, h0, ra, ra3, hbe6, RLo, q2, fr]
    obtain ⟨r', N, hk, rfl⟩ := key
    exact call_own tf7 rfl hk (ic mem0) (ic M)
  · rw [if_neg (fun h => he h.2)] at hnear
    refine bad hnear ?_
    refine call_gc tf7 rfl (ic mem0) (by simp [a7]) fun b ht hx => ?_
    have h0 := hx 0 _ rfl
    clear hx
    simp only [a7, c7] at ht ⊢
    simp (maxSteps := 2000000) (disch := first | omega | assumption | (simp only [add_size, upd_size, mem0_size, List.length_cons, List.length_nil, wf_add, wf_upd, wf_mem0, lo_wf, bk_wf, lo_size, bk_size, List.all_cons, List.all_nil, one_sc_int, one_sc_bool, one_sc_string, one_sc_slice, one_sc_ptr, one_ptr, one_sl, one_pv, one_cp, one_fn, Bool.and_true, Nat.reduceAdd, *]; done) | (simp only [add_size, upd_size, mem0_size, lo_size, bk_size, List.length_cons, List.length_nil]; omega)) only [RUN, footA, feetIn, resultsA, tupOf, frzL, slot, lay, icyL, fillA, repCells, kR, reduceIte, Nat.reduceEqDiff, Nat.reduceBEq, Nat.reduceLT, Nat.reduceAdd, Nat.reduceLeDiff, Nat.reduceSub, Nat.reduceMul, Int.reduceLT, Int.reduceLE, Int.reduceEq, Int.reduceAdd, Int.reduceSub, Int.reduceMul, decide_true, decide_false, Int.lt_irrefl, Nat.beq_eq, Option.map_some, Option.map_none, List.contains_cons, List.contains_nil, Bool.or_true, Bool.true_or, Bool.or_false, Bool.false_or, Bool.not_true, Bool.not_false, Bool.and_self, List.elem_nil, List.all_nil, List.all_cons, Bool.and_true, Bool.true_and, true_and, and_true, List.map_cons, List.map_nil, List.nil_append, List.cons_append, List.append_nil, Nat.zero_add, Nat.add_zero, List.drop_succ_cons, List.drop_zero, List.take_succ_cons, List.take_zero, List.getElem?_cons_zero, List.getElem?_cons_succ, List.length_cons, List.length_nil, h0, hlen, ra, q1, hri, hc1, ra1, hge, q2, w1, w2, w3, q3, w4, w5, hc2, ra2, ra3, hcl]
    refine seal0_ok (d := d) hb3 (by omega) (by omega) Wf.mem0 (Nat.le_refl _) fun o N kN sN hrN => ?_
    obtain ⟨a6, N6, i6, b6, wf6, _⟩ := hand_own kN.wf sN
    have hbe := bequal_run (fuel := fuel) (d := d + 3) b6 hS mem0
    rw [decide_eq_false he] at hbe
    have hbe6 := call_own tf15 rfl hbe (M3 := mem0) (by simp only [icyL, b6.icy mem0 12 (by omega), hS.icy mem0 12 (by omega)]) (show icyL (icy 12) N [o, a] = some ([a6, a], N6) by simp only [icyL, i6, hS.icy N6 12 (by omega)])
    have RLo := rows_lt sN.rl (Nat.le_refl _)
    simp (maxSteps := 2000000) (disch := first | omega | assumption | (simp only [add_size, upd_size, mem0_size, List.length_cons, List.length_nil, wf_add, wf_upd, wf_mem0, lo_wf, bk_wf, lo_size, bk_size, List.all_cons, List.all_nil, one_sc_int, one_sc_bool, one_sc_string, one_sc_slice, one_sc_ptr, one_ptr, one_sl, one_pv, one_cp, one_fn, Bool.and_true, Nat.reduceAdd, *]; done) | (simp only [add_size, upd_size, mem0_size, lo_size, bk_size, List.length_cons, List.length_nil]; omega)) only [RUN, footA, feetIn, resultsA, tupOf, frzL, slot, lay, icyL, fillA, repCells, kR, reduceIte, Nat.reduceEqDiff, Nat.reduceBEq, Nat.reduceLT, Nat.reduceAdd, Nat.reduceLeDiff, Nat.reduceSub, Nat.reduceMul, Int.reduceLT, Int.reduceLE, Int.reduceEq, Int.reduceAdd, Int.reduceSub, Int.reduceMul, decide_true, decide_false, Int.lt_irrefl, Nat.beq_eq, Option.map_some, Option.map_none, List.contains_cons, List.contains_nil, Bool.or_true, Bool.true_or, Bool.or_false, Bool.false_or, Bool.not_true, Bool.not_false, Bool.and_self, List.elem_nil, List.all_nil, List.all_cons, Bool.and_true, Bool.true_and, true_and, and_true, List.map_cons, List.map_nil, List.nil_append, List.cons_append, List.append_nil, Nat.zero_add, Nat.add_zero, List.drop_succ_cons, List.drop_zero, List.take_succ_cons, List.take_zero, List.getElem?_cons_zero, List.getElem?_cons_succ, List.length_cons, List.length_nil, h0, ra, ra3, hbe6, RLo, q2]
end Go.Proofs.Ytidkemgkejbalaa
