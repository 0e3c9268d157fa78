/-
  The reference: Framed.
-/
import Derived.Test.YtbemomagabjbnaaFrXc
set_option linter.unusedSimpArgs false
set_option linter.unusedVariables false
set_option maxRecDepth 100000
namespace Go.Proofs.Ytbemomagabjbnaa
open Go Go.Ax
variable {fuel : Nat} {M : Mem} {Q : AV → Mem → Prop} {d : Nat}

set_option maxHeartbeats 8000000 in
theorem rframed_run {a : AV} {l : List UInt8} (hS : Bs a l) (h2 : l.length ≤ 1000) (hf : 5000 < fuel) : ∃ r, Bs r (frameL l) ∧ ∀ M, callN Try.prog (fsT tbl) fuel (d + 3) (.fn 35) [a] M = some (r, M) := by
  have hlen := hS.len
  have ic : ∀ M, icyL (icy 12) M [a] = some ([a], M) := fun M => by simp (maxSteps := 2000000) (disch := first | omega | assumption | (simp only [add_size, upd_size, mem0_size, List.length_cons, List.length_nil, wf_add, wf_upd, wf_mem0, lo_wf, bk_wf, lo_size, bk_size, List.all_cons, List.all_nil, one_sc_int, one_sc_bool, one_sc_string, one_sc_slice, one_sc_ptr, one_ptr, one_sl, one_pv, one_cp, one_fn, Bool.and_true, Nat.reduceAdd, *]; done) | (simp only [add_size, upd_size, mem0_size, lo_size, bk_size, List.length_cons, List.length_nil]; omega)) only [RUN, footA, feetIn, resultsA, tupOf, frzL, slot, lay, icyL, fillA, repCells, kR, reduceIte, Nat.reduceEqDiff, Nat.reduceBEq, Nat.reduceLT, Nat.reduceAdd, Nat.reduceLeDiff, Nat.reduceSub, Nat.reduceMul, Int.reduceLT, Int.reduceLE, Int.reduceEq, Int.reduceAdd, Int.reduceSub, Int.reduceMul, decide_true, decide_false, Int.lt_irrefl, Nat.beq_eq, Option.map_some, Option.map_none, List.contains_cons, List.contains_nil, Bool.or_true, Bool.true_or, Bool.or_false, Bool.false_or, Bool.not_true, Bool.not_false, Bool.and_self, List.elem_nil, List.all_nil, List.all_cons, Bool.and_true, Bool.true_and, true_and, and_true, List.map_cons, List.map_nil, List.nil_append, List.cons_append, List.append_nil, Nat.zero_add, Nat.add_zero, List.drop_succ_cons, List.drop_zero, List.take_succ_cons, List.take_zero, List.getElem?_cons_zero, List.getElem?_cons_succ, List.length_cons, List.length_nil, hS.icy]
  obtain ⟨hd, hhd, hput⟩ := rput_run (fuel := fuel) (d := d + 1) l.length (by omega) (by omega)
  have hlo := fun M => rlong_run (fuel := fuel) (d := d) l.length (by omega) (by omega) M
  have ra : rowsOf a = [] := hS.rows mem0
  have rh : rowsOf hd = [] := hhd.rows mem0
  have hp3 := putL_small l.length h2
  have hge := classM_ge l.length h2
  have hle := classM_le l.length
  have hcc := classM_cases l.length
  have hhl := headL_length l
  have m1 : SlM (mem0.add (.row false [U8 181])) 1 isU8 (.sl 0 0 1 (some 1) 1) [181] := by
    refine .inr ⟨0, [[U8 181]], some 1, rfl, .inr rfl, ?_, .cons rfl .nil, by simp⟩
    exact get_add_new Wf.mem0 _ _ (Nat.le_refl _) (by rw [mem0_size]; omega)
  obtain ⟨rows, ho1, ho2, ho3, ho4⟩ := hhd.open
  obtain ⟨a1, M1, e1, s1, wf1, _⟩ := m1.appO (Wf.mem0.add _) (ho1 _) ho2 ho3 ho4 (cel_U8.all ho3) (by omega) (bytes := 1) (by simp; omega) (by simp; omega)
  replace s1 : SlM M1 1 isU8 a1 (headL l) := s1
  obtain ⟨rows2, oo1, oo2, oo3, oo4⟩ := hS.open
  obtain ⟨a2, M2, e2, s2, wf2, _⟩ := s1.appO wf1 (oo1 _) oo2 oo3 oo4 (cel_U8.all oo3) (by omega) (bytes := 1) (by omega) (by omega)
  have hr1 := rows_lt s1.rl (Nat.le_refl _)
  obtain ⟨Z, hZ⟩ : ∃ Z, classM l.length - 3 - ((headL l).length + l.length) = Z := ⟨_, rfl⟩
  have key : W3 (callN Try.prog (fsT tbl) fuel (d + 3) (.fn 35) [a] mem0) (fun r' _ => Bs r' (frameL l)) := by
    refine call_gc tf35 rfl (ic mem0) (by simp [a35]) fun b ht hx => ?_
    have h0 := hx 0 _ rfl
    clear hx
    simp only [a35, c35] at ht ⊢
    simp (maxSteps := 2000000) (disch := first | omega | assumption | (simp only [add_size, upd_size, mem0_size, List.length_cons, List.length_nil, wf_add, wf_upd, wf_mem0, lo_wf, bk_wf, lo_size, bk_size, List.all_cons, List.all_nil, one_sc_int, one_sc_bool, one_sc_string, one_sc_slice, one_sc_ptr, one_ptr, one_sl, one_pv, one_cp, one_fn, Bool.and_true, Nat.reduceAdd, *]; done) | (simp only [add_size, upd_size, mem0_size, lo_size, bk_size, List.length_cons, List.length_nil]; omega)) only [RUN, footA, feetIn, resultsA, tupOf, frzL, slot, lay, icyL, fillA, repCells, kR, reduceIte, Nat.reduceEqDiff, Nat.reduceBEq, Nat.reduceLT, Nat.reduceAdd, Nat.reduceLeDiff, Nat.reduceSub, Nat.reduceMul, Int.reduceLT, Int.reduceLE, Int.reduceEq, Int.reduceAdd, Int.reduceSub, Int.reduceMul, decide_true, decide_false, Int.lt_irrefl, Nat.beq_eq, Option.map_some, Option.map_none, List.contains_cons, List.contains_nil, Bool.or_true, Bool.true_or, Bool.or_false, Bool.false_or, Bool.not_true, Bool.not_false, Bool.and_self, List.elem_nil, List.all_nil, List.all_cons, Bool.and_true, Bool.true_and, true_and, and_true, List.map_cons, List.map_nil, List.nil_append, List.cons_append, List.append_nil, Nat.zero_add, Nat.add_zero, List.drop_succ_cons, List.drop_zero, List.take_succ_cons, List.take_zero, List.getElem?_cons_zero, List.getElem?_cons_succ, List.length_cons, List.length_nil, h0, hlen, ra, rh, hput, e1, hr1, e2]
    refine w_loop (I := fun m t N => ∃ (z : Nat) (o : AV), z ≤ Z ∧ m = Z - z ∧ Wf N ∧ SlM N 1 isU8 o (headL l ++ l ++ List.replicate z 0) ∧ nth undefA t 0 = a ∧ nth undefA t 3 = o) (n := Z) (by omega) ?_ ?_
    · refine ⟨0, a2, by omega, by omega, wf2, by rw [List.replicate_zero, List.append_nil]; exact s2, ?_, ?_⟩
      all_goals simp (maxSteps := 2000000) (disch := first | omega | assumption | (simp only [add_size, upd_size, mem0_size, List.length_cons, List.length_nil, wf_add, wf_upd, wf_mem0, lo_wf, bk_wf, lo_size, bk_size, List.all_cons, List.all_nil, one_sc_int, one_sc_bool, one_sc_string, one_sc_slice, one_sc_ptr, one_ptr, one_sl, one_pv, one_cp, one_fn, Bool.and_true, Nat.reduceAdd, *]; done) | (simp only [add_size, upd_size, mem0_size, lo_size, bk_size, List.length_cons, List.length_nil]; omega)) only [RUN, footA, feetIn, resultsA, tupOf, frzL, slot, lay, icyL, fillA, repCells, kR, reduceIte, Nat.reduceEqDiff, Nat.reduceBEq, Nat.reduceLT, Nat.reduceAdd, Nat.reduceLeDiff, Nat.reduceSub, Nat.reduceMul, Int.reduceLT, Int.reduceLE, Int.reduceEq, Int.reduceAdd, Int.reduceSub, Int.reduceMul, decide_true, decide_false, Int.lt_irrefl, Nat.beq_eq, Option.map_some, Option.map_none, List.contains_cons, List.contains_nil, Bool.or_true, Bool.true_or, Bool.or_false, Bool.false_or, Bool.not_true, Bool.not_false, Bool.and_self, List.elem_nil, List.all_nil, List.all_cons, Bool.and_true, Bool.true_and, true_and, and_true, List.map_cons, List.map_nil, List.nil_append, List.cons_append, List.append_nil, Nat.zero_add, Nat.add_zero, List.drop_succ_cons, List.drop_zero, List.take_succ_cons, List.take_zero, List.getElem?_cons_zero, List.getElem?_cons_succ, List.length_cons, List.length_nil, h0]
    · rintro m t N hl' ⟨z, o, hz, hm, wfN, hSo, t0, t3⟩
      simp only [ht] at hl' ⊢
      clear h0 ht b
      have lo := hSo.len
      have hbl : (headL l ++ l ++ List.replicate z (0 : UInt8)).length = (headL l).length + l.length + z := by simp; omega
      rw [hbl] at lo
      have w1 : IntKind.i64.wrap ((classM l.length : Int) - 3) = ((classM l.length - 3 : Nat) : Int) := by rw [wrap_i64] <;> omega
      by_cases hlt : z < Z
      · have hc : decide ((((headL l).length + l.length + z : Nat) : Int) < ((classM l.length - 3 : Nat) : Int)) = true := decide_eq_true (by omega)
        have gy : (N.add (.row false [U8 0])).get N.size = some (.row false [U8 0]) := get_add_new wfN _ _ (Nat.le_refl _) (by omega)
        have hSo2 : SlM (N.add (.row false [U8 0])) 1 isU8 o (headL l ++ l ++ List.replicate z 0) := hSo.keep fun id h => get_add wfN _ _ (hSo.lt id h)
        obtain ⟨o', M3, e3, s3, wf3, _⟩ := hSo2.appO (wfN.add _) (y := .sl N.size 0 1 (some 1) 1) (l' := [0]) (new := [[U8 0]]) (bytes := 1) (cells_lit gy rfl) rfl (.cons rfl .nil) (by simp) rfl (by omega) (by simp; omega) (by simp; omega)
        have hrep : headL l ++ l ++ List.replicate z (0 : UInt8) ++ [0] = headL l ++ l ++ List.replicate (z + 1) 0 := by rw [List.append_assoc, ← List.replicate_succ']
        rw [hrep] at s3
        have RLo := rows_lt hSo2.rl (Nat.le_refl _)
        rw [add_size] at RLo
        have RLo1 := rows_lt hSo.rl (Nat.le_refl _)
        simp (maxSteps := 2000000) (disch := first | omega | assumption | (simp only [add_size, upd_size, mem0_size, List.length_cons, List.length_nil, wf_add, wf_upd, wf_mem0, lo_wf, bk_wf, lo_size, bk_size, List.all_cons, List.all_nil, one_sc_int, one_sc_bool, one_sc_string, one_sc_slice, one_sc_ptr, one_ptr, one_sl, one_pv, one_cp, one_fn, Bool.and_true, Nat.reduceAdd, *]; done) | (simp only [add_size, upd_size, mem0_size, lo_size, bk_size, List.length_cons, List.length_nil]; omega)) only [RUN, footA, feetIn, resultsA, tupOf, frzL, slot, lay, icyL, fillA, repCells, kR, reduceIte, Nat.reduceEqDiff, Nat.reduceBEq, Nat.reduceLT, Nat.reduceAdd, Nat.reduceLeDiff, Nat.reduceSub, Nat.reduceMul, Int.reduceLT, Int.reduceLE, Int.reduceEq, Int.reduceAdd, Int.reduceSub, Int.reduceMul, decide_true, decide_false, Int.lt_irrefl, Nat.beq_eq, Option.map_some, Option.map_none, List.contains_cons, List.contains_nil, Bool.or_true, Bool.true_or, Bool.or_false, Bool.false_or, Bool.not_true, Bool.not_false, Bool.and_self, List.elem_nil, List.all_nil, List.all_cons, Bool.and_true, Bool.true_and, true_and, and_true, List.map_cons, List.map_nil, List.nil_append, List.cons_append, List.append_nil, Nat.zero_add, Nat.add_zero, List.drop_succ_cons, List.drop_zero, List.take_succ_cons, List.take_zero, List.getElem?_cons_zero, List.getElem?_cons_succ, List.length_cons, List.length_nil, t0, t3, hlen, lo, ra, hlo, w1, hc, e3, RLo, RLo1]
        exact ⟨hl', Z - (z + 1), by omega, z + 1, o', by omega, rfl, wf3, s3, rfl⟩
      · have hc : decide ((((headL l).length + l.length + z : Nat) : Int) < ((classM l.length - 3 : Nat) : Int)) = false := decide_eq_false (by omega)
        obtain rfl : z = Z := by omega
        have hbare : headL l ++ l ++ List.replicate z 0 = bareL l := by unfold bareL; rw [hZ]
        rw [hbare] at hSo
        have hbl2 := bareL_length l h2
        have hso := rsumOf_run (fuel := fuel) (d := d + 1) (.inr hSo) (by omega) (by omega) (by omega)
        obtain ⟨r, hr, hsb⟩ := rsumB_run (fuel := fuel) (d := d + 1) (sumOf (bareL l)) (sumOf_lt _)
        have rr : rowsOf r = [] := hr.rows mem0
        obtain ⟨rows', p1, p2, p3, p4⟩ := hr.open
        obtain ⟨a5, M5, e5, s5, wf5, _⟩ := hSo.appO wfN (p1 _) p2 p3 p4 (cel_U8.all p3) (by omega) (bytes := 1) (by simp [sumB]; omega) (by simp [sumB]; omega)
        obtain ⟨r6, hf6, hr6⟩ := s5.frz cel_U8 (k := 12) (by omega)
        have RLo1 := rows_lt hSo.rl (Nat.le_refl _)
        simp (maxSteps := 2000000) (disch := first | omega | assumption | (simp only [add_size, upd_size, mem0_size, List.length_cons, List.length_nil, wf_add, wf_upd, wf_mem0, lo_wf, bk_wf, lo_size, bk_size, List.all_cons, List.all_nil, one_sc_int, one_sc_bool, one_sc_string, one_sc_slice, one_sc_ptr, one_ptr, one_sl, one_pv, one_cp, one_fn, Bool.and_true, Nat.reduceAdd, *]; done) | (simp only [add_size, upd_size, mem0_size, lo_size, bk_size, List.length_cons, List.length_nil]; omega)) only [RUN, footA, feetIn, resultsA, tupOf, frzL, slot, lay, icyL, fillA, repCells, kR, reduceIte, Nat.reduceEqDiff, Nat.reduceBEq, Nat.reduceLT, Nat.reduceAdd, Nat.reduceLeDiff, Nat.reduceSub, Nat.reduceMul, Int.reduceLT, Int.reduceLE, Int.reduceEq, Int.reduceAdd, Int.reduceSub, Int.reduceMul, decide_true, decide_false, Int.lt_irrefl, Nat.beq_eq, Option.map_some, Option.map_none, List.contains_cons, List.contains_nil, Bool.or_true, Bool.true_or, Bool.or_false, Bool.false_or, Bool.not_true, Bool.not_false, Bool.and_self, List.elem_nil, List.all_nil, List.all_cons, Bool.and_true, Bool.true_and, true_and, and_true, List.map_cons, List.map_nil, List.nil_append, List.cons_append, List.append_nil, Nat.zero_add, Nat.add_zero, List.drop_succ_cons, List.drop_zero, List.take_succ_cons, List.take_zero, List.getElem?_cons_zero, List.getElem?_cons_succ, List.length_cons, List.length_nil, t0, t3, hlen, lo, ra, rr, hlo, w1, hc, hso, hsb, e5, RLo1, hf6]
        exact hr6
  obtain ⟨r, N, hk, hr⟩ := key
  exact ⟨r, hr, fun M => call_own tf35 rfl hk (ic mem0) (ic M)⟩
end Go.Proofs.Ytbemomagabjbnaa
