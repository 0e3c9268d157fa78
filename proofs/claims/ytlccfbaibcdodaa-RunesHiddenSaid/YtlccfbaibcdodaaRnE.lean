/-
  The statement RunesHidden: the run.
-/
import Derived.Test.YtlccfbaibcdodaaRnD
set_option linter.unusedSimpArgs false
set_option linter.unusedVariables false
set_option maxRecDepth 100000
namespace Go.Proofs.Ytlccfbaibcdodaa
open Go Go.Ax
variable {M : Mem} {Q : AV → Mem → Prop}

theorem celI_I32 : CelI isI32 := fun r x h y hy M k hk => by
  obtain ⟨rfl, _⟩ := h
  simp at hy; subst hy
  exact icy_sc _ hk
theorem chk_zero {l : List Int} (h : chk l = 0) : l.length ≤ 64 ∧ ∀ x ∈ l, okR x = true := by
  unfold chk at h
  split at h
  · omega
  · split at h
    · rename_i h2; exact ⟨by omega, fun x hx => List.all_eq_true.1 h2 x hx⟩
    · omega
theorem chk_hid {l : List Int} {w : List Bool} (h : chk l = 0) : chk (hid l w) = 0 := by
  obtain ⟨h1, h2⟩ := chk_zero h
  have : (hid l w).all okR = true := by
    rw [List.all_eq_true]
    intro x hx
    obtain ⟨j, hj, rfl⟩ := List.getElem_of_mem hx
    have := hidTo_get l.length l w j
    rw [show hidTo l.length l w = hid l w from rfl, List.getElem?_eq_getElem hj] at this
    have hjl : j < l.length := by simpa [hid, hidTo_len] using hj
    rw [List.getElem?_eq_getElem hjl] at this
    simp only [Option.map_some, Option.some.injEq] at this
    rw [this]
    split
    · rfl
    · exact h2 _ (List.getElem_mem hjl)
  unfold chk
  rw [if_neg (by rw [show (hid l w).length = l.length from hidTo_len ..]; omega), if_pos this]
/-- A row with other numbers where it is hidden. -/
def oth (k : Nat) (l : List Int) (w : List Bool) (o : List Int) : List Int := l.mapIdx fun j x => if j < k ∧ w[j]? = some true then o[j]?.getD 0 else x
theorem oth_len (k : Nat) (l : List Int) (w : List Bool) (o : List Int) : (oth k l w o).length = l.length := by simp [oth]
theorem oth_get (k : Nat) (l : List Int) (w : List Bool) (o : List Int) (j : Nat) : (oth k l w o)[j]? = (l[j]?).map fun x => if j < k ∧ w[j]? = some true then o[j]?.getD 0 else x := by simp [oth]
theorem hid_oth (l : List Int) (w : List Bool) (o : List Int) : hid (oth l.length l w o) w = hid l w := by
  unfold hid
  apply List.ext_getElem?
  intro j
  rw [hidTo_get, hidTo_get, oth_get, oth_len]
  cases hx : l[j]? with
  | none => rfl
  | some x =>
    simp only [Option.map_some, Option.some.injEq]
    by_cases hc : j < l.length ∧ w[j]? = some true
    · simp [hc]
    · simp [hc]

set_option maxHeartbeats 8000000 in
theorem law_run {a aw ao : AV} {l o : List Int} {w : List Bool} (hS : Sl 1 isI32 a l) (hW : Sl 1 isBool aw w) (hO : Sl 1 isI32 ao o) :
    callN Try.prog (fsT tbl) 100000 21 (.fn 3) [a, aw, ao] mem0 = some (BL true, mem0) := by
  have hck := check_run (fuel := 100000) (d := 15) hS (by omega)
  have hla := hS.len
  have hlw := hW.len
  have hlo := hO.len
  apply w3_eq
  refine call_gc tf3 rfl (by simp (maxSteps := 2000000) (disch := first | omega | assumption | (simp only [add_size, upd_size, mem0_size, List.length_cons, List.length_nil, wf_add, wf_upd, wf_mem0, lo_wf, bk_wf, lo_size, bk_size, List.all_cons, List.all_nil, one_sc_int, one_sc_bool, one_sc_string, one_sc_slice, one_sc_ptr, one_ptr, one_sl, one_pv, one_cp, one_fn, Bool.and_true, Nat.reduceAdd, *]; done) | (simp only [add_size, upd_size, mem0_size, lo_size, bk_size, List.length_cons, List.length_nil]; omega)) only [RUN, footA, feetIn, resultsA, tupOf, frzL, slot, lay, icyL, fillA, repCells, kR, reduceIte, Nat.reduceEqDiff, Nat.reduceBEq, Nat.reduceLT, Nat.reduceAdd, Nat.reduceLeDiff, Nat.reduceSub, Nat.reduceMul, Int.reduceLT, Int.reduceLE, Int.reduceEq, Int.reduceAdd, Int.reduceSub, Int.reduceMul, decide_true, decide_false, Int.lt_irrefl, Nat.beq_eq, Option.map_some, Option.map_none, List.contains_cons, List.contains_nil, Bool.or_true, Bool.true_or, Bool.or_false, Bool.false_or, Bool.not_true, Bool.not_false, Bool.and_self, List.elem_nil, List.all_nil, List.all_cons, Bool.and_true, Bool.true_and, true_and, and_true, List.map_cons, List.map_nil, List.nil_append, List.cons_append, List.append_nil, Nat.zero_add, Nat.add_zero, List.drop_succ_cons, List.drop_zero, List.take_succ_cons, List.take_zero, List.getElem?_cons_zero, List.getElem?_cons_succ, List.length_cons, List.length_nil, hS.icy, hW.icy, hO.icy]) (by simp [a3]) fun b ht hx => ?_
  have h0 := hx 0 _ rfl
  have h1 := hx 1 _ rfl
  have h2 := hx 2 _ rfl
  clear hx
  simp only [a3, c3] at ht ⊢
  by_cases g1 : 2000 < l.length
  · have q1 : decide ((2000 : Int) < l.length) = true := by simp; omega
    simp (maxSteps := 2000000) (disch := first | omega | assumption | (simp only [add_size, upd_size, mem0_size, List.length_cons, List.length_nil, wf_add, wf_upd, wf_mem0, lo_wf, bk_wf, lo_size, bk_size, List.all_cons, List.all_nil, one_sc_int, one_sc_bool, one_sc_string, one_sc_slice, one_sc_ptr, one_ptr, one_sl, one_pv, one_cp, one_fn, Bool.and_true, Nat.reduceAdd, *]; done) | (simp only [add_size, upd_size, mem0_size, lo_size, bk_size, List.length_cons, List.length_nil]; omega)) only [RUN, footA, feetIn, resultsA, tupOf, frzL, slot, lay, icyL, fillA, repCells, kR, reduceIte, Nat.reduceEqDiff, Nat.reduceBEq, Nat.reduceLT, Nat.reduceAdd, Nat.reduceLeDiff, Nat.reduceSub, Nat.reduceMul, Int.reduceLT, Int.reduceLE, Int.reduceEq, Int.reduceAdd, Int.reduceSub, Int.reduceMul, decide_true, decide_false, Int.lt_irrefl, Nat.beq_eq, Option.map_some, Option.map_none, List.contains_cons, List.contains_nil, Bool.or_true, Bool.true_or, Bool.or_false, Bool.false_or, Bool.not_true, Bool.not_false, Bool.and_self, List.elem_nil, List.all_nil, List.all_cons, Bool.and_true, Bool.true_and, true_and, and_true, List.map_cons, List.map_nil, List.nil_append, List.cons_append, List.append_nil, Nat.zero_add, Nat.add_zero, List.drop_succ_cons, List.drop_zero, List.take_succ_cons, List.take_zero, List.getElem?_cons_zero, List.getElem?_cons_succ, List.length_cons, List.length_nil, h0, h1, h2, hla, hlw, hlo, alive_run, q1]
  have q1 : decide ((2000 : Int) < l.length) = false := by simp; omega
  by_cases g2 : 2000 < w.length
  · have q2 : decide ((2000 : Int) < w.length) = true := by simp; omega
    simp (maxSteps := 2000000) (disch := first | omega | assumption | (simp only [add_size, upd_size, mem0_size, List.length_cons, List.length_nil, wf_add, wf_upd, wf_mem0, lo_wf, bk_wf, lo_size, bk_size, List.all_cons, List.all_nil, one_sc_int, one_sc_bool, one_sc_string, one_sc_slice, one_sc_ptr, one_ptr, one_sl, one_pv, one_cp, one_fn, Bool.and_true, Nat.reduceAdd, *]; done) | (simp only [add_size, upd_size, mem0_size, lo_size, bk_size, List.length_cons, List.length_nil]; omega)) only [RUN, footA, feetIn, resultsA, tupOf, frzL, slot, lay, icyL, fillA, repCells, kR, reduceIte, Nat.reduceEqDiff, Nat.reduceBEq, Nat.reduceLT, Nat.reduceAdd, Nat.reduceLeDiff, Nat.reduceSub, Nat.reduceMul, Int.reduceLT, Int.reduceLE, Int.reduceEq, Int.reduceAdd, Int.reduceSub, Int.reduceMul, decide_true, decide_false, Int.lt_irrefl, Nat.beq_eq, Option.map_some, Option.map_none, List.contains_cons, List.contains_nil, Bool.or_true, Bool.true_or, Bool.or_false, Bool.false_or, Bool.not_true, Bool.not_false, Bool.and_self, List.elem_nil, List.all_nil, List.all_cons, Bool.and_true, Bool.true_and, true_and, and_true, List.map_cons, List.map_nil, List.nil_append, List.cons_append, List.append_nil, Nat.zero_add, Nat.add_zero, List.drop_succ_cons, List.drop_zero, List.take_succ_cons, List.take_zero, List.getElem?_cons_zero, List.getElem?_cons_succ, List.length_cons, List.length_nil, h0, h1, h2, hla, hlw, hlo, alive_run, q1, q2]
  have q2 : decide ((2000 : Int) < w.length) = false := by simp; omega
  by_cases g3 : o.length < l.length
  · have q3 : decide ((o.length : Int) < l.length) = true := by simp; omega
    simp (maxSteps := 2000000) (disch := first | omega | assumption | (simp only [add_size, upd_size, mem0_size, List.length_cons, List.length_nil, wf_add, wf_upd, wf_mem0, lo_wf, bk_wf, lo_size, bk_size, List.all_cons, List.all_nil, one_sc_int, one_sc_bool, one_sc_string, one_sc_slice, one_sc_ptr, one_ptr, one_sl, one_pv, one_cp, one_fn, Bool.and_true, Nat.reduceAdd, *]; done) | (simp only [add_size, upd_size, mem0_size, lo_size, bk_size, List.length_cons, List.length_nil]; omega)) only [RUN, footA, feetIn, resultsA, tupOf, frzL, slot, lay, icyL, fillA, repCells, kR, reduceIte, Nat.reduceEqDiff, Nat.reduceBEq, Nat.reduceLT, Nat.reduceAdd, Nat.reduceLeDiff, Nat.reduceSub, Nat.reduceMul, Int.reduceLT, Int.reduceLE, Int.reduceEq, Int.reduceAdd, Int.reduceSub, Int.reduceMul, decide_true, decide_false, Int.lt_irrefl, Nat.beq_eq, Option.map_some, Option.map_none, List.contains_cons, List.contains_nil, Bool.or_true, Bool.true_or, Bool.or_false, Bool.false_or, Bool.not_true, Bool.not_false, Bool.and_self, List.elem_nil, List.all_nil, List.all_cons, Bool.and_true, Bool.true_and, true_and, and_true, List.map_cons, List.map_nil, List.nil_append, List.cons_append, List.append_nil, Nat.zero_add, Nat.add_zero, List.drop_succ_cons, List.drop_zero, List.take_succ_cons, List.take_zero, List.getElem?_cons_zero, List.getElem?_cons_succ, List.length_cons, List.length_nil, h0, h1, h2, hla, hlw, hlo, alive_run, q1, q2, q3]
  have q3 : decide ((o.length : Int) < l.length) = false := by simp; omega
  by_cases g4 : chk l = 0
  rotate_left
  · have q4 : decide (chk l = 0) = false := by simp [g4]
    simp (maxSteps := 2000000) (disch := first | omega | assumption | (simp only [add_size, upd_size, mem0_size, List.length_cons, List.length_nil, wf_add, wf_upd, wf_mem0, lo_wf, bk_wf, lo_size, bk_size, List.all_cons, List.all_nil, one_sc_int, one_sc_bool, one_sc_string, one_sc_slice, one_sc_ptr, one_ptr, one_sl, one_pv, one_cp, one_fn, Bool.and_true, Nat.reduceAdd, *]; done) | (simp only [add_size, upd_size, mem0_size, lo_size, bk_size, List.length_cons, List.length_nil]; omega)) only [RUN, footA, feetIn, resultsA, tupOf, frzL, slot, lay, icyL, fillA, repCells, kR, reduceIte, Nat.reduceEqDiff, Nat.reduceBEq, Nat.reduceLT, Nat.reduceAdd, Nat.reduceLeDiff, Nat.reduceSub, Nat.reduceMul, Int.reduceLT, Int.reduceLE, Int.reduceEq, Int.reduceAdd, Int.reduceSub, Int.reduceMul, decide_true, decide_false, Int.lt_irrefl, Nat.beq_eq, Option.map_some, Option.map_none, List.contains_cons, List.contains_nil, Bool.or_true, Bool.true_or, Bool.or_false, Bool.false_or, Bool.not_true, Bool.not_false, Bool.and_self, List.elem_nil, List.all_nil, List.all_cons, Bool.and_true, Bool.true_and, true_and, and_true, List.map_cons, List.map_nil, List.nil_append, List.cons_append, List.append_nil, Nat.zero_add, Nat.add_zero, List.drop_succ_cons, List.drop_zero, List.take_succ_cons, List.take_zero, List.getElem?_cons_zero, List.getElem?_cons_succ, List.length_cons, List.length_nil, h0, h1, h2, hla, hlw, hlo, alive_run, q1, q2, q3, hck, q4]
  have q4 : decide (chk l = 0) = true := by simp [g4]
  have hhid := hide_run (fuel := 100000) (d := 14) hS hW (by omega)
  rw [if_neg (by omega)] at hhid
  by_cases g5 : w.length = l.length
  rotate_left
  · rw [if_pos g5] at hhid
    have q5 : decide ((w.length : Int) = l.length) = false := by simp; omega
    simp (maxSteps := 2000000) (disch := first | omega | assumption | (simp only [add_size, upd_size, mem0_size, List.length_cons, List.length_nil, wf_add, wf_upd, wf_mem0, lo_wf, bk_wf, lo_size, bk_size, List.all_cons, List.all_nil, one_sc_int, one_sc_bool, one_sc_string, one_sc_slice, one_sc_ptr, one_ptr, one_sl, one_pv, one_cp, one_fn, Bool.and_true, Nat.reduceAdd, *]; done) | (simp only [add_size, upd_size, mem0_size, lo_size, bk_size, List.length_cons, List.length_nil]; omega)) only [RUN, footA, feetIn, resultsA, tupOf, frzL, slot, lay, icyL, fillA, repCells, kR, reduceIte, Nat.reduceEqDiff, Nat.reduceBEq, Nat.reduceLT, Nat.reduceAdd, Nat.reduceLeDiff, Nat.reduceSub, Nat.reduceMul, Int.reduceLT, Int.reduceLE, Int.reduceEq, Int.reduceAdd, Int.reduceSub, Int.reduceMul, decide_true, decide_false, Int.lt_irrefl, Nat.beq_eq, Option.map_some, Option.map_none, List.contains_cons, List.contains_nil, Bool.or_true, Bool.true_or, Bool.or_false, Bool.false_or, Bool.not_true, Bool.not_false, Bool.and_self, List.elem_nil, List.all_nil, List.all_cons, Bool.and_true, Bool.true_and, true_and, and_true, List.map_cons, List.map_nil, List.nil_append, List.cons_append, List.append_nil, Nat.zero_add, Nat.add_zero, List.drop_succ_cons, List.drop_zero, List.take_succ_cons, List.take_zero, List.getElem?_cons_zero, List.getElem?_cons_succ, List.length_cons, List.length_nil, h0, h1, h2, hla, hlw, hlo, alive_run, q1, q2, q3, hck, q4, hhid, q5]
  rw [if_neg (by omega)] at hhid
  obtain ⟨x, hX, hhid⟩ := hhid
  have hlx := hX.len
  obtain ⟨hl64, hok⟩ := chk_zero g4
  -- the copy
  obtain ⟨rows, hcl, hll, hA, hrr⟩ := hS.open
  obtain ⟨m, M1, hap, hSm, wf1, s1, s1', kp1, rm, _⟩ := (SlM.nil (M := mem0) (st := 1) (T := isI32)).appO Wf.mem0 (y := a) (l' := l) (new := rows) (bytes := 4) (hcl _) hll hA hrr (cel_I32.all hA) (by omega) (by simp; omega) (by simp; omega)
  simp only [List.nil_append] at hSm
  have hXr := hX.rows mem0
  simp (maxSteps := 2000000) (disch := first | omega | assumption | (simp only [add_size, upd_size, mem0_size, List.length_cons, List.length_nil, wf_add, wf_upd, wf_mem0, lo_wf, bk_wf, lo_size, bk_size, List.all_cons, List.all_nil, one_sc_int, one_sc_bool, one_sc_string, one_sc_slice, one_sc_ptr, one_ptr, one_sl, one_pv, one_cp, one_fn, Bool.and_true, Nat.reduceAdd, *]; done) | (simp only [add_size, upd_size, mem0_size, lo_size, bk_size, List.length_cons, List.length_nil]; omega)) only [RUN, footA, feetIn, resultsA, tupOf, frzL, slot, lay, icyL, fillA, repCells, kR, reduceIte, Nat.reduceEqDiff, Nat.reduceBEq, Nat.reduceLT, Nat.reduceAdd, Nat.reduceLeDiff, Nat.reduceSub, Nat.reduceMul, Int.reduceLT, Int.reduceLE, Int.reduceEq, Int.reduceAdd, Int.reduceSub, Int.reduceMul, decide_true, decide_false, Int.lt_irrefl, Nat.beq_eq, Option.map_some, Option.map_none, List.contains_cons, List.contains_nil, Bool.or_true, Bool.true_or, Bool.or_false, Bool.false_or, Bool.not_true, Bool.not_false, Bool.and_self, List.elem_nil, List.all_nil, List.all_cons, Bool.and_true, Bool.true_and, true_and, and_true, List.map_cons, List.map_nil, List.nil_append, List.cons_append, List.append_nil, Nat.zero_add, Nat.add_zero, List.drop_succ_cons, List.drop_zero, List.take_succ_cons, List.take_zero, List.getElem?_cons_zero, List.getElem?_cons_succ, List.length_cons, List.length_nil, h0, h1, h2, hla, hlw, hlo, alive_run, q1, q2, q3, hck, q4, hhid, hS.rows mem0, hap]
  refine w_loop (I := fun n t N => ∃ i : Nat, i ≤ l.length ∧ n = l.length - i ∧ nth undefA t 0 = a ∧ nth undefA t 1 = aw ∧ nth undefA t 2 = ao ∧ nth undefA t 7 = BL true ∧ nth undefA t 8 = x ∧ nth undefA t 9 = I64 0 ∧ nth undefA t 10 = m ∧ nth undefA t 11 = I64 i ∧ Wf N ∧ SlM N 1 isI32 m (oth i l w o)) (n := l.length) (by omega) ?_ ?_
  · refine ⟨0, by omega, by omega, ?_, ?_, ?_, ?_, ?_, ?_, ?_, ?_, wf1, ?_⟩
    rotate_right
    · rw [show oth 0 l w o = l from List.ext_getElem? fun j => by rw [oth_get]; simp]; exact hSm
    all_goals try simp (maxSteps := 2000000) (disch := first | omega | assumption | (simp only [add_size, upd_size, mem0_size, List.length_cons, List.length_nil, wf_add, wf_upd, wf_mem0, lo_wf, bk_wf, lo_size, bk_size, List.all_cons, List.all_nil, one_sc_int, one_sc_bool, one_sc_string, one_sc_slice, one_sc_ptr, one_ptr, one_sl, one_pv, one_cp, one_fn, Bool.and_true, Nat.reduceAdd, *]; done) | (simp only [add_size, upd_size, mem0_size, lo_size, bk_size, List.length_cons, List.length_nil]; omega)) only [RUN, footA, feetIn, resultsA, tupOf, frzL, slot, lay, icyL, fillA, repCells, kR, reduceIte, Nat.reduceEqDiff, Nat.reduceBEq, Nat.reduceLT, Nat.reduceAdd, Nat.reduceLeDiff, Nat.reduceSub, Nat.reduceMul, Int.reduceLT, Int.reduceLE, Int.reduceEq, Int.reduceAdd, Int.reduceSub, Int.reduceMul, decide_true, decide_false, Int.lt_irrefl, Nat.beq_eq, Option.map_some, Option.map_none, List.contains_cons, List.contains_nil, Bool.or_true, Bool.true_or, Bool.or_false, Bool.false_or, Bool.not_true, Bool.not_false, Bool.and_self, List.elem_nil, List.all_nil, List.all_cons, Bool.and_true, Bool.true_and, true_and, and_true, List.map_cons, List.map_nil, List.nil_append, List.cons_append, List.append_nil, Nat.zero_add, Nat.add_zero, List.drop_succ_cons, List.drop_zero, List.take_succ_cons, List.take_zero, List.getElem?_cons_zero, List.getElem?_cons_succ, List.length_cons, List.length_nil, h0, h1, h2]
    all_goals rfl
  · rintro n t N hl' ⟨i, hi, hn, t0, t1, t2, t7, t8, t9, t10, t11, wfN, hN⟩
    simp only [ht] at hl' ⊢
    clear h0 h1 h2 ht b hSm hap
    by_cases hlt : i < l.length
    · have hc : decide ((i : Int) < l.length) = true := by simp; omega
      have w1 : IntKind.i64.wrap ((i : Int) + 1) = ((i + 1 : Nat) : Int) := by rw [wrap_i64] <;> omega
      have hwt : i < w.length := by omega
      have hot : i < o.length := by omega
      have hxt : i < (hid l w).length := by rw [show (hid l w).length = l.length from hidTo_len ..]; omega
      obtain ⟨rl, hrl, ⟨rfl, _⟩, _⟩ := hS.iad i hlt
      obtain ⟨rw', hrw, rfl, _⟩ := hW.iad i hwt
      obtain ⟨ro, hro, ⟨rfl, o1, o2⟩, _⟩ := hO.iad i hot
      obtain ⟨rx, hrx, ⟨rfl, _⟩, _⟩ := hX.iad i hxt
      have hwi : w[i]? = some w[i] := by simp [hwt]
      have hxi : (hid l w)[i] = if w[i] = true then -1 else l[i] := by
        have := hidTo_get l.length l w i
        rw [show hidTo l.length l w = hid l w from rfl, List.getElem?_eq_getElem hxt, List.getElem?_eq_getElem hlt, hwi] at this
        simp only [Option.map_some, Option.some.injEq] at this
        rw [this]; simp [hlt]
      cases hb : w[i]
      · rw [hb] at hxi
        simp only [Bool.false_eq_true, if_false] at hxi
        have z2 : decide (l[i] = l[i]) = true := by simp
        have hst : SlM N 1 isI32 m (oth (i + 1) l w o) := by
          rw [show oth (i + 1) l w o = oth i l w o from List.ext_getElem? fun j => by
            rw [oth_get, oth_get]
            by_cases e : j = i
            · subst e; simp [hwi, hb]
            · simp [show j < i + 1 ↔ j < i by omega]]
          exact hN
        cases hz : decide (l[i] = -1)
        all_goals
          simp (maxSteps := 2000000) (disch := first | omega | assumption | (simp only [add_size, upd_size, mem0_size, List.length_cons, List.length_nil, wf_add, wf_upd, wf_mem0, lo_wf, bk_wf, lo_size, bk_size, List.all_cons, List.all_nil, one_sc_int, one_sc_bool, one_sc_string, one_sc_slice, one_sc_ptr, one_ptr, one_sl, one_pv, one_cp, one_fn, Bool.and_true, Nat.reduceAdd, *]; done) | (simp only [add_size, upd_size, mem0_size, lo_size, bk_size, List.length_cons, List.length_nil]; omega)) only [RUN, footA, feetIn, resultsA, tupOf, frzL, slot, lay, icyL, fillA, repCells, kR, reduceIte, Nat.reduceEqDiff, Nat.reduceBEq, Nat.reduceLT, Nat.reduceAdd, Nat.reduceLeDiff, Nat.reduceSub, Nat.reduceMul, Int.reduceLT, Int.reduceLE, Int.reduceEq, Int.reduceAdd, Int.reduceSub, Int.reduceMul, decide_true, decide_false, Int.lt_irrefl, Nat.beq_eq, Option.map_some, Option.map_none, List.contains_cons, List.contains_nil, Bool.or_true, Bool.true_or, Bool.or_false, Bool.false_or, Bool.not_true, Bool.not_false, Bool.and_self, List.elem_nil, List.all_nil, List.all_cons, Bool.and_true, Bool.true_and, true_and, and_true, List.map_cons, List.map_nil, List.nil_append, List.cons_append, List.append_nil, Nat.zero_add, Nat.add_zero, List.drop_succ_cons, List.drop_zero, List.take_succ_cons, List.take_zero, List.getElem?_cons_zero, List.getElem?_cons_succ, List.length_cons, List.length_nil, t0, t1, t2, t7, t8, t9, t10, t11, hla, hc, hrl, hrw, hro, hrx, hb, hxi, hz, w1, z2, vbNeq Try.underlying4, Bool.false_beq, Bool.true_beq, Bool.not_not]
          exact ⟨hl', l.length - (i + 1), by omega, i + 1, by omega, rfl, rfl, wfN, hst⟩
      · rw [hb] at hxi
        simp only [if_true] at hxi
        rcases hN with ⟨rfl, hn0⟩ | ⟨id, rows', cap, rfl, hcap, hg, hA', hrr'⟩
        · have := congrArg List.length hn0
          rw [oth_len, List.length_nil] at this; omega
        · have hrl' := hA'.length_eq
          rw [oth_len] at hrl'
          have lid := Mem.get_lt hg
          have hfl := flat_len hrr'
          have hir : i < rows'.length := by omega
          have hgi : rows'[i]? = some rows'[i] := by simp [hir]
          have hlay := flat_lay (st := 1) (off := 0) (new := [I32 o[i]]) hrr' hgi (by simp)
          have hri : rows'[i].length = 1 := hrr' _ (List.getElem_mem hir)
          have hst : SlM (N.upd id (.row false (lay rows'.flatten (i * 1) [I32 o[i]]))) 1 isI32 (.sl id 0 rows'.length cap 1) (oth (i + 1) l w o) := by
            refine .inr ⟨id, rows'.set i [I32 o[i]], cap, by simp, by simpa using hcap, ?_, ?_, ?_⟩
            · rw [get_upd_eq wfN _ _ lid]
              obtain ⟨y, hy⟩ : ∃ y, rows'[i] = [y] := by
                match hm : rows'[i], hri with
                | [y], _ => exact ⟨y, rfl⟩
              rw [hy] at hlay
              simp only [Nat.add_zero] at hlay
              rw [hlay]
              simp [lay]
            · refine all2_mk (by simp [oth_len, hrl']) fun j y z hy hz => ?_
              rw [oth_get] at hz
              rw [List.getElem?_set] at hy
              by_cases e : i = j
              · subst e
                rw [if_pos rfl, if_pos hir] at hy
                cases hy
                rw [List.getElem?_eq_getElem hlt] at hz
                simp [hwi, hb, List.getElem?_eq_getElem hot] at hz
                subst hz
                exact ⟨rfl, o1, o2⟩
              · rw [if_neg e] at hy
                refine all2_at hA' hy ?_
                rw [oth_get, ← hz]
                congr 1; funext q
                simp [show j < i + 1 ↔ j < i by omega]
            · intro r hr'
              rcases List.mem_or_eq_of_mem_set hr' with h | h
              · exact hrr' r h
              · subst h; rfl
          have hst' := hst
          simp only [lay, Nat.mul_one, List.length_cons, List.length_nil, Nat.zero_add] at hst'
          simp (maxSteps := 2000000) (disch := first | omega | assumption | (simp only [add_size, upd_size, mem0_size, List.length_cons, List.length_nil, wf_add, wf_upd, wf_mem0, lo_wf, bk_wf, lo_size, bk_size, List.all_cons, List.all_nil, one_sc_int, one_sc_bool, one_sc_string, one_sc_slice, one_sc_ptr, one_ptr, one_sl, one_pv, one_cp, one_fn, Bool.and_true, Nat.reduceAdd, *]; done) | (simp only [add_size, upd_size, mem0_size, lo_size, bk_size, List.length_cons, List.length_nil]; omega)) only [RUN, footA, feetIn, resultsA, tupOf, frzL, slot, lay, icyL, fillA, repCells, kR, reduceIte, Nat.reduceEqDiff, Nat.reduceBEq, Nat.reduceLT, Nat.reduceAdd, Nat.reduceLeDiff, Nat.reduceSub, Nat.reduceMul, Int.reduceLT, Int.reduceLE, Int.reduceEq, Int.reduceAdd, Int.reduceSub, Int.reduceMul, decide_true, decide_false, Int.lt_irrefl, Nat.beq_eq, Option.map_some, Option.map_none, List.contains_cons, List.contains_nil, Bool.or_true, Bool.true_or, Bool.or_false, Bool.false_or, Bool.not_true, Bool.not_false, Bool.and_self, List.elem_nil, List.all_nil, List.all_cons, Bool.and_true, Bool.true_and, true_and, and_true, List.map_cons, List.map_nil, List.nil_append, List.cons_append, List.append_nil, Nat.zero_add, Nat.add_zero, List.drop_succ_cons, List.drop_zero, List.take_succ_cons, List.take_zero, List.getElem?_cons_zero, List.getElem?_cons_succ, List.length_cons, List.length_nil, t0, t1, t2, t7, t8, t9, t10, t11, hla, hc, hrl, hrw, hro, hrx, hb, hxi, w1, vbNeq Try.underlying4, Bool.false_beq, Bool.true_beq, Bool.not_not, hir, hg, wfN, hfl]
          exact ⟨hl', l.length - (i + 1), by omega, i + 1, by omega, rfl, rfl, hst⟩
    · have hc : decide ((i : Int) < l.length) = false := by simp; omega
      have hil : i = l.length := by omega
      subst hil
      generalize hmm : oth l.length l w o = mm at hN
      have hml : mm.length = l.length := by rw [← hmm, oth_len]
      have hhm : hid mm w = hid l w := by rw [← hmm, hid_oth]
      obtain ⟨m', N1, hi1, hSm', wf1', sz1, _, hi2⟩ := hN.hand wfN celI_I32 (k := 12) (by omega)
      have icm : icyL (icy 12) N [m] = some ([m'], N1) := by simp only [icyL, hi1]
      have icm' : ∀ M, icyL (icy 12) M [m'] = some ([m'], M) := fun M => by simp (maxSteps := 2000000) (disch := first | omega | assumption | (simp only [add_size, upd_size, mem0_size, List.length_cons, List.length_nil, wf_add, wf_upd, wf_mem0, lo_wf, bk_wf, lo_size, bk_size, List.all_cons, List.all_nil, one_sc_int, one_sc_bool, one_sc_string, one_sc_slice, one_sc_ptr, one_ptr, one_sl, one_pv, one_cp, one_fn, Bool.and_true, Nat.reduceAdd, *]; done) | (simp only [add_size, upd_size, mem0_size, lo_size, bk_size, List.length_cons, List.length_nil]; omega)) only [RUN, footA, feetIn, resultsA, tupOf, frzL, slot, lay, icyL, fillA, repCells, kR, reduceIte, Nat.reduceEqDiff, Nat.reduceBEq, Nat.reduceLT, Nat.reduceAdd, Nat.reduceLeDiff, Nat.reduceSub, Nat.reduceMul, Int.reduceLT, Int.reduceLE, Int.reduceEq, Int.reduceAdd, Int.reduceSub, Int.reduceMul, decide_true, decide_false, Int.lt_irrefl, Nat.beq_eq, Option.map_some, Option.map_none, List.contains_cons, List.contains_nil, Bool.or_true, Bool.true_or, Bool.or_false, Bool.false_or, Bool.not_true, Bool.not_false, Bool.and_self, List.elem_nil, List.all_nil, List.all_cons, Bool.and_true, Bool.true_and, true_and, and_true, List.map_cons, List.map_nil, List.nil_append, List.cons_append, List.append_nil, Nat.zero_add, Nat.add_zero, List.drop_succ_cons, List.drop_zero, List.take_succ_cons, List.take_zero, List.getElem?_cons_zero, List.getElem?_cons_succ, List.length_cons, List.length_nil, hSm'.icy]
      have hcm := call_own tf8 rfl (check_run (fuel := 100000) (d := 15) hSm' (by omega) mem0) (icm' mem0) icm
      by_cases g6 : chk mm = 0
      rotate_left
      · have q6 : decide (chk mm = 0) = false := by simp [g6]
        simp (maxSteps := 2000000) (disch := first | omega | assumption | (simp only [add_size, upd_size, mem0_size, List.length_cons, List.length_nil, wf_add, wf_upd, wf_mem0, lo_wf, bk_wf, lo_size, bk_size, List.all_cons, List.all_nil, one_sc_int, one_sc_bool, one_sc_string, one_sc_slice, one_sc_ptr, one_ptr, one_sl, one_pv, one_cp, one_fn, Bool.and_true, Nat.reduceAdd, *]; done) | (simp only [add_size, upd_size, mem0_size, lo_size, bk_size, List.length_cons, List.length_nil]; omega)) only [RUN, footA, feetIn, resultsA, tupOf, frzL, slot, lay, icyL, fillA, repCells, kR, reduceIte, Nat.reduceEqDiff, Nat.reduceBEq, Nat.reduceLT, Nat.reduceAdd, Nat.reduceLeDiff, Nat.reduceSub, Nat.reduceMul, Int.reduceLT, Int.reduceLE, Int.reduceEq, Int.reduceAdd, Int.reduceSub, Int.reduceMul, decide_true, decide_false, Int.lt_irrefl, Nat.beq_eq, Option.map_some, Option.map_none, List.contains_cons, List.contains_nil, Bool.or_true, Bool.true_or, Bool.or_false, Bool.false_or, Bool.not_true, Bool.not_false, Bool.and_self, List.elem_nil, List.all_nil, List.all_cons, Bool.and_true, Bool.true_and, true_and, and_true, List.map_cons, List.map_nil, List.nil_append, List.cons_append, List.append_nil, Nat.zero_add, Nat.add_zero, List.drop_succ_cons, List.drop_zero, List.take_succ_cons, List.take_zero, List.getElem?_cons_zero, List.getElem?_cons_succ, List.length_cons, List.length_nil, t0, t1, t2, t7, t8, t9, t10, t11, hla, hc, hcm, q6]
      have q6 : decide (chk mm = 0) = true := by simp [g6]
      have hhid2 := hide_run (fuel := 100000) (d := 14) hSm' hW (by omega)
      rw [if_neg (by omega), if_neg (by omega)] at hhid2
      obtain ⟨y, hY, hhid2⟩ := hhid2
      rw [hhm] at hY
      have icw : ∀ M, icyL (icy 12) M [m', aw] = some ([m', aw], M) := fun M => by simp (maxSteps := 2000000) (disch := first | omega | assumption | (simp only [add_size, upd_size, mem0_size, List.length_cons, List.length_nil, wf_add, wf_upd, wf_mem0, lo_wf, bk_wf, lo_size, bk_size, List.all_cons, List.all_nil, one_sc_int, one_sc_bool, one_sc_string, one_sc_slice, one_sc_ptr, one_ptr, one_sl, one_pv, one_cp, one_fn, Bool.and_true, Nat.reduceAdd, *]; done) | (simp only [add_size, upd_size, mem0_size, lo_size, bk_size, List.length_cons, List.length_nil]; omega)) only [RUN, footA, feetIn, resultsA, tupOf, frzL, slot, lay, icyL, fillA, repCells, kR, reduceIte, Nat.reduceEqDiff, Nat.reduceBEq, Nat.reduceLT, Nat.reduceAdd, Nat.reduceLeDiff, Nat.reduceSub, Nat.reduceMul, Int.reduceLT, Int.reduceLE, Int.reduceEq, Int.reduceAdd, Int.reduceSub, Int.reduceMul, decide_true, decide_false, Int.lt_irrefl, Nat.beq_eq, Option.map_some, Option.map_none, List.contains_cons, List.contains_nil, Bool.or_true, Bool.true_or, Bool.or_false, Bool.false_or, Bool.not_true, Bool.not_false, Bool.and_self, List.elem_nil, List.all_nil, List.all_cons, Bool.and_true, Bool.true_and, true_and, and_true, List.map_cons, List.map_nil, List.nil_append, List.cons_append, List.append_nil, Nat.zero_add, Nat.add_zero, List.drop_succ_cons, List.drop_zero, List.take_succ_cons, List.take_zero, List.getElem?_cons_zero, List.getElem?_cons_succ, List.length_cons, List.length_nil, hSm'.icy, hW.icy]
      have icw1 : icyL (icy 12) N1 [m, aw] = some ([m', aw], N1) := by
        have := hi2 N1 (fun _ _ => rfl)
        simp (maxSteps := 2000000) (disch := first | omega | assumption | (simp only [add_size, upd_size, mem0_size, List.length_cons, List.length_nil, wf_add, wf_upd, wf_mem0, lo_wf, bk_wf, lo_size, bk_size, List.all_cons, List.all_nil, one_sc_int, one_sc_bool, one_sc_string, one_sc_slice, one_sc_ptr, one_ptr, one_sl, one_pv, one_cp, one_fn, Bool.and_true, Nat.reduceAdd, *]; done) | (simp only [add_size, upd_size, mem0_size, lo_size, bk_size, List.length_cons, List.length_nil]; omega)) only [RUN, footA, feetIn, resultsA, tupOf, frzL, slot, lay, icyL, fillA, repCells, kR, reduceIte, Nat.reduceEqDiff, Nat.reduceBEq, Nat.reduceLT, Nat.reduceAdd, Nat.reduceLeDiff, Nat.reduceSub, Nat.reduceMul, Int.reduceLT, Int.reduceLE, Int.reduceEq, Int.reduceAdd, Int.reduceSub, Int.reduceMul, decide_true, decide_false, Int.lt_irrefl, Nat.beq_eq, Option.map_some, Option.map_none, List.contains_cons, List.contains_nil, Bool.or_true, Bool.true_or, Bool.or_false, Bool.false_or, Bool.not_true, Bool.not_false, Bool.and_self, List.elem_nil, List.all_nil, List.all_cons, Bool.and_true, Bool.true_and, true_and, and_true, List.map_cons, List.map_nil, List.nil_append, List.cons_append, List.append_nil, Nat.zero_add, Nat.add_zero, List.drop_succ_cons, List.drop_zero, List.take_succ_cons, List.take_zero, List.getElem?_cons_zero, List.getElem?_cons_succ, List.length_cons, List.length_nil, this, hW.icy]
      have hh2 := call_own tf9 rfl (hhid2 mem0) (icw mem0) icw1
      have p1 := put_run (fuel := 100000) (d := 14) hX (by omega)
      have p2 := put_run (fuel := 100000) (d := 14) hY (by omega)
      rw [chk_hid g4, if_neg (by omega)] at p1 p2
      obtain ⟨bx, hbx, p1⟩ := p1
      obtain ⟨by', hby, p2⟩ := p2
      have hxl : (hid l w).length = l.length := hidTo_len ..
      have sm := same_run (fuel := 100000) (d := 19) hX hY (by omega) (by omega)
      simp only [decide_true] at sm
      have z7 : decide (wide (hid l w) = wide (hid l w)) = true := by simp
      simp (maxSteps := 2000000) (disch := first | omega | assumption | (simp only [add_size, upd_size, mem0_size, List.length_cons, List.length_nil, wf_add, wf_upd, wf_mem0, lo_wf, bk_wf, lo_size, bk_size, List.all_cons, List.all_nil, one_sc_int, one_sc_bool, one_sc_string, one_sc_slice, one_sc_ptr, one_ptr, one_sl, one_pv, one_cp, one_fn, Bool.and_true, Nat.reduceAdd, *]; done) | (simp only [add_size, upd_size, mem0_size, lo_size, bk_size, List.length_cons, List.length_nil]; omega)) only [RUN, footA, feetIn, resultsA, tupOf, frzL, slot, lay, icyL, fillA, repCells, kR, reduceIte, Nat.reduceEqDiff, Nat.reduceBEq, Nat.reduceLT, Nat.reduceAdd, Nat.reduceLeDiff, Nat.reduceSub, Nat.reduceMul, Int.reduceLT, Int.reduceLE, Int.reduceEq, Int.reduceAdd, Int.reduceSub, Int.reduceMul, decide_true, decide_false, Int.lt_irrefl, Nat.beq_eq, Option.map_some, Option.map_none, List.contains_cons, List.contains_nil, Bool.or_true, Bool.true_or, Bool.or_false, Bool.false_or, Bool.not_true, Bool.not_false, Bool.and_self, List.elem_nil, List.all_nil, List.all_cons, Bool.and_true, Bool.true_and, true_and, and_true, List.map_cons, List.map_nil, List.nil_append, List.cons_append, List.append_nil, Nat.zero_add, Nat.add_zero, List.drop_succ_cons, List.drop_zero, List.take_succ_cons, List.take_zero, List.getElem?_cons_zero, List.getElem?_cons_succ, List.length_cons, List.length_nil, t0, t1, t2, t7, t8, t9, t10, t11, hla, hc, hcm, q6, hh2, p1, p2, sm, hbx.b2s, hby.b2s, z7, hbx.rows mem0, hby.rows mem0]
end Go.Proofs.Ytlccfbaibcdodaa
