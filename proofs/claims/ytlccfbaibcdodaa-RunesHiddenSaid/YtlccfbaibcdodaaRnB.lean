/-
  runes: Hide, Put; the reference's Same.
-/
import Derived.Test.YtlccfbaibcdodaaRnA
set_option linter.unusedSimpArgs false
set_option linter.unusedVariables false
set_option maxRecDepth 100000
namespace Go.Proofs.Ytlccfbaibcdodaa
open Go Go.Ax
variable {fuel : Nat} {M : Mem} {Q : AV → Mem → Prop} {d : Nat}

theorem all2_mk {α β : Type} {T : α → β → Prop} : ∀ {l : List α} {m : List β}, l.length = m.length → (∀ (i : Nat) x y, l[i]? = some x → m[i]? = some y → T x y) → All2 T l m
  | [], [], _, _ => .nil
  | x :: l, y :: m, h, k => .cons (k 0 x y rfl rfl) (all2_mk (by simpa using h) fun i x y a b => k (i + 1) x y (by simpa using a) (by simpa using b))
  | [], _ :: _, h, _ => by simp at h
  | _ :: _, [], h, _ => by simp at h
theorem all2_at {α β : Type} {T : α → β → Prop} {l : List α} {m : List β} (h : All2 T l m) {i : Nat} {x : α} {y : β} (hx : l[i]? = some x) (hy : m[i]? = some y) : T x y := by
  obtain ⟨h1, rfl⟩ := List.getElem?_eq_some_iff.1 hx
  obtain ⟨h2, rfl⟩ := List.getElem?_eq_some_iff.1 hy
  exact h.get h1 h2

/-- What is hidden in the first k places. -/
def hidTo (k : Nat) (l : List Int) (w : List Bool) : List Int := l.mapIdx fun j x => if j < k ∧ w[j]? = some true then -1 else x
theorem hidTo_len (k : Nat) (l : List Int) (w : List Bool) : (hidTo k l w).length = l.length := by simp [hidTo]
theorem hidTo_get (k : Nat) (l : List Int) (w : List Bool) (j : Nat) : (hidTo k l w)[j]? = (l[j]?).map fun x => if j < k ∧ w[j]? = some true then -1 else x := by simp [hidTo]
theorem hidTo_zero (l : List Int) (w : List Bool) : hidTo 0 l w = l := by
  apply List.ext_getElem?; intro j; rw [hidTo_get]; simp
def hid (l : List Int) (w : List Bool) : List Int := hidTo l.length l w

theorem iclone_run {a : AV} {l : List Int} (hS : Sl 1 isI32 a l) (hl : l.length ≤ 100000) (wf : Wf M)
    (k : ∀ a' M', Wf M' → M.size ≤ M'.size → (∀ j, j < M.size → M'.get j = M.get j) → SlM M' 1 isI32 a' l → (∀ id, rowOf a' = some id → M.size ≤ id) → M'.wm = M.wm → M'.dirty = M.dirty → Q a' M') : W3 (callN Try.prog (fsT tbl) fuel (d + 1) (.fn 25) [a] M) Q :=
  clone_0 cel_I32 tf25 Try.underlying22 hS (by omega) (by omega) wf k

set_option maxHeartbeats 4000000 in
theorem hide_run {a aw : AV} {l : List Int} {w : List Bool} (hS : Sl 1 isI32 a l) (hW : Sl 1 isBool aw w) (hf : 1000 < fuel) :
    if chk l ≠ 0 then ∀ M, callN Try.prog (fsT tbl) fuel (d + 6) (.fn 9) [a, aw] M = some (.tup [NIL, I64 (chk l)], M)
    else if w.length ≠ l.length then ∀ M, callN Try.prog (fsT tbl) fuel (d + 6) (.fn 9) [a, aw] M = some (.tup [NIL, I64 2], M)
    else ∃ r, Sl 1 isI32 r (hid l w) ∧ ∀ M, callN Try.prog (fsT tbl) fuel (d + 6) (.fn 9) [a, aw] M = some (.tup [r, I64 0], M) := by
  have hck := check_run (fuel := fuel) (d := d) hS hf
  have hlen := hS.len
  have hwlen := hW.len
  have ic : ∀ M, icyL (icy 12) M [a, aw] = some ([a, aw], M) := fun M => by simp (maxSteps := 2000000) (disch := first | omega | assumption | (simp only [add_size, upd_size, mem0_size, List.length_cons, List.length_nil, wf_add, wf_upd, wf_mem0, lo_wf, bk_wf, lo_size, bk_size, List.all_cons, List.all_nil, one_sc_int, one_sc_bool, one_sc_string, one_sc_slice, one_sc_ptr, one_ptr, one_sl, one_pv, one_cp, one_fn, Bool.and_true, Nat.reduceAdd, *]; done) | (simp only [add_size, upd_size, mem0_size, lo_size, bk_size, List.length_cons, List.length_nil]; omega)) only [RUN, footA, feetIn, resultsA, tupOf, frzL, slot, lay, icyL, fillA, repCells, kR, reduceIte, Nat.reduceEqDiff, Nat.reduceBEq, Nat.reduceLT, Nat.reduceAdd, Nat.reduceLeDiff, Nat.reduceSub, Nat.reduceMul, Int.reduceLT, Int.reduceLE, Int.reduceEq, Int.reduceAdd, Int.reduceSub, Int.reduceMul, decide_true, decide_false, Int.lt_irrefl, Nat.beq_eq, Option.map_some, Option.map_none, List.contains_cons, List.contains_nil, Bool.or_true, Bool.true_or, Bool.or_false, Bool.false_or, Bool.not_true, Bool.not_false, Bool.and_self, List.elem_nil, List.all_nil, List.all_cons, Bool.and_true, Bool.true_and, true_and, and_true, List.map_cons, List.map_nil, List.nil_append, List.cons_append, List.append_nil, Nat.zero_add, Nat.add_zero, List.drop_succ_cons, List.drop_zero, List.take_succ_cons, List.take_zero, List.getElem?_cons_zero, List.getElem?_cons_succ, List.length_cons, List.length_nil, hS.icy, hW.icy]
  split
  · rename_i hc
    intro M
    have q1 : decide (chk l = 0) = false := by simp [hc]
    apply w3_eq
    refine call_gc tf9 rfl (ic M) (by simp [a9]) fun b ht hx => ?_
    have h0 := hx 0 _ rfl
    have h1 := hx 1 _ rfl
    clear hx
    simp only [a9, c9] at ht ⊢
    simp (maxSteps := 2000000) (disch := first | omega | assumption | (simp only [add_size, upd_size, mem0_size, List.length_cons, List.length_nil, wf_add, wf_upd, wf_mem0, lo_wf, bk_wf, lo_size, bk_size, List.all_cons, List.all_nil, one_sc_int, one_sc_bool, one_sc_string, one_sc_slice, one_sc_ptr, one_ptr, one_sl, one_pv, one_cp, one_fn, Bool.and_true, Nat.reduceAdd, *]; done) | (simp only [add_size, upd_size, mem0_size, lo_size, bk_size, List.length_cons, List.length_nil]; omega)) only [RUN, footA, feetIn, resultsA, tupOf, frzL, slot, lay, icyL, fillA, repCells, kR, reduceIte, Nat.reduceEqDiff, Nat.reduceBEq, Nat.reduceLT, Nat.reduceAdd, Nat.reduceLeDiff, Nat.reduceSub, Nat.reduceMul, Int.reduceLT, Int.reduceLE, Int.reduceEq, Int.reduceAdd, Int.reduceSub, Int.reduceMul, decide_true, decide_false, Int.lt_irrefl, Nat.beq_eq, Option.map_some, Option.map_none, List.contains_cons, List.contains_nil, Bool.or_true, Bool.true_or, Bool.or_false, Bool.false_or, Bool.not_true, Bool.not_false, Bool.and_self, List.elem_nil, List.all_nil, List.all_cons, Bool.and_true, Bool.true_and, true_and, and_true, List.map_cons, List.map_nil, List.nil_append, List.cons_append, List.append_nil, Nat.zero_add, Nat.add_zero, List.drop_succ_cons, List.drop_zero, List.take_succ_cons, List.take_zero, List.getElem?_cons_zero, List.getElem?_cons_succ, List.length_cons, List.length_nil, h0, h1, hck, q1]
  rename_i hc
  have hc : chk l = 0 := by omega
  have q1 : decide (chk l = 0) = true := by simp [hc]
  have h64 : l.length ≤ 64 := by unfold chk at hc; split at hc <;> omega
  split
  · rename_i hw
    intro M
    have q2 : decide ((w.length : Int) = l.length) = false := by simp; omega
    apply w3_eq
    refine call_gc tf9 rfl (ic M) (by simp [a9]) fun b ht hx => ?_
    have h0 := hx 0 _ rfl
    have h1 := hx 1 _ rfl
    clear hx
    simp only [a9, c9] at ht ⊢
    simp (maxSteps := 2000000) (disch := first | omega | assumption | (simp only [add_size, upd_size, mem0_size, List.length_cons, List.length_nil, wf_add, wf_upd, wf_mem0, lo_wf, bk_wf, lo_size, bk_size, List.all_cons, List.all_nil, one_sc_int, one_sc_bool, one_sc_string, one_sc_slice, one_sc_ptr, one_ptr, one_sl, one_pv, one_cp, one_fn, Bool.and_true, Nat.reduceAdd, *]; done) | (simp only [add_size, upd_size, mem0_size, lo_size, bk_size, List.length_cons, List.length_nil]; omega)) only [RUN, footA, feetIn, resultsA, tupOf, frzL, slot, lay, icyL, fillA, repCells, kR, reduceIte, Nat.reduceEqDiff, Nat.reduceBEq, Nat.reduceLT, Nat.reduceAdd, Nat.reduceLeDiff, Nat.reduceSub, Nat.reduceMul, Int.reduceLT, Int.reduceLE, Int.reduceEq, Int.reduceAdd, Int.reduceSub, Int.reduceMul, decide_true, decide_false, Int.lt_irrefl, Nat.beq_eq, Option.map_some, Option.map_none, List.contains_cons, List.contains_nil, Bool.or_true, Bool.true_or, Bool.or_false, Bool.false_or, Bool.not_true, Bool.not_false, Bool.and_self, List.elem_nil, List.all_nil, List.all_cons, Bool.and_true, Bool.true_and, true_and, and_true, List.map_cons, List.map_nil, List.nil_append, List.cons_append, List.append_nil, Nat.zero_add, Nat.add_zero, List.drop_succ_cons, List.drop_zero, List.take_succ_cons, List.take_zero, List.getElem?_cons_zero, List.getElem?_cons_succ, List.length_cons, List.length_nil, h0, h1, hck, q1, hlen, hwlen, q2]
  rename_i hw
  have hw : w.length = l.length := by omega
  have q2 : decide ((w.length : Int) = l.length) = true := by simp; omega
  have key : W3 (callN Try.prog (fsT tbl) fuel (d + 6) (.fn 9) [a, aw] mem0) (fun r _ => ∃ r', r = .tup [r', I64 0] ∧ Sl 1 isI32 r' (hid l w)) := by
    refine call_gc tf9 rfl (ic mem0) (by simp [a9]) fun b ht hx => ?_
    have h0 := hx 0 _ rfl
    have h1 := hx 1 _ rfl
    clear hx
    simp only [a9, c9] at ht ⊢
    simp (maxSteps := 2000000) (disch := first | omega | assumption | (simp only [add_size, upd_size, mem0_size, List.length_cons, List.length_nil, wf_add, wf_upd, wf_mem0, lo_wf, bk_wf, lo_size, bk_size, List.all_cons, List.all_nil, one_sc_int, one_sc_bool, one_sc_string, one_sc_slice, one_sc_ptr, one_ptr, one_sl, one_pv, one_cp, one_fn, Bool.and_true, Nat.reduceAdd, *]; done) | (simp only [add_size, upd_size, mem0_size, lo_size, bk_size, List.length_cons, List.length_nil]; omega)) only [RUN, footA, feetIn, resultsA, tupOf, frzL, slot, lay, icyL, fillA, repCells, kR, reduceIte, Nat.reduceEqDiff, Nat.reduceBEq, Nat.reduceLT, Nat.reduceAdd, Nat.reduceLeDiff, Nat.reduceSub, Nat.reduceMul, Int.reduceLT, Int.reduceLE, Int.reduceEq, Int.reduceAdd, Int.reduceSub, Int.reduceMul, decide_true, decide_false, Int.lt_irrefl, Nat.beq_eq, Option.map_some, Option.map_none, List.contains_cons, List.contains_nil, Bool.or_true, Bool.true_or, Bool.or_false, Bool.false_or, Bool.not_true, Bool.not_false, Bool.and_self, List.elem_nil, List.all_nil, List.all_cons, Bool.and_true, Bool.true_and, true_and, and_true, List.map_cons, List.map_nil, List.nil_append, List.cons_append, List.append_nil, Nat.zero_add, Nat.add_zero, List.drop_succ_cons, List.drop_zero, List.take_succ_cons, List.take_zero, List.getElem?_cons_zero, List.getElem?_cons_succ, List.length_cons, List.length_nil, h0, h1, hck, q1, hlen, hwlen, q2]
    refine iclone_run hS (by omega) Wf.mem0 ?_
    rintro o M1 wf1 s1 _ hSM _ _ _
    simp (maxSteps := 2000000) (disch := first | omega | assumption | (simp only [add_size, upd_size, mem0_size, List.length_cons, List.length_nil, wf_add, wf_upd, wf_mem0, lo_wf, bk_wf, lo_size, bk_size, List.all_cons, List.all_nil, one_sc_int, one_sc_bool, one_sc_string, one_sc_slice, one_sc_ptr, one_ptr, one_sl, one_pv, one_cp, one_fn, Bool.and_true, Nat.reduceAdd, *]; done) | (simp only [add_size, upd_size, mem0_size, lo_size, bk_size, List.length_cons, List.length_nil]; omega)) only [RUN, footA, feetIn, resultsA, tupOf, frzL, slot, lay, icyL, fillA, repCells, kR, reduceIte, Nat.reduceEqDiff, Nat.reduceBEq, Nat.reduceLT, Nat.reduceAdd, Nat.reduceLeDiff, Nat.reduceSub, Nat.reduceMul, Int.reduceLT, Int.reduceLE, Int.reduceEq, Int.reduceAdd, Int.reduceSub, Int.reduceMul, decide_true, decide_false, Int.lt_irrefl, Nat.beq_eq, Option.map_some, Option.map_none, List.contains_cons, List.contains_nil, Bool.or_true, Bool.true_or, Bool.or_false, Bool.false_or, Bool.not_true, Bool.not_false, Bool.and_self, List.elem_nil, List.all_nil, List.all_cons, Bool.and_true, Bool.true_and, true_and, and_true, List.map_cons, List.map_nil, List.nil_append, List.cons_append, List.append_nil, Nat.zero_add, Nat.add_zero, List.drop_succ_cons, List.drop_zero, List.take_succ_cons, List.take_zero, List.getElem?_cons_zero, List.getElem?_cons_succ, List.length_cons, List.length_nil, h0, h1, hwlen]
    refine w_loop (I := fun n t N => ∃ i : Nat, i ≤ w.length ∧ n = w.length - i ∧ nth undefA t 7 = o ∧ nth undefA t 22 = aw ∧ nth undefA t 23 = I64 w.length ∧ nth undefA t 24 = I64 i ∧ Wf N ∧ SlM N 1 isI32 o (hidTo i l w)) (n := w.length) (by omega) ?_ ?_
    · refine ⟨0, by omega, by omega, ?_, ?_, ?_, ?_, wf1, by rw [hidTo_zero]; exact hSM⟩
      all_goals simp (maxSteps := 2000000) (disch := first | omega | assumption | (simp only [add_size, upd_size, mem0_size, List.length_cons, List.length_nil, wf_add, wf_upd, wf_mem0, lo_wf, bk_wf, lo_size, bk_size, List.all_cons, List.all_nil, one_sc_int, one_sc_bool, one_sc_string, one_sc_slice, one_sc_ptr, one_ptr, one_sl, one_pv, one_cp, one_fn, Bool.and_true, Nat.reduceAdd, *]; done) | (simp only [add_size, upd_size, mem0_size, lo_size, bk_size, List.length_cons, List.length_nil]; omega)) only [RUN, footA, feetIn, resultsA, tupOf, frzL, slot, lay, icyL, fillA, repCells, kR, reduceIte, Nat.reduceEqDiff, Nat.reduceBEq, Nat.reduceLT, Nat.reduceAdd, Nat.reduceLeDiff, Nat.reduceSub, Nat.reduceMul, Int.reduceLT, Int.reduceLE, Int.reduceEq, Int.reduceAdd, Int.reduceSub, Int.reduceMul, decide_true, decide_false, Int.lt_irrefl, Nat.beq_eq, Option.map_some, Option.map_none, List.contains_cons, List.contains_nil, Bool.or_true, Bool.true_or, Bool.or_false, Bool.false_or, Bool.not_true, Bool.not_false, Bool.and_self, List.elem_nil, List.all_nil, List.all_cons, Bool.and_true, Bool.true_and, true_and, and_true, List.map_cons, List.map_nil, List.nil_append, List.cons_append, List.append_nil, Nat.zero_add, Nat.add_zero, List.drop_succ_cons, List.drop_zero, List.take_succ_cons, List.take_zero, List.getElem?_cons_zero, List.getElem?_cons_succ, List.length_cons, List.length_nil]
      rfl
    · rintro n t N hl' ⟨i, hi, hn, t7, t22, t23, t24, wfN, hN⟩
      simp only [ht] at hl' ⊢
      clear h0 h1 ht b hSM
      by_cases hlt : i < w.length
      · have hc' : decide ((i : Int) < w.length) = true := by simp; omega
        have w1 : IntKind.i64.wrap ((i : Int) + 1) = ((i + 1 : Nat) : Int) := by rw [wrap_i64] <;> omega
        have hll : i < l.length := by omega
        obtain ⟨r, hr, rfl, _⟩ := hW.iad i hlt
        have hwi : w[i]? = some w[i] := by simp [hlt]
        cases hb : w[i]
        · simp (maxSteps := 2000000) (disch := first | omega | assumption | (simp only [add_size, upd_size, mem0_size, List.length_cons, List.length_nil, wf_add, wf_upd, wf_mem0, lo_wf, bk_wf, lo_size, bk_size, List.all_cons, List.all_nil, one_sc_int, one_sc_bool, one_sc_string, one_sc_slice, one_sc_ptr, one_ptr, one_sl, one_pv, one_cp, one_fn, Bool.and_true, Nat.reduceAdd, *]; done) | (simp only [add_size, upd_size, mem0_size, lo_size, bk_size, List.length_cons, List.length_nil]; omega)) only [RUN, footA, feetIn, resultsA, tupOf, frzL, slot, lay, icyL, fillA, repCells, kR, reduceIte, Nat.reduceEqDiff, Nat.reduceBEq, Nat.reduceLT, Nat.reduceAdd, Nat.reduceLeDiff, Nat.reduceSub, Nat.reduceMul, Int.reduceLT, Int.reduceLE, Int.reduceEq, Int.reduceAdd, Int.reduceSub, Int.reduceMul, decide_true, decide_false, Int.lt_irrefl, Nat.beq_eq, Option.map_some, Option.map_none, List.contains_cons, List.contains_nil, Bool.or_true, Bool.true_or, Bool.or_false, Bool.false_or, Bool.not_true, Bool.not_false, Bool.and_self, List.elem_nil, List.all_nil, List.all_cons, Bool.and_true, Bool.true_and, true_and, and_true, List.map_cons, List.map_nil, List.nil_append, List.cons_append, List.append_nil, Nat.zero_add, Nat.add_zero, List.drop_succ_cons, List.drop_zero, List.take_succ_cons, List.take_zero, List.getElem?_cons_zero, List.getElem?_cons_succ, List.length_cons, List.length_nil, t7, t22, t23, t24, hc', hr, hb, w1]
          refine ⟨hl', w.length - (i + 1), by omega, i + 1, by omega, rfl, rfl, wfN, ?_⟩
          rw [show hidTo (i + 1) l w = hidTo i l w from List.ext_getElem? fun j => by
            rw [hidTo_get, hidTo_get]
            by_cases e : j = i
            · subst e; simp [hwi, hb]
            · simp [show j < i + 1 ↔ j < i by omega]]
          exact hN
        · rcases hN with ⟨rfl, hn0⟩ | ⟨id, rows, cap, rfl, hcap, hg, hA, hrr⟩
          · have := congrArg List.length hn0
            rw [hidTo_len, List.length_nil] at this; omega
          · have hrl := hA.length_eq
            rw [hidTo_len] at hrl
            have lid := Mem.get_lt hg
            have hfl := flat_len hrr
            have hir : i < rows.length := by omega
            have hgi : rows[i]? = some rows[i] := by simp [hir]
            have hlay := flat_lay (st := 1) (off := 0) (new := [I32 (-1)]) hrr hgi (by simp)
            have hri : rows[i].length = 1 := hrr _ (List.getElem_mem hir)
            simp (maxSteps := 2000000) (disch := first | omega | assumption | (simp only [add_size, upd_size, mem0_size, List.length_cons, List.length_nil, wf_add, wf_upd, wf_mem0, lo_wf, bk_wf, lo_size, bk_size, List.all_cons, List.all_nil, one_sc_int, one_sc_bool, one_sc_string, one_sc_slice, one_sc_ptr, one_ptr, one_sl, one_pv, one_cp, one_fn, Bool.and_true, Nat.reduceAdd, *]; done) | (simp only [add_size, upd_size, mem0_size, lo_size, bk_size, List.length_cons, List.length_nil]; omega)) only [RUN, footA, feetIn, resultsA, tupOf, frzL, slot, lay, icyL, fillA, repCells, kR, reduceIte, Nat.reduceEqDiff, Nat.reduceBEq, Nat.reduceLT, Nat.reduceAdd, Nat.reduceLeDiff, Nat.reduceSub, Nat.reduceMul, Int.reduceLT, Int.reduceLE, Int.reduceEq, Int.reduceAdd, Int.reduceSub, Int.reduceMul, decide_true, decide_false, Int.lt_irrefl, Nat.beq_eq, Option.map_some, Option.map_none, List.contains_cons, List.contains_nil, Bool.or_true, Bool.true_or, Bool.or_false, Bool.false_or, Bool.not_true, Bool.not_false, Bool.and_self, List.elem_nil, List.all_nil, List.all_cons, Bool.and_true, Bool.true_and, true_and, and_true, List.map_cons, List.map_nil, List.nil_append, List.cons_append, List.append_nil, Nat.zero_add, Nat.add_zero, List.drop_succ_cons, List.drop_zero, List.take_succ_cons, List.take_zero, List.getElem?_cons_zero, List.getElem?_cons_succ, List.length_cons, List.length_nil, t7, t22, t23, t24, hc', hr, hb, w1, hg, wfN, hir, hfl]
            refine ⟨hl', w.length - (i + 1), by omega, i + 1, by omega, rfl, rfl, .inr ⟨id, rows.set i [I32 (-1)], cap, by simp, by simpa using hcap, ?_, ?_, ?_⟩⟩
            · rw [get_upd_eq wfN _ _ lid]
              obtain ⟨x, hx⟩ : ∃ x, rows[i] = [x] := by
                match hm : rows[i], hri with
                | [x], _ => exact ⟨x, rfl⟩
              rw [hx] at hlay
              simp only [lay, Nat.mul_one, Nat.add_zero, List.length_cons, List.length_nil, List.take_zero, List.nil_append, List.drop_succ_cons, List.drop_zero, Nat.zero_add, List.append_nil, List.drop_nil] at hlay ⊢
              rw [hlay]
            · refine all2_mk (by simp [hidTo_len, hrl]) fun j x y hx hy => ?_
              rw [hidTo_get] at hy
              rw [List.getElem?_set] at hx
              by_cases e : i = j
              · subst e
                rw [if_pos rfl, if_pos hir] at hx
                cases hx
                rw [List.getElem?_eq_getElem hll] at hy
                simp [hwi, hb] at hy
                subst hy
                exact ⟨rfl, by omega, by omega⟩
              · rw [if_neg e] at hx
                refine all2_at hA hx ?_
                rw [hidTo_get, ← hy]
                congr 1; funext z
                simp [show j < i + 1 ↔ j < i by omega]
            · intro r hr'
              rcases List.mem_or_eq_of_mem_set hr' with h | h
              · exact hrr r h
              · subst h; rfl
      · have hc' : decide ((i : Int) < w.length) = false := by simp; omega
        have hil : i = l.length := by omega
        subst hil
        obtain ⟨r, hfz, hSr⟩ := hN.frz cel_I32 (k := 12) (by omega)
        simp (maxSteps := 2000000) (disch := first | omega | assumption | (simp only [add_size, upd_size, mem0_size, List.length_cons, List.length_nil, wf_add, wf_upd, wf_mem0, lo_wf, bk_wf, lo_size, bk_size, List.all_cons, List.all_nil, one_sc_int, one_sc_bool, one_sc_string, one_sc_slice, one_sc_ptr, one_ptr, one_sl, one_pv, one_cp, one_fn, Bool.and_true, Nat.reduceAdd, *]; done) | (simp only [add_size, upd_size, mem0_size, lo_size, bk_size, List.length_cons, List.length_nil]; omega)) only [RUN, footA, feetIn, resultsA, tupOf, frzL, slot, lay, icyL, fillA, repCells, kR, reduceIte, Nat.reduceEqDiff, Nat.reduceBEq, Nat.reduceLT, Nat.reduceAdd, Nat.reduceLeDiff, Nat.reduceSub, Nat.reduceMul, Int.reduceLT, Int.reduceLE, Int.reduceEq, Int.reduceAdd, Int.reduceSub, Int.reduceMul, decide_true, decide_false, Int.lt_irrefl, Nat.beq_eq, Option.map_some, Option.map_none, List.contains_cons, List.contains_nil, Bool.or_true, Bool.true_or, Bool.or_false, Bool.false_or, Bool.not_true, Bool.not_false, Bool.and_self, List.elem_nil, List.all_nil, List.all_cons, Bool.and_true, Bool.true_and, true_and, and_true, List.map_cons, List.map_nil, List.nil_append, List.cons_append, List.append_nil, Nat.zero_add, Nat.add_zero, List.drop_succ_cons, List.drop_zero, List.take_succ_cons, List.take_zero, List.getElem?_cons_zero, List.getElem?_cons_succ, List.length_cons, List.length_nil, t7, t22, t23, t24, hc', hfz]
        exact ⟨r, rfl, hSr⟩
  obtain ⟨r, N, hcl, r', rfl, hSr⟩ := key
  exact ⟨r', hSr, fun M => call_own tf9 rfl hcl (ic mem0) (ic M)⟩
end Go.Proofs.Ytlccfbaibcdodaa
