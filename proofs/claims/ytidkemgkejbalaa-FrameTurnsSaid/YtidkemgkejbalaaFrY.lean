/-
  frames: none.
-/
import Derived.Test.YtidkemgkejbalaaFrN0
set_option linter.unusedSimpArgs false
set_option linter.unusedVariables false
set_option maxRecDepth 100000
namespace Go.Proofs.Ytidkemgkejbalaa
open Go Go.Ax
variable {fuel : Nat} {M : Mem} {Q : AV → Mem → Prop} {d : Nat}

theorem call_gc2 {P : Program} {fs : Nat → Option AFunc} {f : Nat} {af : AFunc} (h : fs f = some af) (hg : af.gc = 2) {n : Nat} {args : List AV} {M : Mem} {Q : AV → Mem → Prop} (hz : icyL (icy 12) M args = some (args, M)) (hl : args.length ≤ af.ntmps)
    (hb : ∀ b : List AV, b.length = af.ntmps → (∀ (i : Nat) (x : AV), args[i]? = some x → nth undefA b i = x) → W (execCode P fuel (callN P fs fuel n) none af.body ⟨St b [], []⟩ mem0) (fin af.results (fun r => (∃ v, r = .sc v) ∧ Q r M))) :
    W3 (callN P fs fuel (n + 1) (.fn f) args M) Q := by
  obtain ⟨e, fr, M', he, hq⟩ := hb (args ++ List.replicate (af.ntmps - args.length) undefA) (by simp; omega) (fun i x hx => nth_app hx)
  have he : execCode P fuel (callN P fs fuel n) none af.body ⟨args ++ List.replicate (af.ntmps - args.length) undefA, []⟩ mem0 = some (e, fr, M') := he
  have key : ∀ e, (∀ i, e ≠ .exit i) → fin af.results (fun r => (∃ v, r = .sc v) ∧ Q r M) e fr M' → ∃ M2 vs ws, spend fr.marks M' = some M2 ∧ resultsA fr.t M2 af.results = some vs ∧ frzL (frz M2 0 12) vs = some ws ∧ (∃ v, tupOf ws = .sc v) ∧ Q (tupOf ws) M := by
    intro e hne hq
    unfold fin at hq
    split at hq
    · exact hq.elim
    · split at hq
      · rename_i M2 h2
        split at hq
        · rename_i vs h3
          split at hq
          · rename_i ws h4
            exact ⟨M2, vs, ws, h2, h3, h4, hq⟩
          · exact hq.elim
        · exact hq.elim
      · exact hq.elim
  have hne : ∀ i, e ≠ .exit i := fun i hi => by subst hi; exact hq
  obtain ⟨M2, vs, ws, h2, h3, h4, ⟨v, h5⟩, h6⟩ := key e hne hq
  have hsc : ws.all scA = true := by
    unfold tupOf at h5
    split at h5
    · subst h5; rfl
    · cases h5
  refine ⟨tupOf ws, M, ?_, h6⟩
  simp only [callN, h, hg, hz, he]
  cases e with
  | exit i => exact absurd rfl (hne i)
  | _ => simp only [h2, h3, h4, lendA, hsc]

theorem none_run {a : AV} {l : List UInt8} (hS : Bs a l) (hl : l.length + 3000 < fuel) (hl2 : l.length ≤ 1000000000) (M : Mem) : callN Try.prog (fsT tbl) fuel (d + 6) (.fn 6) [a] M = some (BL (openL l).isNone, M) := by
  have ra : rowsOf a = [] := hS.rows mem0
  obtain ⟨r, hr, ho⟩ := open_run (fuel := fuel) (d := d) hS (by omega) hl2
  have rr : rowsOf r = [] := hr.rows mem0
  have lr := hr.len
  apply w3_eq
  refine call_gc2 tf6 rfl (by simp (maxSteps := 2000000) (disch := first | omega | assumption | (simp only [add_size, upd_size, mem0_size, List.length_cons, List.length_nil, wf_add, wf_upd, wf_mem0, lo_wf, bk_wf, lo_size, bk_size, List.all_cons, List.all_nil, one_sc_int, one_sc_bool, one_sc_string, one_sc_slice, one_sc_ptr, one_ptr, one_sl, one_pv, one_cp, one_fn, Bool.and_true, Nat.reduceAdd, *]; done) | (simp only [add_size, upd_size, mem0_size, lo_size, bk_size, List.length_cons, List.length_nil]; omega)) only [RUN, footA, feetIn, resultsA, tupOf, frzL, slot, lay, icyL, fillA, repCells, kR, reduceIte, Nat.reduceEqDiff, Nat.reduceBEq, Nat.reduceLT, Nat.reduceAdd, Nat.reduceLeDiff, Nat.reduceSub, Nat.reduceMul, Int.reduceLT, Int.reduceLE, Int.reduceEq, Int.reduceAdd, Int.reduceSub, Int.reduceMul, decide_true, decide_false, Int.lt_irrefl, Nat.beq_eq, Option.map_some, Option.map_none, List.contains_cons, List.contains_nil, Bool.or_true, Bool.true_or, Bool.or_false, Bool.false_or, Bool.not_true, Bool.not_false, Bool.and_self, List.elem_nil, List.all_nil, List.all_cons, Bool.and_true, Bool.true_and, true_and, and_true, List.map_cons, List.map_nil, List.nil_append, List.cons_append, List.append_nil, Nat.zero_add, Nat.add_zero, List.drop_succ_cons, List.drop_zero, List.take_succ_cons, List.take_zero, List.getElem?_cons_zero, List.getElem?_cons_succ, List.length_cons, List.length_nil, hS.icy]) (by simp [a6]) fun b ht hx => ?_
  have h0 := hx 0 _ rfl
  clear hx
  simp only [a6, c6] at ht ⊢
  cases hop : openL l with
  | none =>
    have hc : openC l = 80 := by unfold openC; rw [hop]; rfl
    have hb : openB l = [] := by unfold openB; rw [hop]; rfl
    rw [hc] at ho
    rw [hb] at lr
    have q1 : decide ((80 : Int) = 80) = true := rfl
    replace lr : ∀ M, lenO M r = some (I64 0, M) := lr
    have q2 : decide ((0 : Int) = 0) = true := rfl
    simp (maxSteps := 2000000) (disch := first | omega | assumption | (simp only [add_size, upd_size, mem0_size, List.length_cons, List.length_nil, wf_add, wf_upd, wf_mem0, lo_wf, bk_wf, lo_size, bk_size, List.all_cons, List.all_nil, one_sc_int, one_sc_bool, one_sc_string, one_sc_slice, one_sc_ptr, one_ptr, one_sl, one_pv, one_cp, one_fn, Bool.and_true, Nat.reduceAdd, *]; done) | (simp only [add_size, upd_size, mem0_size, lo_size, bk_size, List.length_cons, List.length_nil]; omega)) only [RUN, footA, feetIn, resultsA, tupOf, frzL, slot, lay, icyL, fillA, repCells, kR, reduceIte, Nat.reduceEqDiff, Nat.reduceBEq, Nat.reduceLT, Nat.reduceAdd, Nat.reduceLeDiff, Nat.reduceSub, Nat.reduceMul, Int.reduceLT, Int.reduceLE, Int.reduceEq, Int.reduceAdd, Int.reduceSub, Int.reduceMul, decide_true, decide_false, Int.lt_irrefl, Nat.beq_eq, Option.map_some, Option.map_none, List.contains_cons, List.contains_nil, Bool.or_true, Bool.true_or, Bool.or_false, Bool.false_or, Bool.not_true, Bool.not_false, Bool.and_self, List.elem_nil, List.all_nil, List.all_cons, Bool.and_true, Bool.true_and, true_and, and_true, List.map_cons, List.map_nil, List.nil_append, List.cons_append, List.append_nil, Nat.zero_add, Nat.add_zero, List.drop_succ_cons, List.drop_zero, List.take_succ_cons, List.take_zero, List.getElem?_cons_zero, List.getElem?_cons_succ, List.length_cons, List.length_nil, h0, ho, ra, rr, q1, lr, q2]
    exact ⟨⟨_, rfl⟩, rfl⟩
  | some x =>
    have hc : openC l = 0 := by unfold openC; rw [hop]; rfl
    rw [hc] at ho
    have q1 : decide ((0 : Int) = 80) = false := rfl
    simp (maxSteps := 2000000) (disch := first | omega | assumption | (simp only [add_size, upd_size, mem0_size, List.length_cons, List.length_nil, wf_add, wf_upd, wf_mem0, lo_wf, bk_wf, lo_size, bk_size, List.all_cons, List.all_nil, one_sc_int, one_sc_bool, one_sc_string, one_sc_slice, one_sc_ptr, one_ptr, one_sl, one_pv, one_cp, one_fn, Bool.and_true, Nat.reduceAdd, *]; done) | (simp only [add_size, upd_size, mem0_size, lo_size, bk_size, List.length_cons, List.length_nil]; omega)) only [RUN, footA, feetIn, resultsA, tupOf, frzL, slot, lay, icyL, fillA, repCells, kR, reduceIte, Nat.reduceEqDiff, Nat.reduceBEq, Nat.reduceLT, Nat.reduceAdd, Nat.reduceLeDiff, Nat.reduceSub, Nat.reduceMul, Int.reduceLT, Int.reduceLE, Int.reduceEq, Int.reduceAdd, Int.reduceSub, Int.reduceMul, decide_true, decide_false, Int.lt_irrefl, Nat.beq_eq, Option.map_some, Option.map_none, List.contains_cons, List.contains_nil, Bool.or_true, Bool.true_or, Bool.or_false, Bool.false_or, Bool.not_true, Bool.not_false, Bool.and_self, List.elem_nil, List.all_nil, List.all_cons, Bool.and_true, Bool.true_and, true_and, and_true, List.map_cons, List.map_nil, List.nil_append, List.cons_append, List.append_nil, Nat.zero_add, Nat.add_zero, List.drop_succ_cons, List.drop_zero, List.take_succ_cons, List.take_zero, List.getElem?_cons_zero, List.getElem?_cons_succ, List.length_cons, List.length_nil, h0, ho, ra, rr, q1, lr]
    exact ⟨⟨_, rfl⟩, rfl⟩

end Go.Proofs.Ytidkemgkejbalaa
