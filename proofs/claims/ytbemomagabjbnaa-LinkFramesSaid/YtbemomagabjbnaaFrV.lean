/-
  The statement LinkFrames: the run.
-/
import Derived.Test.YtbemomagabjbnaaFrU
import Derived.Test.YtbemomagabjbnaaLkD
set_option linter.unusedSimpArgs false
set_option linter.unusedVariables false
set_option maxRecDepth 100000
namespace Go.Proofs.Ytbemomagabjbnaa.linkFrames
open Go Go.Ax

theorem w3_step {r : Option (AV × Mem)} {Q : AV → Mem → Prop} (R : AV → Mem → Prop) (h : ∃ v Y, r = some (v, Y) ∧ R v Y) (k : ∀ v Y, R v Y → Q v Y) : W3 r Q := by
  obtain ⟨v, Y, h1, h2⟩ := h
  exact ⟨v, Y, h1, k _ _ h2⟩
theorem same_self (p : Pk) : p.same p = true := by
  unfold Pk.same
  simp
theorem pk_icy {o : AV} {l : List UInt8} (h : Bs o l) (e s k : Int) (M : Mem) : icyL (icy 11) M [I64 e, I64 s, I64 k, o] = some ([I64 e, I64 s, I64 k, o], M) :=
  icyL_same (by omega) (fun x hx M => by
    simp only [List.mem_cons, List.not_mem_nil, or_false] at hx
    rcases hx with rfl | rfl | rfl | rfl
    · exact icy_sc _ (by omega)
    · exact icy_sc _ (by omega)
    · exact icy_sc _ (by omega)
    · exact h.icy M 11 (by omega)) M
theorem call2 (o po : AV) (p : Pk) (hb : Bs o p.body) (hpb : Bs po p.body) (X : Mem) (wX : Wf X) (sX : X.size = 5) (g3 : X.get 3 = some (.row false [I64 p.ep, I64 p.seq, I64 p.ack, po])) (g4 : X.get 4 = some (.row false [I64 p.ep, I64 p.seq, I64 p.ack, o])) :
    ∃ v Y, callN Try.prog (fsT tbl) 100000 20 (.fn 19) [.sl 3 0 1 (some 1) 4, .sl 4 0 1 (some 1) 4] X = some (v, Y) ∧ v = BL true ∧ Wf Y := by
  have i1 := icy_row (k := 11) (n := 1) (st := 4) (cap := some 1) g3 rfl rfl (pk_icy hpb _ _ _ X) g3 wX (by omega)
  have g4' := g4
  rw [← get_upd_ne wX (.fro [I64 p.ep, I64 p.seq, I64 p.ack, po]) 3 4 (by omega)] at g4'
  have i2 := icy_row (k := 11) (n := 1) (st := 4) (cap := some 1) g4' rfl rfl (pk_icy hb _ _ _ _) g4' (wX.upd _ _) (by rw [upd_size]; omega)
  have i3 : icyL (icy 12) X [.sl 3 0 1 (some 1) 4, .sl 4 0 1 (some 1) 4] = some ([.pv [I64 p.ep, I64 p.seq, I64 p.ack, po] 1 (some 1) 4, .pv [I64 p.ep, I64 p.seq, I64 p.ack, o] 1 (some 1) 4], (X.upd 3 (.fro [I64 p.ep, I64 p.seq, I64 p.ack, po])).upd 4 (.fro [I64 p.ep, I64 p.seq, I64 p.ack, o])) := by
    simp only [icyL, i1, i2]
  have s1 : Sl 4 isPkR (.pv [I64 p.ep, I64 p.seq, I64 p.ack, po] 1 (some 1) 4) [p] := .inr ⟨[[I64 p.ep, I64 p.seq, I64 p.ack, po]], some 1, rfl, .cons ⟨po, rfl, hpb⟩ .nil, by simp⟩
  have s2 : Sl 4 isPkR (.pv [I64 p.ep, I64 p.seq, I64 p.ack, o] 1 (some 1) 4) [p] := .inr ⟨[[I64 p.ep, I64 p.seq, I64 p.ack, o]], some 1, rfl, .cons ⟨o, rfl, hb⟩ .nil, by simp⟩
  have hc := samepk_run (fuel := 100000) (d := 19) s1 s2 (by omega) mem0
  rw [same_self] at hc
  exact ⟨_, _, call_own tf19 rfl hc (M3 := mem0) (by simp only [icyL, s1.icy mem0 12 (by omega), s2.icy mem0 12 (by omega)]) i3, rfl, (wX.upd _ _).upd _ _⟩

set_option maxHeartbeats 16000000 in
theorem law_run (a0 : AV) (p : Pk) (hp : IsPk a0 p) (a1 : AV) (other : List UInt8) (h1 : Bs a1 other) (a2 : AV) (bb : List UInt8) (h2 : Bs a2 bb) :
    callN Try.prog (fsT tbl) 100000 21 (.fn 6) [a0, a1, a2] mem0 = some (BL true, mem0) := by
  have ic0 := hp.icy
  have hp0 := hp
  obtain ⟨o, rfl, hb⟩ := hp
  have ic : ∀ M, icyL (icy 12) M [.agg [I64 p.ep, I64 p.seq, I64 p.ack, o], a1, a2] = some ([.agg [I64 p.ep, I64 p.seq, I64 p.ack, o], a1, a2], M) := fun M => by simp (maxSteps := 2000000) (disch := first | omega | assumption | (simp only [add_size, upd_size, mem0_size, List.length_cons, List.length_nil, wf_add, wf_upd, wf_mem0, lo_wf, bk_wf, lo_size, bk_size, List.all_cons, List.all_nil, one_sc_int, one_sc_bool, one_sc_string, one_sc_slice, one_sc_ptr, one_ptr, one_sl, one_pv, one_cp, one_fn, Bool.and_true, Nat.reduceAdd, *]; done) | (simp only [add_size, upd_size, mem0_size, lo_size, bk_size, List.length_cons, List.length_nil]; omega)) only [RUN, footA, feetIn, resultsA, tupOf, frzL, slot, lay, icyL, fillA, repCells, kR, reduceIte, Nat.reduceEqDiff, Nat.reduceBEq, Nat.reduceLT, Nat.reduceAdd, Nat.reduceLeDiff, Nat.reduceSub, Nat.reduceMul, Int.reduceLT, Int.reduceLE, Int.reduceEq, Int.reduceAdd, Int.reduceSub, Int.reduceMul, decide_true, decide_false, Int.lt_irrefl, Nat.beq_eq, Option.map_some, Option.map_none, List.contains_cons, List.contains_nil, Bool.or_true, Bool.true_or, Bool.or_false, Bool.false_or, Bool.not_true, Bool.not_false, Bool.and_self, List.elem_nil, List.all_nil, List.all_cons, Bool.and_true, Bool.true_and, true_and, and_true, List.map_cons, List.map_nil, List.nil_append, List.cons_append, List.append_nil, Nat.zero_add, Nat.add_zero, List.drop_succ_cons, List.drop_zero, List.take_succ_cons, List.take_zero, List.getElem?_cons_zero, List.getElem?_cons_succ, List.length_cons, List.length_nil, hb.icy, h1.icy, h2.icy]
  have hal := alive_run
  have lp := hb.len
  have l1 := h1.len
  have l2 := h2.len
  have ro := hb.rows mem0
  have r1 : rowsOf a1 = [] := h1.rows mem0
  have r2 : rowsOf a2 = [] := h2.rows mem0
  have o1 := hb.one
  have oc := hb.cells
  apply w3_eq
  refine call_gc tf6 rfl (ic mem0) (by simp [a6]) fun b ht hx => ?_
  have x0 := hx 0 _ rfl
  have x1 := hx 1 _ rfl
  have x2 := hx 2 _ rfl
  clear hx
  simp only [a6, c6] at ht ⊢
  by_cases g1 : 2000 < p.body.length
  · have q1 : decide ((2000 : Int) < p.body.length) = true := decide_eq_true (by omega)
    simp (maxSteps := 2000000) (disch := first | omega | assumption | (simp only [add_size, upd_size, mem0_size, List.length_cons, List.length_nil, wf_add, wf_upd, wf_mem0, lo_wf, bk_wf, lo_size, bk_size, List.all_cons, List.all_nil, one_sc_int, one_sc_bool, one_sc_string, one_sc_slice, one_sc_ptr, one_ptr, one_sl, one_pv, one_cp, one_fn, Bool.and_true, Nat.reduceAdd, *]; done) | (simp only [add_size, upd_size, mem0_size, lo_size, bk_size, List.length_cons, List.length_nil]; omega)) only [RUN, footA, feetIn, resultsA, tupOf, frzL, slot, lay, icyL, fillA, repCells, kR, reduceIte, Nat.reduceEqDiff, Nat.reduceBEq, Nat.reduceLT, Nat.reduceAdd, Nat.reduceLeDiff, Nat.reduceSub, Nat.reduceMul, Int.reduceLT, Int.reduceLE, Int.reduceEq, Int.reduceAdd, Int.reduceSub, Int.reduceMul, decide_true, decide_false, Int.lt_irrefl, Nat.beq_eq, Option.map_some, Option.map_none, List.contains_cons, List.contains_nil, Bool.or_true, Bool.true_or, Bool.or_false, Bool.false_or, Bool.not_true, Bool.not_false, Bool.and_self, List.elem_nil, List.all_nil, List.all_cons, Bool.and_true, Bool.true_and, true_and, and_true, List.map_cons, List.map_nil, List.nil_append, List.cons_append, List.append_nil, Nat.zero_add, Nat.add_zero, List.drop_succ_cons, List.drop_zero, List.take_succ_cons, List.take_zero, List.getElem?_cons_zero, List.getElem?_cons_succ, List.length_cons, List.length_nil, x0, x1, x2, hal, lp, l1, l2, ro, r1, r2, o1, oc, q1]
  have q1 : decide ((2000 : Int) < p.body.length) = false := decide_eq_false (by omega)
  by_cases g2 : other.length < p.body.length
  · have q2 : decide ((other.length : Int) < p.body.length) = true := decide_eq_true (by omega)
    simp (maxSteps := 2000000) (disch := first | omega | assumption | (simp only [add_size, upd_size, mem0_size, List.length_cons, List.length_nil, wf_add, wf_upd, wf_mem0, lo_wf, bk_wf, lo_size, bk_size, List.all_cons, List.all_nil, one_sc_int, one_sc_bool, one_sc_string, one_sc_slice, one_sc_ptr, one_ptr, one_sl, one_pv, one_cp, one_fn, Bool.and_true, Nat.reduceAdd, *]; done) | (simp only [add_size, upd_size, mem0_size, lo_size, bk_size, List.length_cons, List.length_nil]; omega)) only [RUN, footA, feetIn, resultsA, tupOf, frzL, slot, lay, icyL, fillA, repCells, kR, reduceIte, Nat.reduceEqDiff, Nat.reduceBEq, Nat.reduceLT, Nat.reduceAdd, Nat.reduceLeDiff, Nat.reduceSub, Nat.reduceMul, Int.reduceLT, Int.reduceLE, Int.reduceEq, Int.reduceAdd, Int.reduceSub, Int.reduceMul, decide_true, decide_false, Int.lt_irrefl, Nat.beq_eq, Option.map_some, Option.map_none, List.contains_cons, List.contains_nil, Bool.or_true, Bool.true_or, Bool.or_false, Bool.false_or, Bool.not_true, Bool.not_false, Bool.and_self, List.elem_nil, List.all_nil, List.all_cons, Bool.and_true, Bool.true_and, true_and, and_true, List.map_cons, List.map_nil, List.nil_append, List.cons_append, List.append_nil, Nat.zero_add, Nat.add_zero, List.drop_succ_cons, List.drop_zero, List.take_succ_cons, List.take_zero, List.getElem?_cons_zero, List.getElem?_cons_succ, List.length_cons, List.length_nil, x0, x1, x2, hal, lp, l1, l2, ro, r1, r2, o1, oc, q1, q2]
  have q2 : decide ((other.length : Int) < p.body.length) = false := decide_eq_false (by omega)
  by_cases g3 : 2000 < bb.length
  · have q3 : decide ((2000 : Int) < bb.length) = true := decide_eq_true (by omega)
    simp (maxSteps := 2000000) (disch := first | omega | assumption | (simp only [add_size, upd_size, mem0_size, List.length_cons, List.length_nil, wf_add, wf_upd, wf_mem0, lo_wf, bk_wf, lo_size, bk_size, List.all_cons, List.all_nil, one_sc_int, one_sc_bool, one_sc_string, one_sc_slice, one_sc_ptr, one_ptr, one_sl, one_pv, one_cp, one_fn, Bool.and_true, Nat.reduceAdd, *]; done) | (simp only [add_size, upd_size, mem0_size, lo_size, bk_size, List.length_cons, List.length_nil]; omega)) only [RUN, footA, feetIn, resultsA, tupOf, frzL, slot, lay, icyL, fillA, repCells, kR, reduceIte, Nat.reduceEqDiff, Nat.reduceBEq, Nat.reduceLT, Nat.reduceAdd, Nat.reduceLeDiff, Nat.reduceSub, Nat.reduceMul, Int.reduceLT, Int.reduceLE, Int.reduceEq, Int.reduceAdd, Int.reduceSub, Int.reduceMul, decide_true, decide_false, Int.lt_irrefl, Nat.beq_eq, Option.map_some, Option.map_none, List.contains_cons, List.contains_nil, Bool.or_true, Bool.true_or, Bool.or_false, Bool.false_or, Bool.not_true, Bool.not_false, Bool.and_self, List.elem_nil, List.all_nil, List.all_cons, Bool.and_true, Bool.true_and, true_and, and_true, List.map_cons, List.map_nil, List.nil_append, List.cons_append, List.append_nil, Nat.zero_add, Nat.add_zero, List.drop_succ_cons, List.drop_zero, List.take_succ_cons, List.take_zero, List.getElem?_cons_zero, List.getElem?_cons_succ, List.length_cons, List.length_nil, x0, x1, x2, hal, lp, l1, l2, ro, r1, r2, o1, oc, q1, q2, q3]
  have q3 : decide ((2000 : Int) < bb.length) = false := decide_eq_false (by omega)
  have n80 : decide ((80 : Int) = 0) = false := rfl
  have n90 : decide ((90 : Int) = 0) = false := rfl
  have n0 : decide ((0 : Int) = 0) = true := rfl
  have n8 : decide ((8 : Int) = 0) = false := rfl
  obtain ⟨q, hq, hun⟩ := unwrap_run (fuel := 100000) (d := 14) h2 (by omega) (by omega)
  obtain ⟨r, hr, hwr⟩ := wrap_run (fuel := 100000) (d := 15) hp0 (by omega) (by omega)
  have rr : rowsOf r = [] := hr.rows mem0
  have lr := hr.len
  have uo := unwrap_ok bb
  generalize unwrapM bb = ub at *
  obtain ⟨uq, uc⟩ := ub
  simp only at hq hun uo
  obtain ⟨qo, rfl, hqb⟩ := id hq
  have rq : rowsOf qo = [] := hqb.rows mem0
  have oq := hqb.one
  have cq := hqb.cells
  have lq := hqb.len
  cases hm : p.may with
  | false =>
    have hw : p.wrap = ([], 8) := by unfold Pk.wrap; rw [hm]; rfl
    rw [hw] at hr hwr lr
    rcases uo with ⟨rfl, hqm, hqf⟩ | ⟨rfl | rfl, rfl⟩
    · have hqw : uq.wrap = (bb, 0) := by unfold Pk.wrap; rw [hqm, hqf]; rfl
      have hqm' := uq.may_iff.1 hqm
      obtain ⟨r', hr', hwr'⟩ := wrap_run (fuel := 100000) (d := 15) hq (by omega) (by omega)
      rw [hqw] at hr' hwr'
      have rr' : rowsOf r' = [] := hr'.rows mem0
      have bs1 := fun M => Sl.b2s hr' M
      have bs2 := fun M => Sl.b2s h2 M
      simp (maxSteps := 2000000) (disch := first | omega | assumption | (simp only [add_size, upd_size, mem0_size, List.length_cons, List.length_nil, wf_add, wf_upd, wf_mem0, lo_wf, bk_wf, lo_size, bk_size, List.all_cons, List.all_nil, one_sc_int, one_sc_bool, one_sc_string, one_sc_slice, one_sc_ptr, one_ptr, one_sl, one_pv, one_cp, one_fn, Bool.and_true, Nat.reduceAdd, *]; done) | (simp only [add_size, upd_size, mem0_size, lo_size, bk_size, List.length_cons, List.length_nil]; omega)) only [RUN, footA, feetIn, resultsA, tupOf, frzL, slot, lay, icyL, fillA, repCells, kR, reduceIte, Nat.reduceEqDiff, Nat.reduceBEq, Nat.reduceLT, Nat.reduceAdd, Nat.reduceLeDiff, Nat.reduceSub, Nat.reduceMul, Int.reduceLT, Int.reduceLE, Int.reduceEq, Int.reduceAdd, Int.reduceSub, Int.reduceMul, decide_true, decide_false, Int.lt_irrefl, Nat.beq_eq, Option.map_some, Option.map_none, List.contains_cons, List.contains_nil, Bool.or_true, Bool.true_or, Bool.or_false, Bool.false_or, Bool.not_true, Bool.not_false, Bool.and_self, List.elem_nil, List.all_nil, List.all_cons, Bool.and_true, Bool.true_and, true_and, and_true, List.map_cons, List.map_nil, List.nil_append, List.cons_append, List.append_nil, Nat.zero_add, Nat.add_zero, List.drop_succ_cons, List.drop_zero, List.take_succ_cons, List.take_zero, List.getElem?_cons_zero, List.getElem?_cons_succ, List.length_cons, List.length_nil, x0, x1, x2, hal, lp, l1, l2, ro, r1, r2, o1, oc, q1, q2, q3, n80, n90, n0, n8, hun, hwr, hwr', rr, rr', lr, rq, oq, cq, lq, pk0, bs1, bs2]
    · replace lq : ∀ M, lenO M qo = some (I64 0, M) := lq
      simp (maxSteps := 2000000) (disch := first | omega | assumption | (simp only [add_size, upd_size, mem0_size, List.length_cons, List.length_nil, wf_add, wf_upd, wf_mem0, lo_wf, bk_wf, lo_size, bk_size, List.all_cons, List.all_nil, one_sc_int, one_sc_bool, one_sc_string, one_sc_slice, one_sc_ptr, one_ptr, one_sl, one_pv, one_cp, one_fn, Bool.and_true, Nat.reduceAdd, *]; done) | (simp only [add_size, upd_size, mem0_size, lo_size, bk_size, List.length_cons, List.length_nil]; omega)) only [RUN, footA, feetIn, resultsA, tupOf, frzL, slot, lay, icyL, fillA, repCells, kR, reduceIte, Nat.reduceEqDiff, Nat.reduceBEq, Nat.reduceLT, Nat.reduceAdd, Nat.reduceLeDiff, Nat.reduceSub, Nat.reduceMul, Int.reduceLT, Int.reduceLE, Int.reduceEq, Int.reduceAdd, Int.reduceSub, Int.reduceMul, decide_true, decide_false, Int.lt_irrefl, Nat.beq_eq, Option.map_some, Option.map_none, List.contains_cons, List.contains_nil, Bool.or_true, Bool.true_or, Bool.or_false, Bool.false_or, Bool.not_true, Bool.not_false, Bool.and_self, List.elem_nil, List.all_nil, List.all_cons, Bool.and_true, Bool.true_and, true_and, and_true, List.map_cons, List.map_nil, List.nil_append, List.cons_append, List.append_nil, Nat.zero_add, Nat.add_zero, List.drop_succ_cons, List.drop_zero, List.take_succ_cons, List.take_zero, List.getElem?_cons_zero, List.getElem?_cons_succ, List.length_cons, List.length_nil, x0, x1, x2, hal, lp, l1, l2, ro, r1, r2, o1, oc, q1, q2, q3, n80, n90, n0, n8, hun, hwr, rr, lr, rq, oq, cq, lq, pk0]
    · replace lq : ∀ M, lenO M qo = some (I64 0, M) := lq
      simp (maxSteps := 2000000) (disch := first | omega | assumption | (simp only [add_size, upd_size, mem0_size, List.length_cons, List.length_nil, wf_add, wf_upd, wf_mem0, lo_wf, bk_wf, lo_size, bk_size, List.all_cons, List.all_nil, one_sc_int, one_sc_bool, one_sc_string, one_sc_slice, one_sc_ptr, one_ptr, one_sl, one_pv, one_cp, one_fn, Bool.and_true, Nat.reduceAdd, *]; done) | (simp only [add_size, upd_size, mem0_size, lo_size, bk_size, List.length_cons, List.length_nil]; omega)) only [RUN, footA, feetIn, resultsA, tupOf, frzL, slot, lay, icyL, fillA, repCells, kR, reduceIte, Nat.reduceEqDiff, Nat.reduceBEq, Nat.reduceLT, Nat.reduceAdd, Nat.reduceLeDiff, Nat.reduceSub, Nat.reduceMul, Int.reduceLT, Int.reduceLE, Int.reduceEq, Int.reduceAdd, Int.reduceSub, Int.reduceMul, decide_true, decide_false, Int.lt_irrefl, Nat.beq_eq, Option.map_some, Option.map_none, List.contains_cons, List.contains_nil, Bool.or_true, Bool.true_or, Bool.or_false, Bool.false_or, Bool.not_true, Bool.not_false, Bool.and_self, List.elem_nil, List.all_nil, List.all_cons, Bool.and_true, Bool.true_and, true_and, and_true, List.map_cons, List.map_nil, List.nil_append, List.cons_append, List.append_nil, Nat.zero_add, Nat.add_zero, List.drop_succ_cons, List.drop_zero, List.take_succ_cons, List.take_zero, List.getElem?_cons_zero, List.getElem?_cons_succ, List.length_cons, List.length_nil, x0, x1, x2, hal, lp, l1, l2, ro, r1, r2, o1, oc, q1, q2, q3, n80, n90, n0, n8, hun, hwr, rr, lr, rq, oq, cq, lq, pk0]
  | true =>
    have hmm := p.may_iff.1 hm
    have hw : p.wrap = (frameL p.bytes, 0) := by unfold Pk.wrap; rw [hm]; rfl
    rw [hw] at hr hwr lr
    simp only at hr hwr lr
    have hfl := frameL_length p.bytes (by rw [p.bytes_len]; omega)
    have hcl := classM_le p.bytes.length
    obtain ⟨pp, hpp, hun2⟩ := unwrap_run (fuel := 100000) (d := 14) hr (by omega) (by omega)
    rw [unwrap_wrap p hm] at hpp hun2
    simp only at hpp hun2
    obtain ⟨po, rfl, hpb⟩ := id hpp
    have rp : rowsOf po = [] := hpb.rows mem0
    have op := hpb.one
    have cp := hpb.cells
    obtain ⟨c, hcut, hcb⟩ := cut_to h1 (j := p.body.length) (by omega)
    have hol : (other.take p.body.length).length = p.body.length := by rw [List.length_take]; omega
    have hpo : IsPk (.agg [I64 p.ep, I64 p.seq, I64 p.ack, c]) ⟨p.ep, p.seq, p.ack, other.take p.body.length⟩ := ⟨c, rfl, hcb⟩
    have hmo : Pk.may ⟨p.ep, p.seq, p.ack, other.take p.body.length⟩ = true := (Pk.may_iff _).2 (by simp only [hol]; exact hmm)
    have hflo := frame_len p ⟨p.ep, p.seq, p.ack, other.take p.body.length⟩ hm hol.symm
    obtain ⟨r3, hr3, hwr3⟩ := wrap_run (fuel := 100000) (d := 15) hpo (by simp only [hol]; omega) (by omega)
    have hw3 : Pk.wrap ⟨p.ep, p.seq, p.ack, other.take p.body.length⟩ = (frameL (Pk.bytes ⟨p.ep, p.seq, p.ack, other.take p.body.length⟩), 0) := by unfold Pk.wrap; rw [hmo]; rfl
    rw [hw3] at hr3 hwr3
    simp only at hr3 hwr3
    have lr3 := hr3.len
    rw [← hflo] at lr3
    have rr3 : rowsOf r3 = [] := hr3.rows mem0
    have rc : rowsOf c = [] := hcb.rows mem0
    have oc3 := hcb.one
    have cc3 := hcb.cells
    simp (maxSteps := 2000000) (disch := first | omega | assumption | (simp only [add_size, upd_size, mem0_size, List.length_cons, List.length_nil, wf_add, wf_upd, wf_mem0, lo_wf, bk_wf, lo_size, bk_size, List.all_cons, List.all_nil, one_sc_int, one_sc_bool, one_sc_string, one_sc_slice, one_sc_ptr, one_ptr, one_sl, one_pv, one_cp, one_fn, Bool.and_true, Nat.reduceAdd, *]; done) | (simp only [add_size, upd_size, mem0_size, lo_size, bk_size, List.length_cons, List.length_nil]; omega)) only [RUN, footA, feetIn, resultsA, tupOf, frzL, slot, lay, icyL, fillA, repCells, kR, reduceIte, Nat.reduceEqDiff, Nat.reduceBEq, Nat.reduceLT, Nat.reduceAdd, Nat.reduceLeDiff, Nat.reduceSub, Nat.reduceMul, Int.reduceLT, Int.reduceLE, Int.reduceEq, Int.reduceAdd, Int.reduceSub, Int.reduceMul, decide_true, decide_false, Int.lt_irrefl, Nat.beq_eq, Option.map_some, Option.map_none, List.contains_cons, List.contains_nil, Bool.or_true, Bool.true_or, Bool.or_false, Bool.false_or, Bool.not_true, Bool.not_false, Bool.and_self, List.elem_nil, List.all_nil, List.all_cons, Bool.and_true, Bool.true_and, true_and, and_true, List.map_cons, List.map_nil, List.nil_append, List.cons_append, List.append_nil, Nat.zero_add, Nat.add_zero, List.drop_succ_cons, List.drop_zero, List.take_succ_cons, List.take_zero, List.getElem?_cons_zero, List.getElem?_cons_succ, List.length_cons, List.length_nil, x0, x1, x2, hal, lp, l1, l2, ro, r1, r2, o1, oc, q1, q2, q3, n80, n90, n0, n8, hwr, hun2, hcut, hwr3, rr, lr, rp, op, cp, lr3, rr3, rc, oc3, cc3]
    refine w3_step (fun v Y => v = BL true ∧ Wf Y) (call2 o po p hb hpb _ (by simp (maxSteps := 2000000) (disch := first | omega | assumption | (simp only [add_size, upd_size, mem0_size, List.length_cons, List.length_nil, wf_add, wf_upd, wf_mem0, lo_wf, bk_wf, lo_size, bk_size, List.all_cons, List.all_nil, one_sc_int, one_sc_bool, one_sc_string, one_sc_slice, one_sc_ptr, one_ptr, one_sl, one_pv, one_cp, one_fn, Bool.and_true, Nat.reduceAdd, *]; done) | (simp only [add_size, upd_size, mem0_size, lo_size, bk_size, List.length_cons, List.length_nil]; omega)) only [RUN, footA, feetIn, resultsA, tupOf, frzL, slot, lay, icyL, fillA, repCells, kR, reduceIte, Nat.reduceEqDiff, Nat.reduceBEq, Nat.reduceLT, Nat.reduceAdd, Nat.reduceLeDiff, Nat.reduceSub, Nat.reduceMul, Int.reduceLT, Int.reduceLE, Int.reduceEq, Int.reduceAdd, Int.reduceSub, Int.reduceMul, decide_true, decide_false, Int.lt_irrefl, Nat.beq_eq, Option.map_some, Option.map_none, List.contains_cons, List.contains_nil, Bool.or_true, Bool.true_or, Bool.or_false, Bool.false_or, Bool.not_true, Bool.not_false, Bool.and_self, List.elem_nil, List.all_nil, List.all_cons, Bool.and_true, Bool.true_and, true_and, and_true, List.map_cons, List.map_nil, List.nil_append, List.cons_append, List.append_nil, Nat.zero_add, Nat.add_zero, List.drop_succ_cons, List.drop_zero, List.take_succ_cons, List.take_zero, List.getElem?_cons_zero, List.getElem?_cons_succ, List.length_cons, List.length_nil]) (by simp (maxSteps := 2000000) (disch := first | omega | assumption | (simp only [add_size, upd_size, mem0_size, List.length_cons, List.length_nil, wf_add, wf_upd, wf_mem0, lo_wf, bk_wf, lo_size, bk_size, List.all_cons, List.all_nil, one_sc_int, one_sc_bool, one_sc_string, one_sc_slice, one_sc_ptr, one_ptr, one_sl, one_pv, one_cp, one_fn, Bool.and_true, Nat.reduceAdd, *]; done) | (simp only [add_size, upd_size, mem0_size, lo_size, bk_size, List.length_cons, List.length_nil]; omega)) only [RUN, footA, feetIn, resultsA, tupOf, frzL, slot, lay, icyL, fillA, repCells, kR, reduceIte, Nat.reduceEqDiff, Nat.reduceBEq, Nat.reduceLT, Nat.reduceAdd, Nat.reduceLeDiff, Nat.reduceSub, Nat.reduceMul, Int.reduceLT, Int.reduceLE, Int.reduceEq, Int.reduceAdd, Int.reduceSub, Int.reduceMul, decide_true, decide_false, Int.lt_irrefl, Nat.beq_eq, Option.map_some, Option.map_none, List.contains_cons, List.contains_nil, Bool.or_true, Bool.true_or, Bool.or_false, Bool.false_or, Bool.not_true, Bool.not_false, Bool.and_self, List.elem_nil, List.all_nil, List.all_cons, Bool.and_true, Bool.true_and, true_and, and_true, List.map_cons, List.map_nil, List.nil_append, List.cons_append, List.append_nil, Nat.zero_add, Nat.add_zero, List.drop_succ_cons, List.drop_zero, List.take_succ_cons, List.take_zero, List.getElem?_cons_zero, List.getElem?_cons_succ, List.length_cons, List.length_nil]) (by simp (maxSteps := 2000000) (disch := first | omega | assumption | (simp only [add_size, upd_size, mem0_size, List.length_cons, List.length_nil, wf_add, wf_upd, wf_mem0, lo_wf, bk_wf, lo_size, bk_size, List.all_cons, List.all_nil, one_sc_int, one_sc_bool, one_sc_string, one_sc_slice, one_sc_ptr, one_ptr, one_sl, one_pv, one_cp, one_fn, Bool.and_true, Nat.reduceAdd, *]; done) | (simp only [add_size, upd_size, mem0_size, lo_size, bk_size, List.length_cons, List.length_nil]; omega)) only [RUN, footA, feetIn, resultsA, tupOf, frzL, slot, lay, icyL, fillA, repCells, kR, reduceIte, Nat.reduceEqDiff, Nat.reduceBEq, Nat.reduceLT, Nat.reduceAdd, Nat.reduceLeDiff, Nat.reduceSub, Nat.reduceMul, Int.reduceLT, Int.reduceLE, Int.reduceEq, Int.reduceAdd, Int.reduceSub, Int.reduceMul, decide_true, decide_false, Int.lt_irrefl, Nat.beq_eq, Option.map_some, Option.map_none, List.contains_cons, List.contains_nil, Bool.or_true, Bool.true_or, Bool.or_false, Bool.false_or, Bool.not_true, Bool.not_false, Bool.and_self, List.elem_nil, List.all_nil, List.all_cons, Bool.and_true, Bool.true_and, true_and, and_true, List.map_cons, List.map_nil, List.nil_append, List.cons_append, List.append_nil, Nat.zero_add, Nat.add_zero, List.drop_succ_cons, List.drop_zero, List.take_succ_cons, List.take_zero, List.getElem?_cons_zero, List.getElem?_cons_succ, List.length_cons, List.length_nil]) (by simp (maxSteps := 2000000) (disch := first | omega | assumption | (simp only [add_size, upd_size, mem0_size, List.length_cons, List.length_nil, wf_add, wf_upd, wf_mem0, lo_wf, bk_wf, lo_size, bk_size, List.all_cons, List.all_nil, one_sc_int, one_sc_bool, one_sc_string, one_sc_slice, one_sc_ptr, one_ptr, one_sl, one_pv, one_cp, one_fn, Bool.and_true, Nat.reduceAdd, *]; done) | (simp only [add_size, upd_size, mem0_size, lo_size, bk_size, List.length_cons, List.length_nil]; omega)) only [RUN, footA, feetIn, resultsA, tupOf, frzL, slot, lay, icyL, fillA, repCells, kR, reduceIte, Nat.reduceEqDiff, Nat.reduceBEq, Nat.reduceLT, Nat.reduceAdd, Nat.reduceLeDiff, Nat.reduceSub, Nat.reduceMul, Int.reduceLT, Int.reduceLE, Int.reduceEq, Int.reduceAdd, Int.reduceSub, Int.reduceMul, decide_true, decide_false, Int.lt_irrefl, Nat.beq_eq, Option.map_some, Option.map_none, List.contains_cons, List.contains_nil, Bool.or_true, Bool.true_or, Bool.or_false, Bool.false_or, Bool.not_true, Bool.not_false, Bool.and_self, List.elem_nil, List.all_nil, List.all_cons, Bool.and_true, Bool.true_and, true_and, and_true, List.map_cons, List.map_nil, List.nil_append, List.cons_append, List.append_nil, Nat.zero_add, Nat.add_zero, List.drop_succ_cons, List.drop_zero, List.take_succ_cons, List.take_zero, List.getElem?_cons_zero, List.getElem?_cons_succ, List.length_cons, List.length_nil])) ?_
    rintro _ Y ⟨rfl, wY⟩
    have qe : decide (((frameL p.bytes).length : Int) = (frameL p.bytes).length) = true := decide_eq_true rfl
    rcases uo with ⟨rfl, hqm, hqf⟩ | ⟨rfl | rfl, rfl⟩
    · have hqw : uq.wrap = (bb, 0) := by unfold Pk.wrap; rw [hqm, hqf]; rfl
      have hqm' := uq.may_iff.1 hqm
      obtain ⟨r', hr', hwr'⟩ := wrap_run (fuel := 100000) (d := 15) hq (by omega) (by omega)
      rw [hqw] at hr' hwr'
      have rr' : rowsOf r' = [] := hr'.rows mem0
      have bs1 := fun M => Sl.b2s hr' M
      have bs2 := fun M => Sl.b2s h2 M
      simp (maxSteps := 2000000) (disch := first | omega | assumption | (simp only [add_size, upd_size, mem0_size, List.length_cons, List.length_nil, wf_add, wf_upd, wf_mem0, lo_wf, bk_wf, lo_size, bk_size, List.all_cons, List.all_nil, one_sc_int, one_sc_bool, one_sc_string, one_sc_slice, one_sc_ptr, one_ptr, one_sl, one_pv, one_cp, one_fn, Bool.and_true, Nat.reduceAdd, *]; done) | (simp only [add_size, upd_size, mem0_size, lo_size, bk_size, List.length_cons, List.length_nil]; omega)) only [RUN, footA, feetIn, resultsA, tupOf, frzL, slot, lay, icyL, fillA, repCells, kR, reduceIte, Nat.reduceEqDiff, Nat.reduceBEq, Nat.reduceLT, Nat.reduceAdd, Nat.reduceLeDiff, Nat.reduceSub, Nat.reduceMul, Int.reduceLT, Int.reduceLE, Int.reduceEq, Int.reduceAdd, Int.reduceSub, Int.reduceMul, decide_true, decide_false, Int.lt_irrefl, Nat.beq_eq, Option.map_some, Option.map_none, List.contains_cons, List.contains_nil, Bool.or_true, Bool.true_or, Bool.or_false, Bool.false_or, Bool.not_true, Bool.not_false, Bool.and_self, List.elem_nil, List.all_nil, List.all_cons, Bool.and_true, Bool.true_and, true_and, and_true, List.map_cons, List.map_nil, List.nil_append, List.cons_append, List.append_nil, Nat.zero_add, Nat.add_zero, List.drop_succ_cons, List.drop_zero, List.take_succ_cons, List.take_zero, List.getElem?_cons_zero, List.getElem?_cons_succ, List.length_cons, List.length_nil, x0, x1, x2, qe, lr, lr3, r2, n0, n8, hun, hwr', rr, rr', rr3, rq, oq, cq, lq, bs1, bs2]
    · replace lq : ∀ M, lenO M qo = some (I64 0, M) := lq
      simp (maxSteps := 2000000) (disch := first | omega | assumption | (simp only [add_size, upd_size, mem0_size, List.length_cons, List.length_nil, wf_add, wf_upd, wf_mem0, lo_wf, bk_wf, lo_size, bk_size, List.all_cons, List.all_nil, one_sc_int, one_sc_bool, one_sc_string, one_sc_slice, one_sc_ptr, one_ptr, one_sl, one_pv, one_cp, one_fn, Bool.and_true, Nat.reduceAdd, *]; done) | (simp only [add_size, upd_size, mem0_size, lo_size, bk_size, List.length_cons, List.length_nil]; omega)) only [RUN, footA, feetIn, resultsA, tupOf, frzL, slot, lay, icyL, fillA, repCells, kR, reduceIte, Nat.reduceEqDiff, Nat.reduceBEq, Nat.reduceLT, Nat.reduceAdd, Nat.reduceLeDiff, Nat.reduceSub, Nat.reduceMul, Int.reduceLT, Int.reduceLE, Int.reduceEq, Int.reduceAdd, Int.reduceSub, Int.reduceMul, decide_true, decide_false, Int.lt_irrefl, Nat.beq_eq, Option.map_some, Option.map_none, List.contains_cons, List.contains_nil, Bool.or_true, Bool.true_or, Bool.or_false, Bool.false_or, Bool.not_true, Bool.not_false, Bool.and_self, List.elem_nil, List.all_nil, List.all_cons, Bool.and_true, Bool.true_and, true_and, and_true, List.map_cons, List.map_nil, List.nil_append, List.cons_append, List.append_nil, Nat.zero_add, Nat.add_zero, List.drop_succ_cons, List.drop_zero, List.take_succ_cons, List.take_zero, List.getElem?_cons_zero, List.getElem?_cons_succ, List.length_cons, List.length_nil, x0, x1, x2, qe, lr, lr3, r2, n0, n80, hun, rr, rr3, rq, oq, cq, lq, pk0]
    · replace lq : ∀ M, lenO M qo = some (I64 0, M) := lq
      simp (maxSteps := 2000000) (disch := first | omega | assumption | (simp only [add_size, upd_size, mem0_size, List.length_cons, List.length_nil, wf_add, wf_upd, wf_mem0, lo_wf, bk_wf, lo_size, bk_size, List.all_cons, List.all_nil, one_sc_int, one_sc_bool, one_sc_string, one_sc_slice, one_sc_ptr, one_ptr, one_sl, one_pv, one_cp, one_fn, Bool.and_true, Nat.reduceAdd, *]; done) | (simp only [add_size, upd_size, mem0_size, lo_size, bk_size, List.length_cons, List.length_nil]; omega)) only [RUN, footA, feetIn, resultsA, tupOf, frzL, slot, lay, icyL, fillA, repCells, kR, reduceIte, Nat.reduceEqDiff, Nat.reduceBEq, Nat.reduceLT, Nat.reduceAdd, Nat.reduceLeDiff, Nat.reduceSub, Nat.reduceMul, Int.reduceLT, Int.reduceLE, Int.reduceEq, Int.reduceAdd, Int.reduceSub, Int.reduceMul, decide_true, decide_false, Int.lt_irrefl, Nat.beq_eq, Option.map_some, Option.map_none, List.contains_cons, List.contains_nil, Bool.or_true, Bool.true_or, Bool.or_false, Bool.false_or, Bool.not_true, Bool.not_false, Bool.and_self, List.elem_nil, List.all_nil, List.all_cons, Bool.and_true, Bool.true_and, true_and, and_true, List.map_cons, List.map_nil, List.nil_append, List.cons_append, List.append_nil, Nat.zero_add, Nat.add_zero, List.drop_succ_cons, List.drop_zero, List.take_succ_cons, List.take_zero, List.getElem?_cons_zero, List.getElem?_cons_succ, List.length_cons, List.length_nil, x0, x1, x2, qe, lr, lr3, r2, n0, n90, hun, rr, rr3, rq, oq, cq, lq, pk0]
end Go.Proofs.Ytbemomagabjbnaa.linkFrames
