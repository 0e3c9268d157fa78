/-
  The statement LinkWraps: the run.
-/
import Derived.Test.YtbemomagabjbnaaFrXi
set_option linter.unusedSimpArgs false
set_option linter.unusedVariables false
set_option maxRecDepth 100000
namespace Go.Proofs.Ytbemomagabjbnaa.linkWraps
open Go Go.Ax

theorem w3_step {r : Option (AV × Mem)} {Q : AV → Mem → Prop} (R : AV → Mem → Prop) (h : ∃ v Y, r = some (v, Y) ∧ R v Y) (k : ∀ v Y, R v Y → Q v Y) : W3 r Q := by
  obtain ⟨v, Y, h1, h2⟩ := h
  exact ⟨v, Y, h1, k _ _ h2⟩
theorem same_self (p : Pk) : p.same p = true := by
  unfold Pk.same
  simp
theorem pk_icy {o : AV} {l : List UInt8} (h : Bs o l) (e s k : Int) (M : Mem) : icyL (icy 11) M [I64 e, I64 s, I64 k, o] = some ([I64 e, I64 s, I64 k, o], M) :=
  icyL_same (by omega) (fun x hx M => by
    simp only [List.mem_cons, List.not_mem_nil, or_false] at hx
    rcases hx with rfl | rfl | rfl | rfl
    · exact icy_sc _ (by omega)
    · exact icy_sc _ (by omega)
    · exact icy_sc _ (by omega)
    · exact h.icy M 11 (by omega)) M
theorem call2 {d : Nat} {i j : Nat} (hij : i ≠ j) (o po : AV) (p : Pk) (hb : Bs o p.body) (hpb : Bs po p.body) (X : Mem) (wX : Wf X) (g3 : X.get i = some (.row false [I64 p.ep, I64 p.seq, I64 p.ack, po])) (g4 : X.get j = some (.row false [I64 p.ep, I64 p.seq, I64 p.ack, o])) :
    ∃ v Y, callN Try.prog (fsT tbl) 100000 (d + 1) (.fn 19) [.sl i 0 1 (some 1) 4, .sl j 0 1 (some 1) 4] X = some (v, Y) ∧ v = BL true ∧ Wf Y ∧ Y.size = X.size ∧ ∀ k, k ≠ i → k ≠ j → Y.get k = X.get k := by
  have hi := Mem.get_lt g3
  have hj := Mem.get_lt g4
  have i1 := icy_row (k := 11) (n := 1) (st := 4) (cap := some 1) g3 rfl rfl (pk_icy hpb _ _ _ X) g3 wX hi
  have g4' := g4
  rw [← get_upd_ne wX (.fro [I64 p.ep, I64 p.seq, I64 p.ack, po]) i j hij] at g4'
  have i2 := icy_row (k := 11) (n := 1) (st := 4) (cap := some 1) g4' rfl rfl (pk_icy hb _ _ _ _) g4' (wX.upd _ _) (by rw [upd_size]; omega)
  have i3 : icyL (icy 12) X [.sl i 0 1 (some 1) 4, .sl j 0 1 (some 1) 4] = some ([.pv [I64 p.ep, I64 p.seq, I64 p.ack, po] 1 (some 1) 4, .pv [I64 p.ep, I64 p.seq, I64 p.ack, o] 1 (some 1) 4], (X.upd i (.fro [I64 p.ep, I64 p.seq, I64 p.ack, po])).upd j (.fro [I64 p.ep, I64 p.seq, I64 p.ack, o])) := by
    simp only [icyL, i1, i2]
  have s1 : Sl 4 isPkR (.pv [I64 p.ep, I64 p.seq, I64 p.ack, po] 1 (some 1) 4) [p] := .inr ⟨[[I64 p.ep, I64 p.seq, I64 p.ack, po]], some 1, rfl, .cons ⟨po, rfl, hpb⟩ .nil, by simp⟩
  have s2 : Sl 4 isPkR (.pv [I64 p.ep, I64 p.seq, I64 p.ack, o] 1 (some 1) 4) [p] := .inr ⟨[[I64 p.ep, I64 p.seq, I64 p.ack, o]], some 1, rfl, .cons ⟨o, rfl, hb⟩ .nil, by simp⟩
  have hc := samepk_run (fuel := 100000) (d := d) s1 s2 (by omega) mem0
  rw [same_self] at hc
  exact ⟨_, _, call_own tf19 rfl hc (M3 := mem0) (by simp only [icyL, s1.icy mem0 12 (by omega), s2.icy mem0 12 (by omega)]) i3, rfl, (wX.upd _ _).upd _ _, by rw [upd_size, upd_size], fun k h1 h2 => by rw [get_upd_ne (wX.upd _ _) _ _ _ (fun e => h2 e.symm), get_upd_ne wX _ _ _ (fun e => h1 e.symm)]⟩
theorem call3 {d : Nat} (N : Mem) {i j : Nat} (hi : N.size ≤ i) (hj : N.size ≤ j) (hij : i ≠ j) (o po : AV) (p : Pk) (hb : Bs o p.body) (hpb : Bs po p.body) (X : Mem) (wX : Wf X) (g3 : X.get i = some (.row false [I64 p.ep, I64 p.seq, I64 p.ack, po])) (g4 : X.get j = some (.row false [I64 p.ep, I64 p.seq, I64 p.ack, o])) (hsz : N.size < X.size) (hXk : ∀ k, k < N.size → X.get k = N.get k) :
    ∃ v Y, callN Try.prog (fsT tbl) 100000 (d + 1) (.fn 19) [.sl i 0 1 (some 1) 4, .sl j 0 1 (some 1) 4] X = some (v, Y) ∧ (v = BL true ∧ Wf Y ∧ N.size < Y.size ∧ ∀ k, k < N.size → Y.get k = N.get k) := by
  obtain ⟨v, Y, h1, h2, h3, h4, h5⟩ := call2 (d := d) hij o po p hb hpb X wX g3 g4
  exact ⟨v, Y, h1, h2, h3, by rw [h4]; exact hsz, fun k hk => (h5 k (by omega) (by omega)).trans (hXk k hk)⟩
theorem apart2_below {i m : Nat} (h : i < m) (m' : Nat) : apart2 (.acc [i] []) (.acc [] [], m, m') = true := by
  have hb : Nat.ble m i = false := by
    cases hc : Nat.ble m i with
    | false => rfl
    | true => have := Nat.le_of_ble_eq_true hc; omega
  simp [apart2, FP.apart, disj, FP.reads, FP.writes, hb]
/-- Bytes of ours, handed to a call. -/
theorem hand_own {N : Mem} {x5 : AV} {l : List UInt8} (wf : Wf N) (h : SlM N 1 isU8 x5 l) : ∃ a6 N6, icy 12 N x5 = some (a6, N6) ∧ Bs a6 l ∧ Wf N6 ∧ N6.size = N.size ∧ (∀ j, rowOf x5 ≠ some j → N6.get j = N.get j) ∧ (∀ N7, (∀ j, rowOf x5 = some j → N7.get j = N6.get j) → b2sO N7 x5 = some (STR l, N7)) := by
  rcases slm_form h with ⟨rfl, h0⟩ | ⟨id, cap, rfl, hcap, hg3⟩
  · rw [h0]; exact ⟨NIL, N, icy_sc _ (by omega), .inl ⟨rfl, rfl⟩, wf, rfl, fun _ _ => rfl, fun _ _ => rfl⟩
  · have hid := Mem.get_lt hg3
    refine ⟨.pv (u8s l) l.length cap 1, N.upd id (.fro (u8s l)), icy_row (k := 11) (n := l.length) (st := 1) hg3 (by rw [u8s_len]; omega) (by rw [u8s_len]; omega) (u8s_icy l (by omega) _) hg3 wf hid, bs_pv _ _ rfl, wf.upd _ _, upd_size _ _ _, fun j hj => get_upd_ne wf _ _ _ (fun e => hj (by rw [← e]; rfl)), fun N7 h7 => ?_⟩
    have hrd : N7.rd id = some (u8s l) := by rw [rd_get, h7 id rfl, get_upd_eq wf _ _ hid, rd1_fro]
    have hcs : cellsOf N7 (.sl id 0 l.length cap 1) = some (u8s l) := by
      simp only [cellsOf, hrd, Nat.zero_add, Nat.ble_eq_true_of_le (show l.length * 1 ≤ (u8s l).length by rw [u8s_len]; omega)]
      rw [slot_all _ _ (by rw [u8s_len]; omega)]
    have hby : bytesOf (u8s l) = some l := by rw [← u8s_flat]; exact bytesOf_eq (u8s_all2 l)
    simp only [b2sO, Nat.beq_refl, hcs, hby]

set_option maxHeartbeats 16000000 in
theorem law_run (a0 : AV) (p : Pk) (hp : IsPk a0 p) (a1 : AV) (bb : List UInt8) (h1 : Bs a1 bb) :
    callN Try.prog (fsT tbl) 100000 21 (.fn 5) [a0, a1] mem0 = some (BL true, mem0) := by
  have hp0 := hp
  obtain ⟨o, rfl, hb⟩ := hp
  have ic : ∀ M, icyL (icy 12) M [.agg [I64 p.ep, I64 p.seq, I64 p.ack, o], a1] = some ([.agg [I64 p.ep, I64 p.seq, I64 p.ack, o], a1], M) := fun M => by simp (maxSteps := 2000000) (disch := first | omega | assumption | (simp only [add_size, upd_size, mem0_size, List.length_cons, List.length_nil, wf_add, wf_upd, wf_mem0, lo_wf, bk_wf, lo_size, bk_size, List.all_cons, List.all_nil, one_sc_int, one_sc_bool, one_sc_string, one_sc_slice, one_sc_ptr, one_ptr, one_sl, one_pv, one_cp, one_fn, Bool.and_true, Nat.reduceAdd, *]; done) | (simp only [add_size, upd_size, mem0_size, lo_size, bk_size, List.length_cons, List.length_nil]; omega)) only [RUN, footA, feetIn, resultsA, tupOf, frzL, slot, lay, icyL, fillA, repCells, kR, reduceIte, Nat.reduceEqDiff, Nat.reduceBEq, Nat.reduceLT, Nat.reduceAdd, Nat.reduceLeDiff, Nat.reduceSub, Nat.reduceMul, Int.reduceLT, Int.reduceLE, Int.reduceEq, Int.reduceAdd, Int.reduceSub, Int.reduceMul, decide_true, decide_false, Int.lt_irrefl, Nat.beq_eq, Option.map_some, Option.map_none, List.contains_cons, List.contains_nil, Bool.or_true, Bool.true_or, Bool.or_false, Bool.false_or, Bool.not_true, Bool.not_false, Bool.and_self, List.elem_nil, List.all_nil, List.all_cons, Bool.and_true, Bool.true_and, true_and, and_true, List.map_cons, List.map_nil, List.nil_append, List.cons_append, List.append_nil, Nat.zero_add, Nat.add_zero, List.drop_succ_cons, List.drop_zero, List.take_succ_cons, List.take_zero, List.getElem?_cons_zero, List.getElem?_cons_succ, List.length_cons, List.length_nil, hb.icy, h1.icy]
  have lp := hb.len
  have l1 := h1.len
  have ro := hb.rows mem0
  have r1 : rowsOf a1 = [] := h1.rows mem0
  have o1 := hb.one
  have oc := hb.cells
  apply w3_eq
  refine call_gc tf5 rfl (ic mem0) (by simp [a5]) fun b ht hx => ?_
  have x0 := hx 0 _ rfl
  have x1 := hx 1 _ rfl
  clear hx
  simp only [a5, c5] at ht ⊢
  by_cases g1 : 2000 < p.body.length
  · have q1 : decide ((2000 : Int) < p.body.length) = true := decide_eq_true (by omega)
    simp (maxSteps := 2000000) (disch := first | omega | assumption | (simp only [add_size, upd_size, mem0_size, List.length_cons, List.length_nil, wf_add, wf_upd, wf_mem0, lo_wf, bk_wf, lo_size, bk_size, List.all_cons, List.all_nil, one_sc_int, one_sc_bool, one_sc_string, one_sc_slice, one_sc_ptr, one_ptr, one_sl, one_pv, one_cp, one_fn, Bool.and_true, Nat.reduceAdd, *]; done) | (simp only [add_size, upd_size, mem0_size, lo_size, bk_size, List.length_cons, List.length_nil]; omega)) only [RUN, footA, feetIn, resultsA, tupOf, frzL, slot, lay, icyL, fillA, repCells, kR, reduceIte, Nat.reduceEqDiff, Nat.reduceBEq, Nat.reduceLT, Nat.reduceAdd, Nat.reduceLeDiff, Nat.reduceSub, Nat.reduceMul, Int.reduceLT, Int.reduceLE, Int.reduceEq, Int.reduceAdd, Int.reduceSub, Int.reduceMul, decide_true, decide_false, Int.lt_irrefl, Nat.beq_eq, Option.map_some, Option.map_none, List.contains_cons, List.contains_nil, Bool.or_true, Bool.true_or, Bool.or_false, Bool.false_or, Bool.not_true, Bool.not_false, Bool.and_self, List.elem_nil, List.all_nil, List.all_cons, Bool.and_true, Bool.true_and, true_and, and_true, List.map_cons, List.map_nil, List.nil_append, List.cons_append, List.append_nil, Nat.zero_add, Nat.add_zero, List.drop_succ_cons, List.drop_zero, List.take_succ_cons, List.take_zero, List.getElem?_cons_zero, List.getElem?_cons_succ, List.length_cons, List.length_nil, x0, x1, lp, l1, ro, r1, o1, oc, q1]
  have q1 : decide ((2000 : Int) < p.body.length) = false := decide_eq_false (by omega)
  by_cases g2 : 2000 < bb.length
  · have q2 : decide ((2000 : Int) < bb.length) = true := decide_eq_true (by omega)
    simp (maxSteps := 2000000) (disch := first | omega | assumption | (simp only [add_size, upd_size, mem0_size, List.length_cons, List.length_nil, wf_add, wf_upd, wf_mem0, lo_wf, bk_wf, lo_size, bk_size, List.all_cons, List.all_nil, one_sc_int, one_sc_bool, one_sc_string, one_sc_slice, one_sc_ptr, one_ptr, one_sl, one_pv, one_cp, one_fn, Bool.and_true, Nat.reduceAdd, *]; done) | (simp only [add_size, upd_size, mem0_size, lo_size, bk_size, List.length_cons, List.length_nil]; omega)) only [RUN, footA, feetIn, resultsA, tupOf, frzL, slot, lay, icyL, fillA, repCells, kR, reduceIte, Nat.reduceEqDiff, Nat.reduceBEq, Nat.reduceLT, Nat.reduceAdd, Nat.reduceLeDiff, Nat.reduceSub, Nat.reduceMul, Int.reduceLT, Int.reduceLE, Int.reduceEq, Int.reduceAdd, Int.reduceSub, Int.reduceMul, decide_true, decide_false, Int.lt_irrefl, Nat.beq_eq, Option.map_some, Option.map_none, List.contains_cons, List.contains_nil, Bool.or_true, Bool.true_or, Bool.or_false, Bool.false_or, Bool.not_true, Bool.not_false, Bool.and_self, List.elem_nil, List.all_nil, List.all_cons, Bool.and_true, Bool.true_and, true_and, and_true, List.map_cons, List.map_nil, List.nil_append, List.cons_append, List.append_nil, Nat.zero_add, Nat.add_zero, List.drop_succ_cons, List.drop_zero, List.take_succ_cons, List.take_zero, List.getElem?_cons_zero, List.getElem?_cons_succ, List.length_cons, List.length_nil, x0, x1, lp, l1, ro, r1, o1, oc, q1, q2]
  have q2 : decide ((2000 : Int) < bb.length) = false := decide_eq_false (by omega)
  have wX1 : Wf (mem0.add (.row false [I64 p.ep, I64 p.seq, I64 p.ack, o])) := Wf.mem0.add _
  have gX1 : (mem0.add (.row false [I64 p.ep, I64 p.seq, I64 p.ack, o])).get 0 = some (.row false [I64 p.ep, I64 p.seq, I64 p.ack, o]) := get_add_new Wf.mem0 _ _ (Nat.le_refl _) (by rw [mem0_size]; omega)
  have sX1 : (mem0.add (.row false [I64 p.ep, I64 p.seq, I64 p.ack, o])).size = 1 := by rw [add_size, mem0_size]
  have hnil : SlM (mem0.add (.row false [I64 p.ep, I64 p.seq, I64 p.ack, o])) 1 isU8 NIL ([] : List UInt8) := SlM.nil
  obtain ⟨rows, oo1, oo2, oo3, oo4⟩ := h1.open
  obtain ⟨own, M5, e5, s5, wf5, le5, _, kp5, new5, _⟩ := hnil.appO wX1 (oo1 _) oo2 oo3 oo4 (cel_U8.all oo3) (by omega) (bytes := 1) (by simp; omega) (by simp; omega)
  rw [List.nil_append] at s5
  have g50 : M5.get 0 = some (.row false [I64 p.ep, I64 p.seq, I64 p.ack, o]) := by rw [kp5 0 (by omega) (by simp [rowOf])]; exact gX1
  have hown : ∀ id, rowOf own = some id → 1 ≤ id ∧ id < M5.size := fun id h => ⟨by
    rcases new5 id h with h' | h'
    · cases h'
    · omega, s5.lt id h⟩
  have z5 : 0 < M5.size := by omega
  obtain ⟨rA, hrA, hwA⟩ := wrap_run (fuel := 100000) (d := 15) hp0 (by omega) (by omega)
  obtain ⟨rB, hrB, hwB⟩ := rwrap_run (fuel := 100000) (d := 16) hp0 (by omega)
  have rrA : rowsOf rA = [] := hrA.rows mem0
  have rrB : rowsOf rB = [] := hrB.rows mem0
  have bsA := fun M => Sl.b2s hrA M
  have bsB := fun M => Sl.b2s hrB M
  obtain ⟨a6, N6, hi6, hb6, wf6, sz6, kp6, bs6⟩ := hand_own wf5 s5
  have g06 : N6.get 0 = some (.row false [I64 p.ep, I64 p.seq, I64 p.ack, o]) := by rw [kp6 0 (fun h => by have := hown _ h; omega)]; exact g50
  obtain ⟨qa, hqa, hun⟩ := unwrap_run (fuel := 100000) (d := 14) hb6 (by omega) (by omega)
  have hun6 := call_own tf17 rfl (hun mem0) (M3 := mem0) (icyL_one (hb6.icy mem0 12 (by omega))) (icyL_one hi6)
  obtain ⟨qb, hqb, hunB⟩ := runwrap_run (fuel := 100000) (d := 14) h1 (by omega) (by omega)
  generalize unwrapM bb = ub at hqa hqb hun6 hunB
  obtain ⟨u, c⟩ := ub
  simp only at hqa hqb hun6 hunB
  obtain ⟨oa, rfl, hoa⟩ := hqa
  obtain ⟨ob, rfl, hob⟩ := hqb
  replace hun6 : callN Try.prog (fsT tbl) 100000 20 (.fn 17) [own] M5 = some (.tup [.agg [I64 u.ep, I64 u.seq, I64 u.ack, oa], I64 c], N6) := hun6
  have ra := hoa.rows mem0
  have rb := hob.rows mem0
  have oa1 := hoa.one
  have ob1 := hob.one
  have oac := hoa.cells
  have obc := hob.cells
  have z6 : 0 < N6.size := by omega
  have qe1 : decide (p.wrap.1 = p.wrap.1) = true := decide_eq_true rfl
  have qe2 : decide (p.wrap.2 = p.wrap.2) = true := decide_eq_true rfl
  have ap1 : apart2 (.acc [N6.size + 1] []) (.acc [] [], N6.size + 1 + 1, N6.size + 1 + 1 + 1) = true := apart2_below (by omega) _
  have ap2 : apart2 (.acc [] []) (.acc [] [], N6.size + 1 + 1, N6.size + 1 + 1 + 1) = true := rfl
  simp (maxSteps := 2000000) (disch := first | omega | assumption | (simp only [add_size, upd_size, mem0_size, List.length_cons, List.length_nil, wf_add, wf_upd, wf_mem0, lo_wf, bk_wf, lo_size, bk_size, List.all_cons, List.all_nil, one_sc_int, one_sc_bool, one_sc_string, one_sc_slice, one_sc_ptr, one_ptr, one_sl, one_pv, one_cp, one_fn, Bool.and_true, Nat.reduceAdd, *]; done) | (simp only [add_size, upd_size, mem0_size, lo_size, bk_size, List.length_cons, List.length_nil]; omega)) only [RUN, footA, feetIn, resultsA, tupOf, frzL, slot, lay, icyL, fillA, repCells, kR, reduceIte, Nat.reduceEqDiff, Nat.reduceBEq, Nat.reduceLT, Nat.reduceAdd, Nat.reduceLeDiff, Nat.reduceSub, Nat.reduceMul, Int.reduceLT, Int.reduceLE, Int.reduceEq, Int.reduceAdd, Int.reduceSub, Int.reduceMul, decide_true, decide_false, Int.lt_irrefl, Nat.beq_eq, Option.map_some, Option.map_none, List.contains_cons, List.contains_nil, Bool.or_true, Bool.true_or, Bool.or_false, Bool.false_or, Bool.not_true, Bool.not_false, Bool.and_self, List.elem_nil, List.all_nil, List.all_cons, Bool.and_true, Bool.true_and, true_and, and_true, List.map_cons, List.map_nil, List.nil_append, List.cons_append, List.append_nil, Nat.zero_add, Nat.add_zero, List.drop_succ_cons, List.drop_zero, List.take_succ_cons, List.take_zero, List.getElem?_cons_zero, List.getElem?_cons_succ, List.length_cons, List.length_nil, x0, x1, lp, l1, ro, r1, o1, oc, q1, q2, e5, g50, z5, hwA, hwB, rrA, rrB, hun6, hunB, ra, rb, oa1, ob1, oac, obc, bsA, bsB, qe1, qe2, z6, g06, ap1, ap2]
  refine w3_step (fun v Y => v = BL true ∧ Wf Y ∧ N6.size < Y.size ∧ ∀ k, k < N6.size → Y.get k = N6.get k) (call3 (d := 19) N6 (i := N6.size + 1 + 1) (j := N6.size + 1 + 1 + 1) (by omega) (by omega) (by omega) ob oa u hob hoa _ (by simp (maxSteps := 2000000) (disch := first | omega | assumption | (simp only [add_size, upd_size, mem0_size, List.length_cons, List.length_nil, wf_add, wf_upd, wf_mem0, lo_wf, bk_wf, lo_size, bk_size, List.all_cons, List.all_nil, one_sc_int, one_sc_bool, one_sc_string, one_sc_slice, one_sc_ptr, one_ptr, one_sl, one_pv, one_cp, one_fn, Bool.and_true, Nat.reduceAdd, *]; done) | (simp only [add_size, upd_size, mem0_size, lo_size, bk_size, List.length_cons, List.length_nil]; omega)) only [RUN, footA, feetIn, resultsA, tupOf, frzL, slot, lay, icyL, fillA, repCells, kR, reduceIte, Nat.reduceEqDiff, Nat.reduceBEq, Nat.reduceLT, Nat.reduceAdd, Nat.reduceLeDiff, Nat.reduceSub, Nat.reduceMul, Int.reduceLT, Int.reduceLE, Int.reduceEq, Int.reduceAdd, Int.reduceSub, Int.reduceMul, decide_true, decide_false, Int.lt_irrefl, Nat.beq_eq, Option.map_some, Option.map_none, List.contains_cons, List.contains_nil, Bool.or_true, Bool.true_or, Bool.or_false, Bool.false_or, Bool.not_true, Bool.not_false, Bool.and_self, List.elem_nil, List.all_nil, List.all_cons, Bool.and_true, Bool.true_and, true_and, and_true, List.map_cons, List.map_nil, List.nil_append, List.cons_append, List.append_nil, Nat.zero_add, Nat.add_zero, List.drop_succ_cons, List.drop_zero, List.take_succ_cons, List.take_zero, List.getElem?_cons_zero, List.getElem?_cons_succ, List.length_cons, List.length_nil, wf6]) (by simp (maxSteps := 2000000) (disch := first | omega | assumption | (simp only [add_size, upd_size, mem0_size, List.length_cons, List.length_nil, wf_add, wf_upd, wf_mem0, lo_wf, bk_wf, lo_size, bk_size, List.all_cons, List.all_nil, one_sc_int, one_sc_bool, one_sc_string, one_sc_slice, one_sc_ptr, one_ptr, one_sl, one_pv, one_cp, one_fn, Bool.and_true, Nat.reduceAdd, *]; done) | (simp only [add_size, upd_size, mem0_size, lo_size, bk_size, List.length_cons, List.length_nil]; omega)) only [RUN, footA, feetIn, resultsA, tupOf, frzL, slot, lay, icyL, fillA, repCells, kR, reduceIte, Nat.reduceEqDiff, Nat.reduceBEq, Nat.reduceLT, Nat.reduceAdd, Nat.reduceLeDiff, Nat.reduceSub, Nat.reduceMul, Int.reduceLT, Int.reduceLE, Int.reduceEq, Int.reduceAdd, Int.reduceSub, Int.reduceMul, decide_true, decide_false, Int.lt_irrefl, Nat.beq_eq, Option.map_some, Option.map_none, List.contains_cons, List.contains_nil, Bool.or_true, Bool.true_or, Bool.or_false, Bool.false_or, Bool.not_true, Bool.not_false, Bool.and_self, List.elem_nil, List.all_nil, List.all_cons, Bool.and_true, Bool.true_and, true_and, and_true, List.map_cons, List.map_nil, List.nil_append, List.cons_append, List.append_nil, Nat.zero_add, Nat.add_zero, List.drop_succ_cons, List.drop_zero, List.take_succ_cons, List.take_zero, List.getElem?_cons_zero, List.getElem?_cons_succ, List.length_cons, List.length_nil, wf6]) (by simp (maxSteps := 2000000) (disch := first | omega | assumption | (simp only [add_size, upd_size, mem0_size, List.length_cons, List.length_nil, wf_add, wf_upd, wf_mem0, lo_wf, bk_wf, lo_size, bk_size, List.all_cons, List.all_nil, one_sc_int, one_sc_bool, one_sc_string, one_sc_slice, one_sc_ptr, one_ptr, one_sl, one_pv, one_cp, one_fn, Bool.and_true, Nat.reduceAdd, *]; done) | (simp only [add_size, upd_size, mem0_size, lo_size, bk_size, List.length_cons, List.length_nil]; omega)) only [RUN, footA, feetIn, resultsA, tupOf, frzL, slot, lay, icyL, fillA, repCells, kR, reduceIte, Nat.reduceEqDiff, Nat.reduceBEq, Nat.reduceLT, Nat.reduceAdd, Nat.reduceLeDiff, Nat.reduceSub, Nat.reduceMul, Int.reduceLT, Int.reduceLE, Int.reduceEq, Int.reduceAdd, Int.reduceSub, Int.reduceMul, decide_true, decide_false, Int.lt_irrefl, Nat.beq_eq, Option.map_some, Option.map_none, List.contains_cons, List.contains_nil, Bool.or_true, Bool.true_or, Bool.or_false, Bool.false_or, Bool.not_true, Bool.not_false, Bool.and_self, List.elem_nil, List.all_nil, List.all_cons, Bool.and_true, Bool.true_and, true_and, and_true, List.map_cons, List.map_nil, List.nil_append, List.cons_append, List.append_nil, Nat.zero_add, Nat.add_zero, List.drop_succ_cons, List.drop_zero, List.take_succ_cons, List.take_zero, List.getElem?_cons_zero, List.getElem?_cons_succ, List.length_cons, List.length_nil, wf6]) (by simp (maxSteps := 2000000) (disch := first | omega | assumption | (simp only [add_size, upd_size, mem0_size, List.length_cons, List.length_nil, wf_add, wf_upd, wf_mem0, lo_wf, bk_wf, lo_size, bk_size, List.all_cons, List.all_nil, one_sc_int, one_sc_bool, one_sc_string, one_sc_slice, one_sc_ptr, one_ptr, one_sl, one_pv, one_cp, one_fn, Bool.and_true, Nat.reduceAdd, *]; done) | (simp only [add_size, upd_size, mem0_size, lo_size, bk_size, List.length_cons, List.length_nil]; omega)) only [RUN, footA, feetIn, resultsA, tupOf, frzL, slot, lay, icyL, fillA, repCells, kR, reduceIte, Nat.reduceEqDiff, Nat.reduceBEq, Nat.reduceLT, Nat.reduceAdd, Nat.reduceLeDiff, Nat.reduceSub, Nat.reduceMul, Int.reduceLT, Int.reduceLE, Int.reduceEq, Int.reduceAdd, Int.reduceSub, Int.reduceMul, decide_true, decide_false, Int.lt_irrefl, Nat.beq_eq, Option.map_some, Option.map_none, List.contains_cons, List.contains_nil, Bool.or_true, Bool.true_or, Bool.or_false, Bool.false_or, Bool.not_true, Bool.not_false, Bool.and_self, List.elem_nil, List.all_nil, List.all_cons, Bool.and_true, Bool.true_and, true_and, and_true, List.map_cons, List.map_nil, List.nil_append, List.cons_append, List.append_nil, Nat.zero_add, Nat.add_zero, List.drop_succ_cons, List.drop_zero, List.take_succ_cons, List.take_zero, List.getElem?_cons_zero, List.getElem?_cons_succ, List.length_cons, List.length_nil, wf6]; omega) (fun k hk => by simp (maxSteps := 2000000) (disch := first | omega | assumption | (simp only [add_size, upd_size, mem0_size, List.length_cons, List.length_nil, wf_add, wf_upd, wf_mem0, lo_wf, bk_wf, lo_size, bk_size, List.all_cons, List.all_nil, one_sc_int, one_sc_bool, one_sc_string, one_sc_slice, one_sc_ptr, one_ptr, one_sl, one_pv, one_cp, one_fn, Bool.and_true, Nat.reduceAdd, *]; done) | (simp only [add_size, upd_size, mem0_size, lo_size, bk_size, List.length_cons, List.length_nil]; omega)) only [RUN, footA, feetIn, resultsA, tupOf, frzL, slot, lay, icyL, fillA, repCells, kR, reduceIte, Nat.reduceEqDiff, Nat.reduceBEq, Nat.reduceLT, Nat.reduceAdd, Nat.reduceLeDiff, Nat.reduceSub, Nat.reduceMul, Int.reduceLT, Int.reduceLE, Int.reduceEq, Int.reduceAdd, Int.reduceSub, Int.reduceMul, decide_true, decide_false, Int.lt_irrefl, Nat.beq_eq, Option.map_some, Option.map_none, List.contains_cons, List.contains_nil, Bool.or_true, Bool.true_or, Bool.or_false, Bool.false_or, Bool.not_true, Bool.not_false, Bool.and_self, List.elem_nil, List.all_nil, List.all_cons, Bool.and_true, Bool.true_and, true_and, and_true, List.map_cons, List.map_nil, List.nil_append, List.cons_append, List.append_nil, Nat.zero_add, Nat.add_zero, List.drop_succ_cons, List.drop_zero, List.take_succ_cons, List.take_zero, List.getElem?_cons_zero, List.getElem?_cons_succ, List.length_cons, List.length_nil, wf6, hk])) ?_
  rintro _ Y ⟨rfl, wY, sY, kY⟩
  have gY0 : Y.get 0 = some (.row false [I64 p.ep, I64 p.seq, I64 p.ack, o]) := by rw [kY 0 z6]; exact g06
  have qe3 : decide (c = c) = true := decide_eq_true rfl
  have ck1 := fun M => pk_check (fuel := 100000) (d := 18) hp0 (by omega) M
  have ck2 := fun M => rcheck_run (fuel := 100000) (d := 17) hp0 M
  generalize (if p.may = true then (0 : Int) else 8) = ck at *
  have qe4 : decide (ck = ck) = true := decide_eq_true rfl
  have zY : 0 < Y.size := by omega
  have bsb := fun M => Sl.b2s h1 M
  have RLo := rows_lt s5.rl (show M5.size ≤ Y.size by omega)
  have bsY : ∀ A : Mem, b2sO (A.bk Y) own = some (STR bb, A.bk Y) := fun A => bs6 _ fun j h => by
    have := hown j h
    rw [bk_get, kY j (by omega)]
  have qe5 : decide (bb = bb) = true := decide_eq_true rfl
  simp (maxSteps := 2000000) (disch := first | omega | assumption | (simp only [add_size, upd_size, mem0_size, List.length_cons, List.length_nil, wf_add, wf_upd, wf_mem0, lo_wf, bk_wf, lo_size, bk_size, List.all_cons, List.all_nil, one_sc_int, one_sc_bool, one_sc_string, one_sc_slice, one_sc_ptr, one_ptr, one_sl, one_pv, one_cp, one_fn, Bool.and_true, Nat.reduceAdd, *]; done) | (simp only [add_size, upd_size, mem0_size, lo_size, bk_size, List.length_cons, List.length_nil]; omega)) only [RUN, footA, feetIn, resultsA, tupOf, frzL, slot, lay, icyL, fillA, repCells, kR, reduceIte, Nat.reduceEqDiff, Nat.reduceBEq, Nat.reduceLT, Nat.reduceAdd, Nat.reduceLeDiff, Nat.reduceSub, Nat.reduceMul, Int.reduceLT, Int.reduceLE, Int.reduceEq, Int.reduceAdd, Int.reduceSub, Int.reduceMul, decide_true, decide_false, Int.lt_irrefl, Nat.beq_eq, Option.map_some, Option.map_none, List.contains_cons, List.contains_nil, Bool.or_true, Bool.true_or, Bool.or_false, Bool.false_or, Bool.not_true, Bool.not_false, Bool.and_self, List.elem_nil, List.all_nil, List.all_cons, Bool.and_true, Bool.true_and, true_and, and_true, List.map_cons, List.map_nil, List.nil_append, List.cons_append, List.append_nil, Nat.zero_add, Nat.add_zero, List.drop_succ_cons, List.drop_zero, List.take_succ_cons, List.take_zero, List.getElem?_cons_zero, List.getElem?_cons_succ, List.length_cons, List.length_nil, x0, x1, r1, ro, gY0, qe3, ck1, ck2, qe4, zY, bsb, RLo, bsY, qe5, apart2_pure]
end Go.Proofs.Ytbemomagabjbnaa.linkWraps
