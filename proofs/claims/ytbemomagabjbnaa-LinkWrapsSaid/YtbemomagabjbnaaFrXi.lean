/-
  The reference: Unwrap.
-/
import Derived.Test.YtbemomagabjbnaaFrXh
set_option linter.unusedSimpArgs false
set_option linter.unusedVariables false
set_option maxRecDepth 100000
namespace Go.Proofs.Ytbemomagabjbnaa
open Go Go.Ax
variable {fuel : Nat} {M : Mem} {Q : AV → Mem → Prop} {d : Nat}

theorem hand_pk {N : Mem} {x5 : AV} {l : List UInt8} (wf : Wf N) (h : SlM N 1 isU8 x5 l) (e s k : Int) : ∃ a6 N6, icyL (icy 12) N [.agg [I64 e, I64 s, I64 k, x5]] = some ([.agg [I64 e, I64 s, I64 k, a6]], N6) ∧ Bs a6 l ∧ Wf N6 ∧ N6.size = N.size ∧ (∀ j, rowOf x5 ≠ some j → N6.get j = N.get j) ∧ (∀ N7, (∀ j, rowOf x5 = some j → N7.get j = N6.get j) → frz N7 0 11 x5 = some a6) := by
  obtain ⟨a6, N6, i6, b6, wf6, sz6, kp6, fz⟩ : ∃ a6 N6, icy 11 N x5 = some (a6, N6) ∧ Bs a6 l ∧ Wf N6 ∧ N6.size = N.size ∧ (∀ j, rowOf x5 ≠ some j → N6.get j = N.get j) ∧ (∀ N7, (∀ j, rowOf x5 = some j → N7.get j = N6.get j) → frz N7 0 11 x5 = some a6) := by
    rcases slm_form h with ⟨rfl, h0⟩ | ⟨id, cap, rfl, hcap, hg3⟩
    · exact ⟨NIL, N, icy_sc _ (by omega), .inl ⟨rfl, h0⟩, wf, rfl, fun _ _ => rfl, fun _ _ => frz_sc _ (by omega)⟩
    · have hid := Mem.get_lt hg3
      refine ⟨.pv (u8s l) l.length cap 1, N.upd id (.fro (u8s l)), icy_row (k := 10) (n := l.length) (st := 1) hg3 (by rw [u8s_len]; omega) (by rw [u8s_len]; omega) (u8s_icy l (by omega) _) hg3 wf hid, bs_pv _ _ rfl, wf.upd _ _, upd_size _ _ _, fun j hj => get_upd_ne wf _ _ _ (fun e => hj (by rw [← e]; rfl)), fun N7 h7 => ?_⟩
      have q := frz_sl (M := N7) (k := 11) (off := 0) (n := l.length) (st := 1) (cap := cap) (cs := u8s l) (by rw [rd_get, h7 id rfl, get_upd_eq wf _ _ hid, rd1_fro]) (by rw [u8s_len]; omega) (by omega) (by
        intro x hx
        obtain ⟨y, _, rfl⟩ := List.mem_map.1 hx
        exact frz_sc _ (by omega))
      rw [q, slot_all _ _ (by rw [u8s_len]; omega)]
  refine ⟨a6, N6, ?_, b6, wf6, sz6, kp6, fz⟩
  simp (maxSteps := 2000000) (disch := first | omega | assumption | (simp only [add_size, upd_size, mem0_size, List.length_cons, List.length_nil, wf_add, wf_upd, wf_mem0, lo_wf, bk_wf, lo_size, bk_size, List.all_cons, List.all_nil, one_sc_int, one_sc_bool, one_sc_string, one_sc_slice, one_sc_ptr, one_ptr, one_sl, one_pv, one_cp, one_fn, Bool.and_true, Nat.reduceAdd, *]; done) | (simp only [add_size, upd_size, mem0_size, lo_size, bk_size, List.length_cons, List.length_nil]; omega)) only [RUN, footA, feetIn, resultsA, tupOf, frzL, slot, lay, icyL, fillA, repCells, kR, reduceIte, Nat.reduceEqDiff, Nat.reduceBEq, Nat.reduceLT, Nat.reduceAdd, Nat.reduceLeDiff, Nat.reduceSub, Nat.reduceMul, Int.reduceLT, Int.reduceLE, Int.reduceEq, Int.reduceAdd, Int.reduceSub, Int.reduceMul, decide_true, decide_false, Int.lt_irrefl, Nat.beq_eq, Option.map_some, Option.map_none, List.contains_cons, List.contains_nil, Bool.or_true, Bool.true_or, Bool.or_false, Bool.false_or, Bool.not_true, Bool.not_false, Bool.and_self, List.elem_nil, List.all_nil, List.all_cons, Bool.and_true, Bool.true_and, true_and, and_true, List.map_cons, List.map_nil, List.nil_append, List.cons_append, List.append_nil, Nat.zero_add, Nat.add_zero, List.drop_succ_cons, List.drop_zero, List.take_succ_cons, List.take_zero, List.getElem?_cons_zero, List.getElem?_cons_succ, List.length_cons, List.length_nil, i6]

set_option maxHeartbeats 8000000 in
theorem runwrap_run {a : AV} {l : List UInt8} (hS : Bs a l) (hl : l.length + 5000 < fuel) (hl2 : l.length ≤ 1000000000) : ∃ r, IsPk r (unwrapM l).1 ∧ ∀ M, callN Try.prog (fsT tbl) fuel (d + 6) (.fn 18) [a] M = some (.tup [r, I64 (unwrapM l).2], M) := by
  have ic : ∀ M, icyL (icy 12) M [a] = some ([a], M) := fun M => by simp (maxSteps := 2000000) (disch := first | omega | assumption | (simp only [add_size, upd_size, mem0_size, List.length_cons, List.length_nil, wf_add, wf_upd, wf_mem0, lo_wf, bk_wf, lo_size, bk_size, List.all_cons, List.all_nil, one_sc_int, one_sc_bool, one_sc_string, one_sc_slice, one_sc_ptr, one_ptr, one_sl, one_pv, one_cp, one_fn, Bool.and_true, Nat.reduceAdd, *]; done) | (simp only [add_size, upd_size, mem0_size, lo_size, bk_size, List.length_cons, List.length_nil]; omega)) only [RUN, footA, feetIn, resultsA, tupOf, frzL, slot, lay, icyL, fillA, repCells, kR, reduceIte, Nat.reduceEqDiff, Nat.reduceBEq, Nat.reduceLT, Nat.reduceAdd, Nat.reduceLeDiff, Nat.reduceSub, Nat.reduceMul, Int.reduceLT, Int.reduceLE, Int.reduceEq, Int.reduceAdd, Int.reduceSub, Int.reduceMul, decide_true, decide_false, Int.lt_irrefl, Nat.beq_eq, Option.map_some, Option.map_none, List.contains_cons, List.contains_nil, Bool.or_true, Bool.true_or, Bool.or_false, Bool.false_or, Bool.not_true, Bool.not_false, Bool.and_self, List.elem_nil, List.all_nil, List.all_cons, Bool.and_true, Bool.true_and, true_and, and_true, List.map_cons, List.map_nil, List.nil_append, List.cons_append, List.append_nil, Nat.zero_add, Nat.add_zero, List.drop_succ_cons, List.drop_zero, List.take_succ_cons, List.take_zero, List.getElem?_cons_zero, List.getElem?_cons_succ, List.length_cons, List.length_nil, hS.icy]
  have ra : rowsOf a = [] := hS.rows mem0
  obtain ⟨r1, hb1, hop⟩ := ropen_run (fuel := fuel) (d := d + 1) hS (by omega) hl2
  have r11 : rowsOf r1 = [] := hb1.rows mem0
  have o11 := hb1.one
  have key : ∃ r, IsPk r (unwrapM l).1 ∧ W3 (callN Try.prog (fsT tbl) fuel (d + 6) (.fn 18) [a] mem0) (fun r' _ => r' = .tup [r, I64 (unwrapM l).2]) := by
    unfold unwrapM
    cases ho : openL l with
    | none =>
      have hc : openC l = 80 := by unfold openC; rw [ho]; rfl
      rw [hc] at hop
      refine ⟨_, isPk0, ?_⟩
      have q1 : decide ((80 : Int) = 0) = false := rfl
      refine call_gc tf18 rfl (ic mem0) (by simp [a18]) fun b ht hx => ?_
      have h0 := hx 0 _ rfl
      clear hx
      simp only [a18, c18] at ht ⊢
      simp (maxSteps := 2000000) (disch := first | omega | assumption | (simp only [add_size, upd_size, mem0_size, List.length_cons, List.length_nil, wf_add, wf_upd, wf_mem0, lo_wf, bk_wf, lo_size, bk_size, List.all_cons, List.all_nil, one_sc_int, one_sc_bool, one_sc_string, one_sc_slice, one_sc_ptr, one_ptr, one_sl, one_pv, one_cp, one_fn, Bool.and_true, Nat.reduceAdd, *]; done) | (simp only [add_size, upd_size, mem0_size, lo_size, bk_size, List.length_cons, List.length_nil]; omega)) only [RUN, footA, feetIn, resultsA, tupOf, frzL, slot, lay, icyL, fillA, repCells, kR, reduceIte, Nat.reduceEqDiff, Nat.reduceBEq, Nat.reduceLT, Nat.reduceAdd, Nat.reduceLeDiff, Nat.reduceSub, Nat.reduceMul, Int.reduceLT, Int.reduceLE, Int.reduceEq, Int.reduceAdd, Int.reduceSub, Int.reduceMul, decide_true, decide_false, Int.lt_irrefl, Nat.beq_eq, Option.map_some, Option.map_none, List.contains_cons, List.contains_nil, Bool.or_true, Bool.true_or, Bool.or_false, Bool.false_or, Bool.not_true, Bool.not_false, Bool.and_self, List.elem_nil, List.all_nil, List.all_cons, Bool.and_true, Bool.true_and, true_and, and_true, List.map_cons, List.map_nil, List.nil_append, List.cons_append, List.append_nil, Nat.zero_add, Nat.add_zero, List.drop_succ_cons, List.drop_zero, List.take_succ_cons, List.take_zero, List.getElem?_cons_zero, List.getElem?_cons_succ, List.length_cons, List.length_nil, h0, hop, ra, r11, q1]
    | some x =>
      have hc : openC l = 0 := by unfold openC; rw [ho]; rfl
      have hx0 : openB l = x := by unfold openB; rw [ho]; rfl
      have hx1000 := (openL_some ho).1
      rw [hc] at hop
      rw [hx0] at hb1
      have q1 : decide ((0 : Int) = 0) = true := rfl
      have hlen := hb1.len
      simp only
      unfold unwrapB
      by_cases h10 : x.length < 10
      · rw [if_pos h10]
        refine ⟨_, isPk0, ?_⟩
        have q2 : decide ((x.length : Int) < 10) = true := decide_eq_true (by omega)
        refine call_gc tf18 rfl (ic mem0) (by simp [a18]) fun b ht hx => ?_
        have h0 := hx 0 _ rfl
        clear hx
        simp only [a18, c18] at ht ⊢
        simp (maxSteps := 2000000) (disch := first | omega | assumption | (simp only [add_size, upd_size, mem0_size, List.length_cons, List.length_nil, wf_add, wf_upd, wf_mem0, lo_wf, bk_wf, lo_size, bk_size, List.all_cons, List.all_nil, one_sc_int, one_sc_bool, one_sc_string, one_sc_slice, one_sc_ptr, one_ptr, one_sl, one_pv, one_cp, one_fn, Bool.and_true, Nat.reduceAdd, *]; done) | (simp only [add_size, upd_size, mem0_size, lo_size, bk_size, List.length_cons, List.length_nil]; omega)) only [RUN, footA, feetIn, resultsA, tupOf, frzL, slot, lay, icyL, fillA, repCells, kR, reduceIte, Nat.reduceEqDiff, Nat.reduceBEq, Nat.reduceLT, Nat.reduceAdd, Nat.reduceLeDiff, Nat.reduceSub, Nat.reduceMul, Int.reduceLT, Int.reduceLE, Int.reduceEq, Int.reduceAdd, Int.reduceSub, Int.reduceMul, decide_true, decide_false, Int.lt_irrefl, Nat.beq_eq, Option.map_some, Option.map_none, List.contains_cons, List.contains_nil, Bool.or_true, Bool.true_or, Bool.or_false, Bool.false_or, Bool.not_true, Bool.not_false, Bool.and_self, List.elem_nil, List.all_nil, List.all_cons, Bool.and_true, Bool.true_and, true_and, and_true, List.map_cons, List.map_nil, List.nil_append, List.cons_append, List.append_nil, Nat.zero_add, Nat.add_zero, List.drop_succ_cons, List.drop_zero, List.take_succ_cons, List.take_zero, List.getElem?_cons_zero, List.getElem?_cons_succ, List.length_cons, List.length_nil, h0, hop, ra, r11, q1, hlen, q2]
      rw [if_neg h10]
      have q2 : decide ((x.length : Int) < 10) = false := decide_eq_false (by omega)
      obtain ⟨x1, hc1, hx1⟩ := cut_to hb1 (j := 4) (by omega)
      replace hc1 : ∀ M, slcO M 1 r1 none (some (I64 4)) none = some (x1, M) := hc1
      obtain ⟨x2, hc2, hx2⟩ := cut_at hb1 (i := 4) (j := 7) (by omega) (by omega)
      replace hc2 : ∀ M, slcO M 1 r1 (some (I64 4)) (some (I64 7)) none = some (x2, M) := hc2
      obtain ⟨x3, hc3, hx3⟩ := cut_at hb1 (i := 7) (j := 10) (by omega) (by omega)
      replace hc3 : ∀ M, slcO M 1 r1 (some (I64 7)) (some (I64 10)) none = some (x3, M) := hc3
      obtain ⟨x4, hc4, hx4⟩ := cut_from hb1 (i := 10) (by omega)
      replace hc4 : ∀ M, slcO M 1 r1 (some (I64 10)) none none = some (x4, M) := hc4
      obtain ⟨rows, oo1, oo2, oo3, oo4⟩ := hx4.open
      have rd1 := fun M => rnumber_run (fuel := fuel) (d := d + 4) hx1 (by simp; omega) (by omega) M
      have rd2 := fun M => rnumber_run (fuel := fuel) (d := d + 4) hx2 (by simp; omega) (by omega) M
      have rd3 := fun M => rnumber_run (fuel := fuel) (d := d + 4) hx3 (by simp; omega) (by omega) M
      have k1 : rowsOf x1 = [] := hx1.rows mem0
      have k2 : rowsOf x2 = [] := hx2.rows mem0
      have k3 : rowsOf x3 = [] := hx3.rows mem0
      have k4 : rowsOf x4 = [] := hx4.rows mem0
      have wX1 : Wf (mem0.add (.row false [I64 0, I64 0, I64 0, NIL])) := Wf.mem0.add _
      have gX1 : (mem0.add (.row false [I64 0, I64 0, I64 0, NIL])).get 0 = some (.row false [I64 0, I64 0, I64 0, NIL]) := get_add_new Wf.mem0 _ _ (Nat.le_refl _) (by rw [mem0_size]; omega)
      have sX1 : (mem0.add (.row false [I64 0, I64 0, I64 0, NIL])).size = 1 := by rw [add_size, mem0_size]
      have hnil : SlM (mem0.add (.row false [I64 0, I64 0, I64 0, NIL])) 1 isU8 NIL ([] : List UInt8) := SlM.nil
      have hxd : (x.drop 10).length ≤ 1000 := by simp; omega
      obtain ⟨x5, M5, e5, s5, wf5, le5, _, kp5, new5, _⟩ := hnil.appO wX1 (oo1 _) oo2 oo3 oo4 (cel_U8.all oo3) (by omega) (bytes := 1) (by simp; omega) (by simp; omega)
      rw [List.nil_append] at s5
      have g50 : M5.get 0 = some (.row false [I64 0, I64 0, I64 0, NIL]) := by rw [kp5 0 (by omega) (by simp [rowOf])]; exact gX1
      have hx5 : ∀ id, rowOf x5 = some id → 1 ≤ id ∧ id < M5.size := fun id h => ⟨by
        rcases new5 id h with h' | h'
        · cases h'
        · omega, s5.lt id h⟩
      have m5 := s5.one
      have c5 := s5.cells
      have e1 : I64 (dec (x.take 4)) = I64 (pkOf x).ep := rfl
      have e2 : I64 (dec ((x.drop 4).take (7 - 4))) = I64 (pkOf x).seq := rfl
      have e3 : I64 (dec ((x.drop 7).take (10 - 7))) = I64 (pkOf x).ack := rfl
      have e4 : x.drop 10 = (pkOf x).body := rfl
      rw [e1] at rd1
      rw [e2] at rd2
      rw [e3] at rd3
      rw [e4] at s5
      generalize pkOf x = p at *
      have wX6 : Wf ((M5.add (.row false [I64 0, I64 0, I64 0, NIL])).upd M5.size (.row false [I64 p.ep, I64 p.seq, I64 p.ack, x5])) := (wf5.add _).upd _ _
      have sX6 : ((M5.add (.row false [I64 0, I64 0, I64 0, NIL])).upd M5.size (.row false [I64 p.ep, I64 p.seq, I64 p.ack, x5])).size = M5.size + 1 := by rw [upd_size, add_size]
      have s6 : SlM ((M5.add (.row false [I64 0, I64 0, I64 0, NIL])).upd M5.size (.row false [I64 p.ep, I64 p.seq, I64 p.ack, x5])) 1 isU8 x5 p.body := s5.keep fun id h => by
        have := hx5 id h
        rw [get_upd_ne (wf5.add _) _ _ _ (by omega), get_add wf5 _ _ (by omega)]
      have gp : ((M5.add (.row false [I64 0, I64 0, I64 0, NIL])).upd M5.size (.row false [I64 p.ep, I64 p.seq, I64 p.ack, x5])).get M5.size = some (.row false [I64 p.ep, I64 p.seq, I64 p.ack, x5]) := get_upd_eq (wf5.add _) _ _ (by rw [add_size]; omega)
      have g0 : ((M5.add (.row false [I64 0, I64 0, I64 0, NIL])).upd M5.size (.row false [I64 p.ep, I64 p.seq, I64 p.ack, x5])).get 0 = some (.row false [I64 0, I64 0, I64 0, NIL]) := by
        rw [get_upd_ne (wf5.add _) _ _ _ (by omega), get_add wf5 _ _ (by omega)]; exact g50
      obtain ⟨a6, N6, hi6, hb6, wf6, sz6, kp6, fz6⟩ := hand_pk wX6 s6 p.ep p.seq p.ack
      have gp6 : N6.get M5.size = some (.row false [I64 p.ep, I64 p.seq, I64 p.ack, x5]) := by rw [kp6 _ (fun h => by have := hx5 _ h; omega)]; exact gp
      have g06 : N6.get 0 = some (.row false [I64 0, I64 0, I64 0, NIL]) := by rw [kp6 _ (fun h => by have := hx5 _ h; omega)]; exact g0
      have hpk : IsPk (.agg [I64 p.ep, I64 p.seq, I64 p.ack, a6]) p := ⟨a6, rfl, hb6⟩
      have hmy := rmay_run (fuel := fuel) (d := d + 3) hpk mem0
      have hck := call_own tf34 rfl hmy (M3 := mem0) (hpk.icy mem0) hi6
      have f5 : frz (N6.upd 0 (.row false [I64 p.ep, I64 p.seq, I64 p.ack, x5])) 0 11 x5 = some a6 := fz6 _ fun j h => by
        have := hx5 j h
        rw [get_upd_ne wf6 _ _ _ (by omega)]
      rw [sX6] at sz6
      have ap9 : apart2 (.acc [] []) (fpOf [] [] 1 M5.size, 1, M5.size) = true := by
        unfold apart2
        rw [apart_rf]
        rfl
      have z6 : 0 < N6.size := by omega
      have z7 : M5.size < N6.size := by omega
      have z5 : 0 < M5.size := by omega
      cases hm : p.may with
      | false =>
        rw [hm] at hck
        rw [if_neg (by simp)]
        refine ⟨_, isPk0, ?_⟩
        refine call_gc tf18 rfl (ic mem0) (by simp [a18]) fun b ht hx => ?_
        have h0 := hx 0 _ rfl
        clear hx
        simp only [a18, c18] at ht ⊢
        simp (maxSteps := 2000000) (disch := first | omega | assumption | (simp only [add_size, upd_size, mem0_size, List.length_cons, List.length_nil, wf_add, wf_upd, wf_mem0, lo_wf, bk_wf, lo_size, bk_size, List.all_cons, List.all_nil, one_sc_int, one_sc_bool, one_sc_string, one_sc_slice, one_sc_ptr, one_ptr, one_sl, one_pv, one_cp, one_fn, Bool.and_true, Nat.reduceAdd, *]; done) | (simp only [add_size, upd_size, mem0_size, lo_size, bk_size, List.length_cons, List.length_nil]; omega)) only [RUN, footA, feetIn, resultsA, tupOf, frzL, slot, lay, icyL, fillA, repCells, kR, reduceIte, Nat.reduceEqDiff, Nat.reduceBEq, Nat.reduceLT, Nat.reduceAdd, Nat.reduceLeDiff, Nat.reduceSub, Nat.reduceMul, Int.reduceLT, Int.reduceLE, Int.reduceEq, Int.reduceAdd, Int.reduceSub, Int.reduceMul, decide_true, decide_false, Int.lt_irrefl, Nat.beq_eq, Option.map_some, Option.map_none, List.contains_cons, List.contains_nil, Bool.or_true, Bool.true_or, Bool.or_false, Bool.false_or, Bool.not_true, Bool.not_false, Bool.and_self, List.elem_nil, List.all_nil, List.all_cons, Bool.and_true, Bool.true_and, true_and, and_true, List.map_cons, List.map_nil, List.nil_append, List.cons_append, List.append_nil, Nat.zero_add, Nat.add_zero, List.drop_succ_cons, List.drop_zero, List.take_succ_cons, List.take_zero, List.getElem?_cons_zero, List.getElem?_cons_succ, List.length_cons, List.length_nil, h0, hop, ra, r11, q1, hlen, q2, hc1, hc2, hc3, hc4, rd1, rd2, rd3, k1, k2, k3, k4, e5, m5, c5, hck, gp6, g06, apart2_pure, ap9]
      | true =>
        rw [hm] at hck
        rw [if_pos rfl]
        refine ⟨_, hpk, ?_⟩
        refine call_gc tf18 rfl (ic mem0) (by simp [a18]) fun b ht hx => ?_
        have h0 := hx 0 _ rfl
        clear hx
        simp only [a18, c18] at ht ⊢
        simp (maxSteps := 2000000) (disch := first | omega | assumption | (simp only [add_size, upd_size, mem0_size, List.length_cons, List.length_nil, wf_add, wf_upd, wf_mem0, lo_wf, bk_wf, lo_size, bk_size, List.all_cons, List.all_nil, one_sc_int, one_sc_bool, one_sc_string, one_sc_slice, one_sc_ptr, one_ptr, one_sl, one_pv, one_cp, one_fn, Bool.and_true, Nat.reduceAdd, *]; done) | (simp only [add_size, upd_size, mem0_size, lo_size, bk_size, List.length_cons, List.length_nil]; omega)) only [RUN, footA, feetIn, resultsA, tupOf, frzL, slot, lay, icyL, fillA, repCells, kR, reduceIte, Nat.reduceEqDiff, Nat.reduceBEq, Nat.reduceLT, Nat.reduceAdd, Nat.reduceLeDiff, Nat.reduceSub, Nat.reduceMul, Int.reduceLT, Int.reduceLE, Int.reduceEq, Int.reduceAdd, Int.reduceSub, Int.reduceMul, decide_true, decide_false, Int.lt_irrefl, Nat.beq_eq, Option.map_some, Option.map_none, List.contains_cons, List.contains_nil, Bool.or_true, Bool.true_or, Bool.or_false, Bool.false_or, Bool.not_true, Bool.not_false, Bool.and_self, List.elem_nil, List.all_nil, List.all_cons, Bool.and_true, Bool.true_and, true_and, and_true, List.map_cons, List.map_nil, List.nil_append, List.cons_append, List.append_nil, Nat.zero_add, Nat.add_zero, List.drop_succ_cons, List.drop_zero, List.take_succ_cons, List.take_zero, List.getElem?_cons_zero, List.getElem?_cons_succ, List.length_cons, List.length_nil, h0, hop, ra, r11, q1, hlen, q2, hc1, hc2, hc3, hc4, rd1, rd2, rd3, k1, k2, k3, k4, e5, m5, c5, hck, gp6, g06, f5, apart2_pure, ap9]
  obtain ⟨r, hr, r', N, hk, rfl⟩ := key
  exact ⟨r, hr, fun M => call_own tf18 rfl hk (ic mem0) (ic M)⟩
end Go.Proofs.Ytbemomagabjbnaa
