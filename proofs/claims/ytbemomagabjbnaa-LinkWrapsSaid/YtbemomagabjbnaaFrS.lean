/-
  link: Unwrap.
-/
import Derived.Test.YtbemomagabjbnaaFrR
set_option linter.unusedSimpArgs false
set_option linter.unusedVariables false
set_option maxRecDepth 100000
namespace Go.Proofs.Ytbemomagabjbnaa
open Go Go.Ax
variable {fuel : Nat} {M : Mem} {Q : AV → Mem → Prop} {d : Nat}

def pkOf (x : List UInt8) : Pk := ⟨dec (x.take 4), dec ((x.drop 4).take 3), dec ((x.drop 7).take 3), x.drop 10⟩
def pk0 : Pk := ⟨0, 0, 0, []⟩
def unwrapB (x : List UInt8) : Pk × Int := if x.length < 10 then (pk0, 90) else if (pkOf x).may then (pkOf x, 0) else (pk0, 90)
def unwrapM (b : List UInt8) : Pk × Int := match openL b with
  | none => (pk0, 80)
  | some x => unwrapB x
theorem isPk0 : IsPk (.agg [I64 0, I64 0, I64 0, NIL]) pk0 := ⟨NIL, rfl, .inl ⟨rfl, rfl⟩⟩

set_option maxHeartbeats 8000000 in
theorem unwrap_run {a : AV} {l : List UInt8} (hS : Bs a l) (hl : l.length + 5000 < fuel) (hl2 : l.length ≤ 1000000000) : ∃ r, IsPk r (unwrapM l).1 ∧ ∀ M, callN Try.prog (fsT tbl) fuel (d + 6) (.fn 17) [a] M = some (.tup [r, I64 (unwrapM l).2], M) := by
  have ic : ∀ M, icyL (icy 12) M [a] = some ([a], M) := fun M => by simp (maxSteps := 2000000) (disch := first | omega | assumption | (simp only [add_size, upd_size, mem0_size, List.length_cons, List.length_nil, wf_add, wf_upd, wf_mem0, lo_wf, bk_wf, lo_size, bk_size, List.all_cons, List.all_nil, one_sc_int, one_sc_bool, one_sc_string, one_sc_slice, one_sc_ptr, one_ptr, one_sl, one_pv, one_cp, one_fn, Bool.and_true, Nat.reduceAdd, *]; done) | (simp only [add_size, upd_size, mem0_size, lo_size, bk_size, List.length_cons, List.length_nil]; omega)) only [RUN, footA, feetIn, resultsA, tupOf, frzL, slot, lay, icyL, fillA, repCells, kR, reduceIte, Nat.reduceEqDiff, Nat.reduceBEq, Nat.reduceLT, Nat.reduceAdd, Nat.reduceLeDiff, Nat.reduceSub, Nat.reduceMul, Int.reduceLT, Int.reduceLE, Int.reduceEq, Int.reduceAdd, Int.reduceSub, Int.reduceMul, decide_true, decide_false, Int.lt_irrefl, Nat.beq_eq, Option.map_some, Option.map_none, List.contains_cons, List.contains_nil, Bool.or_true, Bool.true_or, Bool.or_false, Bool.false_or, Bool.not_true, Bool.not_false, Bool.and_self, List.elem_nil, List.all_nil, List.all_cons, Bool.and_true, Bool.true_and, true_and, and_true, List.map_cons, List.map_nil, List.nil_append, List.cons_append, List.append_nil, Nat.zero_add, Nat.add_zero, List.drop_succ_cons, List.drop_zero, List.take_succ_cons, List.take_zero, List.getElem?_cons_zero, List.getElem?_cons_succ, List.length_cons, List.length_nil, hS.icy]
  have ra : rowsOf a = [] := hS.rows mem0
  obtain ⟨r1, hb1, hop⟩ := open_run (fuel := fuel) (d := d) hS (by omega) hl2
  have r11 : rowsOf r1 = [] := hb1.rows mem0
  have o11 := hb1.one
  have key : ∃ r, IsPk r (unwrapM l).1 ∧ W3 (callN Try.prog (fsT tbl) fuel (d + 6) (.fn 17) [a] mem0) (fun r' _ => r' = .tup [r, I64 (unwrapM l).2]) := by
    unfold unwrapM
    cases ho : openL l with
    | none =>
      have hc : openC l = 80 := by unfold openC; rw [ho]; rfl
      rw [hc] at hop
      refine ⟨_, isPk0, ?_⟩
      have q1 : decide ((80 : Int) = 0) = false := rfl
      refine call_gc tf17 rfl (ic mem0) (by simp [a17]) fun b ht hx => ?_
      have h0 := hx 0 _ rfl
      clear hx
      simp only [a17, c17] at ht ⊢
      simp (maxSteps := 2000000) (disch := first | omega | assumption | (simp only [add_size, upd_size, mem0_size, List.length_cons, List.length_nil, wf_add, wf_upd, wf_mem0, lo_wf, bk_wf, lo_size, bk_size, List.all_cons, List.all_nil, one_sc_int, one_sc_bool, one_sc_string, one_sc_slice, one_sc_ptr, one_ptr, one_sl, one_pv, one_cp, one_fn, Bool.and_true, Nat.reduceAdd, *]; done) | (simp only [add_size, upd_size, mem0_size, lo_size, bk_size, List.length_cons, List.length_nil]; omega)) only [RUN, footA, feetIn, resultsA, tupOf, frzL, slot, lay, icyL, fillA, repCells, kR, reduceIte, Nat.reduceEqDiff, Nat.reduceBEq, Nat.reduceLT, Nat.reduceAdd, Nat.reduceLeDiff, Nat.reduceSub, Nat.reduceMul, Int.reduceLT, Int.reduceLE, Int.reduceEq, Int.reduceAdd, Int.reduceSub, Int.reduceMul, decide_true, decide_false, Int.lt_irrefl, Nat.beq_eq, Option.map_some, Option.map_none, List.contains_cons, List.contains_nil, Bool.or_true, Bool.true_or, Bool.or_false, Bool.false_or, Bool.not_true, Bool.not_false, Bool.and_self, List.elem_nil, List.all_nil, List.all_cons, Bool.and_true, Bool.true_and, true_and, and_true, List.map_cons, List.map_nil, List.nil_append, List.cons_append, List.append_nil, Nat.zero_add, Nat.add_zero, List.drop_succ_cons, List.drop_zero, List.take_succ_cons, List.take_zero, List.getElem?_cons_zero, List.getElem?_cons_succ, List.length_cons, List.length_nil, h0, hop, ra, r11, q1]
    | some x =>
      have hc : openC l = 0 := by unfold openC; rw [ho]; rfl
      have hx0 : openB l = x := by unfold openB; rw [ho]; rfl
      have hx1000 := (openL_some ho).1
      rw [hc] at hop
      rw [hx0] at hb1
      have q1 : decide ((0 : Int) = 0) = true := rfl
      have hlen := hb1.len
      simp only
      unfold unwrapB
      by_cases h10 : x.length < 10
      · rw [if_pos h10]
        refine ⟨_, isPk0, ?_⟩
        have q2 : decide ((x.length : Int) < 10) = true := decide_eq_true (by omega)
        refine call_gc tf17 rfl (ic mem0) (by simp [a17]) fun b ht hx => ?_
        have h0 := hx 0 _ rfl
        clear hx
        simp only [a17, c17] at ht ⊢
        simp (maxSteps := 2000000) (disch := first | omega | assumption | (simp only [add_size, upd_size, mem0_size, List.length_cons, List.length_nil, wf_add, wf_upd, wf_mem0, lo_wf, bk_wf, lo_size, bk_size, List.all_cons, List.all_nil, one_sc_int, one_sc_bool, one_sc_string, one_sc_slice, one_sc_ptr, one_ptr, one_sl, one_pv, one_cp, one_fn, Bool.and_true, Nat.reduceAdd, *]; done) | (simp only [add_size, upd_size, mem0_size, lo_size, bk_size, List.length_cons, List.length_nil]; omega)) only [RUN, footA, feetIn, resultsA, tupOf, frzL, slot, lay, icyL, fillA, repCells, kR, reduceIte, Nat.reduceEqDiff, Nat.reduceBEq, Nat.reduceLT, Nat.reduceAdd, Nat.reduceLeDiff, Nat.reduceSub, Nat.reduceMul, Int.reduceLT, Int.reduceLE, Int.reduceEq, Int.reduceAdd, Int.reduceSub, Int.reduceMul, decide_true, decide_false, Int.lt_irrefl, Nat.beq_eq, Option.map_some, Option.map_none, List.contains_cons, List.contains_nil, Bool.or_true, Bool.true_or, Bool.or_false, Bool.false_or, Bool.not_true, Bool.not_false, Bool.and_self, List.elem_nil, List.all_nil, List.all_cons, Bool.and_true, Bool.true_and, true_and, and_true, List.map_cons, List.map_nil, List.nil_append, List.cons_append, List.append_nil, Nat.zero_add, Nat.add_zero, List.drop_succ_cons, List.drop_zero, List.take_succ_cons, List.take_zero, List.getElem?_cons_zero, List.getElem?_cons_succ, List.length_cons, List.length_nil, h0, hop, ra, r11, q1, hlen, q2]
      rw [if_neg h10]
      have q2 : decide ((x.length : Int) < 10) = false := decide_eq_false (by omega)
      obtain ⟨x1, hc1, hx1⟩ := cut_to hb1 (j := 4) (by omega)
      replace hc1 : ∀ M, slcO M 1 r1 none (some (I64 4)) none = some (x1, M) := hc1
      obtain ⟨x2, hc2, hx2⟩ := cut_at hb1 (i := 4) (j := 7) (by omega) (by omega)
      replace hc2 : ∀ M, slcO M 1 r1 (some (I64 4)) (some (I64 7)) none = some (x2, M) := hc2
      obtain ⟨x3, hc3, hx3⟩ := cut_at hb1 (i := 7) (j := 10) (by omega) (by omega)
      replace hc3 : ∀ M, slcO M 1 r1 (some (I64 7)) (some (I64 10)) none = some (x3, M) := hc3
      obtain ⟨x4, hc4, hx4⟩ := cut_from hb1 (i := 10) (by omega)
      replace hc4 : ∀ M, slcO M 1 r1 (some (I64 10)) none none = some (x4, M) := hc4
      obtain ⟨x5, hx5, hcl⟩ := fclone_run (fuel := fuel) (d := d + 4) hx4 (by simp; omega)
      have rd1 := fun M => read_run (fuel := fuel) (d := d + 4) hx1 (by simp; omega) (by omega) M
      have rd2 := fun M => read_run (fuel := fuel) (d := d + 4) hx2 (by simp; omega) (by omega) M
      have rd3 := fun M => read_run (fuel := fuel) (d := d + 4) hx3 (by simp; omega) (by omega) M
      have k1 : rowsOf x1 = [] := hx1.rows mem0
      have k2 : rowsOf x2 = [] := hx2.rows mem0
      have k3 : rowsOf x3 = [] := hx3.rows mem0
      have k4 : rowsOf x4 = [] := hx4.rows mem0
      have k5 : rowsOf x5 = [] := hx5.rows mem0
      have m5 := hx5.one
      have hpk : IsPk (.agg [I64 (pkOf x).ep, I64 (pkOf x).seq, I64 (pkOf x).ack, x5]) (pkOf x) := ⟨x5, rfl, hx5⟩
      have hck := fun M => pk_check (fuel := fuel) (d := d + 3) hpk (by simp [pkOf]; omega) M
      have f5 := fun M => hx5.frz M 0 11 (by omega)
      have e1 : I64 (dec (x.take 4)) = I64 (pkOf x).ep := rfl
      have e2 : I64 (dec ((x.drop 4).take (7 - 4))) = I64 (pkOf x).seq := rfl
      have e3 : I64 (dec ((x.drop 7).take (10 - 7))) = I64 (pkOf x).ack := rfl
      rw [e1] at rd1
      rw [e2] at rd2
      rw [e3] at rd3
      generalize pkOf x = p at *
      cases hm : p.may with
      | false =>
        rw [hm] at hck
        rw [if_neg (by simp)]
        refine ⟨_, isPk0, ?_⟩
        replace hck : ∀ M, callN Try.prog (fsT tbl) fuel (d + 5) (.fn 20) [.agg [I64 p.ep, I64 p.seq, I64 p.ack, x5]] M = some (I64 8, M) := hck
        have q3 : decide ((8 : Int) = 0) = false := rfl
        refine call_gc tf17 rfl (ic mem0) (by simp [a17]) fun b ht hx => ?_
        have h0 := hx 0 _ rfl
        clear hx
        simp only [a17, c17] at ht ⊢
        simp (maxSteps := 2000000) (disch := first | omega | assumption | (simp only [add_size, upd_size, mem0_size, List.length_cons, List.length_nil, wf_add, wf_upd, wf_mem0, lo_wf, bk_wf, lo_size, bk_size, List.all_cons, List.all_nil, one_sc_int, one_sc_bool, one_sc_string, one_sc_slice, one_sc_ptr, one_ptr, one_sl, one_pv, one_cp, one_fn, Bool.and_true, Nat.reduceAdd, *]; done) | (simp only [add_size, upd_size, mem0_size, lo_size, bk_size, List.length_cons, List.length_nil]; omega)) only [RUN, footA, feetIn, resultsA, tupOf, frzL, slot, lay, icyL, fillA, repCells, kR, reduceIte, Nat.reduceEqDiff, Nat.reduceBEq, Nat.reduceLT, Nat.reduceAdd, Nat.reduceLeDiff, Nat.reduceSub, Nat.reduceMul, Int.reduceLT, Int.reduceLE, Int.reduceEq, Int.reduceAdd, Int.reduceSub, Int.reduceMul, decide_true, decide_false, Int.lt_irrefl, Nat.beq_eq, Option.map_some, Option.map_none, List.contains_cons, List.contains_nil, Bool.or_true, Bool.true_or, Bool.or_false, Bool.false_or, Bool.not_true, Bool.not_false, Bool.and_self, List.elem_nil, List.all_nil, List.all_cons, Bool.and_true, Bool.true_and, true_and, and_true, List.map_cons, List.map_nil, List.nil_append, List.cons_append, List.append_nil, Nat.zero_add, Nat.add_zero, List.drop_succ_cons, List.drop_zero, List.take_succ_cons, List.take_zero, List.getElem?_cons_zero, List.getElem?_cons_succ, List.length_cons, List.length_nil, h0, hop, ra, r11, q1, hlen, q2, hc1, hc2, hc3, hc4, hcl, rd1, rd2, rd3, k1, k2, k3, k4, k5, m5, hx5.cells, hck, q3]
      | true =>
        rw [hm] at hck
        rw [if_pos rfl]
        refine ⟨_, hpk, ?_⟩
        replace hck : ∀ M, callN Try.prog (fsT tbl) fuel (d + 5) (.fn 20) [.agg [I64 p.ep, I64 p.seq, I64 p.ack, x5]] M = some (I64 0, M) := hck
        refine call_gc tf17 rfl (ic mem0) (by simp [a17]) fun b ht hx => ?_
        have h0 := hx 0 _ rfl
        clear hx
        simp only [a17, c17] at ht ⊢
        simp (maxSteps := 2000000) (disch := first | omega | assumption | (simp only [add_size, upd_size, mem0_size, List.length_cons, List.length_nil, wf_add, wf_upd, wf_mem0, lo_wf, bk_wf, lo_size, bk_size, List.all_cons, List.all_nil, one_sc_int, one_sc_bool, one_sc_string, one_sc_slice, one_sc_ptr, one_ptr, one_sl, one_pv, one_cp, one_fn, Bool.and_true, Nat.reduceAdd, *]; done) | (simp only [add_size, upd_size, mem0_size, lo_size, bk_size, List.length_cons, List.length_nil]; omega)) only [RUN, footA, feetIn, resultsA, tupOf, frzL, slot, lay, icyL, fillA, repCells, kR, reduceIte, Nat.reduceEqDiff, Nat.reduceBEq, Nat.reduceLT, Nat.reduceAdd, Nat.reduceLeDiff, Nat.reduceSub, Nat.reduceMul, Int.reduceLT, Int.reduceLE, Int.reduceEq, Int.reduceAdd, Int.reduceSub, Int.reduceMul, decide_true, decide_false, Int.lt_irrefl, Nat.beq_eq, Option.map_some, Option.map_none, List.contains_cons, List.contains_nil, Bool.or_true, Bool.true_or, Bool.or_false, Bool.false_or, Bool.not_true, Bool.not_false, Bool.and_self, List.elem_nil, List.all_nil, List.all_cons, Bool.and_true, Bool.true_and, true_and, and_true, List.map_cons, List.map_nil, List.nil_append, List.cons_append, List.append_nil, Nat.zero_add, Nat.add_zero, List.drop_succ_cons, List.drop_zero, List.take_succ_cons, List.take_zero, List.getElem?_cons_zero, List.getElem?_cons_succ, List.length_cons, List.length_nil, h0, hop, ra, r11, q1, hlen, q2, hc1, hc2, hc3, hc4, hcl, rd1, rd2, rd3, k1, k2, k3, k4, k5, m5, hx5.cells, hck, f5]
  obtain ⟨r, hr, r', N, hk, rfl⟩ := key
  exact ⟨r, hr, fun M => call_own tf17 rfl hk (ic mem0) (ic M)⟩
end Go.Proofs.Ytbemomagabjbnaa
