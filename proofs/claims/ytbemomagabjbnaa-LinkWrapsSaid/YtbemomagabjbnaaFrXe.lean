/-
  The reference: packets' bytes, Wrap, number.
-/
import Derived.Test.YtbemomagabjbnaaFrXd
set_option linter.unusedSimpArgs false
set_option linter.unusedVariables false
set_option maxRecDepth 100000
namespace Go.Proofs.Ytbemomagabjbnaa
open Go Go.Ax
variable {fuel : Nat} {M : Mem} {Q : AV → Mem → Prop} {d : Nat}

def fill6 (t : List AV) (x0 x1 x2 x3 x4 x5 : Operand) (a b c d e f : List AV) : Option (List AV) := match a, b, c, d, e, f with
  | [a], [b], [c], [d], [e], [f] => some [a, b, c, d, e, f]
  | _, _, _, _, _, _ => fillA t (repCells (.int .u8 0) (5 + 1)) [(0, 1, x0), (1, 1, x1), (2, 1, x2), (3, 1, x3), (4, 1, x4), (5, 1, x5)]
theorem fill6_eq (t : List AV) (x0 x1 x2 x3 x4 x5 : Operand) : fillA t (repCells (.int .u8 0) 6) [(0, 1, x0), (1, 1, x1), (2, 1, x2), (3, 1, x3), (4, 1, x4), (5, 1, x5)] = fill6 t x0 x1 x2 x3 x4 x5 (cellsA (evalA t x0)) (cellsA (evalA t x1)) (cellsA (evalA t x2)) (cellsA (evalA t x3)) (cellsA (evalA t x4)) (cellsA (evalA t x5)) := by
  unfold fill6
  split
  · rename_i h0 h1 h2 h3 h4 h5
    simp only [fillA, h0, h1, h2, h3, h4, h5]
    rfl
  · rfl
theorem fill6_one (t : List AV) (x0 x1 x2 x3 x4 x5 : Operand) (a b c d e f : AV) : fill6 t x0 x1 x2 x3 x4 x5 [a] [b] [c] [d] [e] [f] = some [a, b, c, d, e, f] := rfl
set_option maxHeartbeats 8000000 in
theorem rbytes_run {a : AV} {p : Pk} (h : IsPk a p) (hm : p.may = true) (hf : 5000 < fuel) : ∃ r, Bs r p.bytes ∧ ∀ M, callN Try.prog (fsT tbl) fuel (d + 1) (.fn 36) [a] M = some (r, M) := by
  have ic := h.icy
  have hmm := p.may_iff.1 hm
  obtain ⟨o, rfl, hb⟩ := h
  have hlen := hb.len
  have ro := hb.rows mem0
  have o1 := hb.one
  obtain ⟨e, he⟩ : ∃ e : Nat, p.ep = e := ⟨p.ep.toNat, by omega⟩
  obtain ⟨s, hs⟩ : ∃ e : Nat, p.seq = e := ⟨p.seq.toNat, by omega⟩
  obtain ⟨k, hk⟩ : ∃ e : Nat, p.ack = e := ⟨p.ack.toNat, by omega⟩
  have hby : p.bytes = [UInt8.ofNat (e / 16777216), UInt8.ofNat (e / 65536), UInt8.ofNat (e / 256), UInt8.ofNat e] ++ [UInt8.ofNat (s / 65536), UInt8.ofNat (s / 256), UInt8.ofNat s, UInt8.ofNat (k / 65536), UInt8.ofNat (k / 256), UInt8.ofNat k] ++ p.body := by
    unfold Pk.bytes wr
    rw [he, hs, hk]
    simp [be]
  rw [he, hs, hk] at hmm ic ⊢
  rw [hby]
  have cv := fun t r x => pConv2 (P := Try.prog) (t := t) Try.underlying3 Try.underlying5 r x
  have d24 : ∀ n : Nat, n < 2147483648 → binV Try.prog .quo 3 .i64 (n : Int) .i64 16777216 = some (.int .i64 ((n / 16777216 : Nat) : Int)) := fun n h => quoN _ _ _ n 16777216 (by omega) (by rw [wrap_i64] <;> omega)
  have d16 : ∀ n : Nat, n < 2147483648 → binV Try.prog .quo 3 .i64 (n : Int) .i64 65536 = some (.int .i64 ((n / 65536 : Nat) : Int)) := fun n h => quoN _ _ _ n 65536 (by omega) (by rw [wrap_i64] <;> omega)
  have d8 : ∀ n : Nat, n < 2147483648 → binV Try.prog .quo 3 .i64 (n : Int) .i64 256 = some (.int .i64 ((n / 256 : Nat) : Int)) := fun n h => quoN _ _ _ n 256 (by omega) (by rw [wrap_i64] <;> omega)
  have r8 : ∀ n : Nat, binV Try.prog .rem 3 .i64 (n : Int) .i64 256 = some (.int .i64 ((n % 256 : Nat) : Int)) := fun n => remN _ _ _ n 256 (by omega)
  have he1 : e < 2147483648 := by omega
  have hs1 : s < 2147483648 := by omega
  have hk1 : k < 2147483648 := by omega
  have w24 := d24 e he1
  have w16 := d16 e he1
  have w8 := d8 e he1
  have ws16 := d16 s hs1
  have ws8 := d8 s hs1
  have wk16 := d16 k hk1
  have wk8 := d8 k hk1
  clear d24 d16 d8
  have key : W3 (callN Try.prog (fsT tbl) fuel (d + 1) (.fn 36) [.agg [I64 e, I64 s, I64 k, o]] mem0) (fun r' _ => Bs r' ([UInt8.ofNat (e / 16777216), UInt8.ofNat (e / 65536), UInt8.ofNat (e / 256), UInt8.ofNat e] ++ [UInt8.ofNat (s / 65536), UInt8.ofNat (s / 256), UInt8.ofNat s, UInt8.ofNat (k / 65536), UInt8.ofNat (k / 256), UInt8.ofNat k] ++ p.body)) := by
    refine call_gc tf36 rfl (ic mem0) (by simp [a36]) fun b ht hx => ?_
    have h0 := hx 0 _ rfl
    clear hx
    simp only [a36, c36] at ht ⊢
    simp (maxSteps := 2000000) (disch := first | omega | assumption | (simp only [add_size, upd_size, mem0_size, List.length_cons, List.length_nil, wf_add, wf_upd, wf_mem0, lo_wf, bk_wf, lo_size, bk_size, List.all_cons, List.all_nil, one_sc_int, one_sc_bool, one_sc_string, one_sc_slice, one_sc_ptr, one_ptr, one_sl, one_pv, one_cp, one_fn, Bool.and_true, Nat.reduceAdd, *]; done) | (simp only [add_size, upd_size, mem0_size, lo_size, bk_size, List.length_cons, List.length_nil]; omega)) only [RUN, footA, feetIn, resultsA, tupOf, frzL, slot, lay, icyL, fillA, repCells, kR, reduceIte, Nat.reduceEqDiff, Nat.reduceBEq, Nat.reduceLT, Nat.reduceAdd, Nat.reduceLeDiff, Nat.reduceSub, Nat.reduceMul, Int.reduceLT, Int.reduceLE, Int.reduceEq, Int.reduceAdd, Int.reduceSub, Int.reduceMul, decide_true, decide_false, Int.lt_irrefl, Nat.beq_eq, Option.map_some, Option.map_none, List.contains_cons, List.contains_nil, Bool.or_true, Bool.true_or, Bool.or_false, Bool.false_or, Bool.not_true, Bool.not_false, Bool.and_self, List.elem_nil, List.all_nil, List.all_cons, Bool.and_true, Bool.true_and, true_and, and_true, List.map_cons, List.map_nil, List.nil_append, List.cons_append, List.append_nil, Nat.zero_add, Nat.add_zero, List.drop_succ_cons, List.drop_zero, List.take_succ_cons, List.take_zero, List.getElem?_cons_zero, List.getElem?_cons_succ, List.length_cons, List.length_nil, h0, ro, o1, hb.cells, cv, pc1_int, w24, w16, w8, r8, wrap_u8N, u8_mod]
    have x0 : (mem0.add (.row false [I64 e, I64 s, I64 k, o])).size = 1 := by rw [add_size, mem0_size]
    have wX0 : Wf (mem0.add (.row false [I64 e, I64 s, I64 k, o])) := Wf.mem0.add _
    have gX0 : (mem0.add (.row false [I64 e, I64 s, I64 k, o])).get 0 = some (.row false [I64 e, I64 s, I64 k, o]) := get_add_new Wf.mem0 _ _ (Nat.le_refl _) (by rw [mem0_size]; omega)
    generalize mem0.add (.row false [I64 e, I64 s, I64 k, o]) = X0 at *
    generalize UInt8.ofNat (e / 16777216) = y1
    generalize UInt8.ofNat (e / 65536) = y2
    generalize UInt8.ofNat (e / 256) = y3
    generalize UInt8.ofNat e = y4
    have x1 : (X0.add (.row false (u8s [y1, y2, y3, y4]))).size = 2 := by rw [add_size, x0]
    have wX1 : Wf (X0.add (.row false (u8s [y1, y2, y3, y4]))) := wX0.add _
    have gX1 : (X0.add (.row false (u8s [y1, y2, y3, y4]))).get 0 = some (.row false [I64 e, I64 s, I64 k, o]) := by rw [get_add wX0 _ _ (by omega)]; exact gX0
    have gX2 : (X0.add (.row false (u8s [y1, y2, y3, y4]))).get 1 = some (.row false (u8s [y1, y2, y3, y4])) := get_add_new wX0 _ _ (by omega) (by omega)
    have hu4 : u8s [y1, y2, y3, y4] = [U8 y1.toNat, U8 y2.toNat, U8 y3.toNat, U8 y4.toNat] := rfl
    have s4 : SlM (X0.add (.row false (u8s [y1, y2, y3, y4]))) 1 isU8 (.sl 1 0 4 (some 4) 1) [y1, y2, y3, y4] := .inr ⟨1, _, some 4, rfl, .inr rfl, by rw [u8s_flat]; exact gX2, u8s_all2 _, by simp⟩
    rw [hu4] at x1 wX1 gX1 gX2 s4
    generalize X0.add (.row false [U8 y1.toNat, U8 y2.toNat, U8 y3.toNat, U8 y4.toNat]) = X at *
    simp (maxSteps := 2000000) (disch := first | omega | assumption | (simp only [add_size, upd_size, mem0_size, List.length_cons, List.length_nil, wf_add, wf_upd, wf_mem0, lo_wf, bk_wf, lo_size, bk_size, List.all_cons, List.all_nil, one_sc_int, one_sc_bool, one_sc_string, one_sc_slice, one_sc_ptr, one_ptr, one_sl, one_pv, one_cp, one_fn, Bool.and_true, Nat.reduceAdd, *]; done) | (simp only [add_size, upd_size, mem0_size, lo_size, bk_size, List.length_cons, List.length_nil]; omega)) only [RUN, footA, feetIn, resultsA, tupOf, frzL, slot, lay, icyL, fillA, repCells, kR, reduceIte, Nat.reduceEqDiff, Nat.reduceBEq, Nat.reduceLT, Nat.reduceAdd, Nat.reduceLeDiff, Nat.reduceSub, Nat.reduceMul, Int.reduceLT, Int.reduceLE, Int.reduceEq, Int.reduceAdd, Int.reduceSub, Int.reduceMul, decide_true, decide_false, Int.lt_irrefl, Nat.beq_eq, Option.map_some, Option.map_none, List.contains_cons, List.contains_nil, Bool.or_true, Bool.true_or, Bool.or_false, Bool.false_or, Bool.not_true, Bool.not_false, Bool.and_self, List.elem_nil, List.all_nil, List.all_cons, Bool.and_true, Bool.true_and, true_and, and_true, List.map_cons, List.map_nil, List.nil_append, List.cons_append, List.append_nil, Nat.zero_add, Nat.add_zero, List.drop_succ_cons, List.drop_zero, List.take_succ_cons, List.take_zero, List.getElem?_cons_zero, List.getElem?_cons_succ, List.length_cons, List.length_nil, h0, ro, o1, hb.cells, cv, pc1_int, ws16, ws8, r8, wrap_u8N, u8_mod, gX1]
    generalize UInt8.ofNat (s / 65536) = z1
    generalize UInt8.ofNat (s / 256) = z2
    generalize UInt8.ofNat s = z3
    simp (maxSteps := 2000000) (disch := first | omega | assumption | (simp only [add_size, upd_size, mem0_size, List.length_cons, List.length_nil, wf_add, wf_upd, wf_mem0, lo_wf, bk_wf, lo_size, bk_size, List.all_cons, List.all_nil, one_sc_int, one_sc_bool, one_sc_string, one_sc_slice, one_sc_ptr, one_ptr, one_sl, one_pv, one_cp, one_fn, Bool.and_true, Nat.reduceAdd, *]; done) | (simp only [add_size, upd_size, mem0_size, lo_size, bk_size, List.length_cons, List.length_nil]; omega)) only [RUN, footA, feetIn, resultsA, tupOf, frzL, slot, lay, icyL, fillA, repCells, kR, reduceIte, Nat.reduceEqDiff, Nat.reduceBEq, Nat.reduceLT, Nat.reduceAdd, Nat.reduceLeDiff, Nat.reduceSub, Nat.reduceMul, Int.reduceLT, Int.reduceLE, Int.reduceEq, Int.reduceAdd, Int.reduceSub, Int.reduceMul, decide_true, decide_false, Int.lt_irrefl, Nat.beq_eq, Option.map_some, Option.map_none, List.contains_cons, List.contains_nil, Bool.or_true, Bool.true_or, Bool.or_false, Bool.false_or, Bool.not_true, Bool.not_false, Bool.and_self, List.elem_nil, List.all_nil, List.all_cons, Bool.and_true, Bool.true_and, true_and, and_true, List.map_cons, List.map_nil, List.nil_append, List.cons_append, List.append_nil, Nat.zero_add, Nat.add_zero, List.drop_succ_cons, List.drop_zero, List.take_succ_cons, List.take_zero, List.getElem?_cons_zero, List.getElem?_cons_succ, List.length_cons, List.length_nil, h0, ro, o1, hb.cells, cv, pc1_int, wk16, wk8, wrap_u8N, u8_mod, gX1]
    generalize hz4 : UInt8.ofNat (k / 65536) = z4
    have wz5 : IntKind.u8.wrap ((k / 256 % 256 : Nat) : Int) = (UInt8.ofNat (k / 256)).toNat := wrap_u8M _
    have wz6 : IntKind.u8.wrap ((k % 256 : Nat) : Int) = (UInt8.ofNat k).toNat := wrap_u8M _
    generalize UInt8.ofNat (k / 256) = z5 at *
    generalize UInt8.ofNat k = z6 at *
    have wx5 : (X.add (.row false (u8s [z1, z2, z3, z4, z5, z6]))).size = 3 := by rw [add_size, x1]
    have wX5 : Wf (X.add (.row false (u8s [z1, z2, z3, z4, z5, z6]))) := wX1.add _
    have gX5 : (X.add (.row false (u8s [z1, z2, z3, z4, z5, z6]))).get 0 = some (.row false [I64 e, I64 s, I64 k, o]) := by rw [get_add wX1 _ _ (by omega)]; exact gX1
    have gX6 : (X.add (.row false (u8s [z1, z2, z3, z4, z5, z6]))).get 2 = some (.row false (u8s [z1, z2, z3, z4, z5, z6])) := get_add_new wX1 _ _ (by omega) (by omega)
    have s5 : SlM (X.add (.row false (u8s [z1, z2, z3, z4, z5, z6]))) 1 isU8 (.sl 1 0 4 (some 4) 1) [y1, y2, y3, y4] := s4.keep fun id h => get_add wX1 _ _ (s4.lt id h)
    obtain ⟨a5, M5, e5, s6, wf5, le5, _, kp5, _⟩ := s5.appO wX5 (y := .sl 2 0 6 (some 6) 1) (l' := [z1, z2, z3, z4, z5, z6]) (new := [z1, z2, z3, z4, z5, z6].map fun x => [U8 x.toNat]) (bytes := 1) (by rw [u8s_flat]; exact cells_lit gX6 rfl) rfl (u8s_all2 _) (by simp) (by rw [u8s_flat]; exact u8s_one _) (by omega) (by simp) (by simp)
    have g5 : M5.get 0 = some (.row false [I64 e, I64 s, I64 k, o]) := by rw [kp5 0 (by omega) (by simp [rowOf])]; exact gX5
    obtain ⟨rows, oo1, oo2, oo3, oo4⟩ := hb.open
    obtain ⟨a7, M7, e7, s7, wf7, _⟩ := s6.appO wf5 (oo1 _) oo2 oo3 oo4 (cel_U8.all oo3) (by omega) (bytes := 1) (by simp; omega) (by simp; omega)
    obtain ⟨r8', hf8, hr8⟩ := s7.frz cel_U8 (k := 12) (by omega)
    have RL6 := rows_lt s6.rl (Nat.le_refl _)
    have hu6 : u8s [z1, z2, z3, z4, z5, z6] = [U8 z1.toNat, U8 z2.toNat, U8 z3.toNat, U8 z4.toNat, U8 z5.toNat, U8 z6.toNat] := rfl
    rw [hu6] at e5
    have l5 : 0 < M5.size := by omega
    simp (maxSteps := 2000000) (disch := first | omega | assumption | (simp only [add_size, upd_size, mem0_size, List.length_cons, List.length_nil, wf_add, wf_upd, wf_mem0, lo_wf, bk_wf, lo_size, bk_size, List.all_cons, List.all_nil, one_sc_int, one_sc_bool, one_sc_string, one_sc_slice, one_sc_ptr, one_ptr, one_sl, one_pv, one_cp, one_fn, Bool.and_true, Nat.reduceAdd, *]; done) | (simp only [add_size, upd_size, mem0_size, lo_size, bk_size, List.length_cons, List.length_nil]; omega)) only [RUN, footA, feetIn, resultsA, tupOf, frzL, slot, lay, icyL, fillA, repCells, kR, reduceIte, Nat.reduceEqDiff, Nat.reduceBEq, Nat.reduceLT, Nat.reduceAdd, Nat.reduceLeDiff, Nat.reduceSub, Nat.reduceMul, Int.reduceLT, Int.reduceLE, Int.reduceEq, Int.reduceAdd, Int.reduceSub, Int.reduceMul, decide_true, decide_false, Int.lt_irrefl, Nat.beq_eq, Option.map_some, Option.map_none, List.contains_cons, List.contains_nil, Bool.or_true, Bool.true_or, Bool.or_false, Bool.false_or, Bool.not_true, Bool.not_false, Bool.and_self, List.elem_nil, List.all_nil, List.all_cons, Bool.and_true, Bool.true_and, true_and, and_true, List.map_cons, List.map_nil, List.nil_append, List.cons_append, List.append_nil, Nat.zero_add, Nat.add_zero, List.drop_succ_cons, List.drop_zero, List.take_succ_cons, List.take_zero, List.getElem?_cons_zero, List.getElem?_cons_succ, List.length_cons, List.length_nil, h0, ro, o1, hb.cells, cv, pc1_int, r8, wz5, wz6, ↓fill6_eq, fill6_one, e5, gX1, x1, g5, e7, RL6, l5, hf8]
    exact hr8
  obtain ⟨r, N, hk, hr⟩ := key
  exact ⟨r, hr, fun M => call_own tf36 rfl hk (ic mem0) (ic M)⟩
end Go.Proofs.Ytbemomagabjbnaa
