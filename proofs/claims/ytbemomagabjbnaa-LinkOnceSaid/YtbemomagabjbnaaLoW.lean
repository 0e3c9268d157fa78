/-
  The law's does.
-/
import Derived.Test.YtbemomagabjbnaaLoV
set_option linter.unusedSimpArgs false
set_option linter.unusedVariables false
set_option maxRecDepth 100000
namespace Go.Proofs.Ytbemomagabjbnaa
open Go Go.Ax
variable {fuel : Nat} {M : Mem} {Q : AV → Mem → Prop} {d : Nat}

/-- The cells of a pair. -/
structure PairC (cx : List AV) (x : Pair) : Prop where
  len : cx.length = 17
  one : cx.all oneA = true
  frz : ∀ M, frzL (frz M 0 11) cx = some cx
  icy : ∀ M, icyL (icy 11) M cx = some (cx, M)
  is : IsPair (.agg cx) x
theorem IsPair.cells {v : AV} {x : Pair} (h : IsPair v x) : ∃ cx, v = .agg cx ∧ PairC cx x := by
  obtain ⟨oa, ob, au, ad, ap, at', rfl, ha, hb, hup, hdn, hpu, hto⟩ := id h
  refine ⟨_, rfl, rfl, ?_, fun M => ?_, fun M => icyL_same (by omega) ?_ M, h⟩
  · simp only [List.all_cons, List.all_nil, ha.one, hb.one, hup.one, hdn.one, hpu.one, hto.one, one_sc_int, one_sc_bool, Bool.and_self, I64, BL]
  · simp (maxSteps := 2000000) (disch := first | omega | assumption | (simp only [DS, Nat.reduceAdd, *]; done) | (simp only [DZ]; omega)) only [RUN, RU, footA, feetIn, resultsA, tupOf, frzL, slot, lay, icyL, fillA, repCells, kR, reduceIte, Nat.reduceEqDiff, Nat.reduceBEq, Nat.reduceLT, Nat.reduceAdd, Nat.reduceLeDiff, Nat.reduceSub, Nat.reduceMul, Int.reduceLT, Int.reduceLE, Int.reduceEq, Int.reduceAdd, Int.reduceSub, Int.reduceMul, ha.frz, hb.frz, hup.frz, hdn.frz, hpu.frz, hto.frz]
  · intro y hy M
    simp only [List.mem_cons, List.not_mem_nil, or_false] at hy
    rcases hy with rfl | rfl | rfl | rfl | rfl | rfl | rfl | rfl | rfl | rfl | rfl | rfl | rfl | rfl | rfl | rfl | rfl
    all_goals first | exact icy_sc _ (by omega) | exact ha.icy M 11 (by omega) | exact hb.icy M 11 (by omega) | exact hup.icy M 11 (by omega) | exact hdn.icy M 11 (by omega) | exact hpu.icy M 11 (by omega) | exact hto.icy M 11 (by omega)
theorem PairC.lay {cx : List AV} {x : Pair} (h : PairC cx x) (l : List AV) (hl : l.length = 17) : lay l 0 cx = cx := by
  unfold Go.Ax.lay
  rw [List.take_zero, List.nil_append, Nat.zero_add, h.len, List.drop_of_length_le (by omega), List.append_nil]
theorem PairC.part {cx : List AV} {x : Pair} (h : PairC cx x) : Go.Ax.part cx 0 17 true = some (.agg cx) := by
  rw [part_ag _ _ _ (by rw [h.len]; omega), slot_all _ _ h.len.symm]
theorem PairC.icl {cx : List AV} {x : Pair} (h : PairC cx x) (M : Mem) : Go.Ax.icy 12 M (.agg cx) = some (.agg cx, M) := by
  rw [icy_agg _ (by omega), h.icy]
theorem wrap_u8I (n : Int) : IntKind.u8.wrap n = ((UInt8.ofNat (n % 256).toNat).toNat : Int) := by
  have h : IntKind.u8.wrap n = n % 256 := by
    simp [IntKind.wrap, IntKind.signed, IntKind.bits]
  rw [h, UInt8.toNat_ofNat']
  have h0 := Int.emod_nonneg n (show (256 : Int) ≠ 0 by omega)
  have h1 := Int.emod_lt_of_pos n (show (0 : Int) < 256 by omega)
  rw [Nat.mod_eq_of_lt (by omega)]
  omega
theorem apart2_r (i n n' : Nat) (h : i < n) : apart2 (.acc [i] []) (fpOf [] [] n n', n, n') = true := by
  have hb : Nat.ble n i = false := by
    cases hc : Nat.ble n i with
    | false => rfl
    | true => have := Nat.le_of_ble_eq_true hc; omega
  unfold fpOf
  cases hd : Nat.beq n n' <;> simp [apart2, FP.apart, disj, FP.reads, FP.writes, hb, hd]
def okA (x : Pair) : Prop := (∀ p ∈ x.down, (x.a.take p).2.2 = (false, 0) ∧ p.body.length ≤ 1000000) ∧ (∀ p ∈ x.up, (x.b.take p).2.2.2 = 0 ∧ ((x.b.take p).2.2.1 = true → (x.b.take p).2.1.length = 1) ∧ p.body.length ≤ 1000000) ∧ x.ok = true ∧ x.up.length ≤ 100000 ∧ x.down.length ≤ 100000 ∧ x.told.length ≤ 100000 ∧ x.put.length ≤ 100000
theorem comes_run {v : AV} {x : Pair} (hx : IsPair v x) (h : okA x) (n : Int) (down left : Bool) (hf : 3000 < fuel) : ∃ r, IsPair r (x.comes n down left) ∧ ∀ M, callN Try.prog (fsT tbl) fuel (d + 6) (.fn 30) [v, I64 n, BL down, BL left] M = some (r, M) := by
  obtain ⟨h1, h2, h3, h4, h5, h6, h7⟩ := h
  cases down with
  | true => cases left with
    | true => exact comesDL hx h3 n h5 h6 (fun p hp => (h1 p hp).2) (fun p hp => (h1 p hp).1) hf
    | false => exact comesDN hx h3 n h5 h6 (fun p hp => (h1 p hp).2) (fun p hp => (h1 p hp).1) hf
  | false => cases left with
    | true => exact comesUL hx h3 n h4 h6 (fun p hp => (h2 p hp).2.2) (fun p hp => ⟨(h2 p hp).1, (h2 p hp).2.1⟩) hf
    | false => exact comesUN hx h3 n h4 h6 (fun p hp => (h2 p hp).2.2) (fun p hp => ⟨(h2 p hp).1, (h2 p hp).2.1⟩) hf
theorem put_own {ae : AV} {e : End} {b : UInt8} (he : IsEnd ae e) (hf : 1000 < fuel) : ∃ r, IsEnd r (e.put [b]).1 ∧ ∀ X id, Wf X → X.get id = some (.row false [U8 b.toNat]) → callN Try.prog (fsT tbl) fuel (d + 4) (.fn 23) [ae, .sl id 0 1 (some 1) 1] X = some (.tup [r, I64 (e.put [b]).2], X.upd id (.fro [U8 b.toNat])) := by
  have hb : Bs (.pv [U8 b.toNat] 1 (some 1) 1) [b] := .inr ⟨[[U8 b.toNat]], some 1, rfl, .cons rfl .nil, by simp⟩
  obtain ⟨r, hr, hc⟩ := eput_run (fuel := fuel) (d := d) he hb hf
  refine ⟨r, hr, fun X id wX hg => ?_⟩
  obtain ⟨o, rfl, hS⟩ := he
  have i0 : ∀ X, icy 12 X (.agg [I64 e.ep, I64 e.nx, o, I64 e.want, I64 e.since, BL e.owe]) = some (.agg [I64 e.ep, I64 e.nx, o, I64 e.want, I64 e.since, BL e.owe], X) := fun X => by simp (maxSteps := 2000000) (disch := first | omega | assumption | (simp only [DS, Nat.reduceAdd, *]; done) | (simp only [DZ]; omega)) only [RUN, RU, footA, feetIn, resultsA, tupOf, frzL, slot, lay, icyL, fillA, repCells, kR, reduceIte, Nat.reduceEqDiff, Nat.reduceBEq, Nat.reduceLT, Nat.reduceAdd, Nat.reduceLeDiff, Nat.reduceSub, Nat.reduceMul, Int.reduceLT, Int.reduceLE, Int.reduceEq, Int.reduceAdd, Int.reduceSub, Int.reduceMul, hS.icy]
  have i1 := icy_row (k := 11) (n := 1) (st := 1) (cap := some 1) hg rfl rfl (icyL_same (by omega) (fun x hx M => by
    simp only [List.mem_cons, List.not_mem_nil, or_false] at hx
    subst hx; exact icy_sc _ (by omega)) X) hg wX (Mem.get_lt hg)
  refine call_own (bs := [.agg [I64 e.ep, I64 e.nx, o, I64 e.want, I64 e.since, BL e.owe], .pv [U8 b.toNat] 1 (some 1) 1]) tf23 rfl (hc mem0) (M3 := mem0) ?_ ?_
  · simp only [icyL, i0, hb.icy mem0 12 (by omega)]
  · simp only [icyL, i0, i1]
set_option maxHeartbeats 8000000 in
theorem does1 {cx : List AV} {x : Pair} (hx : PairC cx x) (h : okA x) (n : Int) (hf : 3000 < fuel) : ∃ r, IsPair r (x.does 1 n) ∧ ∀ M, callN Try.prog (fsT tbl) fuel (d + 7) (.fn 13) [.agg cx, .agg [U8 1, I64 n]] M = some (r, M) := by
  have ic : ∀ M, icyL (icy 12) M [.agg cx, .agg [U8 1, I64 n]] = some ([.agg cx, .agg [U8 1, I64 n]], M) := fun M => by
    simp (maxSteps := 2000000) (disch := first | omega | assumption | (simp only [DS, Nat.reduceAdd, *]; done) | (simp only [DZ]; omega)) only [RUN, RU, footA, feetIn, resultsA, tupOf, frzL, slot, lay, icyL, fillA, repCells, kR, reduceIte, Nat.reduceEqDiff, Nat.reduceBEq, Nat.reduceLT, Nat.reduceAdd, Nat.reduceLeDiff, Nat.reduceSub, Nat.reduceMul, Int.reduceLT, Int.reduceLE, Int.reduceEq, Int.reduceAdd, Int.reduceSub, Int.reduceMul, hx.icl]
  have key : W3 (callN Try.prog (fsT tbl) fuel (d + 7) (.fn 13) [.agg cx, .agg [U8 1, I64 n]] mem0) (fun r' _ => ∃ r, IsPair r (x.does 1 n) ∧ r' = r) := by
    obtain ⟨r, hr, hc⟩ := (sends_run (fuel := fuel) (d := d + 1) hx.is false false h.2.2.1 h.2.2.2.1 h.2.2.2.2.1 hf)
    obtain ⟨cr, rfl, hcr⟩ := hr.cells
    have y1 := hcr.len
    have y2 := hcr.one
    have y3 := hx.len
    have y4 := hx.one
    refine call_gc tf13 rfl (ic mem0) (by simp [a13]) fun b ht hx' => ?_
    have h0 := hx' 0 _ rfl
    have h1 := hx' 1 _ rfl
    clear hx'
    simp only [a13, c13] at ht ⊢
    have z0 : decide ((1 : Int) = 0) = false := rfl
    have z1 : decide ((1 : Int) = 1) = true := rfl
    have z2 : decide ((1 : Int) = 2) = false := rfl
    have z3 : decide ((1 : Int) = 3) = false := rfl
    have z4 : decide ((1 : Int) = 4) = false := rfl
    have z5 : decide ((1 : Int) = 5) = false := rfl
    have z6 : decide ((1 : Int) = 6) = false := rfl
    have z7 : decide ((1 : Int) = 7) = false := rfl
    have z8 : decide ((1 : Int) = 8) = false := rfl
    have z9 : decide ((1 : Int) = 9) = false := rfl
    have z10 : decide ((1 : Int) = 10) = false := rfl
    simp (maxSteps := 2000000) (disch := first | omega | assumption | (simp only [DS, Nat.reduceAdd, *]; done) | (simp only [DZ]; omega)) only [RUN, RU, footA, feetIn, resultsA, tupOf, frzL, slot, lay, icyL, fillA, repCells, kR, reduceIte, Nat.reduceEqDiff, Nat.reduceBEq, Nat.reduceLT, Nat.reduceAdd, Nat.reduceLeDiff, Nat.reduceSub, Nat.reduceMul, Int.reduceLT, Int.reduceLE, Int.reduceEq, Int.reduceAdd, Int.reduceSub, Int.reduceMul, h0, h1, hx.len, hx.one, hx.lay, hx.part, hx.icl, z0, z1, z2, z3, z4, z5, z6, z7, z8, z9, z10, hc, hcr.len, hcr.one, hcr.lay, hcr.part, hcr.frz]
    exact ⟨_, hr, rfl⟩
  obtain ⟨r', N, hk, r, hr, rfl⟩ := key
  exact ⟨r', hr, fun M => call_own tf13 rfl hk (ic mem0) (ic M)⟩
set_option maxHeartbeats 8000000 in
theorem does2 {cx : List AV} {x : Pair} (hx : PairC cx x) (h : okA x) (n : Int) (hf : 3000 < fuel) : ∃ r, IsPair r (x.does 2 n) ∧ ∀ M, callN Try.prog (fsT tbl) fuel (d + 7) (.fn 13) [.agg cx, .agg [U8 2, I64 n]] M = some (r, M) := by
  have ic : ∀ M, icyL (icy 12) M [.agg cx, .agg [U8 2, I64 n]] = some ([.agg cx, .agg [U8 2, I64 n]], M) := fun M => by
    simp (maxSteps := 2000000) (disch := first | omega | assumption | (simp only [DS, Nat.reduceAdd, *]; done) | (simp only [DZ]; omega)) only [RUN, RU, footA, feetIn, resultsA, tupOf, frzL, slot, lay, icyL, fillA, repCells, kR, reduceIte, Nat.reduceEqDiff, Nat.reduceBEq, Nat.reduceLT, Nat.reduceAdd, Nat.reduceLeDiff, Nat.reduceSub, Nat.reduceMul, Int.reduceLT, Int.reduceLE, Int.reduceEq, Int.reduceAdd, Int.reduceSub, Int.reduceMul, hx.icl]
  have key : W3 (callN Try.prog (fsT tbl) fuel (d + 7) (.fn 13) [.agg cx, .agg [U8 2, I64 n]] mem0) (fun r' _ => ∃ r, IsPair r (x.does 2 n) ∧ r' = r) := by
    obtain ⟨r, hr, hc⟩ := (sends_run (fuel := fuel) (d := d + 1) hx.is true false h.2.2.1 h.2.2.2.1 h.2.2.2.2.1 hf)
    obtain ⟨cr, rfl, hcr⟩ := hr.cells
    have y1 := hcr.len
    have y2 := hcr.one
    have y3 := hx.len
    have y4 := hx.one
    refine call_gc tf13 rfl (ic mem0) (by simp [a13]) fun b ht hx' => ?_
    have h0 := hx' 0 _ rfl
    have h1 := hx' 1 _ rfl
    clear hx'
    simp only [a13, c13] at ht ⊢
    have z0 : decide ((2 : Int) = 0) = false := rfl
    have z1 : decide ((2 : Int) = 1) = false := rfl
    have z2 : decide ((2 : Int) = 2) = true := rfl
    have z3 : decide ((2 : Int) = 3) = false := rfl
    have z4 : decide ((2 : Int) = 4) = false := rfl
    have z5 : decide ((2 : Int) = 5) = false := rfl
    have z6 : decide ((2 : Int) = 6) = false := rfl
    have z7 : decide ((2 : Int) = 7) = false := rfl
    have z8 : decide ((2 : Int) = 8) = false := rfl
    have z9 : decide ((2 : Int) = 9) = false := rfl
    have z10 : decide ((2 : Int) = 10) = false := rfl
    simp (maxSteps := 2000000) (disch := first | omega | assumption | (simp only [DS, Nat.reduceAdd, *]; done) | (simp only [DZ]; omega)) only [RUN, RU, footA, feetIn, resultsA, tupOf, frzL, slot, lay, icyL, fillA, repCells, kR, reduceIte, Nat.reduceEqDiff, Nat.reduceBEq, Nat.reduceLT, Nat.reduceAdd, Nat.reduceLeDiff, Nat.reduceSub, Nat.reduceMul, Int.reduceLT, Int.reduceLE, Int.reduceEq, Int.reduceAdd, Int.reduceSub, Int.reduceMul, h0, h1, hx.len, hx.one, hx.lay, hx.part, hx.icl, z0, z1, z2, z3, z4, z5, z6, z7, z8, z9, z10, hc, hcr.len, hcr.one, hcr.lay, hcr.part, hcr.frz]
    exact ⟨_, hr, rfl⟩
  obtain ⟨r', N, hk, r, hr, rfl⟩ := key
  exact ⟨r', hr, fun M => call_own tf13 rfl hk (ic mem0) (ic M)⟩
set_option maxHeartbeats 8000000 in
theorem does3 {cx : List AV} {x : Pair} (hx : PairC cx x) (h : okA x) (n : Int) (hf : 3000 < fuel) : ∃ r, IsPair r (x.does 3 n) ∧ ∀ M, callN Try.prog (fsT tbl) fuel (d + 7) (.fn 13) [.agg cx, .agg [U8 3, I64 n]] M = some (r, M) := by
  have ic : ∀ M, icyL (icy 12) M [.agg cx, .agg [U8 3, I64 n]] = some ([.agg cx, .agg [U8 3, I64 n]], M) := fun M => by
    simp (maxSteps := 2000000) (disch := first | omega | assumption | (simp only [DS, Nat.reduceAdd, *]; done) | (simp only [DZ]; omega)) only [RUN, RU, footA, feetIn, resultsA, tupOf, frzL, slot, lay, icyL, fillA, repCells, kR, reduceIte, Nat.reduceEqDiff, Nat.reduceBEq, Nat.reduceLT, Nat.reduceAdd, Nat.reduceLeDiff, Nat.reduceSub, Nat.reduceMul, Int.reduceLT, Int.reduceLE, Int.reduceEq, Int.reduceAdd, Int.reduceSub, Int.reduceMul, hx.icl]
  have key : W3 (callN Try.prog (fsT tbl) fuel (d + 7) (.fn 13) [.agg cx, .agg [U8 3, I64 n]] mem0) (fun r' _ => ∃ r, IsPair r (x.does 3 n) ∧ r' = r) := by
    obtain ⟨r, hr, hc⟩ := (comes_run (fuel := fuel) (d := d + 0) hx.is h n false false hf)
    obtain ⟨cr, rfl, hcr⟩ := hr.cells
    have y1 := hcr.len
    have y2 := hcr.one
    have y3 := hx.len
    have y4 := hx.one
    refine call_gc tf13 rfl (ic mem0) (by simp [a13]) fun b ht hx' => ?_
    have h0 := hx' 0 _ rfl
    have h1 := hx' 1 _ rfl
    clear hx'
    simp only [a13, c13] at ht ⊢
    have z0 : decide ((3 : Int) = 0) = false := rfl
    have z1 : decide ((3 : Int) = 1) = false := rfl
    have z2 : decide ((3 : Int) = 2) = false := rfl
    have z3 : decide ((3 : Int) = 3) = true := rfl
    have z4 : decide ((3 : Int) = 4) = false := rfl
    have z5 : decide ((3 : Int) = 5) = false := rfl
    have z6 : decide ((3 : Int) = 6) = false := rfl
    have z7 : decide ((3 : Int) = 7) = false := rfl
    have z8 : decide ((3 : Int) = 8) = false := rfl
    have z9 : decide ((3 : Int) = 9) = false := rfl
    have z10 : decide ((3 : Int) = 10) = false := rfl
    simp (maxSteps := 2000000) (disch := first | omega | assumption | (simp only [DS, Nat.reduceAdd, *]; done) | (simp only [DZ]; omega)) only [RUN, RU, footA, feetIn, resultsA, tupOf, frzL, slot, lay, icyL, fillA, repCells, kR, reduceIte, Nat.reduceEqDiff, Nat.reduceBEq, Nat.reduceLT, Nat.reduceAdd, Nat.reduceLeDiff, Nat.reduceSub, Nat.reduceMul, Int.reduceLT, Int.reduceLE, Int.reduceEq, Int.reduceAdd, Int.reduceSub, Int.reduceMul, h0, h1, hx.len, hx.one, hx.lay, hx.part, hx.icl, z0, z1, z2, z3, z4, z5, z6, z7, z8, z9, z10, hc, hcr.len, hcr.one, hcr.lay, hcr.part, hcr.frz]
    exact ⟨_, hr, rfl⟩
  obtain ⟨r', N, hk, r, hr, rfl⟩ := key
  exact ⟨r', hr, fun M => call_own tf13 rfl hk (ic mem0) (ic M)⟩
set_option maxHeartbeats 8000000 in
theorem does4 {cx : List AV} {x : Pair} (hx : PairC cx x) (h : okA x) (n : Int) (hf : 3000 < fuel) : ∃ r, IsPair r (x.does 4 n) ∧ ∀ M, callN Try.prog (fsT tbl) fuel (d + 7) (.fn 13) [.agg cx, .agg [U8 4, I64 n]] M = some (r, M) := by
  have ic : ∀ M, icyL (icy 12) M [.agg cx, .agg [U8 4, I64 n]] = some ([.agg cx, .agg [U8 4, I64 n]], M) := fun M => by
    simp (maxSteps := 2000000) (disch := first | omega | assumption | (simp only [DS, Nat.reduceAdd, *]; done) | (simp only [DZ]; omega)) only [RUN, RU, footA, feetIn, resultsA, tupOf, frzL, slot, lay, icyL, fillA, repCells, kR, reduceIte, Nat.reduceEqDiff, Nat.reduceBEq, Nat.reduceLT, Nat.reduceAdd, Nat.reduceLeDiff, Nat.reduceSub, Nat.reduceMul, Int.reduceLT, Int.reduceLE, Int.reduceEq, Int.reduceAdd, Int.reduceSub, Int.reduceMul, hx.icl]
  have key : W3 (callN Try.prog (fsT tbl) fuel (d + 7) (.fn 13) [.agg cx, .agg [U8 4, I64 n]] mem0) (fun r' _ => ∃ r, IsPair r (x.does 4 n) ∧ r' = r) := by
    obtain ⟨r, hr, hc⟩ := (comes_run (fuel := fuel) (d := d + 0) hx.is h n true false hf)
    obtain ⟨cr, rfl, hcr⟩ := hr.cells
    have y1 := hcr.len
    have y2 := hcr.one
    have y3 := hx.len
    have y4 := hx.one
    refine call_gc tf13 rfl (ic mem0) (by simp [a13]) fun b ht hx' => ?_
    have h0 := hx' 0 _ rfl
    have h1 := hx' 1 _ rfl
    clear hx'
    simp only [a13, c13] at ht ⊢
    have z0 : decide ((4 : Int) = 0) = false := rfl
    have z1 : decide ((4 : Int) = 1) = false := rfl
    have z2 : decide ((4 : Int) = 2) = false := rfl
    have z3 : decide ((4 : Int) = 3) = false := rfl
    have z4 : decide ((4 : Int) = 4) = true := rfl
    have z5 : decide ((4 : Int) = 5) = false := rfl
    have z6 : decide ((4 : Int) = 6) = false := rfl
    have z7 : decide ((4 : Int) = 7) = false := rfl
    have z8 : decide ((4 : Int) = 8) = false := rfl
    have z9 : decide ((4 : Int) = 9) = false := rfl
    have z10 : decide ((4 : Int) = 10) = false := rfl
    simp (maxSteps := 2000000) (disch := first | omega | assumption | (simp only [DS, Nat.reduceAdd, *]; done) | (simp only [DZ]; omega)) only [RUN, RU, footA, feetIn, resultsA, tupOf, frzL, slot, lay, icyL, fillA, repCells, kR, reduceIte, Nat.reduceEqDiff, Nat.reduceBEq, Nat.reduceLT, Nat.reduceAdd, Nat.reduceLeDiff, Nat.reduceSub, Nat.reduceMul, Int.reduceLT, Int.reduceLE, Int.reduceEq, Int.reduceAdd, Int.reduceSub, Int.reduceMul, h0, h1, hx.len, hx.one, hx.lay, hx.part, hx.icl, z0, z1, z2, z3, z4, z5, z6, z7, z8, z9, z10, hc, hcr.len, hcr.one, hcr.lay, hcr.part, hcr.frz]
    exact ⟨_, hr, rfl⟩
  obtain ⟨r', N, hk, r, hr, rfl⟩ := key
  exact ⟨r', hr, fun M => call_own tf13 rfl hk (ic mem0) (ic M)⟩
set_option maxHeartbeats 8000000 in
theorem does5 {cx : List AV} {x : Pair} (hx : PairC cx x) (h : okA x) (n : Int) (hf : 3000 < fuel) : ∃ r, IsPair r (x.does 5 n) ∧ ∀ M, callN Try.prog (fsT tbl) fuel (d + 7) (.fn 13) [.agg cx, .agg [U8 5, I64 n]] M = some (r, M) := by
  have ic : ∀ M, icyL (icy 12) M [.agg cx, .agg [U8 5, I64 n]] = some ([.agg cx, .agg [U8 5, I64 n]], M) := fun M => by
    simp (maxSteps := 2000000) (disch := first | omega | assumption | (simp only [DS, Nat.reduceAdd, *]; done) | (simp only [DZ]; omega)) only [RUN, RU, footA, feetIn, resultsA, tupOf, frzL, slot, lay, icyL, fillA, repCells, kR, reduceIte, Nat.reduceEqDiff, Nat.reduceBEq, Nat.reduceLT, Nat.reduceAdd, Nat.reduceLeDiff, Nat.reduceSub, Nat.reduceMul, Int.reduceLT, Int.reduceLE, Int.reduceEq, Int.reduceAdd, Int.reduceSub, Int.reduceMul, hx.icl]
  have key : W3 (callN Try.prog (fsT tbl) fuel (d + 7) (.fn 13) [.agg cx, .agg [U8 5, I64 n]] mem0) (fun r' _ => ∃ r, IsPair r (x.does 5 n) ∧ r' = r) := by
    obtain ⟨r, hr, hc⟩ := (lost_run (fuel := fuel) (d := d + 5) hx.is n false h.2.2.2.1 h.2.2.2.2.1)
    obtain ⟨cr, rfl, hcr⟩ := hr.cells
    have y1 := hcr.len
    have y2 := hcr.one
    have y3 := hx.len
    have y4 := hx.one
    refine call_gc tf13 rfl (ic mem0) (by simp [a13]) fun b ht hx' => ?_
    have h0 := hx' 0 _ rfl
    have h1 := hx' 1 _ rfl
    clear hx'
    simp only [a13, c13] at ht ⊢
    have z0 : decide ((5 : Int) = 0) = false := rfl
    have z1 : decide ((5 : Int) = 1) = false := rfl
    have z2 : decide ((5 : Int) = 2) = false := rfl
    have z3 : decide ((5 : Int) = 3) = false := rfl
    have z4 : decide ((5 : Int) = 4) = false := rfl
    have z5 : decide ((5 : Int) = 5) = true := rfl
    have z6 : decide ((5 : Int) = 6) = false := rfl
    have z7 : decide ((5 : Int) = 7) = false := rfl
    have z8 : decide ((5 : Int) = 8) = false := rfl
    have z9 : decide ((5 : Int) = 9) = false := rfl
    have z10 : decide ((5 : Int) = 10) = false := rfl
    simp (maxSteps := 2000000) (disch := first | omega | assumption | (simp only [DS, Nat.reduceAdd, *]; done) | (simp only [DZ]; omega)) only [RUN, RU, footA, feetIn, resultsA, tupOf, frzL, slot, lay, icyL, fillA, repCells, kR, reduceIte, Nat.reduceEqDiff, Nat.reduceBEq, Nat.reduceLT, Nat.reduceAdd, Nat.reduceLeDiff, Nat.reduceSub, Nat.reduceMul, Int.reduceLT, Int.reduceLE, Int.reduceEq, Int.reduceAdd, Int.reduceSub, Int.reduceMul, h0, h1, hx.len, hx.one, hx.lay, hx.part, hx.icl, z0, z1, z2, z3, z4, z5, z6, z7, z8, z9, z10, hc, hcr.len, hcr.one, hcr.lay, hcr.part, hcr.frz]
    exact ⟨_, hr, rfl⟩
  obtain ⟨r', N, hk, r, hr, rfl⟩ := key
  exact ⟨r', hr, fun M => call_own tf13 rfl hk (ic mem0) (ic M)⟩
set_option maxHeartbeats 8000000 in
theorem does6 {cx : List AV} {x : Pair} (hx : PairC cx x) (h : okA x) (n : Int) (hf : 3000 < fuel) : ∃ r, IsPair r (x.does 6 n) ∧ ∀ M, callN Try.prog (fsT tbl) fuel (d + 7) (.fn 13) [.agg cx, .agg [U8 6, I64 n]] M = some (r, M) := by
  have ic : ∀ M, icyL (icy 12) M [.agg cx, .agg [U8 6, I64 n]] = some ([.agg cx, .agg [U8 6, I64 n]], M) := fun M => by
    simp (maxSteps := 2000000) (disch := first | omega | assumption | (simp only [DS, Nat.reduceAdd, *]; done) | (simp only [DZ]; omega)) only [RUN, RU, footA, feetIn, resultsA, tupOf, frzL, slot, lay, icyL, fillA, repCells, kR, reduceIte, Nat.reduceEqDiff, Nat.reduceBEq, Nat.reduceLT, Nat.reduceAdd, Nat.reduceLeDiff, Nat.reduceSub, Nat.reduceMul, Int.reduceLT, Int.reduceLE, Int.reduceEq, Int.reduceAdd, Int.reduceSub, Int.reduceMul, hx.icl]
  have key : W3 (callN Try.prog (fsT tbl) fuel (d + 7) (.fn 13) [.agg cx, .agg [U8 6, I64 n]] mem0) (fun r' _ => ∃ r, IsPair r (x.does 6 n) ∧ r' = r) := by
    obtain ⟨r, hr, hc⟩ := (lost_run (fuel := fuel) (d := d + 5) hx.is n true h.2.2.2.1 h.2.2.2.2.1)
    obtain ⟨cr, rfl, hcr⟩ := hr.cells
    have y1 := hcr.len
    have y2 := hcr.one
    have y3 := hx.len
    have y4 := hx.one
    refine call_gc tf13 rfl (ic mem0) (by simp [a13]) fun b ht hx' => ?_
    have h0 := hx' 0 _ rfl
    have h1 := hx' 1 _ rfl
    clear hx'
    simp only [a13, c13] at ht ⊢
    have z0 : decide ((6 : Int) = 0) = false := rfl
    have z1 : decide ((6 : Int) = 1) = false := rfl
    have z2 : decide ((6 : Int) = 2) = false := rfl
    have z3 : decide ((6 : Int) = 3) = false := rfl
    have z4 : decide ((6 : Int) = 4) = false := rfl
    have z5 : decide ((6 : Int) = 5) = false := rfl
    have z6 : decide ((6 : Int) = 6) = true := rfl
    have z7 : decide ((6 : Int) = 7) = false := rfl
    have z8 : decide ((6 : Int) = 8) = false := rfl
    have z9 : decide ((6 : Int) = 9) = false := rfl
    have z10 : decide ((6 : Int) = 10) = false := rfl
    simp (maxSteps := 2000000) (disch := first | omega | assumption | (simp only [DS, Nat.reduceAdd, *]; done) | (simp only [DZ]; omega)) only [RUN, RU, footA, feetIn, resultsA, tupOf, frzL, slot, lay, icyL, fillA, repCells, kR, reduceIte, Nat.reduceEqDiff, Nat.reduceBEq, Nat.reduceLT, Nat.reduceAdd, Nat.reduceLeDiff, Nat.reduceSub, Nat.reduceMul, Int.reduceLT, Int.reduceLE, Int.reduceEq, Int.reduceAdd, Int.reduceSub, Int.reduceMul, h0, h1, hx.len, hx.one, hx.lay, hx.part, hx.icl, z0, z1, z2, z3, z4, z5, z6, z7, z8, z9, z10, hc, hcr.len, hcr.one, hcr.lay, hcr.part, hcr.frz]
    exact ⟨_, hr, rfl⟩
  obtain ⟨r', N, hk, r, hr, rfl⟩ := key
  exact ⟨r', hr, fun M => call_own tf13 rfl hk (ic mem0) (ic M)⟩
set_option maxHeartbeats 8000000 in
theorem does7 {cx : List AV} {x : Pair} (hx : PairC cx x) (h : okA x) (n : Int) (hf : 3000 < fuel) : ∃ r, IsPair r (x.does 7 n) ∧ ∀ M, callN Try.prog (fsT tbl) fuel (d + 7) (.fn 13) [.agg cx, .agg [U8 7, I64 n]] M = some (r, M) := by
  have ic : ∀ M, icyL (icy 12) M [.agg cx, .agg [U8 7, I64 n]] = some ([.agg cx, .agg [U8 7, I64 n]], M) := fun M => by
    simp (maxSteps := 2000000) (disch := first | omega | assumption | (simp only [DS, Nat.reduceAdd, *]; done) | (simp only [DZ]; omega)) only [RUN, RU, footA, feetIn, resultsA, tupOf, frzL, slot, lay, icyL, fillA, repCells, kR, reduceIte, Nat.reduceEqDiff, Nat.reduceBEq, Nat.reduceLT, Nat.reduceAdd, Nat.reduceLeDiff, Nat.reduceSub, Nat.reduceMul, Int.reduceLT, Int.reduceLE, Int.reduceEq, Int.reduceAdd, Int.reduceSub, Int.reduceMul, hx.icl]
  have key : W3 (callN Try.prog (fsT tbl) fuel (d + 7) (.fn 13) [.agg cx, .agg [U8 7, I64 n]] mem0) (fun r' _ => ∃ r, IsPair r (x.does 7 n) ∧ r' = r) := by
    obtain ⟨r, hr, hc⟩ := (comes_run (fuel := fuel) (d := d + 0) hx.is h n false true hf)
    obtain ⟨cr, rfl, hcr⟩ := hr.cells
    have y1 := hcr.len
    have y2 := hcr.one
    have y3 := hx.len
    have y4 := hx.one
    refine call_gc tf13 rfl (ic mem0) (by simp [a13]) fun b ht hx' => ?_
    have h0 := hx' 0 _ rfl
    have h1 := hx' 1 _ rfl
    clear hx'
    simp only [a13, c13] at ht ⊢
    have z0 : decide ((7 : Int) = 0) = false := rfl
    have z1 : decide ((7 : Int) = 1) = false := rfl
    have z2 : decide ((7 : Int) = 2) = false := rfl
    have z3 : decide ((7 : Int) = 3) = false := rfl
    have z4 : decide ((7 : Int) = 4) = false := rfl
    have z5 : decide ((7 : Int) = 5) = false := rfl
    have z6 : decide ((7 : Int) = 6) = false := rfl
    have z7 : decide ((7 : Int) = 7) = true := rfl
    have z8 : decide ((7 : Int) = 8) = false := rfl
    have z9 : decide ((7 : Int) = 9) = false := rfl
    have z10 : decide ((7 : Int) = 10) = false := rfl
    simp (maxSteps := 2000000) (disch := first | omega | assumption | (simp only [DS, Nat.reduceAdd, *]; done) | (simp only [DZ]; omega)) only [RUN, RU, footA, feetIn, resultsA, tupOf, frzL, slot, lay, icyL, fillA, repCells, kR, reduceIte, Nat.reduceEqDiff, Nat.reduceBEq, Nat.reduceLT, Nat.reduceAdd, Nat.reduceLeDiff, Nat.reduceSub, Nat.reduceMul, Int.reduceLT, Int.reduceLE, Int.reduceEq, Int.reduceAdd, Int.reduceSub, Int.reduceMul, h0, h1, hx.len, hx.one, hx.lay, hx.part, hx.icl, z0, z1, z2, z3, z4, z5, z6, z7, z8, z9, z10, hc, hcr.len, hcr.one, hcr.lay, hcr.part, hcr.frz]
    exact ⟨_, hr, rfl⟩
  obtain ⟨r', N, hk, r, hr, rfl⟩ := key
  exact ⟨r', hr, fun M => call_own tf13 rfl hk (ic mem0) (ic M)⟩
set_option maxHeartbeats 8000000 in
theorem does8 {cx : List AV} {x : Pair} (hx : PairC cx x) (h : okA x) (n : Int) (hf : 3000 < fuel) : ∃ r, IsPair r (x.does 8 n) ∧ ∀ M, callN Try.prog (fsT tbl) fuel (d + 7) (.fn 13) [.agg cx, .agg [U8 8, I64 n]] M = some (r, M) := by
  have ic : ∀ M, icyL (icy 12) M [.agg cx, .agg [U8 8, I64 n]] = some ([.agg cx, .agg [U8 8, I64 n]], M) := fun M => by
    simp (maxSteps := 2000000) (disch := first | omega | assumption | (simp only [DS, Nat.reduceAdd, *]; done) | (simp only [DZ]; omega)) only [RUN, RU, footA, feetIn, resultsA, tupOf, frzL, slot, lay, icyL, fillA, repCells, kR, reduceIte, Nat.reduceEqDiff, Nat.reduceBEq, Nat.reduceLT, Nat.reduceAdd, Nat.reduceLeDiff, Nat.reduceSub, Nat.reduceMul, Int.reduceLT, Int.reduceLE, Int.reduceEq, Int.reduceAdd, Int.reduceSub, Int.reduceMul, hx.icl]
  have key : W3 (callN Try.prog (fsT tbl) fuel (d + 7) (.fn 13) [.agg cx, .agg [U8 8, I64 n]] mem0) (fun r' _ => ∃ r, IsPair r (x.does 8 n) ∧ r' = r) := by
    obtain ⟨r, hr, hc⟩ := (comes_run (fuel := fuel) (d := d + 0) hx.is h n true true hf)
    obtain ⟨cr, rfl, hcr⟩ := hr.cells
    have y1 := hcr.len
    have y2 := hcr.one
    have y3 := hx.len
    have y4 := hx.one
    refine call_gc tf13 rfl (ic mem0) (by simp [a13]) fun b ht hx' => ?_
    have h0 := hx' 0 _ rfl
    have h1 := hx' 1 _ rfl
    clear hx'
    simp only [a13, c13] at ht ⊢
    have z0 : decide ((8 : Int) = 0) = false := rfl
    have z1 : decide ((8 : Int) = 1) = false := rfl
    have z2 : decide ((8 : Int) = 2) = false := rfl
    have z3 : decide ((8 : Int) = 3) = false := rfl
    have z4 : decide ((8 : Int) = 4) = false := rfl
    have z5 : decide ((8 : Int) = 5) = false := rfl
    have z6 : decide ((8 : Int) = 6) = false := rfl
    have z7 : decide ((8 : Int) = 7) = false := rfl
    have z8 : decide ((8 : Int) = 8) = true := rfl
    have z9 : decide ((8 : Int) = 9) = false := rfl
    have z10 : decide ((8 : Int) = 10) = false := rfl
    simp (maxSteps := 2000000) (disch := first | omega | assumption | (simp only [DS, Nat.reduceAdd, *]; done) | (simp only [DZ]; omega)) only [RUN, RU, footA, feetIn, resultsA, tupOf, frzL, slot, lay, icyL, fillA, repCells, kR, reduceIte, Nat.reduceEqDiff, Nat.reduceBEq, Nat.reduceLT, Nat.reduceAdd, Nat.reduceLeDiff, Nat.reduceSub, Nat.reduceMul, Int.reduceLT, Int.reduceLE, Int.reduceEq, Int.reduceAdd, Int.reduceSub, Int.reduceMul, h0, h1, hx.len, hx.one, hx.lay, hx.part, hx.icl, z0, z1, z2, z3, z4, z5, z6, z7, z8, z9, z10, hc, hcr.len, hcr.one, hcr.lay, hcr.part, hcr.frz]
    exact ⟨_, hr, rfl⟩
  obtain ⟨r', N, hk, r, hr, rfl⟩ := key
  exact ⟨r', hr, fun M => call_own tf13 rfl hk (ic mem0) (ic M)⟩
set_option maxHeartbeats 8000000 in
theorem does9 {cx : List AV} {x : Pair} (hx : PairC cx x) (h : okA x) (n : Int) (hf : 3000 < fuel) : ∃ r, IsPair r (x.does 9 n) ∧ ∀ M, callN Try.prog (fsT tbl) fuel (d + 7) (.fn 13) [.agg cx, .agg [U8 9, I64 n]] M = some (r, M) := by
  have ic : ∀ M, icyL (icy 12) M [.agg cx, .agg [U8 9, I64 n]] = some ([.agg cx, .agg [U8 9, I64 n]], M) := fun M => by
    simp (maxSteps := 2000000) (disch := first | omega | assumption | (simp only [DS, Nat.reduceAdd, *]; done) | (simp only [DZ]; omega)) only [RUN, RU, footA, feetIn, resultsA, tupOf, frzL, slot, lay, icyL, fillA, repCells, kR, reduceIte, Nat.reduceEqDiff, Nat.reduceBEq, Nat.reduceLT, Nat.reduceAdd, Nat.reduceLeDiff, Nat.reduceSub, Nat.reduceMul, Int.reduceLT, Int.reduceLE, Int.reduceEq, Int.reduceAdd, Int.reduceSub, Int.reduceMul, hx.icl]
  have key : W3 (callN Try.prog (fsT tbl) fuel (d + 7) (.fn 13) [.agg cx, .agg [U8 9, I64 n]] mem0) (fun r' _ => ∃ r, IsPair r (x.does 9 n) ∧ r' = r) := by
    obtain ⟨r, hr, hc⟩ := (sends_run (fuel := fuel) (d := d + 1) hx.is false true h.2.2.1 h.2.2.2.1 h.2.2.2.2.1 hf)
    obtain ⟨cr, rfl, hcr⟩ := hr.cells
    have y1 := hcr.len
    have y2 := hcr.one
    have y3 := hx.len
    have y4 := hx.one
    refine call_gc tf13 rfl (ic mem0) (by simp [a13]) fun b ht hx' => ?_
    have h0 := hx' 0 _ rfl
    have h1 := hx' 1 _ rfl
    clear hx'
    simp only [a13, c13] at ht ⊢
    have z0 : decide ((9 : Int) = 0) = false := rfl
    have z1 : decide ((9 : Int) = 1) = false := rfl
    have z2 : decide ((9 : Int) = 2) = false := rfl
    have z3 : decide ((9 : Int) = 3) = false := rfl
    have z4 : decide ((9 : Int) = 4) = false := rfl
    have z5 : decide ((9 : Int) = 5) = false := rfl
    have z6 : decide ((9 : Int) = 6) = false := rfl
    have z7 : decide ((9 : Int) = 7) = false := rfl
    have z8 : decide ((9 : Int) = 8) = false := rfl
    have z9 : decide ((9 : Int) = 9) = true := rfl
    have z10 : decide ((9 : Int) = 10) = false := rfl
    simp (maxSteps := 2000000) (disch := first | omega | assumption | (simp only [DS, Nat.reduceAdd, *]; done) | (simp only [DZ]; omega)) only [RUN, RU, footA, feetIn, resultsA, tupOf, frzL, slot, lay, icyL, fillA, repCells, kR, reduceIte, Nat.reduceEqDiff, Nat.reduceBEq, Nat.reduceLT, Nat.reduceAdd, Nat.reduceLeDiff, Nat.reduceSub, Nat.reduceMul, Int.reduceLT, Int.reduceLE, Int.reduceEq, Int.reduceAdd, Int.reduceSub, Int.reduceMul, h0, h1, hx.len, hx.one, hx.lay, hx.part, hx.icl, z0, z1, z2, z3, z4, z5, z6, z7, z8, z9, z10, hc, hcr.len, hcr.one, hcr.lay, hcr.part, hcr.frz]
    exact ⟨_, hr, rfl⟩
  obtain ⟨r', N, hk, r, hr, rfl⟩ := key
  exact ⟨r', hr, fun M => call_own tf13 rfl hk (ic mem0) (ic M)⟩
set_option maxHeartbeats 8000000 in
theorem does10 {cx : List AV} {x : Pair} (hx : PairC cx x) (h : okA x) (n : Int) (hf : 3000 < fuel) : ∃ r, IsPair r (x.does 10 n) ∧ ∀ M, callN Try.prog (fsT tbl) fuel (d + 7) (.fn 13) [.agg cx, .agg [U8 10, I64 n]] M = some (r, M) := by
  have ic : ∀ M, icyL (icy 12) M [.agg cx, .agg [U8 10, I64 n]] = some ([.agg cx, .agg [U8 10, I64 n]], M) := fun M => by
    simp (maxSteps := 2000000) (disch := first | omega | assumption | (simp only [DS, Nat.reduceAdd, *]; done) | (simp only [DZ]; omega)) only [RUN, RU, footA, feetIn, resultsA, tupOf, frzL, slot, lay, icyL, fillA, repCells, kR, reduceIte, Nat.reduceEqDiff, Nat.reduceBEq, Nat.reduceLT, Nat.reduceAdd, Nat.reduceLeDiff, Nat.reduceSub, Nat.reduceMul, Int.reduceLT, Int.reduceLE, Int.reduceEq, Int.reduceAdd, Int.reduceSub, Int.reduceMul, hx.icl]
  have key : W3 (callN Try.prog (fsT tbl) fuel (d + 7) (.fn 13) [.agg cx, .agg [U8 10, I64 n]] mem0) (fun r' _ => ∃ r, IsPair r (x.does 10 n) ∧ r' = r) := by
    obtain ⟨r, hr, hc⟩ := (sends_run (fuel := fuel) (d := d + 1) hx.is true true h.2.2.1 h.2.2.2.1 h.2.2.2.2.1 hf)
    obtain ⟨cr, rfl, hcr⟩ := hr.cells
    have y1 := hcr.len
    have y2 := hcr.one
    have y3 := hx.len
    have y4 := hx.one
    refine call_gc tf13 rfl (ic mem0) (by simp [a13]) fun b ht hx' => ?_
    have h0 := hx' 0 _ rfl
    have h1 := hx' 1 _ rfl
    clear hx'
    simp only [a13, c13] at ht ⊢
    have z0 : decide ((10 : Int) = 0) = false := rfl
    have z1 : decide ((10 : Int) = 1) = false := rfl
    have z2 : decide ((10 : Int) = 2) = false := rfl
    have z3 : decide ((10 : Int) = 3) = false := rfl
    have z4 : decide ((10 : Int) = 4) = false := rfl
    have z5 : decide ((10 : Int) = 5) = false := rfl
    have z6 : decide ((10 : Int) = 6) = false := rfl
    have z7 : decide ((10 : Int) = 7) = false := rfl
    have z8 : decide ((10 : Int) = 8) = false := rfl
    have z9 : decide ((10 : Int) = 9) = false := rfl
    have z10 : decide ((10 : Int) = 10) = true := rfl
    simp (maxSteps := 2000000) (disch := first | omega | assumption | (simp only [DS, Nat.reduceAdd, *]; done) | (simp only [DZ]; omega)) only [RUN, RU, footA, feetIn, resultsA, tupOf, frzL, slot, lay, icyL, fillA, repCells, kR, reduceIte, Nat.reduceEqDiff, Nat.reduceBEq, Nat.reduceLT, Nat.reduceAdd, Nat.reduceLeDiff, Nat.reduceSub, Nat.reduceMul, Int.reduceLT, Int.reduceLE, Int.reduceEq, Int.reduceAdd, Int.reduceSub, Int.reduceMul, h0, h1, hx.len, hx.one, hx.lay, hx.part, hx.icl, z0, z1, z2, z3, z4, z5, z6, z7, z8, z9, z10, hc, hcr.len, hcr.one, hcr.lay, hcr.part, hcr.frz]
    exact ⟨_, hr, rfl⟩
  obtain ⟨r', N, hk, r, hr, rfl⟩ := key
  exact ⟨r', hr, fun M => call_own tf13 rfl hk (ic mem0) (ic M)⟩
set_option maxHeartbeats 8000000 in
theorem does0 {cx : List AV} {x : Pair} (hx : PairC cx x) (h : okA x) (n : Int) (hf : 3000 < fuel) (hP : (x.a.put [UInt8.ofNat (n % 256).toNat]).2 = 0 ∨ (x.a.put [UInt8.ofNat (n % 256).toNat]).2 = 9) : ∃ r, IsPair r (x.does 0 n) ∧ ∀ M, callN Try.prog (fsT tbl) fuel (d + 7) (.fn 13) [.agg cx, .agg [U8 0, I64 n]] M = some (r, M) := by
  have ic : ∀ M, icyL (icy 12) M [.agg cx, .agg [U8 0, I64 n]] = some ([.agg cx, .agg [U8 0, I64 n]], M) := fun M => by
    simp (maxSteps := 2000000) (disch := first | omega | assumption | (simp only [DS, Nat.reduceAdd, *]; done) | (simp only [DZ]; omega)) only [RUN, RU, footA, feetIn, resultsA, tupOf, frzL, slot, lay, icyL, fillA, repCells, kR, reduceIte, Nat.reduceEqDiff, Nat.reduceBEq, Nat.reduceLT, Nat.reduceAdd, Nat.reduceLeDiff, Nat.reduceSub, Nat.reduceMul, Int.reduceLT, Int.reduceLE, Int.reduceEq, Int.reduceAdd, Int.reduceSub, Int.reduceMul, hx.icl]
  have key : W3 (callN Try.prog (fsT tbl) fuel (d + 7) (.fn 13) [.agg cx, .agg [U8 0, I64 n]] mem0) (fun r' _ => ∃ r, IsPair r (x.does 0 n) ∧ r' = r) := by
    obtain ⟨oa, ob, au, ad, ap, at', hv, ha, hb, hup, hdn, hpu, hto⟩ := hx.is
    injection hv with hv
    subst hv
    obtain ⟨re, ⟨os, rfl, hos⟩, hc⟩ := put_own (fuel := fuel) (d := d + 2) (b := UInt8.ofNat (n % 256).toNat) (ae := .agg [I64 x.a.ep, I64 x.a.nx, oa, I64 x.a.want, I64 x.a.since, BL x.a.owe]) (e := x.a) ⟨oa, rfl, ha⟩ (by omega)
    have o1 := hos.one
    have oc := hos.cells
    have ro := hos.rows mem0
    have fo := fun M => hos.frz M 0 11 (by omega)
    have a1 := ha.one
    have ac := ha.cells
    have ra := ha.rows mem0
    have fa := fun M => ha.frz M 0 11 (by omega)
    have b1 := hb.one
    have bc := hb.cells
    have rb := hb.rows mem0
    have fb := fun M => hb.frz M 0 11 (by omega)
    have u1 := hup.one
    have uc := hup.cells
    have ru := hup.rows mem0
    have fu := fun M => hup.frz M 0 11 (by omega)
    have d1 := hdn.one
    have dc := hdn.cells
    have rd := hdn.rows mem0
    have fd := fun M => hdn.frz M 0 11 (by omega)
    have p1 := hpu.one
    have pc := hpu.cells
    have rp := hpu.rows mem0
    have fp := fun M => hpu.frz M 0 11 (by omega)
    have t1 := hto.one
    have tc := hto.cells
    have rt := hto.rows mem0
    have ft := fun M => hto.frz M 0 11 (by omega)
    have hok := h.2.2.1
    have cv := fun t r x => pConv2 (P := Try.prog) (t := t) Try.underlying3 Try.underlying5 r x
    have z09 : decide ((0 : Int) = 0) = true := rfl
    have z99 : decide ((9 : Int) = 9) = true := rfl
    have z90 : decide ((9 : Int) = 0) = false := rfl
    refine call_gc tf13 rfl (ic mem0) (by simp [a13]) fun b ht hx' => ?_
    have h0 := hx' 0 _ rfl
    have h1 := hx' 1 _ rfl
    clear hx'
    simp only [a13, c13] at ht ⊢
    have z0 : decide ((0 : Int) = 0) = true := rfl
    have wX : Wf ((((mem0.add (.row false [I64 x.a.ep, I64 x.a.nx, oa, I64 x.a.want, I64 x.a.since, BL x.a.owe, I64 x.b.ep, I64 x.b.nx, ob, I64 x.b.want, I64 x.b.since, BL x.b.owe, au, ad, ap, at', BL true])).add (.row false [U8 0, I64 n])).add (.row false [I64 0, I64 0, NIL, I64 0, I64 0, BL false, I64 0, I64 0, NIL, I64 0, I64 0, BL false, NIL, NIL, NIL, NIL, BL false])).add (.row false [U8 ((UInt8.ofNat (n % 256).toNat).toNat : Int)])) := (((Wf.mem0.add _).add _).add _).add _
    simp (maxSteps := 2000000) (disch := first | omega | assumption | (simp only [DS, Nat.reduceAdd, *]; done) | (simp only [DZ]; omega)) only [RUN, RU, footA, feetIn, resultsA, tupOf, frzL, slot, lay, icyL, fillA, repCells, kR, reduceIte, Nat.reduceEqDiff, Nat.reduceBEq, Nat.reduceLT, Nat.reduceAdd, Nat.reduceLeDiff, Nat.reduceSub, Nat.reduceMul, Int.reduceLT, Int.reduceLE, Int.reduceEq, Int.reduceAdd, Int.reduceSub, Int.reduceMul, h0, h1, z0, cv, pc1_int, wrap_u8I, o1, oc, ro, fo, a1, ac, ra, fa, b1, bc, rb, fb, u1, uc, ru, fu, d1, dc, rd, fd, p1, pc, rp, fp, t1, tc, rt, ft, hok, z99, z90]
    refine ⟨_, _, hc _ _ (by simp (maxSteps := 2000000) (disch := first | omega | assumption | (simp only [DS, Nat.reduceAdd, *]; done) | (simp only [DZ]; omega)) only [RUN, RU, footA, feetIn, resultsA, tupOf, frzL, slot, lay, icyL, fillA, repCells, kR, reduceIte, Nat.reduceEqDiff, Nat.reduceBEq, Nat.reduceLT, Nat.reduceAdd, Nat.reduceLeDiff, Nat.reduceSub, Nat.reduceMul, Int.reduceLT, Int.reduceLE, Int.reduceEq, Int.reduceAdd, Int.reduceSub, Int.reduceMul]) (by simp (maxSteps := 2000000) (disch := first | omega | assumption | (simp only [DS, Nat.reduceAdd, *]; done) | (simp only [DZ]; omega)) only [RUN, RU, footA, feetIn, resultsA, tupOf, frzL, slot, lay, icyL, fillA, repCells, kR, reduceIte, Nat.reduceEqDiff, Nat.reduceBEq, Nat.reduceLT, Nat.reduceAdd, Nat.reduceLeDiff, Nat.reduceSub, Nat.reduceMul, Int.reduceLT, Int.reduceLE, Int.reduceEq, Int.reduceAdd, Int.reduceSub, Int.reduceMul]), ?_⟩
    rcases hP with hP | hP
    · simp (maxSteps := 2000000) (disch := first | omega | assumption | (simp only [DS, Nat.reduceAdd, *]; done) | (simp only [DZ]; omega)) only [RUN, RU, footA, feetIn, resultsA, tupOf, frzL, slot, lay, icyL, fillA, repCells, kR, reduceIte, Nat.reduceEqDiff, Nat.reduceBEq, Nat.reduceLT, Nat.reduceAdd, Nat.reduceLeDiff, Nat.reduceSub, Nat.reduceMul, Int.reduceLT, Int.reduceLE, Int.reduceEq, Int.reduceAdd, Int.reduceSub, Int.reduceMul, h0, h1, z0, cv, pc1_int, wrap_u8I, o1, oc, ro, fo, a1, ac, ra, fa, b1, bc, rb, fb, u1, uc, ru, fu, d1, dc, rd, fd, p1, pc, rp, fp, t1, tc, rt, ft, hok, z99, z90, hP]
      refine w3_app (by simp (maxSteps := 2000000) (disch := first | omega | assumption | (simp only [DS, Nat.reduceAdd, *]; done) | (simp only [DZ]; omega)) only [RUN, RU, footA, feetIn, resultsA, tupOf, frzL, slot, lay, icyL, fillA, repCells, kR, reduceIte, Nat.reduceEqDiff, Nat.reduceBEq, Nat.reduceLT, Nat.reduceAdd, Nat.reduceLeDiff, Nat.reduceSub, Nat.reduceMul, Int.reduceLT, Int.reduceLE, Int.reduceEq, Int.reduceAdd, Int.reduceSub, Int.reduceMul]) SlM.nil cel_U8 hpu (by omega) (by simp; have := h.2.2.2.2.2.2; omega) (by simp; have := h.2.2.2.2.2.2; omega) fun o3 M3 m3 wf3 le3 sz3 kp3 nw3 wm3 rl3 on3 oc3 => ?_
      have l0 := kp3 0 (by simp only [add_size, upd_size, mem0_size]; omega) (by simp [rowOf])
      have l1 := kp3 1 (by simp only [add_size, upd_size, mem0_size]; omega) (by simp [rowOf])
      have l2 := kp3 2 (by simp only [add_size, upd_size, mem0_size]; omega) (by simp [rowOf])
      have nn3 : ∀ id, rowOf o3 = some id → 3 ≤ id := fun id h => by
        rcases nw3 id h with h' | h'
        · cases h'
        · simp only [add_size, upd_size, mem0_size] at h'; omega
      simp only [add_size, upd_size, mem0_size, Nat.reduceAdd] at le3 sz3
      simp (maxSteps := 2000000) (disch := first | omega | assumption | (simp only [DS, Nat.reduceAdd, *]; done) | (simp only [DZ]; omega)) only [RUN, RU, footA, feetIn, resultsA, tupOf, frzL, slot, lay, icyL, fillA, repCells, kR, reduceIte, Nat.reduceEqDiff, Nat.reduceBEq, Nat.reduceLT, Nat.reduceAdd, Nat.reduceLeDiff, Nat.reduceSub, Nat.reduceMul, Int.reduceLT, Int.reduceLE, Int.reduceEq, Int.reduceAdd, Int.reduceSub, Int.reduceMul, h0, h1, z0, cv, pc1_int, wrap_u8I, o1, oc, ro, fo, a1, ac, ra, fa, b1, bc, rb, fb, u1, uc, ru, fu, d1, dc, rd, fd, p1, pc, rp, fp, t1, tc, rt, ft, hok, z99, z90] at l0 l1 l2
      clear kp3 nw3
      have rl3' := rows_lt m3.rl (show M3.size ≤ M3.size + 1 by omega)
      have v0 : 0 < M3.size := by omega
      have v1 : 1 < M3.size := by omega
      have v2 : 2 < M3.size := by omega
      simp (maxSteps := 2000000) (disch := first | omega | assumption | (simp only [DS, Nat.reduceAdd, *]; done) | (simp only [DZ]; omega)) only [RUN, RU, footA, feetIn, resultsA, tupOf, frzL, slot, lay, icyL, fillA, repCells, kR, reduceIte, Nat.reduceEqDiff, Nat.reduceBEq, Nat.reduceLT, Nat.reduceAdd, Nat.reduceLeDiff, Nat.reduceSub, Nat.reduceMul, Int.reduceLT, Int.reduceLE, Int.reduceEq, Int.reduceAdd, Int.reduceSub, Int.reduceMul, h0, h1, z0, cv, pc1_int, wrap_u8I, o1, oc, ro, fo, a1, ac, ra, fa, b1, bc, rb, fb, u1, uc, ru, fu, d1, dc, rd, fd, p1, pc, rp, fp, t1, tc, rt, ft, hok, z99, z90, apart2_e, apart2_pu, apart2_r, rl3', rl3, on3, oc3, l0, l1, l2, v0, v1, v2, wf3]

      refine w3_appc (by simp (maxSteps := 2000000) (disch := first | omega | assumption | (simp only [DS, Nat.reduceAdd, *]; done) | (simp only [DZ]; omega)) only [RUN, RU, footA, feetIn, resultsA, tupOf, frzL, slot, lay, icyL, fillA, repCells, kR, reduceIte, Nat.reduceEqDiff, Nat.reduceBEq, Nat.reduceLT, Nat.reduceAdd, Nat.reduceLeDiff, Nat.reduceSub, Nat.reduceMul, Int.reduceLT, Int.reduceLE, Int.reduceEq, Int.reduceAdd, Int.reduceSub, Int.reduceMul, wf3]) (m3.keep (N := M3.add (.row false [U8 ((UInt8.ofNat (n % 256).toNat).toNat : Int)])) (fun id h => get_add wf3 _ _ (m3.lt id h))) cel_U8 (l' := [UInt8.ofNat (n % 256).toNat]) (new := [[U8 ((UInt8.ofNat (n % 256).toNat).toNat : Int)]]) (cells_lit (cs := [U8 ((UInt8.ofNat (n % 256).toNat).toNat : Int)]) (n := 1) (st := 1) (get_add_new wf3 _ _ (Nat.le_refl _) (Nat.lt_succ_self _)) rfl) rfl (.cons rfl .nil) (by simp) (by omega) (by simp; have := h.2.2.2.2.2.2; omega) (by simp; have := h.2.2.2.2.2.2; omega) fun o4 M4 m4 wf4 le4 sz4 kp4 nw4 wm4 rl4 on4 oc4 => ?_
      have u0 := kp4 0 (by rw [add_size]; omega) (fun h => by have := nn3 _ h; omega)
      have u1' := kp4 1 (by rw [add_size]; omega) (fun h => by have := nn3 _ h; omega)
      have u2 := kp4 2 (by rw [add_size]; omega) (fun h => by have := nn3 _ h; omega)
      rw [get_add wf3 _ _ (by omega)] at u0 u1' u2
      replace u0 := u0.trans l0
      replace u1' := u1'.trans l1
      replace u2 := u2.trans l2
      have nn4 : ∀ id, rowOf o4 = some id → 3 ≤ id := fun id h => by
        rcases nw4 id h with h' | h'
        · exact nn3 id h'
        · rw [add_size] at h'; omega
      have lt4 := m4.lt
      rw [add_size] at le4 sz4
      obtain ⟨ro4, hSr4, hfr4⟩ := slm_frz m4 cel_U8
      clear kp4 nw4
      have x0 : 0 < M4.size := by omega
      have x1 : 1 < M4.size := by omega
      have x2 : 2 < M4.size := by omega
      simp (maxSteps := 2000000) (disch := first | omega | assumption | (simp only [DS, Nat.reduceAdd, *]; done) | (simp only [DZ]; omega)) only [RUN, RU, footA, feetIn, resultsA, tupOf, frzL, slot, lay, icyL, fillA, repCells, kR, reduceIte, Nat.reduceEqDiff, Nat.reduceBEq, Nat.reduceLT, Nat.reduceAdd, Nat.reduceLeDiff, Nat.reduceSub, Nat.reduceMul, Int.reduceLT, Int.reduceLE, Int.reduceEq, Int.reduceAdd, Int.reduceSub, Int.reduceMul, h0, h1, z0, cv, pc1_int, wrap_u8I, o1, oc, ro, fo, a1, ac, ra, fa, b1, bc, rb, fb, u1, uc, ru, fu, d1, dc, rd, fd, p1, pc, rp, fp, t1, tc, rt, ft, hok, z99, z90, hP, rl4, on4, oc4, u0, u1', u2, x0, x1, x2, wf4]
      rw [hfr4]
      rotate_left
      · intro id h
        have := nn4 id h
        have := lt4 id h
        simp (maxSteps := 2000000) (disch := first | omega | assumption | (simp only [DS, Nat.reduceAdd, *]; done) | (simp only [DZ]; omega)) only [RUN, RU, footA, feetIn, resultsA, tupOf, frzL, slot, lay, icyL, fillA, repCells, kR, reduceIte, Nat.reduceEqDiff, Nat.reduceBEq, Nat.reduceLT, Nat.reduceAdd, Nat.reduceLeDiff, Nat.reduceSub, Nat.reduceMul, Int.reduceLT, Int.reduceLE, Int.reduceEq, Int.reduceAdd, Int.reduceSub, Int.reduceMul, wf4]
      simp (maxSteps := 2000000) (disch := first | omega | assumption | (simp only [DS, Nat.reduceAdd, *]; done) | (simp only [DZ]; omega)) only [RUN, RU, footA, feetIn, resultsA, tupOf, frzL, slot, lay, icyL, fillA, repCells, kR, reduceIte, Nat.reduceEqDiff, Nat.reduceBEq, Nat.reduceLT, Nat.reduceAdd, Nat.reduceLeDiff, Nat.reduceSub, Nat.reduceMul, Int.reduceLT, Int.reduceLE, Int.reduceEq, Int.reduceAdd, Int.reduceSub, Int.reduceMul, h0, h1, z0, cv, pc1_int, wrap_u8I, o1, oc, ro, fo, a1, ac, ra, fa, b1, bc, rb, fb, u1, uc, ru, fu, d1, dc, rd, fd, p1, pc, rp, fp, t1, tc, rt, ft, hok, z99, z90, hP]
      refine ⟨_, ?_, rfl⟩
      have he : x.does 0 n = { x with a := (x.a.put [UInt8.ofNat (n % 256).toNat]).1, put := x.put ++ [UInt8.ofNat (n % 256).toNat] } := by
        show x.puts _ = _
        unfold Pair.puts
        simp [hP, hok]
      rw [he]
      exact fin_pair (by first | exact hok | rfl) ⟨os, ob, au, ad, ro4, at', rfl, hos, hb, hup, hdn, hSr4, hto⟩
    · simp (maxSteps := 2000000) (disch := first | omega | assumption | (simp only [DS, Nat.reduceAdd, *]; done) | (simp only [DZ]; omega)) only [RUN, RU, footA, feetIn, resultsA, tupOf, frzL, slot, lay, icyL, fillA, repCells, kR, reduceIte, Nat.reduceEqDiff, Nat.reduceBEq, Nat.reduceLT, Nat.reduceAdd, Nat.reduceLeDiff, Nat.reduceSub, Nat.reduceMul, Int.reduceLT, Int.reduceLE, Int.reduceEq, Int.reduceAdd, Int.reduceSub, Int.reduceMul, h0, h1, z0, cv, pc1_int, wrap_u8I, o1, oc, ro, fo, a1, ac, ra, fa, b1, bc, rb, fb, u1, uc, ru, fu, d1, dc, rd, fd, p1, pc, rp, fp, t1, tc, rt, ft, hok, z99, z90, hP]
      refine ⟨_, ?_, rfl⟩
      have he : x.does 0 n = x := by
        show x.puts _ = _
        unfold Pair.puts
        simp [hP, hok]
        exact hok ▸ rfl
      rw [he]
      exact fin_pair (by first | exact hok | rfl) ⟨oa, ob, au, ad, ap, at', rfl, ha, hb, hup, hdn, hpu, hto⟩
  obtain ⟨r', N, hk, r, hr, rfl⟩ := key
  exact ⟨r', hr, fun M => call_own tf13 rfl hk (ic mem0) (ic M)⟩
end Go.Proofs.Ytbemomagabjbnaa
