/-
  purge: Check, twin; the reference's Great, Same.
-/
import Derived.Test.YtjbninmklbkklaaDoorPuI
set_option linter.unusedSimpArgs false
set_option linter.unusedVariables false
set_option maxRecDepth 100000
namespace Go.Proofs.YtjbninmklbkklaaDoor
open Go Go.Ax
variable {fuel : Nat} {M : Mem} {Q : AV → Mem → Prop} {d : Nat}

theorem issLbN (a0 : Int) (a1 : Int) : PT.iss [.int .u8, .int .u32] [.int .u8 a0, .int .u32 a1] := by
  simp only [PT.iss, PT.is]
  exact ⟨[.int .u8 a0], [.int .u32 a1], rfl, ⟨_, rfl⟩, ⟨[.int .u32 a1], [], rfl, ⟨_, rfl⟩, rfl⟩⟩
/-- Are two of them the same? -/
def peLbN (d : Option AV) (u v : AV) : Option AV := match u, v with
  | .agg [.sc (.int .u8 a0), .sc (.int .u32 a1)], .agg [.sc (.int .u8 b0), .sc (.int .u32 b1)] => some (BL (!(decide (a0 = b0) && decide (a1 = b1))))
  | _, _ => d
theorem pLbN {t : List AV} (i j : Nat) : pureOp Tryd.prog t (mkO (.binOp .neq 25 (.tmp i) (.tmp j) 25) 4) = peLbN (pureD Tryd.prog t (mkO (.binOp .neq 25 (.tmp i) (.tmp j) 25) 4)) (evalA t (.tmp i)) (evalA t (.tmp j)) := by
  unfold peLbN
  split
  · rename_i a0 a1 b0 b1 h1 h2
    obtain ⟨r, hr, he⟩ := pEqS (P := Tryd.prog) [.int .u8, .int .u32] true 25 25 4 i j (by kernel_rfl) (by decide) (by kernel_rfl) h1 h2 rfl rfl (issLbN _ _) (issLbN _ _)
    have e : r = (decide (a0 = b0) && decide (a1 = b1)) := by
      rw [Bool.eq_iff_iff, he]
      simp [and_assoc]
    rw [← e]
    exact hr
  · rfl
theorem peLbN_val (d : Option AV) (a0 : Int) (a1 : Int) (b0 : Int) (b1 : Int) : peLbN d (.agg [.sc (.int .u8 a0), .sc (.int .u32 a1)]) (.agg [.sc (.int .u8 b0), .sc (.int .u32 b1)]) = some (BL (!(decide (a0 = b0) && decide (a1 = b1)))) := rfl
theorem issGrE (a0 : Int) (a1 : Int) (a2 : Int) (a3 : Bool) : PT.iss [.int .i64, .st [.st [.int .u8, .int .u32], .bool]] [.int .i64 a0, .int .u8 a1, .int .u32 a2, .bool a3] := by
  simp only [PT.iss, PT.is]
  exact ⟨[.int .i64 a0], [.int .u8 a1, .int .u32 a2, .bool a3], rfl, ⟨_, rfl⟩, ⟨[.int .u8 a1, .int .u32 a2, .bool a3], [], rfl, ⟨[.int .u8 a1, .int .u32 a2], [.bool a3], rfl, ⟨[.int .u8 a1], [.int .u32 a2], rfl, ⟨_, rfl⟩, ⟨[.int .u32 a2], [], rfl, ⟨_, rfl⟩, rfl⟩⟩, ⟨[.bool a3], [], rfl, ⟨_, rfl⟩, rfl⟩⟩, rfl⟩⟩
/-- Are two of them the same? -/
def peGrE (d : Option AV) (u v : AV) : Option AV := match u, v with
  | .agg [.sc (.int .i64 a0), .sc (.int .u8 a1), .sc (.int .u32 a2), .sc (.bool a3)], .agg [.sc (.int .i64 b0), .sc (.int .u8 b1), .sc (.int .u32 b2), .sc (.bool b3)] => some (BL (decide (a0 = b0) && decide (a1 = b1) && decide (a2 = b2) && decide (a3 = b3)))
  | _, _ => d
theorem pGrE {t : List AV} (i j : Nat) : pureOp Tryd.prog t (mkO (.binOp .eql 41 (.tmp i) (.tmp j) 41) 4) = peGrE (pureD Tryd.prog t (mkO (.binOp .eql 41 (.tmp i) (.tmp j) 41) 4)) (evalA t (.tmp i)) (evalA t (.tmp j)) := by
  unfold peGrE
  split
  · rename_i a0 a1 a2 a3 b0 b1 b2 b3 h1 h2
    obtain ⟨r, hr, he⟩ := pEqS (P := Tryd.prog) [.int .i64, .st [.st [.int .u8, .int .u32], .bool]] false 41 41 4 i j (by kernel_rfl) (by decide) (by kernel_rfl) h1 h2 rfl rfl (issGrE _ _ _ _) (issGrE _ _ _ _)
    have e : r = (decide (a0 = b0) && decide (a1 = b1) && decide (a2 = b2) && decide (a3 = b3)) := by
      rw [Bool.eq_iff_iff, he]
      simp [and_assoc]
    rw [← e]
    exact hr
  · rfl
theorem peGrE_val (d : Option AV) (a0 : Int) (a1 : Int) (a2 : Int) (a3 : Bool) (b0 : Int) (b1 : Int) (b2 : Int) (b3 : Bool) : peGrE d (.agg [.sc (.int .i64 a0), .sc (.int .u8 a1), .sc (.int .u32 a2), .sc (.bool a3)]) (.agg [.sc (.int .i64 b0), .sc (.int .u8 b1), .sc (.int .u32 b2), .sc (.bool b3)]) = some (BL (decide (a0 = b0) && decide (a1 = b1) && decide (a2 = b2) && decide (a3 = b3))) := rfl

theorem not_run {e : Ev} {r : List AV} (hr : isEv r e) (hf : 100 < fuel) (M : Mem) : callN Tryd.prog (fsT tbl) fuel (d + 5) (.fn 28) [.agg r] M = some (BL (!e.may), M) := by
  obtain ⟨da, ca, rfl, h1, h2⟩ := hr
  have hm := fun M => @may_run fuel d e da ca h1 h2 hf M
  have ic : ∀ M, icyL (icy 12) M [.agg (evRow e da ca)] = some ([.agg (evRow e da ca)], M) := fun M => by simp only [icyL, ev_icy1 h1 h2]
  apply w3_eq
  refine call_gc tf28 rfl (ic M) (by simp [a28]) fun b' ht hx => ?_
  have h0 := hx 0 _ rfl
  clear hx
  simp only [a28, c28] at ht ⊢
  have p1 := part_ev e da ca
  simp (maxSteps := 2000000) (disch := first | omega | assumption | (simp only [DS, Nat.reduceAdd, *]; done) | (simp only [DZ]; omega)) only [RUN, RU, footA, feetIn, resultsA, tupOf, frzL, slot, lay, icyL, fillA, repCells, kR, reduceIte, Nat.reduceEqDiff, Nat.reduceBEq, Nat.reduceLT, Nat.reduceAdd, Nat.reduceLeDiff, Nat.reduceSub, Nat.reduceMul, Int.reduceLT, Int.reduceLE, Int.reduceEq, Int.reduceAdd, Int.reduceSub, Int.reduceMul, h0, hm, p1]
def chk (l : List Ev) : Int := if 2048 < l.length then 4 else if l.any (fun e => !e.may) then 8 else 0
theorem check_run {a : AV} {l : List Ev} (hS : Sl 17 isEv a l) (hl : l.length ≤ 1000000) (hf : l.length + 100 < fuel) (M : Mem) : callN Tryd.prog (fsT tbl) fuel (d + 8) (.fn 13) [a] M = some (I64 (chk l), M) := by
  have hh := fun M => has_ev (fuel := fuel) (d := d + 5) (p := fun e => !e.may) (g := 28) hS hl (by omega) (fun r x hr _ M => not_run (d := d) hr (by omega) M) M
  have ll := hS.len
  have lr := hS.rows mem0
  apply w3_eq
  refine call_gc tf13 rfl (by simp (maxSteps := 2000000) (disch := first | omega | assumption | (simp only [DS, Nat.reduceAdd, *]; done) | (simp only [DZ]; omega)) only [RUN, RU, footA, feetIn, resultsA, tupOf, frzL, slot, lay, icyL, fillA, repCells, kR, reduceIte, Nat.reduceEqDiff, Nat.reduceBEq, Nat.reduceLT, Nat.reduceAdd, Nat.reduceLeDiff, Nat.reduceSub, Nat.reduceMul, Int.reduceLT, Int.reduceLE, Int.reduceEq, Int.reduceAdd, Int.reduceSub, Int.reduceMul, hS.icy]) (by simp [a13]) fun b' ht hx => ?_
  have h0 := hx 0 _ rfl
  clear hx
  simp only [a13, c13] at ht ⊢
  unfold chk
  by_cases q : 2048 < l.length
  · have q1 : decide ((2048 : Int) < l.length) = true := decide_eq_true (by omega)
    simp (maxSteps := 2000000) (disch := first | omega | assumption | (simp only [DS, Nat.reduceAdd, *]; done) | (simp only [DZ]; omega)) only [RUN, RU, footA, feetIn, resultsA, tupOf, frzL, slot, lay, icyL, fillA, repCells, kR, reduceIte, Nat.reduceEqDiff, Nat.reduceBEq, Nat.reduceLT, Nat.reduceAdd, Nat.reduceLeDiff, Nat.reduceSub, Nat.reduceMul, Int.reduceLT, Int.reduceLE, Int.reduceEq, Int.reduceAdd, Int.reduceSub, Int.reduceMul, h0, ll, lr, q1, q, if_true]
  · have q1 : decide ((2048 : Int) < l.length) = false := decide_eq_false (by omega)
    cases hb : l.any (fun e => !e.may) with
    | true =>
      rw [hb] at hh
      simp (maxSteps := 2000000) (disch := first | omega | assumption | (simp only [DS, Nat.reduceAdd, *]; done) | (simp only [DZ]; omega)) only [RUN, RU, footA, feetIn, resultsA, tupOf, frzL, slot, lay, icyL, fillA, repCells, kR, reduceIte, Nat.reduceEqDiff, Nat.reduceBEq, Nat.reduceLT, Nat.reduceAdd, Nat.reduceLeDiff, Nat.reduceSub, Nat.reduceMul, Int.reduceLT, Int.reduceLE, Int.reduceEq, Int.reduceAdd, Int.reduceSub, Int.reduceMul, h0, ll, lr, q1, q, hh, if_true, if_false]
    | false =>
      rw [hb] at hh
      simp (maxSteps := 2000000) (disch := first | omega | assumption | (simp only [DS, Nat.reduceAdd, *]; done) | (simp only [DZ]; omega)) only [RUN, RU, footA, feetIn, resultsA, tupOf, frzL, slot, lay, icyL, fillA, repCells, kR, reduceIte, Nat.reduceEqDiff, Nat.reduceBEq, Nat.reduceLT, Nat.reduceAdd, Nat.reduceLeDiff, Nat.reduceSub, Nat.reduceMul, Int.reduceLT, Int.reduceLE, Int.reduceEq, Int.reduceAdd, Int.reduceSub, Int.reduceMul, h0, ll, lr, q1, q, hh, if_false, Bool.false_eq_true]
theorem bclone_run {a : AV} {l : List UInt8} (hS : Bs a l) (hl : l.length ≤ 4294967296) : ∃ r, Bs r l ∧ ∀ M, callN Tryd.prog (fsT tbl) fuel (d + 1) (.fn 47) [a] M = some (r, M) :=
  clone_gc cel_U8 tf47 Tryd.underlying37 hS (by omega) hl
theorem iclone_run {a : AV} {l : List Int} (hS : Sl 1 isInt a l) (hl : l.length ≤ 100000) : ∃ r, Sl 1 isInt r l ∧ ∀ M, callN Tryd.prog (fsT tbl) fuel (d + 1) (.fn 48) [a] M = some (r, M) :=
  clone_gc cel_Int tf48 Tryd.underlying42 hS (by omega) (by omega)
theorem twin_run {e : Ev} {r : List AV} (hr : isEv r e) (hd : e.data.length ≤ 100000) (hc : e.crash.length ≤ 100000) : ∃ r', isEv r' e ∧ ∀ M, callN Tryd.prog (fsT tbl) fuel (d + 2) (.fn 32) [.agg r] M = some (.agg r', M) := by
  obtain ⟨da, ca, rfl, h1, h2⟩ := hr
  obtain ⟨da', k1, b1⟩ := bclone_run (fuel := fuel) (d := d) h1 (by omega)
  obtain ⟨ca', k2, b2⟩ := iclone_run (fuel := fuel) (d := d) h2 hc
  refine ⟨evRow e da' ca', ⟨da', ca', rfl, k1, k2⟩, fun M => ?_⟩
  have ic : ∀ M, icyL (icy 12) M [.agg (evRow e da ca)] = some ([.agg (evRow e da ca)], M) := fun M => by simp only [icyL, ev_icy1 h1 h2]
  have rd := h1.rows mem0
  have rc := h2.rows mem0
  have od := h1.one
  have oc := h2.one
  have cd := h1.cells
  have cc := h2.cells
  have od' := k1.one
  have oc' := k2.one
  have cd' := k1.cells
  have cc' := k2.cells
  have rd' := k1.rows mem0
  have rc' := k2.rows mem0
  have fd' := fun M => k1.frz M 0 11 (by omega)
  have fc' := fun M => k2.frz M 0 11 (by omega)
  apply w3_eq
  refine call_gc tf32 rfl (ic M) (by simp [a32]) fun b' ht hx => ?_
  have h0 := hx 0 _ rfl
  clear hx
  simp only [a32, c32] at ht ⊢
  unfold evRow at *
  simp (maxSteps := 2000000) (disch := first | omega | assumption | (simp only [DS, Nat.reduceAdd, *]; done) | (simp only [DZ]; omega)) only [RUN, RU, footA, feetIn, resultsA, tupOf, frzL, slot, lay, icyL, fillA, repCells, kR, reduceIte, Nat.reduceEqDiff, Nat.reduceBEq, Nat.reduceLT, Nat.reduceAdd, Nat.reduceLeDiff, Nat.reduceSub, Nat.reduceMul, Int.reduceLT, Int.reduceLE, Int.reduceEq, Int.reduceAdd, Int.reduceSub, Int.reduceMul, h0, b1, b2, rd, rc, od, oc, cd, cc, od', oc', cd', cc', rd', rc', fd', fc']
set_option maxHeartbeats 4000000 in
theorem nums_run {a b : AV} {l : List Int} (h1 : Sl 1 isInt a l) (h2 : Sl 1 isInt b l) (hl : l.length ≤ 1000000) (hf : l.length < fuel) (M : Mem) : callN Tryd.prog (fsT tbl) fuel (d + 1) (.fn 40) [a, b] M = some (BL true, M) := by
  have la := h1.len
  have lb := h2.len
  have ra := h1.rows mem0
  have rb := h2.rows mem0
  have q0 : decide ((l.length : Int) = l.length) = true := decide_eq_true rfl
  apply w3_eq
  refine call_gc tf40 rfl (by simp (maxSteps := 2000000) (disch := first | omega | assumption | (simp only [DS, Nat.reduceAdd, *]; done) | (simp only [DZ]; omega)) only [RUN, RU, footA, feetIn, resultsA, tupOf, frzL, slot, lay, icyL, fillA, repCells, kR, reduceIte, Nat.reduceEqDiff, Nat.reduceBEq, Nat.reduceLT, Nat.reduceAdd, Nat.reduceLeDiff, Nat.reduceSub, Nat.reduceMul, Int.reduceLT, Int.reduceLE, Int.reduceEq, Int.reduceAdd, Int.reduceSub, Int.reduceMul, h1.icy, h2.icy]) (by simp [a40]) fun b' ht hx => ?_
  have x0 := hx 0 _ rfl
  have x1 := hx 1 _ rfl
  clear hx
  simp only [a40, c40] at ht ⊢
  simp (maxSteps := 2000000) (disch := first | omega | assumption | (simp only [DS, Nat.reduceAdd, *]; done) | (simp only [DZ]; omega)) only [RUN, RU, footA, feetIn, resultsA, tupOf, frzL, slot, lay, icyL, fillA, repCells, kR, reduceIte, Nat.reduceEqDiff, Nat.reduceBEq, Nat.reduceLT, Nat.reduceAdd, Nat.reduceLeDiff, Nat.reduceSub, Nat.reduceMul, Int.reduceLT, Int.reduceLE, Int.reduceEq, Int.reduceAdd, Int.reduceSub, Int.reduceMul, x0, x1, la, lb, ra, rb, q0]
  refine w_loop (I := fun n t M => ∃ i : Nat, n = l.length - i ∧ i ≤ l.length ∧ nth undefA t 5 = I64 i ∧ nth undefA t 0 = a ∧ nth undefA t 1 = b ∧ M = mem0) (n := l.length) hf ?_ ?_
  · refine ⟨0, rfl, by omega, ?_, ?_, ?_, rfl⟩ <;> simp (maxSteps := 2000000) (disch := first | omega | assumption | (simp only [DS, Nat.reduceAdd, *]; done) | (simp only [DZ]; omega)) only [RUN, RU, footA, feetIn, resultsA, tupOf, frzL, slot, lay, icyL, fillA, repCells, kR, reduceIte, Nat.reduceEqDiff, Nat.reduceBEq, Nat.reduceLT, Nat.reduceAdd, Nat.reduceLeDiff, Nat.reduceSub, Nat.reduceMul, Int.reduceLT, Int.reduceLE, Int.reduceEq, Int.reduceAdd, Int.reduceSub, Int.reduceMul, x0, x1]
    all_goals first | rfl | assumption
  · rintro n t M' hlt ⟨i, rfl, hi, g5, g0, g1, rfl⟩
    simp only [ht] at hlt ⊢
    by_cases hc : i < l.length
    · have q1 : decide ((i : Int) < l.length) = true := decide_eq_true (by omega)
      obtain ⟨r1, i1, hr1, hl1⟩ := h1.iad i hc
      obtain ⟨r2, i2, hr2, hl2⟩ := h2.iad i hc
      obtain rfl : r1 = [I64 l[i]] := hr1
      obtain rfl : r2 = [I64 l[i]] := hr2
      have w1 : IntKind.i64.wrap ((i : Int) + 1) = ((i + 1 : Nat) : Int) := by rw [wrap_i64] <;> omega
      have q2 : decide (l[i] = l[i]) = true := decide_eq_true rfl
      simp (maxSteps := 2000000) (disch := first | omega | assumption | (simp only [DS, Nat.reduceAdd, *]; done) | (simp only [DZ]; omega)) only [RUN, RU, footA, feetIn, resultsA, tupOf, frzL, slot, lay, icyL, fillA, repCells, kR, reduceIte, Nat.reduceEqDiff, Nat.reduceBEq, Nat.reduceLT, Nat.reduceAdd, Nat.reduceLeDiff, Nat.reduceSub, Nat.reduceMul, Int.reduceLT, Int.reduceLE, Int.reduceEq, Int.reduceAdd, Int.reduceSub, Int.reduceMul, g5, g0, g1, la, lb, ra, rb, q1, i1, i2, w1, q2]
      exact ⟨hlt, l.length - (i + 1), by omega, i + 1, rfl, by omega, rfl⟩
    · obtain rfl : i = l.length := by omega
      have q1 : decide ((l.length : Int) < l.length) = false := decide_eq_false (by omega)
      simp (maxSteps := 2000000) (disch := first | omega | assumption | (simp only [DS, Nat.reduceAdd, *]; done) | (simp only [DZ]; omega)) only [RUN, RU, footA, feetIn, resultsA, tupOf, frzL, slot, lay, icyL, fillA, repCells, kR, reduceIte, Nat.reduceEqDiff, Nat.reduceBEq, Nat.reduceLT, Nat.reduceAdd, Nat.reduceLeDiff, Nat.reduceSub, Nat.reduceMul, Int.reduceLT, Int.reduceLE, Int.reduceEq, Int.reduceAdd, Int.reduceSub, Int.reduceMul, g5, g0, g1, la, lb, ra, rb, q1]
set_option maxHeartbeats 4000000 in
theorem one_run {e : Ev} {r1 r2 : List AV} (h1 : isEv r1 e) (h2 : isEv r2 e) (hl : e.crash.length ≤ 1000000) (hf : e.crash.length < fuel) (M : Mem) : callN Tryd.prog (fsT tbl) fuel (d + 2) (.fn 26) [.agg r1, .agg r2] M = some (BL true, M) := by
  obtain ⟨da, ca, rfl, d1, c1⟩ := h1
  obtain ⟨da', ca', rfl, d2, c2⟩ := h2
  have hn := fun M => @nums_run fuel d ca ca' e.crash c1 c2 hl hf M
  have ic : ∀ M, icyL (icy 12) M [.agg (evRow e da ca), .agg (evRow e da' ca')] = some ([.agg (evRow e da ca), .agg (evRow e da' ca')], M) := fun M => by simp only [icyL, ev_icy1 d1 c1, ev_icy1 d2 c2]
  have rd := d1.rows mem0
  have rc := c1.rows mem0
  have rd' := d2.rows mem0
  have rc' := c2.rows mem0
  have s1 := d1.b2s
  have s2 := d2.b2s
  have z : ∀ a : Int, decide (a = a) = true := fun a => decide_eq_true rfl
  have zs : ∀ a : ByteArray, decide (a = a) = true := fun a => decide_eq_true rfl
  have zb : ∀ a : Bool, decide (a = a) = true := fun a => decide_eq_true rfl
  have pHdN := @pHdN
  have pLbN := @pLbN
  have pGrE := @pGrE
  apply w3_eq
  refine call_gc tf26 rfl (ic M) (by simp [a26]) fun b' ht hx => ?_
  have x0 := hx 0 _ rfl
  have x1 := hx 1 _ rfl
  clear hx
  simp only [a26, c26] at ht ⊢
  unfold evRow at *
  simp (maxSteps := 2000000) (disch := first | omega | assumption | (simp only [DS, Nat.reduceAdd, *]; done) | (simp only [DZ]; omega)) only [RUN, RU, footA, feetIn, resultsA, tupOf, frzL, slot, lay, icyL, fillA, repCells, kR, reduceIte, Nat.reduceEqDiff, Nat.reduceBEq, Nat.reduceLT, Nat.reduceAdd, Nat.reduceLeDiff, Nat.reduceSub, Nat.reduceMul, Int.reduceLT, Int.reduceLE, Int.reduceEq, Int.reduceAdd, Int.reduceSub, Int.reduceMul, x0, x1, ↓pHdN, ↓pLbN, ↓pGrE, pe3N_val, peLbN_val, peGrE_val, z, zs, zb, rd, rc, rd', rc', s1, s2, hn]
end Go.Proofs.YtjbninmklbkklaaDoor
