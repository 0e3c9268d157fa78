/-
  The reference for runes: Put, Blanked, Hide, Text.
-/
import Derived.Test.YtlccfbaibcdodaaRtC
set_option linter.unusedSimpArgs false
set_option linter.unusedVariables false
set_option maxRecDepth 100000
namespace Go.Proofs.Ytlccfbaibcdodaa
open Go Go.Ax
variable {fuel : Nat} {M : Mem} {Q : AV → Mem → Prop} {d : Nat}

def putM (l : List Int) : List UInt8 := if chk l = 0 then wide l else []
theorem chk_ok {l : List Int} (h : chk l = 0) : l.length ≤ 64 ∧ ∀ x ∈ l, okR x = true := by
  unfold chk at h
  split at h
  · omega
  · split at h
    · rename_i h2; exact ⟨by omega, fun x hx => List.all_eq_true.1 h2 x hx⟩
    · omega
theorem rput_run {a : AV} {l : List Int} (hS : Sl 1 isI32 a l) (hf : 2000 < fuel) : ∃ r, Bs r (putM l) ∧ ∀ M, callN Try.prog (fsT tbl) fuel (d + 3) (.fn 16) [a] M = some (.tup [r, I64 (chk l)], M) := by
  have ic : ∀ M, icyL (icy 12) M [a] = some ([a], M) := fun M => by simp (maxSteps := 2000000) (disch := first | omega | assumption | (simp only [DS, Nat.reduceAdd, *]; done) | (simp only [DZ]; omega)) only [RUN, RU, footA, feetIn, resultsA, tupOf, frzL, slot, lay, icyL, fillA, repCells, kR, reduceIte, Nat.reduceEqDiff, Nat.reduceBEq, Nat.reduceLT, Nat.reduceAdd, Nat.reduceLeDiff, Nat.reduceSub, Nat.reduceMul, Int.reduceLT, Int.reduceLE, Int.reduceEq, Int.reduceAdd, Int.reduceSub, Int.reduceMul, hS.icy]
  have hck := fun M => rcheck_run (fuel := fuel) (d := d) hS (by omega) M
  unfold putM
  by_cases hc : chk l = 0
  · have q1 : decide (chk l = 0) = true := decide_eq_true hc
    obtain ⟨h1, h2⟩ := chk_ok hc
    obtain ⟨r, hr, hw⟩ := rwide_run (fuel := fuel) (d := d + 1) hS (by omega) h2 hf
    have rr := fun M => hr.frz M 0 12 (by omega)
    rw [if_pos hc]
    refine ⟨r, hr, fun M => ?_⟩
    apply w3_eq
    refine call_gc tf16 rfl (ic M) (by simp [a16]) fun b ht hx => ?_
    have h0 := hx 0 _ rfl
    clear hx
    simp only [a16, c16] at ht ⊢
    simp (maxSteps := 2000000) (disch := first | omega | assumption | (simp only [DS, Nat.reduceAdd, *]; done) | (simp only [DZ]; omega)) only [RUN, RU, footA, feetIn, resultsA, tupOf, frzL, slot, lay, icyL, fillA, repCells, kR, reduceIte, Nat.reduceEqDiff, Nat.reduceBEq, Nat.reduceLT, Nat.reduceAdd, Nat.reduceLeDiff, Nat.reduceSub, Nat.reduceMul, Int.reduceLT, Int.reduceLE, Int.reduceEq, Int.reduceAdd, Int.reduceSub, Int.reduceMul, h0, hck, q1, hw, rr, hc]
  · have q1 : decide (chk l = 0) = false := decide_eq_false hc
    rw [if_neg hc]
    refine ⟨NIL, .inl ⟨rfl, rfl⟩, fun M => ?_⟩
    apply w3_eq
    refine call_gc tf16 rfl (ic M) (by simp [a16]) fun b ht hx => ?_
    have h0 := hx 0 _ rfl
    clear hx
    simp only [a16, c16] at ht ⊢
    simp (maxSteps := 2000000) (disch := first | omega | assumption | (simp only [DS, Nat.reduceAdd, *]; done) | (simp only [DZ]; omega)) only [RUN, RU, footA, feetIn, resultsA, tupOf, frzL, slot, lay, icyL, fillA, repCells, kR, reduceIte, Nat.reduceEqDiff, Nat.reduceBEq, Nat.reduceLT, Nat.reduceAdd, Nat.reduceLeDiff, Nat.reduceSub, Nat.reduceMul, Int.reduceLT, Int.reduceLE, Int.reduceEq, Int.reduceAdd, Int.reduceSub, Int.reduceMul, h0, hck, q1]

set_option maxHeartbeats 4000000 in
theorem blank_run {a aw : AV} {l : List Int} {w : List Bool} (hS : Sl 1 isI32 a l) (hW : Sl 1 isBool aw w) (hl : l.length ≤ 1000) (hlw : w.length = l.length) (hf : 2000 < fuel) : ∃ r, Sl 1 isI32 r (hid l w) ∧ ∀ M, callN Try.prog (fsT tbl) fuel (d + 1) (.fn 34) [a, aw] M = some (r, M) := by
  have ic : ∀ M, icyL (icy 12) M [a, aw] = some ([a, aw], M) := fun M => by simp (maxSteps := 2000000) (disch := first | omega | assumption | (simp only [DS, Nat.reduceAdd, *]; done) | (simp only [DZ]; omega)) only [RUN, RU, footA, feetIn, resultsA, tupOf, frzL, slot, lay, icyL, fillA, repCells, kR, reduceIte, Nat.reduceEqDiff, Nat.reduceBEq, Nat.reduceLT, Nat.reduceAdd, Nat.reduceLeDiff, Nat.reduceSub, Nat.reduceMul, Int.reduceLT, Int.reduceLE, Int.reduceEq, Int.reduceAdd, Int.reduceSub, Int.reduceMul, hS.icy, hW.icy]
  have hlen := hS.len
  have hb := sl_bound hS
  have hidl : (hid l w).length = l.length := hidTo_len ..
  have key : W3 (callN Try.prog (fsT tbl) fuel (d + 1) (.fn 34) [a, aw] mem0) (fun r _ => Sl 1 isI32 r (hid l w)) := by
    refine call_gc tf34 rfl (ic mem0) (by simp [a34]) fun b ht hx => ?_
    have h0 := hx 0 _ rfl
    have h1 := hx 1 _ rfl
    clear hx
    simp only [a34, c34] at ht ⊢
    simp (maxSteps := 2000000) (disch := first | omega | assumption | (simp only [DS, Nat.reduceAdd, *]; done) | (simp only [DZ]; omega)) only [RUN, RU, footA, feetIn, resultsA, tupOf, frzL, slot, lay, icyL, fillA, repCells, kR, reduceIte, Nat.reduceEqDiff, Nat.reduceBEq, Nat.reduceLT, Nat.reduceAdd, Nat.reduceLeDiff, Nat.reduceSub, Nat.reduceMul, Int.reduceLT, Int.reduceLE, Int.reduceEq, Int.reduceAdd, Int.reduceSub, Int.reduceMul, h0, h1]
    refine w_loop (I := fun n t N => ∃ (i : Nat) (o : AV), i ≤ l.length ∧ n = l.length - i ∧ nth undefA t 0 = a ∧ nth undefA t 1 = aw ∧ nth undefA t 5 = o ∧ nth undefA t 6 = I64 i ∧ Wf N ∧ SlM N 1 isI32 o ((hid l w).take i)) (n := l.length) (by omega) ?_ ?_
    · refine ⟨0, NIL, by omega, by omega, ?_, ?_, ?_, ?_, Wf.mem0, SlM.nil⟩ <;> simp (maxSteps := 2000000) (disch := first | omega | assumption | (simp only [DS, Nat.reduceAdd, *]; done) | (simp only [DZ]; omega)) only [RUN, RU, footA, feetIn, resultsA, tupOf, frzL, slot, lay, icyL, fillA, repCells, kR, reduceIte, Nat.reduceEqDiff, Nat.reduceBEq, Nat.reduceLT, Nat.reduceAdd, Nat.reduceLeDiff, Nat.reduceSub, Nat.reduceMul, Int.reduceLT, Int.reduceLE, Int.reduceEq, Int.reduceAdd, Int.reduceSub, Int.reduceMul, h0, h1]
      all_goals rfl
    · rintro n t N hl' ⟨i, o, hi, hn, t0, t1, t5, t6, wfN, hN⟩
      simp only [ht] at hl' ⊢
      clear h0 h1 ht b
      by_cases hlt : i < l.length
      · have hc' : decide ((i : Int) < l.length) = true := decide_eq_true (by omega)
        have w1 : IntKind.i64.wrap ((i : Int) + 1) = ((i + 1 : Nat) : Int) := by rw [wrap_i64] <;> omega
        obtain ⟨r, hr, ⟨rfl, _⟩, _⟩ := hS.iad i hlt
        obtain ⟨rw', hrw, rfl, _⟩ := hW.iad i (by omega)
        have hbi := hb l[i] (List.getElem_mem hlt)
        have hwt : i < w.length := by omega
        have hxt : i < (hid l w).length := by omega
        have hxi : (hid l w)[i] = if w[i] = true then -1 else l[i] := by
          have := hidTo_get l.length l w i
          rw [show hidTo l.length l w = hid l w from rfl, List.getElem?_eq_getElem hxt, List.getElem?_eq_getElem hlt, List.getElem?_eq_getElem hwt] at this
          simp only [Option.map_some, Option.some.injEq] at this
          rw [this]; simp [hlt]
        have htk : (hid l w).take (i + 1) = (hid l w).take i ++ [(hid l w)[i]] := by rw [List.take_add_one, List.getElem?_eq_getElem hxt]; rfl
        have hlt2 : ((hid l w).take i).length ≤ 1000 := by rw [List.length_take]; omega
        have oo := hN.one
        have oco := hN.cells
        have rlo := rows_lt hN.rl (show N.size ≤ N.size + 1 by omega)
        generalize (hid l w)[i] = y at *
        generalize l[i] = x at *
        cases hwi : w[i] with
        | true =>
          rw [hwi, if_pos rfl] at hxi
          subst hxi
          simp (maxSteps := 2000000) (disch := first | omega | assumption | (simp only [DS, Nat.reduceAdd, *]; done) | (simp only [DZ]; omega)) only [RUN, RU, footA, feetIn, resultsA, tupOf, frzL, slot, lay, icyL, fillA, repCells, kR, reduceIte, Nat.reduceEqDiff, Nat.reduceBEq, Nat.reduceLT, Nat.reduceAdd, Nat.reduceLeDiff, Nat.reduceSub, Nat.reduceMul, Int.reduceLT, Int.reduceLE, Int.reduceEq, Int.reduceAdd, Int.reduceSub, Int.reduceMul, t0, t1, t5, t6, hlen, hc', w1, hr, hrw, hwi, oo, oco, rlo, wfN]
          refine w3_one wfN hN cel_I32 (x := -1) ⟨rfl, by omega, by omega⟩ (by omega) (by omega) fun o4 M4 m4 wf4 le4 kp4 nw4 wm4 rl4 on4 oc4 => ?_
          simp (maxSteps := 2000000) (disch := first | omega | assumption | (simp only [DS, Nat.reduceAdd, *]; done) | (simp only [DZ]; omega)) only [RUN, RU, footA, feetIn, resultsA, tupOf, frzL, slot, lay, icyL, fillA, repCells, kR, reduceIte, Nat.reduceEqDiff, Nat.reduceBEq, Nat.reduceLT, Nat.reduceAdd, Nat.reduceLeDiff, Nat.reduceSub, Nat.reduceMul, Int.reduceLT, Int.reduceLE, Int.reduceEq, Int.reduceAdd, Int.reduceSub, Int.reduceMul, t0, t1, t5, t6, w1]
          exact ⟨hl', l.length - (i + 1), by omega, i + 1, o4, by omega, rfl, rfl, rfl, wf4, by rw [htk]; exact m4⟩
        | false =>
          rw [hwi, if_neg (by simp)] at hxi
          subst hxi
          simp (maxSteps := 2000000) (disch := first | omega | assumption | (simp only [DS, Nat.reduceAdd, *]; done) | (simp only [DZ]; omega)) only [RUN, RU, footA, feetIn, resultsA, tupOf, frzL, slot, lay, icyL, fillA, repCells, kR, reduceIte, Nat.reduceEqDiff, Nat.reduceBEq, Nat.reduceLT, Nat.reduceAdd, Nat.reduceLeDiff, Nat.reduceSub, Nat.reduceMul, Int.reduceLT, Int.reduceLE, Int.reduceEq, Int.reduceAdd, Int.reduceSub, Int.reduceMul, t0, t1, t5, t6, hlen, hc', w1, hr, hrw, hwi, oo, oco, rlo, wfN]
          refine w3_one wfN hN cel_I32 (x := y) ⟨rfl, hbi.1, hbi.2⟩ (by omega) (by omega) fun o4 M4 m4 wf4 le4 kp4 nw4 wm4 rl4 on4 oc4 => ?_
          simp (maxSteps := 2000000) (disch := first | omega | assumption | (simp only [DS, Nat.reduceAdd, *]; done) | (simp only [DZ]; omega)) only [RUN, RU, footA, feetIn, resultsA, tupOf, frzL, slot, lay, icyL, fillA, repCells, kR, reduceIte, Nat.reduceEqDiff, Nat.reduceBEq, Nat.reduceLT, Nat.reduceAdd, Nat.reduceLeDiff, Nat.reduceSub, Nat.reduceMul, Int.reduceLT, Int.reduceLE, Int.reduceEq, Int.reduceAdd, Int.reduceSub, Int.reduceMul, t0, t1, t5, t6, w1]
          exact ⟨hl', l.length - (i + 1), by omega, i + 1, o4, by omega, rfl, rfl, rfl, wf4, by rw [htk]; exact m4⟩
      · obtain rfl : i = l.length := by omega
        have hc' : decide ((l.length : Int) < l.length) = false := decide_eq_false (by omega)
        rw [← hidl, List.take_length] at hN
        obtain ⟨r, hfz, hSr⟩ := hN.frz cel_I32 (k := 12) (by omega)
        simp (maxSteps := 2000000) (disch := first | omega | assumption | (simp only [DS, Nat.reduceAdd, *]; done) | (simp only [DZ]; omega)) only [RUN, RU, footA, feetIn, resultsA, tupOf, frzL, slot, lay, icyL, fillA, repCells, kR, reduceIte, Nat.reduceEqDiff, Nat.reduceBEq, Nat.reduceLT, Nat.reduceAdd, Nat.reduceLeDiff, Nat.reduceSub, Nat.reduceMul, Int.reduceLT, Int.reduceLE, Int.reduceEq, Int.reduceAdd, Int.reduceSub, Int.reduceMul, t0, t1, t5, t6, hlen, hc', hfz]
        exact hSr
  obtain ⟨r, N, hcl, hSr⟩ := key
  exact ⟨r, hSr, fun M => call_own tf34 rfl hcl (ic mem0) (ic M)⟩
def hideM (l : List Int) (w : List Bool) : List Int := if chk l ≠ 0 then [] else if w.length ≠ l.length then [] else hid l w
def hideE (l : List Int) (w : List Bool) : Int := if chk l ≠ 0 then chk l else if w.length ≠ l.length then 2 else 0
theorem rhide_run {a aw : AV} {l : List Int} {w : List Bool} (hS : Sl 1 isI32 a l) (hW : Sl 1 isBool aw w) (hf : 2000 < fuel) : ∃ r, Sl 1 isI32 r (hideM l w) ∧ ∀ M, callN Try.prog (fsT tbl) fuel (d + 3) (.fn 18) [a, aw] M = some (.tup [r, I64 (hideE l w)], M) := by
  have ic : ∀ M, icyL (icy 12) M [a, aw] = some ([a, aw], M) := fun M => by simp (maxSteps := 2000000) (disch := first | omega | assumption | (simp only [DS, Nat.reduceAdd, *]; done) | (simp only [DZ]; omega)) only [RUN, RU, footA, feetIn, resultsA, tupOf, frzL, slot, lay, icyL, fillA, repCells, kR, reduceIte, Nat.reduceEqDiff, Nat.reduceBEq, Nat.reduceLT, Nat.reduceAdd, Nat.reduceLeDiff, Nat.reduceSub, Nat.reduceMul, Int.reduceLT, Int.reduceLE, Int.reduceEq, Int.reduceAdd, Int.reduceSub, Int.reduceMul, hS.icy, hW.icy]
  have hck := fun M => rcheck_run (fuel := fuel) (d := d) hS (by omega) M
  have hlen := hS.len
  have hlw := hW.len
  by_cases hc : chk l = 0
  · have q1 : decide (chk l = 0) = true := decide_eq_true hc
    by_cases hw : w.length = l.length
    · obtain ⟨h1, h2⟩ := chk_ok hc
      obtain ⟨r, hr, hbl⟩ := blank_run (fuel := fuel) (d := d + 1) hS hW (by omega) hw hf
      have rr := fun M => hr.frz M 0 12 (by omega)
      have q2 : decide ((l.length : Int) = w.length) = true := decide_eq_true (by omega)
      have e1 : hideM l w = hid l w := by simp [hideM, hc, hw]
      have e2 : hideE l w = 0 := by simp [hideE, hc, hw]
      rw [e1, e2]
      refine ⟨r, hr, fun M => ?_⟩
      apply w3_eq
      refine call_gc tf18 rfl (ic M) (by simp [a18]) fun b ht hx => ?_
      have h0 := hx 0 _ rfl
      have h1 := hx 1 _ rfl
      clear hx
      simp only [a18, c18] at ht ⊢
      simp (maxSteps := 2000000) (disch := first | omega | assumption | (simp only [DS, Nat.reduceAdd, *]; done) | (simp only [DZ]; omega)) only [RUN, RU, footA, feetIn, resultsA, tupOf, frzL, slot, lay, icyL, fillA, repCells, kR, reduceIte, Nat.reduceEqDiff, Nat.reduceBEq, Nat.reduceLT, Nat.reduceAdd, Nat.reduceLeDiff, Nat.reduceSub, Nat.reduceMul, Int.reduceLT, Int.reduceLE, Int.reduceEq, Int.reduceAdd, Int.reduceSub, Int.reduceMul, h0, h1, hck, q1, hlen, hlw, q2, hbl, rr]
    · have q2 : decide ((l.length : Int) = w.length) = false := decide_eq_false (by omega)
      have e1 : hideM l w = [] := by simp [hideM, hc, hw]
      have e2 : hideE l w = 2 := by simp [hideE, hc, hw]
      rw [e1, e2]
      refine ⟨NIL, .inl ⟨rfl, rfl⟩, fun M => ?_⟩
      apply w3_eq
      refine call_gc tf18 rfl (ic M) (by simp [a18]) fun b ht hx => ?_
      have h0 := hx 0 _ rfl
      have h1 := hx 1 _ rfl
      clear hx
      simp only [a18, c18] at ht ⊢
      simp (maxSteps := 2000000) (disch := first | omega | assumption | (simp only [DS, Nat.reduceAdd, *]; done) | (simp only [DZ]; omega)) only [RUN, RU, footA, feetIn, resultsA, tupOf, frzL, slot, lay, icyL, fillA, repCells, kR, reduceIte, Nat.reduceEqDiff, Nat.reduceBEq, Nat.reduceLT, Nat.reduceAdd, Nat.reduceLeDiff, Nat.reduceSub, Nat.reduceMul, Int.reduceLT, Int.reduceLE, Int.reduceEq, Int.reduceAdd, Int.reduceSub, Int.reduceMul, h0, h1, hck, q1, hlen, hlw, q2]
  · have q1 : decide (chk l = 0) = false := decide_eq_false hc
    have e1 : hideM l w = [] := by simp [hideM, hc]
    have e2 : hideE l w = chk l := by simp [hideE, hc]
    rw [e1, e2]
    refine ⟨NIL, .inl ⟨rfl, rfl⟩, fun M => ?_⟩
    apply w3_eq
    refine call_gc tf18 rfl (ic M) (by simp [a18]) fun b ht hx => ?_
    have h0 := hx 0 _ rfl
    have h1 := hx 1 _ rfl
    clear hx
    simp only [a18, c18] at ht ⊢
    simp (maxSteps := 2000000) (disch := first | omega | assumption | (simp only [DS, Nat.reduceAdd, *]; done) | (simp only [DZ]; omega)) only [RUN, RU, footA, feetIn, resultsA, tupOf, frzL, slot, lay, icyL, fillA, repCells, kR, reduceIte, Nat.reduceEqDiff, Nat.reduceBEq, Nat.reduceLT, Nat.reduceAdd, Nat.reduceLeDiff, Nat.reduceSub, Nat.reduceMul, Int.reduceLT, Int.reduceLE, Int.reduceEq, Int.reduceAdd, Int.reduceSub, Int.reduceMul, h0, h1, hck, q1]

def textM (m : List UInt8) (l : List Int) : List UInt8 := if chk l = 0 then textL m l else []
theorem textL_le' (m : List UInt8) : ∀ l : List Int, (textL m l).length ≤ l.length * (m.length + 4)
  | [] => by simp [textL]
  | x :: l => by
    have ih := textL_le' m l
    have he := Lib.runeCells_le x
    rw [Lib.runeCells_length] at he
    simp only [textL, List.flatMap_cons, List.length_append, List.length_cons] at ih ⊢
    rw [Nat.succ_mul]
    split <;> omega
set_option maxHeartbeats 4000000 in
theorem rtext_run {a : AV} {l : List Int} (hS : Sl 1 isI32 a l) (m : List UInt8) (hm : m.length ≤ 1000) (hf : 2000 < fuel) : ∀ M, callN Try.prog (fsT tbl) fuel (d + 3) (.fn 19) [a, STR m] M = some (.tup [STR (textM m l), I64 (chk l)], M) := by
  have ic : ∀ M, icyL (icy 12) M [a, STR m] = some ([a, STR m], M) := fun M => by simp (maxSteps := 2000000) (disch := first | omega | assumption | (simp only [DS, Nat.reduceAdd, *]; done) | (simp only [DZ]; omega)) only [RUN, RU, footA, feetIn, resultsA, tupOf, frzL, slot, lay, icyL, fillA, repCells, kR, reduceIte, Nat.reduceEqDiff, Nat.reduceBEq, Nat.reduceLT, Nat.reduceAdd, Nat.reduceLeDiff, Nat.reduceSub, Nat.reduceMul, Int.reduceLT, Int.reduceLE, Int.reduceEq, Int.reduceAdd, Int.reduceSub, Int.reduceMul, hS.icy]
  have hck := fun M => rcheck_run (fuel := fuel) (d := d) hS (by omega) M
  have hlen := hS.len
  have hb := sl_bound hS
  have cv := fun t r x => pConv2 (P := Try.prog) (t := t) Try.underlying21 Try.underlying3 r x
  intro M
  apply w3_eq
  refine call_gc tf19 rfl (ic M) (by simp [a19]) fun b ht hx => ?_
  have h0 := hx 0 _ rfl
  have h1 := hx 1 _ rfl
  clear hx
  simp only [a19, c19] at ht ⊢
  unfold textM
  by_cases hc : chk l = 0
  rotate_left
  · have q1 : decide (chk l = 0) = false := decide_eq_false hc
    rw [if_neg hc]
    simp (maxSteps := 2000000) (disch := first | omega | assumption | (simp only [DS, Nat.reduceAdd, *]; done) | (simp only [DZ]; omega)) only [RUN, RU, footA, feetIn, resultsA, tupOf, frzL, slot, lay, icyL, fillA, repCells, kR, reduceIte, Nat.reduceEqDiff, Nat.reduceBEq, Nat.reduceLT, Nat.reduceAdd, Nat.reduceLeDiff, Nat.reduceSub, Nat.reduceMul, Int.reduceLT, Int.reduceLE, Int.reduceEq, Int.reduceAdd, Int.reduceSub, Int.reduceMul, h0, h1, hck, q1]
  have q1 : decide (chk l = 0) = true := decide_eq_true hc
  obtain ⟨h64, hok⟩ := chk_ok hc
  rw [if_pos hc]
  simp (maxSteps := 2000000) (disch := first | omega | assumption | (simp only [DS, Nat.reduceAdd, *]; done) | (simp only [DZ]; omega)) only [RUN, RU, footA, feetIn, resultsA, tupOf, frzL, slot, lay, icyL, fillA, repCells, kR, reduceIte, Nat.reduceEqDiff, Nat.reduceBEq, Nat.reduceLT, Nat.reduceAdd, Nat.reduceLeDiff, Nat.reduceSub, Nat.reduceMul, Int.reduceLT, Int.reduceLE, Int.reduceEq, Int.reduceAdd, Int.reduceSub, Int.reduceMul, h0, h1, hck, q1]
  refine w_loop (I := fun n t N => ∃ (i : Nat) (o : AV), i ≤ l.length ∧ n = l.length - i ∧ nth undefA t 0 = a ∧ nth undefA t 1 = STR m ∧ nth undefA t 7 = o ∧ nth undefA t 8 = I64 i ∧ Wf N ∧ SlM N 1 isU8 o (textL m (l.take i))) (n := l.length) (by omega) ?_ ?_
  · refine ⟨0, NIL, by omega, by omega, ?_, ?_, ?_, ?_, Wf.mem0, SlM.nil⟩ <;> simp (maxSteps := 2000000) (disch := first | omega | assumption | (simp only [DS, Nat.reduceAdd, *]; done) | (simp only [DZ]; omega)) only [RUN, RU, footA, feetIn, resultsA, tupOf, frzL, slot, lay, icyL, fillA, repCells, kR, reduceIte, Nat.reduceEqDiff, Nat.reduceBEq, Nat.reduceLT, Nat.reduceAdd, Nat.reduceLeDiff, Nat.reduceSub, Nat.reduceMul, Int.reduceLT, Int.reduceLE, Int.reduceEq, Int.reduceAdd, Int.reduceSub, Int.reduceMul, h0, h1]
    all_goals rfl
  · rintro n t N hl' ⟨i, o, hi, hn, t0, t1, t7, t8, wfN, hN⟩
    simp only [ht] at hl' ⊢
    clear h0 h1 ht b
    have htl := textL_le' m (l.take i)
    have htl2 : (l.take i).length * (m.length + 4) ≤ 64 * 1004 := Nat.mul_le_mul (by rw [List.length_take]; omega) (by omega)
    by_cases hlt : i < l.length
    · have hc' : decide ((i : Int) < l.length) = true := decide_eq_true (by omega)
      have w1 : IntKind.i64.wrap ((i : Int) + 1) = ((i + 1 : Nat) : Int) := by rw [wrap_i64] <;> omega
      obtain ⟨r, hr, ⟨rfl, _⟩, _⟩ := hS.iad i hlt
      have hbi := hb l[i] (List.getElem_mem hlt)
      have hoi := hok l[i] (List.getElem_mem hlt)
      have htk : l.take (i + 1) = l.take i ++ [l[i]] := by rw [List.take_add_one, List.getElem?_eq_getElem hlt]; rfl
      generalize l[i] = x at *
      have hsn : textL m (l.take (i + 1)) = textL m (l.take i) ++ (if x = -1 then m else Lib.encodeRune x) := by rw [htk]; simp [textL]
      have hx : x = -1 ∨ (0 ≤ x ∧ valid x = true) := by
        simp only [okR, Bool.or_eq_true, decide_eq_true_eq] at hoi
        rcases hoi with h | h
        · exact .inl h
        · refine .inr ⟨?_, h⟩
          simp only [valid, Bool.or_eq_true, Bool.and_eq_true, decide_eq_true_eq] at h; omega
      have next : ∀ (o' : AV) (N' : Mem) (bs : List UInt8), bs = (if x = -1 then m else Lib.encodeRune x) → Wf N' → SlM N' 1 isU8 o' (textL m (l.take i) ++ bs) → ∃ m', m' < n ∧ ∃ (i' : Nat) (o'' : AV), i' ≤ l.length ∧ m' = l.length - i' ∧ o' = o'' ∧ I64 ((i + 1 : Nat) : Int) = I64 i' ∧ Wf N' ∧ SlM N' 1 isU8 o'' (textL m (l.take i')) := by
        rintro o' N' bs rfl k1 k2
        exact ⟨l.length - (i + 1), by omega, i + 1, o', by omega, rfl, rfl, rfl, k1, by rw [hsn]; exact k2⟩
      have oo := hN.one
      have oco := hN.cells
      have rlo0 := rows_lt hN.rl (Nat.le_refl N.size)
      rcases hx with hx | ⟨hx, hv⟩
      · have q2 : decide (x < 0) = true := decide_eq_true (by omega)
        simp (maxSteps := 2000000) (disch := first | omega | assumption | (simp only [DS, Nat.reduceAdd, *]; done) | (simp only [DZ]; omega)) only [RUN, RU, footA, feetIn, resultsA, tupOf, frzL, slot, lay, icyL, fillA, repCells, kR, reduceIte, Nat.reduceEqDiff, Nat.reduceBEq, Nat.reduceLT, Nat.reduceAdd, Nat.reduceLeDiff, Nat.reduceSub, Nat.reduceMul, Int.reduceLT, Int.reduceLE, Int.reduceEq, Int.reduceAdd, Int.reduceSub, Int.reduceMul, t0, t1, t7, t8, hlen, hc', w1, hr, q2, oo, oco, rlo0, wfN]
        refine w3_str wfN hN (by omega) fun o4 M4 m4 wf4 le4 kp4 nw4 wm4 rl4 on4 oc4 => ?_
        simp (maxSteps := 2000000) (disch := first | omega | assumption | (simp only [DS, Nat.reduceAdd, *]; done) | (simp only [DZ]; omega)) only [RUN, RU, footA, feetIn, resultsA, tupOf, frzL, slot, lay, icyL, fillA, repCells, kR, reduceIte, Nat.reduceEqDiff, Nat.reduceBEq, Nat.reduceLT, Nat.reduceAdd, Nat.reduceLeDiff, Nat.reduceSub, Nat.reduceMul, Int.reduceLT, Int.reduceLE, Int.reduceEq, Int.reduceAdd, Int.reduceSub, Int.reduceMul, t0, t1, t7, t8, w1]
        exact ⟨hl', next o4 M4 m (by rw [if_pos hx]) wf4 m4⟩
      · have q2 : decide (x < 0) = false := decide_eq_false (by omega)
        obtain ⟨nn, rfl⟩ : ∃ nn : Nat, x = nn := ⟨x.toNat, by omega⟩
        have hR : isR nn = true := by rw [← valid_isR]; exact hv
        have hn2 : nn ≤ 1114111 := by simp [isR] at hR; omega
        have wx : IntKind.i64.wrap (nn : Int) = (nn : Int) := by rw [wrap_i64] <;> omega
        obtain ⟨rb, hrb, hby⟩ := bytes_run (fuel := fuel) (d := d) nn hn2 (by omega)
        have rrb := hrb.rows mem0
        have hbl : (bytesU nn).length ≤ 4 := by
          have := Lib.runeCells_le (nn : Int)
          rw [Lib.runeCells_length, enc_eq nn hR] at this; exact this.2
        simp (maxSteps := 2000000) (disch := first | omega | assumption | (simp only [DS, Nat.reduceAdd, *]; done) | (simp only [DZ]; omega)) only [RUN, RU, footA, feetIn, resultsA, tupOf, frzL, slot, lay, icyL, fillA, repCells, kR, reduceIte, Nat.reduceEqDiff, Nat.reduceBEq, Nat.reduceLT, Nat.reduceAdd, Nat.reduceLeDiff, Nat.reduceSub, Nat.reduceMul, Int.reduceLT, Int.reduceLE, Int.reduceEq, Int.reduceAdd, Int.reduceSub, Int.reduceMul, t0, t1, t7, t8, hlen, hc', w1, hr, q2, cv, pc1_int, wx, hby, rrb, oo, oco, rlo0, wfN]
        refine w3_app wfN hN cel_U8 hrb (by omega) (by omega) (by omega) fun o4 M4 m4 wf4 le4 sz4 kp4 nw4 wm4 rl4 on4 oc4 => ?_
        simp (maxSteps := 2000000) (disch := first | omega | assumption | (simp only [DS, Nat.reduceAdd, *]; done) | (simp only [DZ]; omega)) only [RUN, RU, footA, feetIn, resultsA, tupOf, frzL, slot, lay, icyL, fillA, repCells, kR, reduceIte, Nat.reduceEqDiff, Nat.reduceBEq, Nat.reduceLT, Nat.reduceAdd, Nat.reduceLeDiff, Nat.reduceSub, Nat.reduceMul, Int.reduceLT, Int.reduceLE, Int.reduceEq, Int.reduceAdd, Int.reduceSub, Int.reduceMul, t0, t1, t7, t8, w1]
        exact ⟨hl', next o4 M4 (bytesU nn) (by rw [if_neg (by omega), enc_eq nn hR]) wf4 m4⟩
    · obtain rfl : i = l.length := by omega
      have hc' : decide ((l.length : Int) < l.length) = false := decide_eq_false (by omega)
      rw [List.take_length] at hN
      have bs := hN.b2s
      have rlo0 := rows_lt hN.rl (Nat.le_refl N.size)
      simp (maxSteps := 2000000) (disch := first | omega | assumption | (simp only [DS, Nat.reduceAdd, *]; done) | (simp only [DZ]; omega)) only [RUN, RU, footA, feetIn, resultsA, tupOf, frzL, slot, lay, icyL, fillA, repCells, kR, reduceIte, Nat.reduceEqDiff, Nat.reduceBEq, Nat.reduceLT, Nat.reduceAdd, Nat.reduceLeDiff, Nat.reduceSub, Nat.reduceMul, Int.reduceLT, Int.reduceLE, Int.reduceEq, Int.reduceAdd, Int.reduceSub, Int.reduceMul, t0, t1, t7, t8, hlen, hc', bs, rlo0, hc]
end Go.Proofs.Ytlccfbaibcdodaa
