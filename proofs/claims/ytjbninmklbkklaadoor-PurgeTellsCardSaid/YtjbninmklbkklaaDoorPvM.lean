/-
  purge: the program's Same, the reference's Same, of scripts.
-/
import Derived.Test.YtjbninmklbkklaaDoorPvL
set_option linter.unusedSimpArgs false
set_option linter.unusedVariables false
set_option maxRecDepth 100000
namespace Go.Proofs.YtjbninmklbkklaaDoor
open Go Go.Ax
variable {fuel : Nat} {M : Mem} {Q : AV → Mem → Prop} {d : Nat}

def sameL (l m : List Ev) : Bool := eqL evEq l m
theorem sameL_refl (l : List Ev) : sameL l l = true := eqL_refl evEq_refl l
theorem same1_in {a b : AV} {l m : List Ev} (h1' : Sl 17 isEv a l) (h2' : Sl 17 isEv b m) (hl : l.length ≤ 1000000) (hc : ∀ e ∈ l, e.crash.length ≤ 1000000000000000 ∧ e.crash.length < fuel) (hf : l.length < fuel) (M : Mem) : callN Tryd.prog (fsT tbl) fuel (d + 3) (.fn 10) [a, b] M = some (BL (sameL l m), M) := by
  have la := h1'.len
  have lb := h2'.len
  apply w3_eq
  refine call_g2 tf10 rfl (by simp (maxSteps := 2000000) (disch := first | omega | assumption | (simp only [DS, Nat.reduceAdd, *]; done) | (simp only [DZ]; omega)) only [RUN, RU, footA, feetIn, resultsA, tupOf, frzL, slot, lay, icyL, fillA, repCells, kR, reduceIte, Nat.reduceEqDiff, Nat.reduceBEq, Nat.reduceLT, Nat.reduceAdd, Nat.reduceLeDiff, Nat.reduceSub, Nat.reduceMul, Int.reduceLT, Int.reduceLE, Int.reduceEq, Int.reduceAdd, Int.reduceSub, Int.reduceMul, h1'.fz.rows, h1'.fz.one, h1'.fz.cells, h1'.fz.icy, h1'.fz.frz, h2'.fz.rows, h2'.fz.one, h2'.fz.cells, h2'.fz.icy, h2'.fz.frz]) (by simp [a10]) fun b' ht hx => ?_
  have h0 := hx 0 _ rfl
  have h1 := hx 1 _ rfl
  clear hx
  simp only [a10, c10] at ht ⊢
  by_cases q : l.length = m.length
  · have q0 : decide ((l.length : Int) = m.length) = true := decide_eq_true (by omega)
    simp (maxSteps := 2000000) (disch := first | omega | assumption | (simp only [DS, Nat.reduceAdd, *]; done) | (simp only [DZ]; omega)) only [RUN, RU, footA, feetIn, resultsA, tupOf, frzL, slot, lay, icyL, fillA, repCells, kR, reduceIte, Nat.reduceEqDiff, Nat.reduceBEq, Nat.reduceLT, Nat.reduceAdd, Nat.reduceLeDiff, Nat.reduceSub, Nat.reduceMul, Int.reduceLT, Int.reduceLE, Int.reduceEq, Int.reduceAdd, Int.reduceSub, Int.reduceMul, h0, h1, la, lb, h1'.fz.rows, h1'.fz.one, h1'.fz.cells, h1'.fz.icy, h1'.fz.frz, h2'.fz.rows, h2'.fz.one, h2'.fz.cells, h2'.fz.icy, h2'.fz.frz, q0, sc_ex]
    refine w_loop (I := fun n t N => ∃ (i : Nat), n = l.length - i ∧ i ≤ l.length ∧ nth undefA t 0 = a ∧ nth undefA t 1 = b ∧ nth undefA t 5 = I64 i ∧ N = mem0 ∧ (∀ j (x1 : j < l.length) (x2 : j < m.length), j < i → evEq l[j] m[j] = true)) (n := l.length) (by omega) ?_ ?_
    · refine ⟨0, rfl, Nat.zero_le _, ?_, ?_, ?_, rfl, (fun _ _ _ h => absurd h (by omega))⟩ <;> simp (maxSteps := 2000000) (disch := first | omega | assumption | (simp only [DS, Nat.reduceAdd, *]; done) | (simp only [DZ]; omega)) only [RUN, RU, footA, feetIn, resultsA, tupOf, frzL, slot, lay, icyL, fillA, repCells, kR, reduceIte, Nat.reduceEqDiff, Nat.reduceBEq, Nat.reduceLT, Nat.reduceAdd, Nat.reduceLeDiff, Nat.reduceSub, Nat.reduceMul, Int.reduceLT, Int.reduceLE, Int.reduceEq, Int.reduceAdd, Int.reduceSub, Int.reduceMul, h0, h1, la]
      all_goals first | rfl | assumption | done
    · rintro n t N hlt ⟨i, rfl, hi, g0, g1, g5, hm, hj⟩
      simp only [ht] at hlt ⊢
      subst hm
      by_cases hc' : i < l.length
      · have q1 : decide ((i : Int) < l.length) = true := decide_eq_true (by omega)
        have hc2 : i < m.length := by omega
        obtain ⟨r1, i1, hr1, hl1⟩ := h1'.iad i hc'
        obtain ⟨r2, i2, hr2, hl2⟩ := h2'.iad i hc2
        have hcr := hc l[i] (List.getElem_mem hc')
        have hp := fun M => @one1_run fuel d l[i] m[i] r1 r2 hr1 hr2 hcr.1 hcr.2 M
        have w1 : IntKind.i64.wrap ((i : Int) + 1) = ((i + 1 : Nat) : Int) := by rw [wrap_i64] <;> omega
        obtain ⟨da1, ca1, e1, b1, c1⟩ := hr1
        obtain ⟨da2, ca2, e2, b2, c2⟩ := hr2
        subst e1 e2
        unfold evRow at *
        cases q2 : evEq l[i] m[i] with
        | true =>
          rw [q2] at hp
          simp (maxSteps := 2000000) (disch := first | omega | assumption | (simp only [DS, Nat.reduceAdd, *]; done) | (simp only [DZ]; omega)) only [RUN, RU, footA, feetIn, resultsA, tupOf, frzL, slot, lay, icyL, fillA, repCells, kR, reduceIte, Nat.reduceEqDiff, Nat.reduceBEq, Nat.reduceLT, Nat.reduceAdd, Nat.reduceLeDiff, Nat.reduceSub, Nat.reduceMul, Int.reduceLT, Int.reduceLE, Int.reduceEq, Int.reduceAdd, Int.reduceSub, Int.reduceMul, g0, g1, g5, la, lb, h1'.fz.rows, h1'.fz.one, h1'.fz.cells, h1'.fz.icy, h1'.fz.frz, h2'.fz.rows, h2'.fz.one, h2'.fz.cells, h2'.fz.icy, h2'.fz.frz, q1, i1, i2, w1, b1.fz.rows, b1.fz.one, b1.fz.cells, b1.fz.icy, b1.fz.frz, c1.fz.rows, c1.fz.one, c1.fz.cells, c1.fz.icy, c1.fz.frz, b2.fz.rows, b2.fz.one, b2.fz.cells, b2.fz.icy, b2.fz.frz, c2.fz.rows, c2.fz.one, c2.fz.cells, c2.fz.icy, c2.fz.frz, hp, sc_ex]
          exact ⟨hlt, l.length - (i + 1), by omega, i + 1, rfl, by omega, rfl, fun j x1 x2 hj' => by
            rcases Nat.lt_succ_iff_lt_or_eq.1 hj' with h | rfl
            · exact hj j x1 x2 h
            · exact q2⟩
        | false =>
          rw [q2] at hp
          have e : sameL l m = false := eqL_at hc' hc2 q2
          simp (maxSteps := 2000000) (disch := first | omega | assumption | (simp only [DS, Nat.reduceAdd, *]; done) | (simp only [DZ]; omega)) only [RUN, RU, footA, feetIn, resultsA, tupOf, frzL, slot, lay, icyL, fillA, repCells, kR, reduceIte, Nat.reduceEqDiff, Nat.reduceBEq, Nat.reduceLT, Nat.reduceAdd, Nat.reduceLeDiff, Nat.reduceSub, Nat.reduceMul, Int.reduceLT, Int.reduceLE, Int.reduceEq, Int.reduceAdd, Int.reduceSub, Int.reduceMul, g0, g1, g5, la, lb, h1'.fz.rows, h1'.fz.one, h1'.fz.cells, h1'.fz.icy, h1'.fz.frz, h2'.fz.rows, h2'.fz.one, h2'.fz.cells, h2'.fz.icy, h2'.fz.frz, q1, i1, i2, w1, b1.fz.rows, b1.fz.one, b1.fz.cells, b1.fz.icy, b1.fz.frz, c1.fz.rows, c1.fz.one, c1.fz.cells, c1.fz.icy, c1.fz.frz, b2.fz.rows, b2.fz.one, b2.fz.cells, b2.fz.icy, b2.fz.frz, c2.fz.rows, c2.fz.one, c2.fz.cells, c2.fz.icy, c2.fz.frz, hp, e, sc_ex]
      · obtain rfl : i = l.length := by omega
        have q1 : decide ((l.length : Int) < l.length) = false := decide_eq_false (by omega)
        have e : sameL l m = true := eqL_all q fun j x1 x2 _ => hj j x1 x2 x1
        simp (maxSteps := 2000000) (disch := first | omega | assumption | (simp only [DS, Nat.reduceAdd, *]; done) | (simp only [DZ]; omega)) only [RUN, RU, footA, feetIn, resultsA, tupOf, frzL, slot, lay, icyL, fillA, repCells, kR, reduceIte, Nat.reduceEqDiff, Nat.reduceBEq, Nat.reduceLT, Nat.reduceAdd, Nat.reduceLeDiff, Nat.reduceSub, Nat.reduceMul, Int.reduceLT, Int.reduceLE, Int.reduceEq, Int.reduceAdd, Int.reduceSub, Int.reduceMul, g0, g1, g5, la, q1, h1'.fz.rows, h1'.fz.one, h1'.fz.cells, h1'.fz.icy, h1'.fz.frz, e, sc_ex]
  · have q0 : decide ((l.length : Int) = m.length) = false := decide_eq_false (by omega)
    have e : sameL l m = false := eqL_ne q
    simp (maxSteps := 2000000) (disch := first | omega | assumption | (simp only [DS, Nat.reduceAdd, *]; done) | (simp only [DZ]; omega)) only [RUN, RU, footA, feetIn, resultsA, tupOf, frzL, slot, lay, icyL, fillA, repCells, kR, reduceIte, Nat.reduceEqDiff, Nat.reduceBEq, Nat.reduceLT, Nat.reduceAdd, Nat.reduceLeDiff, Nat.reduceSub, Nat.reduceMul, Int.reduceLT, Int.reduceLE, Int.reduceEq, Int.reduceAdd, Int.reduceSub, Int.reduceMul, h0, h1, la, lb, h1'.fz.rows, h1'.fz.one, h1'.fz.cells, h1'.fz.icy, h1'.fz.frz, h2'.fz.rows, h2'.fz.one, h2'.fz.cells, h2'.fz.icy, h2'.fz.frz, q0, e, sc_ex]
theorem equalf_run {a b : AV} {l m : List Ev} (h1' : Sl 17 isEv a l) (h2' : Sl 17 isEv b m) (hl : l.length ≤ 1000000) (hc : ∀ e ∈ l, e.crash.length ≤ 1000000000000000 ∧ e.crash.length < fuel) (hf : l.length < fuel) (M : Mem) : callN Tryd.prog (fsT tbl) fuel (d + 3) (.fn 34) [a, b, .fn 35 [] []] M = some (BL (sameL l m), M) := by
  have la := h1'.len
  have lb := h2'.len
  apply w3_eq
  refine call_gc tf34 rfl (by simp (maxSteps := 2000000) (disch := first | omega | assumption | (simp only [DS, Nat.reduceAdd, *]; done) | (simp only [DZ]; omega)) only [RUN, RU, footA, feetIn, resultsA, tupOf, frzL, slot, lay, icyL, fillA, repCells, kR, reduceIte, Nat.reduceEqDiff, Nat.reduceBEq, Nat.reduceLT, Nat.reduceAdd, Nat.reduceLeDiff, Nat.reduceSub, Nat.reduceMul, Int.reduceLT, Int.reduceLE, Int.reduceEq, Int.reduceAdd, Int.reduceSub, Int.reduceMul, h1'.fz.rows, h1'.fz.one, h1'.fz.cells, h1'.fz.icy, h1'.fz.frz, h2'.fz.rows, h2'.fz.one, h2'.fz.cells, h2'.fz.icy, h2'.fz.frz, frzL, icyL]) (by simp [a34]) fun b' ht hx => ?_
  have h0 := hx 0 _ rfl
  have h1 := hx 1 _ rfl
  have h2 := hx 2 _ rfl
  clear hx
  simp only [a34, c34] at ht ⊢
  by_cases q : l.length = m.length
  · have q0 : decide ((l.length : Int) = m.length) = true := decide_eq_true (by omega)
    simp (maxSteps := 2000000) (disch := first | omega | assumption | (simp only [DS, Nat.reduceAdd, *]; done) | (simp only [DZ]; omega)) only [RUN, RU, footA, feetIn, resultsA, tupOf, frzL, slot, lay, icyL, fillA, repCells, kR, reduceIte, Nat.reduceEqDiff, Nat.reduceBEq, Nat.reduceLT, Nat.reduceAdd, Nat.reduceLeDiff, Nat.reduceSub, Nat.reduceMul, Int.reduceLT, Int.reduceLE, Int.reduceEq, Int.reduceAdd, Int.reduceSub, Int.reduceMul, h0, h1, h2, la, lb, h1'.fz.rows, h1'.fz.one, h1'.fz.cells, h1'.fz.icy, h1'.fz.frz, h2'.fz.rows, h2'.fz.one, h2'.fz.cells, h2'.fz.icy, h2'.fz.frz, q0]
    refine w_loop (I := fun n t N => ∃ (i : Nat), n = l.length - i ∧ i ≤ l.length ∧ nth undefA t 0 = a ∧ nth undefA t 1 = b ∧ nth undefA t 2 = .fn 35 [] [] ∧ nth undefA t 15 = a ∧ nth undefA t 16 = I64 l.length ∧ nth undefA t 17 = I64 i ∧ Wf N ∧ (∀ j (x1 : j < l.length) (x2 : j < m.length), j < i → evEq l[j] m[j] = true)) (n := l.length) (by omega) ?_ ?_
    · refine ⟨0, rfl, Nat.zero_le _, ?_, ?_, ?_, ?_, ?_, ?_, Wf.mem0, (fun _ _ _ h => absurd h (by omega))⟩ <;> simp (maxSteps := 2000000) (disch := first | omega | assumption | (simp only [DS, Nat.reduceAdd, *]; done) | (simp only [DZ]; omega)) only [RUN, RU, footA, feetIn, resultsA, tupOf, frzL, slot, lay, icyL, fillA, repCells, kR, reduceIte, Nat.reduceEqDiff, Nat.reduceBEq, Nat.reduceLT, Nat.reduceAdd, Nat.reduceLeDiff, Nat.reduceSub, Nat.reduceMul, Int.reduceLT, Int.reduceLE, Int.reduceEq, Int.reduceAdd, Int.reduceSub, Int.reduceMul, h0, h1, h2, la]
      all_goals first | rfl | assumption | done
    · rintro n t N hlt ⟨i, rfl, hi, g0, g1, g2, g15, g16, g17, wN, hj⟩
      simp only [ht] at hlt ⊢
      by_cases hc' : i < l.length
      · have q1 : decide ((i : Int) < l.length) = true := decide_eq_true (by omega)
        have hc2 : i < m.length := by omega
        obtain ⟨r1, i1, hr1, hl1⟩ := h1'.iad i hc'
        obtain ⟨r2, i2, hr2, hl2⟩ := h2'.iad i hc2
        have hcr := hc l[i] (List.getElem_mem hc')
        have hp := fun M => @psame1_run fuel d l[i] m[i] r1 r2 hr1 hr2 hcr.1 hcr.2 M
        have w1 : IntKind.i64.wrap ((i : Int) + 1) = ((i + 1 : Nat) : Int) := by rw [wrap_i64] <;> omega
        obtain ⟨da1, ca1, e1, b1, c1⟩ := hr1
        obtain ⟨da2, ca2, e2, b2, c2⟩ := hr2
        subst e1 e2
        have o1 := b1.one
        have o2 := c1.one
        have o3 := b2.one
        have o4 := c2.one
        unfold evRow at *
        cases q2 : evEq l[i] m[i] with
        | true =>
          rw [q2] at hp
          simp (maxSteps := 2000000) (disch := first | omega | assumption | (simp only [DS, Nat.reduceAdd, *]; done) | (simp only [DZ]; omega)) only [RUN, RU, footA, feetIn, resultsA, tupOf, frzL, slot, lay, icyL, fillA, repCells, kR, reduceIte, Nat.reduceEqDiff, Nat.reduceBEq, Nat.reduceLT, Nat.reduceAdd, Nat.reduceLeDiff, Nat.reduceSub, Nat.reduceMul, Int.reduceLT, Int.reduceLE, Int.reduceEq, Int.reduceAdd, Int.reduceSub, Int.reduceMul, g0, g1, g2, g15, g16, g17, h1'.fz.rows, h1'.fz.one, h1'.fz.cells, h1'.fz.icy, h1'.fz.frz, h2'.fz.rows, h2'.fz.one, h2'.fz.cells, h2'.fz.icy, h2'.fz.frz, q1, i1, i2, w1, b1.fz.rows, b1.fz.one, b1.fz.cells, b1.fz.icy, b1.fz.frz, c1.fz.rows, c1.fz.one, c1.fz.cells, c1.fz.icy, c1.fz.frz, b2.fz.rows, b2.fz.one, b2.fz.cells, b2.fz.icy, b2.fz.frz, c2.fz.rows, c2.fz.one, c2.fz.cells, c2.fz.icy, c2.fz.frz, hp, wN]
          exact ⟨hlt, l.length - (i + 1), by omega, i + 1, rfl, by omega, rfl, fun j x1 x2 hj' => by
            rcases Nat.lt_succ_iff_lt_or_eq.1 hj' with h | rfl
            · exact hj j x1 x2 h
            · exact q2⟩
        | false =>
          rw [q2] at hp
          have e : sameL l m = false := eqL_at hc' hc2 q2
          simp (maxSteps := 2000000) (disch := first | omega | assumption | (simp only [DS, Nat.reduceAdd, *]; done) | (simp only [DZ]; omega)) only [RUN, RU, footA, feetIn, resultsA, tupOf, frzL, slot, lay, icyL, fillA, repCells, kR, reduceIte, Nat.reduceEqDiff, Nat.reduceBEq, Nat.reduceLT, Nat.reduceAdd, Nat.reduceLeDiff, Nat.reduceSub, Nat.reduceMul, Int.reduceLT, Int.reduceLE, Int.reduceEq, Int.reduceAdd, Int.reduceSub, Int.reduceMul, g0, g1, g2, g15, g16, g17, h1'.fz.rows, h1'.fz.one, h1'.fz.cells, h1'.fz.icy, h1'.fz.frz, h2'.fz.rows, h2'.fz.one, h2'.fz.cells, h2'.fz.icy, h2'.fz.frz, q1, i1, i2, w1, b1.fz.rows, b1.fz.one, b1.fz.cells, b1.fz.icy, b1.fz.frz, c1.fz.rows, c1.fz.one, c1.fz.cells, c1.fz.icy, c1.fz.frz, b2.fz.rows, b2.fz.one, b2.fz.cells, b2.fz.icy, b2.fz.frz, c2.fz.rows, c2.fz.one, c2.fz.cells, c2.fz.icy, c2.fz.frz, hp, wN, e]
      · obtain rfl : i = l.length := by omega
        have q1 : decide ((l.length : Int) < l.length) = false := decide_eq_false (by omega)
        have e : sameL l m = true := eqL_all q fun j x1 x2 _ => hj j x1 x2 x1
        simp (maxSteps := 2000000) (disch := first | omega | assumption | (simp only [DS, Nat.reduceAdd, *]; done) | (simp only [DZ]; omega)) only [RUN, RU, footA, feetIn, resultsA, tupOf, frzL, slot, lay, icyL, fillA, repCells, kR, reduceIte, Nat.reduceEqDiff, Nat.reduceBEq, Nat.reduceLT, Nat.reduceAdd, Nat.reduceLeDiff, Nat.reduceSub, Nat.reduceMul, Int.reduceLT, Int.reduceLE, Int.reduceEq, Int.reduceAdd, Int.reduceSub, Int.reduceMul, g0, g1, g2, g15, g16, g17, q1, e]
  · have q0 : decide ((l.length : Int) = m.length) = false := decide_eq_false (by omega)
    have e : sameL l m = false := eqL_ne q
    simp (maxSteps := 2000000) (disch := first | omega | assumption | (simp only [DS, Nat.reduceAdd, *]; done) | (simp only [DZ]; omega)) only [RUN, RU, footA, feetIn, resultsA, tupOf, frzL, slot, lay, icyL, fillA, repCells, kR, reduceIte, Nat.reduceEqDiff, Nat.reduceBEq, Nat.reduceLT, Nat.reduceAdd, Nat.reduceLeDiff, Nat.reduceSub, Nat.reduceMul, Int.reduceLT, Int.reduceLE, Int.reduceEq, Int.reduceAdd, Int.reduceSub, Int.reduceMul, h0, h1, h2, la, lb, h1'.fz.rows, h1'.fz.one, h1'.fz.cells, h1'.fz.icy, h1'.fz.frz, h2'.fz.rows, h2'.fz.one, h2'.fz.cells, h2'.fz.icy, h2'.fz.frz, q0, e]
theorem psame_run {a b : AV} {l m : List Ev} (h1' : Sl 17 isEv a l) (h2' : Sl 17 isEv b m) (hl : l.length ≤ 1000000) (hc : ∀ e ∈ l, e.crash.length ≤ 1000000000000000 ∧ e.crash.length < fuel) (hf : l.length < fuel) (M : Mem) : callN Tryd.prog (fsT tbl) fuel (d + 4) (.fn 21) [a, b] M = some (BL (sameL l m), M) := by
  have he := fun M => @equalf_run fuel d a b l m h1' h2' hl hc hf M
  apply w3_eq
  refine call_gc tf21 rfl (by simp (maxSteps := 2000000) (disch := first | omega | assumption | (simp only [DS, Nat.reduceAdd, *]; done) | (simp only [DZ]; omega)) only [RUN, RU, footA, feetIn, resultsA, tupOf, frzL, slot, lay, icyL, fillA, repCells, kR, reduceIte, Nat.reduceEqDiff, Nat.reduceBEq, Nat.reduceLT, Nat.reduceAdd, Nat.reduceLeDiff, Nat.reduceSub, Nat.reduceMul, Int.reduceLT, Int.reduceLE, Int.reduceEq, Int.reduceAdd, Int.reduceSub, Int.reduceMul, h1'.fz.rows, h1'.fz.one, h1'.fz.cells, h1'.fz.icy, h1'.fz.frz, h2'.fz.rows, h2'.fz.one, h2'.fz.cells, h2'.fz.icy, h2'.fz.frz]) (by simp [a21]) fun b' ht hx => ?_
  have h0 := hx 0 _ rfl
  have h1 := hx 1 _ rfl
  clear hx
  simp only [a21, c21] at ht ⊢
  simp (maxSteps := 2000000) (disch := first | omega | assumption | (simp only [DS, Nat.reduceAdd, *]; done) | (simp only [DZ]; omega)) only [RUN, RU, footA, feetIn, resultsA, tupOf, frzL, slot, lay, icyL, fillA, repCells, kR, reduceIte, Nat.reduceEqDiff, Nat.reduceBEq, Nat.reduceLT, Nat.reduceAdd, Nat.reduceLeDiff, Nat.reduceSub, Nat.reduceMul, Int.reduceLT, Int.reduceLE, Int.reduceEq, Int.reduceAdd, Int.reduceSub, Int.reduceMul, h0, h1, h1'.fz.rows, h1'.fz.one, h1'.fz.cells, h1'.fz.icy, h1'.fz.frz, h2'.fz.rows, h2'.fz.one, h2'.fz.cells, h2'.fz.icy, h2'.fz.frz, he]
end Go.Proofs.YtjbninmklbkklaaDoor
