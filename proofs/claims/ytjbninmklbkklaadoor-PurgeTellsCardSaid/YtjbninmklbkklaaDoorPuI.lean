/-
  purge: Check, twin; the reference's Great.
-/
import Derived.Test.YtjbninmklbkklaaDoorPuH
set_option linter.unusedSimpArgs false
set_option linter.unusedVariables false
set_option maxRecDepth 100000
namespace Go.Proofs.YtjbninmklbkklaaDoor
open Go Go.Ax
variable {fuel : Nat} {M : Mem} {Q : AV → Mem → Prop} {d : Nat}

theorem part_ev (e : Ev) (da ca : AV) : Go.Ax.part (evRow e da ca) 0 17 true = some (.agg (evRow e da ca)) := rfl
def Ev.who (e : Ev) : Bool := (decide (e.lb.lv = 0) && decide (e.lb.cats = 0) && decide (e.num = 0)) || (itsK e.kind.toNat && hdMay e.lb e.num)
set_option maxHeartbeats 8000000 in
theorem may_run {e : Ev} {da ca : AV} (h1 : Bs da e.data) (h2 : Sl 1 isInt ca e.crash) (hf : 100 < fuel) (M : Mem) : callN Tryd.prog (fsT tbl) fuel (d + 4) (.fn 29) [.agg (evRow e da ca)] M = some (BL e.may, M) := by
  have hi := fun M => @its_run fuel (d + 2) e da ca h1 h2 M
  have hh := fun M => @handle_run fuel (d + 1) e.lb e.num M
  have ld := h1.len
  have lc := h2.len
  have rd := h1.rows mem0
  have rc := h2.rows mem0
  have od := h1.one
  have oc := h2.one
  have cd := h1.cells
  have cc := h2.cells
  have pls := fun t x r => pLenS (P := Tryd.prog) (t := t) Tryd.underlying9 x r
  have z0 : decide ((0 : Int) = 0) = true := rfl
  have z8 : decide ((8 : Int) = 0) = false := rfl
  have ic : ∀ M, icyL (icy 12) M [.agg (evRow e da ca)] = some ([.agg (evRow e da ca)], M) := fun M => by simp only [icyL, ev_icy1 h1 h2]
  have hany : e.crash.length ≤ 3 → ∀ M, callN Tryd.prog (fsT tbl) fuel (d + 3) (.fn 44) [ca, .fn 43 [] []] M = some (BL (e.crash.any fun n => decide (n < 0) || decide (16777216 ≤ n)), M) := fun hl M =>
    has_int (d := d + 1) h2 (by omega) (by omega) (fun r x _ _ M => odd_run x M) M
  have key : ∀ w : Bool, w = e.who → W3 (callN Tryd.prog (fsT tbl) fuel (d + 4) (.fn 29) [.agg (evRow e da ca)] M) (fun r' N => r' = BL e.may ∧ N = M) := by
    intro w hw
    refine call_gc tf29 rfl (ic M) (by simp [a29]) fun b' ht hx => ?_
    have h0 := hx 0 _ rfl
    clear hx
    simp only [a29, c29] at ht ⊢
    unfold evRow at *
    have em : e.may = (decide ((1 : Int) ≤ e.kind.toNat) && decide ((e.kind.toNat : Int) ≤ 20) && w && decide ((e.text.length : Int) ≤ 400) && decide ((e.data.length : Int) ≤ 1100) && decide ((e.crash.length : Int) ≤ 3) && !(e.crash.any fun n => decide (n < 0) || decide (16777216 ≤ n))) := by rw [hw]; rfl
    rw [em]
    have pHdE := @pHdE
    unfold Ev.who at hw
    cases hz : (decide (e.lb.lv = 0) && decide (e.lb.cats = 0) && decide (e.num = 0)) with
    | true =>
      rw [hz] at hw
      obtain rfl : w = true := by simpa using hw
      cases c1 : decide ((1 : Int) ≤ e.kind.toNat) with
      | false =>
        simp (maxSteps := 2000000) (disch := first | omega | assumption | (simp only [DS, Nat.reduceAdd, *]; done) | (simp only [DZ]; omega)) only [RUN, RU, footA, feetIn, resultsA, tupOf, frzL, slot, lay, icyL, fillA, repCells, kR, reduceIte, Nat.reduceEqDiff, Nat.reduceBEq, Nat.reduceLT, Nat.reduceAdd, Nat.reduceLeDiff, Nat.reduceSub, Nat.reduceMul, Int.reduceLT, Int.reduceLE, Int.reduceEq, Int.reduceAdd, Int.reduceSub, Int.reduceMul, h0, pls, szB, ↓pHdE, pe3E_val, hi, hh, ld, lc, rd, rc, od, oc, cd, cc, z0, z8, Bool.false_and, Bool.and_false, Bool.false_eq_true, if_false, if_true, hz, c1]
      | true =>
        cases c2 : decide ((e.kind.toNat : Int) ≤ 20) with
        | false =>
          simp (maxSteps := 2000000) (disch := first | omega | assumption | (simp only [DS, Nat.reduceAdd, *]; done) | (simp only [DZ]; omega)) only [RUN, RU, footA, feetIn, resultsA, tupOf, frzL, slot, lay, icyL, fillA, repCells, kR, reduceIte, Nat.reduceEqDiff, Nat.reduceBEq, Nat.reduceLT, Nat.reduceAdd, Nat.reduceLeDiff, Nat.reduceSub, Nat.reduceMul, Int.reduceLT, Int.reduceLE, Int.reduceEq, Int.reduceAdd, Int.reduceSub, Int.reduceMul, h0, pls, szB, ↓pHdE, pe3E_val, hi, hh, ld, lc, rd, rc, od, oc, cd, cc, z0, z8, Bool.false_and, Bool.and_false, Bool.false_eq_true, if_false, if_true, hz, c1, c2]
        | true =>
          cases c3 : decide ((e.text.length : Int) ≤ 400) with
          | false =>
            simp (maxSteps := 2000000) (disch := first | omega | assumption | (simp only [DS, Nat.reduceAdd, *]; done) | (simp only [DZ]; omega)) only [RUN, RU, footA, feetIn, resultsA, tupOf, frzL, slot, lay, icyL, fillA, repCells, kR, reduceIte, Nat.reduceEqDiff, Nat.reduceBEq, Nat.reduceLT, Nat.reduceAdd, Nat.reduceLeDiff, Nat.reduceSub, Nat.reduceMul, Int.reduceLT, Int.reduceLE, Int.reduceEq, Int.reduceAdd, Int.reduceSub, Int.reduceMul, h0, pls, szB, ↓pHdE, pe3E_val, hi, hh, ld, lc, rd, rc, od, oc, cd, cc, z0, z8, Bool.false_and, Bool.and_false, Bool.false_eq_true, if_false, if_true, hz, c1, c2, c3]
          | true =>
            cases c4 : decide ((e.data.length : Int) ≤ 1100) with
            | false =>
              simp (maxSteps := 2000000) (disch := first | omega | assumption | (simp only [DS, Nat.reduceAdd, *]; done) | (simp only [DZ]; omega)) only [RUN, RU, footA, feetIn, resultsA, tupOf, frzL, slot, lay, icyL, fillA, repCells, kR, reduceIte, Nat.reduceEqDiff, Nat.reduceBEq, Nat.reduceLT, Nat.reduceAdd, Nat.reduceLeDiff, Nat.reduceSub, Nat.reduceMul, Int.reduceLT, Int.reduceLE, Int.reduceEq, Int.reduceAdd, Int.reduceSub, Int.reduceMul, h0, pls, szB, ↓pHdE, pe3E_val, hi, hh, ld, lc, rd, rc, od, oc, cd, cc, z0, z8, Bool.false_and, Bool.and_false, Bool.false_eq_true, if_false, if_true, hz, c1, c2, c3, c4]
            | true =>
              cases c5 : decide ((e.crash.length : Int) ≤ 3) with
              | false =>
                simp (maxSteps := 2000000) (disch := first | omega | assumption | (simp only [DS, Nat.reduceAdd, *]; done) | (simp only [DZ]; omega)) only [RUN, RU, footA, feetIn, resultsA, tupOf, frzL, slot, lay, icyL, fillA, repCells, kR, reduceIte, Nat.reduceEqDiff, Nat.reduceBEq, Nat.reduceLT, Nat.reduceAdd, Nat.reduceLeDiff, Nat.reduceSub, Nat.reduceMul, Int.reduceLT, Int.reduceLE, Int.reduceEq, Int.reduceAdd, Int.reduceSub, Int.reduceMul, h0, pls, szB, ↓pHdE, pe3E_val, hi, hh, ld, lc, rd, rc, od, oc, cd, cc, z0, z8, Bool.false_and, Bool.and_false, Bool.false_eq_true, if_false, if_true, hz, c1, c2, c3, c4, c5]
              | true =>
                have hl : e.crash.length ≤ 3 := by have := of_decide_eq_true c5; omega
                have hy := hany hl
                simp (maxSteps := 2000000) (disch := first | omega | assumption | (simp only [DS, Nat.reduceAdd, *]; done) | (simp only [DZ]; omega)) only [RUN, RU, footA, feetIn, resultsA, tupOf, frzL, slot, lay, icyL, fillA, repCells, kR, reduceIte, Nat.reduceEqDiff, Nat.reduceBEq, Nat.reduceLT, Nat.reduceAdd, Nat.reduceLeDiff, Nat.reduceSub, Nat.reduceMul, Int.reduceLT, Int.reduceLE, Int.reduceEq, Int.reduceAdd, Int.reduceSub, Int.reduceMul, h0, pls, szB, ↓pHdE, pe3E_val, hi, hh, ld, lc, rd, rc, od, oc, cd, cc, z0, z8, Bool.false_and, Bool.and_false, Bool.false_eq_true, if_false, if_true, hz, c1, c2, c3, c4, c5, hy]
    | false =>
      rw [hz] at hw
      cases hk : itsK e.kind.toNat with
      | false =>
        rw [hk] at hw
        obtain rfl : w = false := by simpa using hw
        cases c1 : decide ((1 : Int) ≤ e.kind.toNat) with
        | false =>
          simp (maxSteps := 2000000) (disch := first | omega | assumption | (simp only [DS, Nat.reduceAdd, *]; done) | (simp only [DZ]; omega)) only [RUN, RU, footA, feetIn, resultsA, tupOf, frzL, slot, lay, icyL, fillA, repCells, kR, reduceIte, Nat.reduceEqDiff, Nat.reduceBEq, Nat.reduceLT, Nat.reduceAdd, Nat.reduceLeDiff, Nat.reduceSub, Nat.reduceMul, Int.reduceLT, Int.reduceLE, Int.reduceEq, Int.reduceAdd, Int.reduceSub, Int.reduceMul, h0, pls, szB, ↓pHdE, pe3E_val, hi, hh, ld, lc, rd, rc, od, oc, cd, cc, z0, z8, Bool.false_and, Bool.and_false, Bool.false_eq_true, if_false, if_true, hz, hk, c1]
        | true =>
          cases c2 : decide ((e.kind.toNat : Int) ≤ 20) with
          | false =>
            simp (maxSteps := 2000000) (disch := first | omega | assumption | (simp only [DS, Nat.reduceAdd, *]; done) | (simp only [DZ]; omega)) only [RUN, RU, footA, feetIn, resultsA, tupOf, frzL, slot, lay, icyL, fillA, repCells, kR, reduceIte, Nat.reduceEqDiff, Nat.reduceBEq, Nat.reduceLT, Nat.reduceAdd, Nat.reduceLeDiff, Nat.reduceSub, Nat.reduceMul, Int.reduceLT, Int.reduceLE, Int.reduceEq, Int.reduceAdd, Int.reduceSub, Int.reduceMul, h0, pls, szB, ↓pHdE, pe3E_val, hi, hh, ld, lc, rd, rc, od, oc, cd, cc, z0, z8, Bool.false_and, Bool.and_false, Bool.false_eq_true, if_false, if_true, hz, hk, c1, c2]
          | true =>
            simp (maxSteps := 2000000) (disch := first | omega | assumption | (simp only [DS, Nat.reduceAdd, *]; done) | (simp only [DZ]; omega)) only [RUN, RU, footA, feetIn, resultsA, tupOf, frzL, slot, lay, icyL, fillA, repCells, kR, reduceIte, Nat.reduceEqDiff, Nat.reduceBEq, Nat.reduceLT, Nat.reduceAdd, Nat.reduceLeDiff, Nat.reduceSub, Nat.reduceMul, Int.reduceLT, Int.reduceLE, Int.reduceEq, Int.reduceAdd, Int.reduceSub, Int.reduceMul, h0, pls, szB, ↓pHdE, pe3E_val, hi, hh, ld, lc, rd, rc, od, oc, cd, cc, z0, z8, Bool.false_and, Bool.and_false, Bool.false_eq_true, if_false, if_true, hz, hk, c1, c2]
      | true =>
        rw [hk] at hw
        replace hw : w = hdMay e.lb e.num := by simpa using hw
        cases c1 : decide ((1 : Int) ≤ e.kind.toNat) with
        | false =>
          cases hm : hdMay e.lb e.num with
          | false =>
            simp only [hm, Bool.false_eq_true, if_false] at hh
            simp (maxSteps := 2000000) (disch := first | omega | assumption | (simp only [DS, Nat.reduceAdd, *]; done) | (simp only [DZ]; omega)) only [RUN, RU, footA, feetIn, resultsA, tupOf, frzL, slot, lay, icyL, fillA, repCells, kR, reduceIte, Nat.reduceEqDiff, Nat.reduceBEq, Nat.reduceLT, Nat.reduceAdd, Nat.reduceLeDiff, Nat.reduceSub, Nat.reduceMul, Int.reduceLT, Int.reduceLE, Int.reduceEq, Int.reduceAdd, Int.reduceSub, Int.reduceMul, h0, pls, szB, ↓pHdE, pe3E_val, hi, hh, ld, lc, rd, rc, od, oc, cd, cc, z0, z8, Bool.false_and, Bool.and_false, Bool.false_eq_true, if_false, if_true, hz, hk, c1, hm]
          | true =>
            simp only [hm, if_true] at hh
            simp (maxSteps := 2000000) (disch := first | omega | assumption | (simp only [DS, Nat.reduceAdd, *]; done) | (simp only [DZ]; omega)) only [RUN, RU, footA, feetIn, resultsA, tupOf, frzL, slot, lay, icyL, fillA, repCells, kR, reduceIte, Nat.reduceEqDiff, Nat.reduceBEq, Nat.reduceLT, Nat.reduceAdd, Nat.reduceLeDiff, Nat.reduceSub, Nat.reduceMul, Int.reduceLT, Int.reduceLE, Int.reduceEq, Int.reduceAdd, Int.reduceSub, Int.reduceMul, h0, pls, szB, ↓pHdE, pe3E_val, hi, hh, ld, lc, rd, rc, od, oc, cd, cc, z0, z8, Bool.false_and, Bool.and_false, Bool.false_eq_true, if_false, if_true, hz, hk, c1, hm]
        | true =>
          cases c2 : decide ((e.kind.toNat : Int) ≤ 20) with
          | false =>
            cases hm : hdMay e.lb e.num with
            | false =>
              simp only [hm, Bool.false_eq_true, if_false] at hh
              simp (maxSteps := 2000000) (disch := first | omega | assumption | (simp only [DS, Nat.reduceAdd, *]; done) | (simp only [DZ]; omega)) only [RUN, RU, footA, feetIn, resultsA, tupOf, frzL, slot, lay, icyL, fillA, repCells, kR, reduceIte, Nat.reduceEqDiff, Nat.reduceBEq, Nat.reduceLT, Nat.reduceAdd, Nat.reduceLeDiff, Nat.reduceSub, Nat.reduceMul, Int.reduceLT, Int.reduceLE, Int.reduceEq, Int.reduceAdd, Int.reduceSub, Int.reduceMul, h0, pls, szB, ↓pHdE, pe3E_val, hi, hh, ld, lc, rd, rc, od, oc, cd, cc, z0, z8, Bool.false_and, Bool.and_false, Bool.false_eq_true, if_false, if_true, hz, hk, c1, c2, hm]
            | true =>
              simp only [hm, if_true] at hh
              simp (maxSteps := 2000000) (disch := first | omega | assumption | (simp only [DS, Nat.reduceAdd, *]; done) | (simp only [DZ]; omega)) only [RUN, RU, footA, feetIn, resultsA, tupOf, frzL, slot, lay, icyL, fillA, repCells, kR, reduceIte, Nat.reduceEqDiff, Nat.reduceBEq, Nat.reduceLT, Nat.reduceAdd, Nat.reduceLeDiff, Nat.reduceSub, Nat.reduceMul, Int.reduceLT, Int.reduceLE, Int.reduceEq, Int.reduceAdd, Int.reduceSub, Int.reduceMul, h0, pls, szB, ↓pHdE, pe3E_val, hi, hh, ld, lc, rd, rc, od, oc, cd, cc, z0, z8, Bool.false_and, Bool.and_false, Bool.false_eq_true, if_false, if_true, hz, hk, c1, c2, hm]
          | true =>
            cases hm : hdMay e.lb e.num with
            | false =>
              simp only [hm, Bool.false_eq_true, if_false] at hh
              rw [hm] at hw
              obtain rfl : w = false := hw
              simp (maxSteps := 2000000) (disch := first | omega | assumption | (simp only [DS, Nat.reduceAdd, *]; done) | (simp only [DZ]; omega)) only [RUN, RU, footA, feetIn, resultsA, tupOf, frzL, slot, lay, icyL, fillA, repCells, kR, reduceIte, Nat.reduceEqDiff, Nat.reduceBEq, Nat.reduceLT, Nat.reduceAdd, Nat.reduceLeDiff, Nat.reduceSub, Nat.reduceMul, Int.reduceLT, Int.reduceLE, Int.reduceEq, Int.reduceAdd, Int.reduceSub, Int.reduceMul, h0, pls, szB, ↓pHdE, pe3E_val, hi, hh, ld, lc, rd, rc, od, oc, cd, cc, z0, z8, Bool.false_and, Bool.and_false, Bool.false_eq_true, if_false, if_true, hz, hk, c1, c2, hm]
            | true =>
              simp only [hm, if_true] at hh
              rw [hm] at hw
              obtain rfl : w = true := hw
              cases c3 : decide ((e.text.length : Int) ≤ 400) with
              | false =>
                simp (maxSteps := 2000000) (disch := first | omega | assumption | (simp only [DS, Nat.reduceAdd, *]; done) | (simp only [DZ]; omega)) only [RUN, RU, footA, feetIn, resultsA, tupOf, frzL, slot, lay, icyL, fillA, repCells, kR, reduceIte, Nat.reduceEqDiff, Nat.reduceBEq, Nat.reduceLT, Nat.reduceAdd, Nat.reduceLeDiff, Nat.reduceSub, Nat.reduceMul, Int.reduceLT, Int.reduceLE, Int.reduceEq, Int.reduceAdd, Int.reduceSub, Int.reduceMul, h0, pls, szB, ↓pHdE, pe3E_val, hi, hh, ld, lc, rd, rc, od, oc, cd, cc, z0, z8, Bool.false_and, Bool.and_false, Bool.false_eq_true, if_false, if_true, hz, hk, c1, c2, hm, c3]
              | true =>
                cases c4 : decide ((e.data.length : Int) ≤ 1100) with
                | false =>
                  simp (maxSteps := 2000000) (disch := first | omega | assumption | (simp only [DS, Nat.reduceAdd, *]; done) | (simp only [DZ]; omega)) only [RUN, RU, footA, feetIn, resultsA, tupOf, frzL, slot, lay, icyL, fillA, repCells, kR, reduceIte, Nat.reduceEqDiff, Nat.reduceBEq, Nat.reduceLT, Nat.reduceAdd, Nat.reduceLeDiff, Nat.reduceSub, Nat.reduceMul, Int.reduceLT, Int.reduceLE, Int.reduceEq, Int.reduceAdd, Int.reduceSub, Int.reduceMul, h0, pls, szB, ↓pHdE, pe3E_val, hi, hh, ld, lc, rd, rc, od, oc, cd, cc, z0, z8, Bool.false_and, Bool.and_false, Bool.false_eq_true, if_false, if_true, hz, hk, c1, c2, hm, c3, c4]
                | true =>
                  cases c5 : decide ((e.crash.length : Int) ≤ 3) with
                  | false =>
                    simp (maxSteps := 2000000) (disch := first | omega | assumption | (simp only [DS, Nat.reduceAdd, *]; done) | (simp only [DZ]; omega)) only [RUN, RU, footA, feetIn, resultsA, tupOf, frzL, slot, lay, icyL, fillA, repCells, kR, reduceIte, Nat.reduceEqDiff, Nat.reduceBEq, Nat.reduceLT, Nat.reduceAdd, Nat.reduceLeDiff, Nat.reduceSub, Nat.reduceMul, Int.reduceLT, Int.reduceLE, Int.reduceEq, Int.reduceAdd, Int.reduceSub, Int.reduceMul, h0, pls, szB, ↓pHdE, pe3E_val, hi, hh, ld, lc, rd, rc, od, oc, cd, cc, z0, z8, Bool.false_and, Bool.and_false, Bool.false_eq_true, if_false, if_true, hz, hk, c1, c2, hm, c3, c4, c5]
                  | true =>
                    have hl : e.crash.length ≤ 3 := by have := of_decide_eq_true c5; omega
                    have hy := hany hl
                    simp (maxSteps := 2000000) (disch := first | omega | assumption | (simp only [DS, Nat.reduceAdd, *]; done) | (simp only [DZ]; omega)) only [RUN, RU, footA, feetIn, resultsA, tupOf, frzL, slot, lay, icyL, fillA, repCells, kR, reduceIte, Nat.reduceEqDiff, Nat.reduceBEq, Nat.reduceLT, Nat.reduceAdd, Nat.reduceLeDiff, Nat.reduceSub, Nat.reduceMul, Int.reduceLT, Int.reduceLE, Int.reduceEq, Int.reduceAdd, Int.reduceSub, Int.reduceMul, h0, pls, szB, ↓pHdE, pe3E_val, hi, hh, ld, lc, rd, rc, od, oc, cd, cc, z0, z8, Bool.false_and, Bool.and_false, Bool.false_eq_true, if_false, if_true, hz, hk, c1, c2, hm, c3, c4, c5, hy]
  exact w3_eq (key _ rfl)
end Go.Proofs.YtjbninmklbkklaaDoor
