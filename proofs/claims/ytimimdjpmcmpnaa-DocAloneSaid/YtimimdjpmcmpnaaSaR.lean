/-
  Histories: insert, remove, raise, fits.
-/
import Derived.Test.YtimimdjpmcmpnaaSaQ
import Derived.Test.YtimimdjpmcmpnaaEf
set_option linter.unusedSimpArgs false
set_option linter.unusedVariables false
set_option maxRecDepth 100000
namespace Go.Proofs.Ytimimdjpmcmpnaa
open Go Go.Ax
variable {fuel : Nat} {M : Mem} {Q : AV → Mem → Prop} {d : Nat} {x : Eid} {l : List Op} {o : Op} {ra ops : AV} {B id m : Nat}

def remE (l : List Op) (o : Op) : Int := if allB l o then (if o.sp.f.hd.lb = o.hd.lb then 0 else 2) else 6
def raiE (l : List Op) (o : Op) : Int := if allB l o then (if chfE l o = 0 ∧ chfB l o = true then 0 else 2) else 6
set_option maxHeartbeats 4000000 in
theorem remove_0 (hH : IsHist M B id m ops l) (hR : Sl 1 isI32 ra o.rs) (ho : o.ok) (hm : o.may = true) (hf : 300 < fuel) (wf : Wf M) (hw : M.wm ≤ M.size) (k : ∀ N, Kept M N → Q (I64 (remE l o)) N) :
    W3 (callN Try.prog (fsT tbl) fuel (d + 8) (.fn 30) [.ptr id 0, .agg (opR o ra)] M) Q := by
  have ora := hR.one
  have li := Mem.get_lt hH.hg
  unfold remE at k
  refine call_0 tf30 rfl (by simp [a30]) fun b' ht hx => ?_
  have h0 := hx 0 _ rfl
  have h1 := hx 1 _ rfl
  clear hx
  simp only [a30, c30] at ht ⊢
  simp (maxSteps := 2000000) (disch := first | omega | assumption | (simp only [DS, Nat.reduceAdd, *]; done) | (simp only [DZ]; omega)) only [RUN, RU, footA, feetIn, resultsA, tupOf, frzL, slot, lay, icyL, fillA, repCells, kR, reduceIte, Nat.reduceEqDiff, Nat.reduceBEq, Nat.reduceLT, Nat.reduceAdd, Nat.reduceLeDiff, Nat.reduceSub, Nat.reduceMul, Int.reduceLT, Int.reduceLE, Int.reduceEq, Int.reduceAdd, Int.reduceSub, Int.reduceMul, h0, h1, hR.fz.rows, hR.fz.one, hR.fz.cells, hR.fz.icy, hR.fz.frz, wf]
  refine all_0 (d := d) (B := B) (m := m) (ops := ops) (hH.keep fun j hj => get_add wf _ _ hj) hR ho hm hf (wf.add _) (by rw [add_size]; show M.wm ≤ _; omega) fun N hN => ?_
  have hg := hN.get M.size (by rw [add_size]; omega)
  rw [get_add_new wf _ _ (Nat.le_refl _) (Nat.lt_succ_self _)] at hg
  have lg := Mem.get_lt hg
  have kN := ((Kept.refl wf).add _).trans hN
  cases q1 : allB l o <;> simp only [q1, if_true, Bool.false_eq_true, if_false] at k
  · simp (maxSteps := 2000000) (disch := first | omega | assumption | (simp only [DS, Nat.reduceAdd, *]; done) | (simp only [DZ]; omega)) only [RUN, RU, footA, feetIn, resultsA, tupOf, frzL, slot, lay, icyL, fillA, repCells, kR, reduceIte, Nat.reduceEqDiff, Nat.reduceBEq, Nat.reduceLT, Nat.reduceAdd, Nat.reduceLeDiff, Nat.reduceSub, Nat.reduceMul, Int.reduceLT, Int.reduceLE, Int.reduceEq, Int.reduceAdd, Int.reduceSub, Int.reduceMul, h0, h1, hg, hN.wf]
    exact k _ kN
  · cases q2 : decide (o.sp.f.hd.lb = o.hd.lb)
    · rw [if_neg (of_decide_eq_false q2)] at k
      simp (maxSteps := 2000000) (disch := first | omega | assumption | (simp only [DS, Nat.reduceAdd, *]; done) | (simp only [DZ]; omega)) only [RUN, RU, footA, feetIn, resultsA, tupOf, frzL, slot, lay, icyL, fillA, repCells, kR, reduceIte, Nat.reduceEqDiff, Nat.reduceBEq, Nat.reduceLT, Nat.reduceAdd, Nat.reduceLeDiff, Nat.reduceSub, Nat.reduceMul, Int.reduceLT, Int.reduceLE, Int.reduceEq, Int.reduceAdd, Int.reduceSub, Int.reduceMul, h0, h1, hR.fz.rows, hR.fz.one, hR.fz.cells, hR.fz.icy, hR.fz.frz, hg, hN.wf, ↓pIdE, peIdE_val, ↓pIdN, peIdN_val, ↓pHdE, peHdE_val, ↓pHdN, peHdN_val, ↓pLbE, peLbE_val, ↓pLbN, peLbN_val, ↓pSpE, peSpE_val, ↓pSpN, peSpN_val, ETA, q2]
      exact k _ kN
    · rw [if_pos (of_decide_eq_true q2)] at k
      simp (maxSteps := 2000000) (disch := first | omega | assumption | (simp only [DS, Nat.reduceAdd, *]; done) | (simp only [DZ]; omega)) only [RUN, RU, footA, feetIn, resultsA, tupOf, frzL, slot, lay, icyL, fillA, repCells, kR, reduceIte, Nat.reduceEqDiff, Nat.reduceBEq, Nat.reduceLT, Nat.reduceAdd, Nat.reduceLeDiff, Nat.reduceSub, Nat.reduceMul, Int.reduceLT, Int.reduceLE, Int.reduceEq, Int.reduceAdd, Int.reduceSub, Int.reduceMul, h0, h1, hR.fz.rows, hR.fz.one, hR.fz.cells, hR.fz.icy, hR.fz.frz, hg, hN.wf, ↓pIdE, peIdE_val, ↓pIdN, peIdN_val, ↓pHdE, peHdE_val, ↓pHdN, peHdN_val, ↓pLbE, peLbE_val, ↓pLbN, peLbN_val, ↓pSpE, peSpE_val, ↓pSpN, peSpN_val, ETA, q2]
      exact k _ kN
set_option maxHeartbeats 4000000 in
theorem raise_0 (hH : IsHist M B id m ops l) (hl : l.length ≤ 40000) (hR : Sl 1 isI32 ra o.rs) (ho : o.ok) (hm : o.may = true) (hf : l.length + 300 < fuel) (wf : Wf M) (hw : M.wm ≤ M.size) (k : ∀ N, Kept M N → Q (I64 (raiE l o)) N) :
    W3 (callN Try.prog (fsT tbl) fuel (d + 11) (.fn 31) [.ptr id 0, .agg (opR o ra)] M) Q := by
  have ora := hR.one
  have li := Mem.get_lt hH.hg
  unfold raiE at k
  refine call_0 tf31 rfl (by simp [a31]) fun b' ht hx => ?_
  have h0 := hx 0 _ rfl
  have h1 := hx 1 _ rfl
  clear hx
  simp only [a31, c31] at ht ⊢
  simp (maxSteps := 2000000) (disch := first | omega | assumption | (simp only [DS, Nat.reduceAdd, *]; done) | (simp only [DZ]; omega)) only [RUN, RU, footA, feetIn, resultsA, tupOf, frzL, slot, lay, icyL, fillA, repCells, kR, reduceIte, Nat.reduceEqDiff, Nat.reduceBEq, Nat.reduceLT, Nat.reduceAdd, Nat.reduceLeDiff, Nat.reduceSub, Nat.reduceMul, Int.reduceLT, Int.reduceLE, Int.reduceEq, Int.reduceAdd, Int.reduceSub, Int.reduceMul, h0, h1, hR.fz.rows, hR.fz.one, hR.fz.cells, hR.fz.icy, hR.fz.frz, wf]
  refine all_0 (d := d + 3) (B := B) (m := m) (ops := ops) (hH.keep fun j hj => get_add wf _ _ hj) hR ho hm (by omega) (wf.add _) (by rw [add_size]; show M.wm ≤ _; omega) fun N hN => ?_
  have hg := hN.get M.size (by rw [add_size]; omega)
  rw [get_add_new wf _ _ (Nat.le_refl _) (Nat.lt_succ_self _)] at hg
  have lg := Mem.get_lt hg
  have kN := ((Kept.refl wf).add _).trans hN
  have hH' : IsHist N B id m ops l := hH.keep fun j hj => kN.get j hj
  have hg2 := hH'.hg
  have li' := Mem.get_lt hg2
  cases q1 : allB l o <;> simp only [q1, if_true, Bool.false_eq_true, if_false] at k
  · simp (maxSteps := 2000000) (disch := first | omega | assumption | (simp only [DS, Nat.reduceAdd, *]; done) | (simp only [DZ]; omega)) only [RUN, RU, footA, feetIn, resultsA, tupOf, frzL, slot, lay, icyL, fillA, repCells, kR, reduceIte, Nat.reduceEqDiff, Nat.reduceBEq, Nat.reduceLT, Nat.reduceAdd, Nat.reduceLeDiff, Nat.reduceSub, Nat.reduceMul, Int.reduceLT, Int.reduceLE, Int.reduceEq, Int.reduceAdd, Int.reduceSub, Int.reduceMul, h0, h1, hg, hN.wf]
    exact k _ kN
  · simp (maxSteps := 2000000) (disch := first | omega | assumption | (simp only [DS, Nat.reduceAdd, *]; done) | (simp only [DZ]; omega)) only [RUN, RU, footA, feetIn, resultsA, tupOf, frzL, slot, lay, icyL, fillA, repCells, kR, reduceIte, Nat.reduceEqDiff, Nat.reduceBEq, Nat.reduceLT, Nat.reduceAdd, Nat.reduceLeDiff, Nat.reduceSub, Nat.reduceMul, Int.reduceLT, Int.reduceLE, Int.reduceEq, Int.reduceAdd, Int.reduceSub, Int.reduceMul, h0, h1, hR.fz.rows, hR.fz.one, hR.fz.cells, hR.fz.icy, hR.fz.frz, hg, hg2, hN.wf]
    refine chfits_0 (d := d) (l := l) (.inr (hH'.sm.keep fun j hj => rfl)) hl (by omega) hR ho (by rw [lo_wf]; exact hN.wf) fun N2 hN2 => ?_
    have k2 := kN.trans hN2.bk
    have hd : N2.dirty = false := hN2.di
    by_cases q2 : chfE l o = 0
    · cases q3 : chfB l o
      · rw [if_neg (by simp [q2, q3])] at k
        simp (maxSteps := 2000000) (disch := first | omega | assumption | (simp only [DS, Nat.reduceAdd, *]; done) | (simp only [DZ]; omega)) only [RUN, RU, footA, feetIn, resultsA, tupOf, frzL, slot, lay, icyL, fillA, repCells, kR, reduceIte, Nat.reduceEqDiff, Nat.reduceBEq, Nat.reduceLT, Nat.reduceAdd, Nat.reduceLeDiff, Nat.reduceSub, Nat.reduceMul, Int.reduceLT, Int.reduceLE, Int.reduceEq, Int.reduceAdd, Int.reduceSub, Int.reduceMul, h0, h1, hd, q2, q3]
        exact k _ k2
      · rw [if_pos ⟨q2, q3⟩] at k
        simp (maxSteps := 2000000) (disch := first | omega | assumption | (simp only [DS, Nat.reduceAdd, *]; done) | (simp only [DZ]; omega)) only [RUN, RU, footA, feetIn, resultsA, tupOf, frzL, slot, lay, icyL, fillA, repCells, kR, reduceIte, Nat.reduceEqDiff, Nat.reduceBEq, Nat.reduceLT, Nat.reduceAdd, Nat.reduceLeDiff, Nat.reduceSub, Nat.reduceMul, Int.reduceLT, Int.reduceLE, Int.reduceEq, Int.reduceAdd, Int.reduceSub, Int.reduceMul, h0, h1, hd, q2, q3]
        exact k _ k2
    · rw [if_neg (by simp [q2])] at k
      have q2' : decide (chfE l o = 0) = false := decide_eq_false q2
      simp (maxSteps := 2000000) (disch := first | omega | assumption | (simp only [DS, Nat.reduceAdd, *]; done) | (simp only [DZ]; omega)) only [RUN, RU, footA, feetIn, resultsA, tupOf, frzL, slot, lay, icyL, fillA, repCells, kR, reduceIte, Nat.reduceEqDiff, Nat.reduceBEq, Nat.reduceLT, Nat.reduceAdd, Nat.reduceLeDiff, Nat.reduceSub, Nat.reduceMul, Int.reduceLT, Int.reduceLE, Int.reduceEq, Int.reduceAdd, Int.reduceSub, Int.reduceMul, h0, h1, hd, q2']
      exact k _ k2
end Go.Proofs.Ytimimdjpmcmpnaa
