/-
  Histories: fits.
-/
import Derived.Test.YtimimdjpmcmpnaaSaS
import Derived.Test.YtimimdjpmcmpnaaEf
set_option linter.unusedSimpArgs false
set_option linter.unusedVariables false
set_option maxRecDepth 100000
namespace Go.Proofs.Ytimimdjpmcmpnaa
open Go Go.Ax
variable {fuel : Nat} {M : Mem} {Q : AV → Mem → Prop} {d : Nat} {x : Eid} {l : List Op} {o : Op} {ra ops : AV} {B id m : Nat}

def kindE (l : List Op) (o : Op) : Int := if o.kd = 1 then insE l o else if o.kd = 2 then remE l o else raiE l o
def fitE (l : List Op) (o : Op) : Int := if kindE l o = 0 then (if 2048 ≤ l.length then 4 else 0) else kindE l o
theorem may_kd {o : Op} (h : o.may = true) (ho : o.ok) : o.kd = 1 ∨ o.kd = 2 ∨ o.kd = 3 := by
  unfold Op.may at h
  simp only [Bool.and_eq_true, Bool.not_eq_true', decide_eq_false_iff_not] at h
  have := ho.1
  omega
set_option maxHeartbeats 8000000 in
theorem fits_0 (hH : IsHist M B id m ops l) (htl : (thereL l).length ≤ 1000000) (hl : l.length ≤ 40000) (hR : Sl 1 isI32 ra o.rs) (ho : o.ok) (hm : o.may = true) (hf : l.length + 300 < fuel) (wf : Wf M) (hw : M.wm ≤ M.size) (k : ∀ N, Kept M N → Q (I64 (fitE l o)) N) :
    W3 (callN Try.prog (fsT tbl) fuel (d + 12) (.fn 19) [.ptr id 0, .agg (opR o ra)] M) Q := by
  have ora := hR.one
  have li := Mem.get_lt hH.hg
  have wA := wf.add (.row false (opR o ra))
  have gA : (M.add (.row false (opR o ra))).get M.size = some (.row false (opR o ra)) := get_add_new wf _ _ (Nat.le_refl _) (Nat.lt_succ_self _)
  have hHA : IsHist (M.add (.row false (opR o ra))).lo B id m ops l := hH.keep fun j hj => get_add wf _ _ hj
  have onf : oneA (.sc .nilFunc) = true := rfl
  have tail : ∀ N2, Kept (M.add (.row false (opR o ra))).lo N2 → True := fun _ _ => trivial
  clear tail
  have done : ∀ N2, Kept (M.add (.row false (opR o ra))).lo N2 → Kept M ((M.add (.row false (opR o ra))).bk N2) := fun N2 h => ((Kept.refl wf).add _).trans h.bk
  have kq : ∀ N2, Kept (M.add (.row false (opR o ra))).lo N2 → IsHist ((M.add (.row false (opR o ra))).bk N2) B id m ops l := fun N2 h => hH.keep fun j hj => (done N2 h).get j hj
  unfold fitE at k
  refine call_0 tf19 rfl (by simp [a19]) fun b' ht hx => ?_
  have h0 := hx 0 _ rfl
  have h1 := hx 1 _ rfl
  clear hx
  simp only [a19, c19] at ht ⊢
  have hw' : (M.add (.row false (opR o ra))).lo.wm ≤ (M.add (.row false (opR o ra))).lo.size := Nat.le_refl _
  rcases may_kd hm ho with hk | hk | hk
  · have n1 : natOf (U8 o.kd) = some 1 := by rw [hk]; rfl
    have ep : kindE l o = insE l o := by unfold kindE; rw [if_pos hk]
    rw [ep] at k
    simp (maxSteps := 2000000) (disch := first | omega | assumption | (simp only [DS, Nat.reduceAdd, *]; done) | (simp only [DZ]; omega)) only [RUN, RU, footA, feetIn, resultsA, tupOf, frzL, slot, lay, icyL, fillA, repCells, kR, reduceIte, Nat.reduceEqDiff, Nat.reduceBEq, Nat.reduceLT, Nat.reduceAdd, Nat.reduceLeDiff, Nat.reduceSub, Nat.reduceMul, Int.reduceLT, Int.reduceLE, Int.reduceEq, Int.reduceAdd, Int.reduceSub, Int.reduceMul, h0, h1, hR.fz.rows, hR.fz.one, hR.fz.cells, hR.fz.icy, hR.fz.frz, wf, n1, x_idx, idx_agg, onf]
    refine insert_0 (d := d + 2) hHA htl hR ho hm (by omega) wA hw' fun N2 hN2 => ?_
    have hd : N2.dirty = false := hN2.di
    have hq := kq N2 hN2
    have kN := done N2 hN2
    have hg : N2.get id = some (.row false [ops, .mp m]) := hq.hg
    have lg : id < N2.size := Mem.get_lt hg
    have ll := hq.sm.len
    by_cases q1 : insE l o = 0
    · rw [if_pos q1] at k
      have q1' : decide (insE l o = 0) = true := decide_eq_true q1
      by_cases q2 : 2048 ≤ l.length
      · rw [if_pos q2] at k
        have q2' : decide ((2048 : Int) ≤ l.length) = true := decide_eq_true (by omega)
        simp (maxSteps := 2000000) (disch := first | omega | assumption | (simp only [DS, Nat.reduceAdd, *]; done) | (simp only [DZ]; omega)) only [RUN, RU, footA, feetIn, resultsA, tupOf, frzL, slot, lay, icyL, fillA, repCells, kR, reduceIte, Nat.reduceEqDiff, Nat.reduceBEq, Nat.reduceLT, Nat.reduceAdd, Nat.reduceLeDiff, Nat.reduceSub, Nat.reduceMul, Int.reduceLT, Int.reduceLE, Int.reduceEq, Int.reduceAdd, Int.reduceSub, Int.reduceMul, h0, h1, hd, q1', hg, ll, q2']
        exact k _ kN
      · rw [if_neg q2] at k
        have q2' : decide ((2048 : Int) ≤ l.length) = false := decide_eq_false (by omega)
        simp (maxSteps := 2000000) (disch := first | omega | assumption | (simp only [DS, Nat.reduceAdd, *]; done) | (simp only [DZ]; omega)) only [RUN, RU, footA, feetIn, resultsA, tupOf, frzL, slot, lay, icyL, fillA, repCells, kR, reduceIte, Nat.reduceEqDiff, Nat.reduceBEq, Nat.reduceLT, Nat.reduceAdd, Nat.reduceLeDiff, Nat.reduceSub, Nat.reduceMul, Int.reduceLT, Int.reduceLE, Int.reduceEq, Int.reduceAdd, Int.reduceSub, Int.reduceMul, h0, h1, hd, q1', hg, ll, q2', q1]
        exact k _ kN
    · rw [if_neg q1] at k
      have q1' : decide (insE l o = 0) = false := decide_eq_false q1
      simp (maxSteps := 2000000) (disch := first | omega | assumption | (simp only [DS, Nat.reduceAdd, *]; done) | (simp only [DZ]; omega)) only [RUN, RU, footA, feetIn, resultsA, tupOf, frzL, slot, lay, icyL, fillA, repCells, kR, reduceIte, Nat.reduceEqDiff, Nat.reduceBEq, Nat.reduceLT, Nat.reduceAdd, Nat.reduceLeDiff, Nat.reduceSub, Nat.reduceMul, Int.reduceLT, Int.reduceLE, Int.reduceEq, Int.reduceAdd, Int.reduceSub, Int.reduceMul, h0, h1, hd, q1']
      exact k _ kN
  · have n1 : natOf (U8 o.kd) = some 2 := by rw [hk]; rfl
    have ep : kindE l o = remE l o := by unfold kindE; rw [if_neg (by omega), if_pos hk]
    rw [ep] at k
    simp (maxSteps := 2000000) (disch := first | omega | assumption | (simp only [DS, Nat.reduceAdd, *]; done) | (simp only [DZ]; omega)) only [RUN, RU, footA, feetIn, resultsA, tupOf, frzL, slot, lay, icyL, fillA, repCells, kR, reduceIte, Nat.reduceEqDiff, Nat.reduceBEq, Nat.reduceLT, Nat.reduceAdd, Nat.reduceLeDiff, Nat.reduceSub, Nat.reduceMul, Int.reduceLT, Int.reduceLE, Int.reduceEq, Int.reduceAdd, Int.reduceSub, Int.reduceMul, h0, h1, hR.fz.rows, hR.fz.one, hR.fz.cells, hR.fz.icy, hR.fz.frz, wf, n1, x_idx, idx_agg, onf]
    refine remove_0 (d := d + 3) hHA hR ho hm (by omega) wA hw' fun N2 hN2 => ?_
    have hd : N2.dirty = false := hN2.di
    have hq := kq N2 hN2
    have kN := done N2 hN2
    have hg : N2.get id = some (.row false [ops, .mp m]) := hq.hg
    have lg : id < N2.size := Mem.get_lt hg
    have ll := hq.sm.len
    by_cases q1 : remE l o = 0
    · rw [if_pos q1] at k
      have q1' : decide (remE l o = 0) = true := decide_eq_true q1
      by_cases q2 : 2048 ≤ l.length
      · rw [if_pos q2] at k
        have q2' : decide ((2048 : Int) ≤ l.length) = true := decide_eq_true (by omega)
        simp (maxSteps := 2000000) (disch := first | omega | assumption | (simp only [DS, Nat.reduceAdd, *]; done) | (simp only [DZ]; omega)) only [RUN, RU, footA, feetIn, resultsA, tupOf, frzL, slot, lay, icyL, fillA, repCells, kR, reduceIte, Nat.reduceEqDiff, Nat.reduceBEq, Nat.reduceLT, Nat.reduceAdd, Nat.reduceLeDiff, Nat.reduceSub, Nat.reduceMul, Int.reduceLT, Int.reduceLE, Int.reduceEq, Int.reduceAdd, Int.reduceSub, Int.reduceMul, h0, h1, hd, q1', hg, ll, q2']
        exact k _ kN
      · rw [if_neg q2] at k
        have q2' : decide ((2048 : Int) ≤ l.length) = false := decide_eq_false (by omega)
        simp (maxSteps := 2000000) (disch := first | omega | assumption | (simp only [DS, Nat.reduceAdd, *]; done) | (simp only [DZ]; omega)) only [RUN, RU, footA, feetIn, resultsA, tupOf, frzL, slot, lay, icyL, fillA, repCells, kR, reduceIte, Nat.reduceEqDiff, Nat.reduceBEq, Nat.reduceLT, Nat.reduceAdd, Nat.reduceLeDiff, Nat.reduceSub, Nat.reduceMul, Int.reduceLT, Int.reduceLE, Int.reduceEq, Int.reduceAdd, Int.reduceSub, Int.reduceMul, h0, h1, hd, q1', hg, ll, q2', q1]
        exact k _ kN
    · rw [if_neg q1] at k
      have q1' : decide (remE l o = 0) = false := decide_eq_false q1
      simp (maxSteps := 2000000) (disch := first | omega | assumption | (simp only [DS, Nat.reduceAdd, *]; done) | (simp only [DZ]; omega)) only [RUN, RU, footA, feetIn, resultsA, tupOf, frzL, slot, lay, icyL, fillA, repCells, kR, reduceIte, Nat.reduceEqDiff, Nat.reduceBEq, Nat.reduceLT, Nat.reduceAdd, Nat.reduceLeDiff, Nat.reduceSub, Nat.reduceMul, Int.reduceLT, Int.reduceLE, Int.reduceEq, Int.reduceAdd, Int.reduceSub, Int.reduceMul, h0, h1, hd, q1']
      exact k _ kN
  · have n1 : natOf (U8 o.kd) = some 3 := by rw [hk]; rfl
    have ep : kindE l o = raiE l o := by unfold kindE; rw [if_neg (by omega), if_neg (by omega)]
    rw [ep] at k
    simp (maxSteps := 2000000) (disch := first | omega | assumption | (simp only [DS, Nat.reduceAdd, *]; done) | (simp only [DZ]; omega)) only [RUN, RU, footA, feetIn, resultsA, tupOf, frzL, slot, lay, icyL, fillA, repCells, kR, reduceIte, Nat.reduceEqDiff, Nat.reduceBEq, Nat.reduceLT, Nat.reduceAdd, Nat.reduceLeDiff, Nat.reduceSub, Nat.reduceMul, Int.reduceLT, Int.reduceLE, Int.reduceEq, Int.reduceAdd, Int.reduceSub, Int.reduceMul, h0, h1, hR.fz.rows, hR.fz.one, hR.fz.cells, hR.fz.icy, hR.fz.frz, wf, n1, x_idx, idx_agg, onf]
    refine raise_0 (d := d) hHA hl hR ho hm (by omega) wA hw' fun N2 hN2 => ?_
    have hd : N2.dirty = false := hN2.di
    have hq := kq N2 hN2
    have kN := done N2 hN2
    have hg : N2.get id = some (.row false [ops, .mp m]) := hq.hg
    have lg : id < N2.size := Mem.get_lt hg
    have ll := hq.sm.len
    by_cases q1 : raiE l o = 0
    · rw [if_pos q1] at k
      have q1' : decide (raiE l o = 0) = true := decide_eq_true q1
      by_cases q2 : 2048 ≤ l.length
      · rw [if_pos q2] at k
        have q2' : decide ((2048 : Int) ≤ l.length) = true := decide_eq_true (by omega)
        simp (maxSteps := 2000000) (disch := first | omega | assumption | (simp only [DS, Nat.reduceAdd, *]; done) | (simp only [DZ]; omega)) only [RUN, RU, footA, feetIn, resultsA, tupOf, frzL, slot, lay, icyL, fillA, repCells, kR, reduceIte, Nat.reduceEqDiff, Nat.reduceBEq, Nat.reduceLT, Nat.reduceAdd, Nat.reduceLeDiff, Nat.reduceSub, Nat.reduceMul, Int.reduceLT, Int.reduceLE, Int.reduceEq, Int.reduceAdd, Int.reduceSub, Int.reduceMul, h0, h1, hd, q1', hg, ll, q2']
        exact k _ kN
      · rw [if_neg q2] at k
        have q2' : decide ((2048 : Int) ≤ l.length) = false := decide_eq_false (by omega)
        simp (maxSteps := 2000000) (disch := first | omega | assumption | (simp only [DS, Nat.reduceAdd, *]; done) | (simp only [DZ]; omega)) only [RUN, RU, footA, feetIn, resultsA, tupOf, frzL, slot, lay, icyL, fillA, repCells, kR, reduceIte, Nat.reduceEqDiff, Nat.reduceBEq, Nat.reduceLT, Nat.reduceAdd, Nat.reduceLeDiff, Nat.reduceSub, Nat.reduceMul, Int.reduceLT, Int.reduceLE, Int.reduceEq, Int.reduceAdd, Int.reduceSub, Int.reduceMul, h0, h1, hd, q1', hg, ll, q2', q1]
        exact k _ kN
    · rw [if_neg q1] at k
      have q1' : decide (raiE l o = 0) = false := decide_eq_false q1
      simp (maxSteps := 2000000) (disch := first | omega | assumption | (simp only [DS, Nat.reduceAdd, *]; done) | (simp only [DZ]; omega)) only [RUN, RU, footA, feetIn, resultsA, tupOf, frzL, slot, lay, icyL, fillA, repCells, kR, reduceIte, Nat.reduceEqDiff, Nat.reduceBEq, Nat.reduceLT, Nat.reduceAdd, Nat.reduceLeDiff, Nat.reduceSub, Nat.reduceMul, Int.reduceLT, Int.reduceLE, Int.reduceEq, Int.reduceAdd, Int.reduceSub, Int.reduceMul, h0, h1, hd, q1']
      exact k _ kN
end Go.Proofs.Ytimimdjpmcmpnaa
