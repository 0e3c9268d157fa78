/-
  Operations: what a kind asks, Check.
-/
import Derived.Test.YtimimdjpmcmpnaaSaD
set_option linter.unusedSimpArgs false
set_option linter.unusedVariables false
set_option maxRecDepth 100000
namespace Go.Proofs.Ytimimdjpmcmpnaa
open Go Go.Ax
variable {fuel : Nat} {M : Mem} {Q : AV → Mem → Prop} {d : Nat}

set_option maxHeartbeats 4000000 in
theorem pins_0 {o : Op} {ra : AV} {x : Nat} (hS : Sl 1 isI32 ra o.rs) (hk1 : o.kd = 1) (hf : 100 < fuel) (wf : Wf M) (hx1 : M.get x = some (.row false [.fn 50 [] []])) (k : ∀ N, Kept M N → Q (BL o.part) N) :
    W3 (callN Try.prog (fsT tbl) fuel (d + 6) (.fn 52) [.agg (opR o ra), .ptr x 0] M) Q := by
  have ll := hS.len
  have lx := Mem.get_lt hx1
  have hc := fun M => @cid_run fuel (d + 2) o.af M
  have hr := fun M => rcheck_run (fuel := fuel) (d := d) hS hf M
  have z4 : decide ((4 : Int) = 0) = false := rfl
  unfold Op.part at k
  rw [if_pos hk1] at k
  have kept := fun cs => (Kept.refl wf).add (.row false cs)
  have key : ∀ b : Bool, ((decide (o.af = Eid.z) || o.af.may) = b) → True := fun _ _ => trivial
  refine call_0 tf52 rfl (by simp [a52]) fun b' ht hx => ?_
  have h0 := hx 0 _ rfl
  have h1 := hx 1 _ rfl
  clear hx
  simp only [a52, c52] at ht ⊢
  have tail : ∀ b : Bool, (decide (o.af = Eid.z) || o.af.may) = b → ∀ t : List AV, t.length = b'.length → True := fun _ _ _ _ => trivial
  clear tail key
  cases q : decide (o.af = Eid.z) <;> cases q' : o.af.may <;> rw [q'] at hc <;> simp only [q, q', Bool.false_or, Bool.true_or, Bool.or_false, Bool.or_true, Bool.false_and, Bool.and_false, Bool.true_and, Bool.and_true] at k
  all_goals
    (simp (maxSteps := 2000000) (disch := first | omega | assumption | (simp only [DS, Nat.reduceAdd, *]; done) | (simp only [DZ]; omega)) only [RUN, RU, footA, feetIn, resultsA, tupOf, frzL, slot, lay, icyL, fillA, repCells, kR, reduceIte, Nat.reduceEqDiff, Nat.reduceBEq, Nat.reduceLT, Nat.reduceAdd, Nat.reduceLeDiff, Nat.reduceSub, Nat.reduceMul, Int.reduceLT, Int.reduceLE, Int.reduceEq, Int.reduceAdd, Int.reduceSub, Int.reduceMul, h0, h1, hS.fz.rows, hS.fz.one, hS.fz.cells, hS.fz.icy, hS.fz.frz, ↓pIdE, peIdE_val, ↓pIdN, peIdN_val, ↓pHdE, peHdE_val, ↓pHdN, peHdN_val, ↓pLbE, peLbE_val, ↓pLbN, peLbN_val, ↓pSpE, peSpE_val, ↓pSpN, peSpN_val, ETA, q, hc, wf, err_t, err_f, z00, z80, hx1])
    refine leasts_0 hS (by simp (maxSteps := 2000000) (disch := first | omega | assumption | (simp only [DS, Nat.reduceAdd, *]; done) | (simp only [DZ]; omega)) only [RUN, RU, footA, feetIn, resultsA, tupOf, frzL, slot, lay, icyL, fillA, repCells, kR, reduceIte, Nat.reduceEqDiff, Nat.reduceBEq, Nat.reduceLT, Nat.reduceAdd, Nat.reduceLeDiff, Nat.reduceSub, Nat.reduceMul, Int.reduceLT, Int.reduceLE, Int.reduceEq, Int.reduceAdd, Int.reduceSub, Int.reduceMul, wf]) fun N hN => ?_
    have hg := hN.get M.size (by rw [add_size]; omega)
    rw [get_add_new wf _ _ (Nat.le_refl _) (Nat.lt_succ_self _)] at hg
    have lg := Mem.get_lt hg
    have kN := ((Kept.refl wf).add _).trans hN
    cases q1 : decide (o.to = Lb.z) <;> (try simp only [q1, Bool.false_and, Bool.true_and] at k)
    all_goals (simp (maxSteps := 2000000) (disch := first | omega | assumption | (simp only [DS, Nat.reduceAdd, *]; done) | (simp only [DZ]; omega)) only [RUN, RU, footA, feetIn, resultsA, tupOf, frzL, slot, lay, icyL, fillA, repCells, kR, reduceIte, Nat.reduceEqDiff, Nat.reduceBEq, Nat.reduceLT, Nat.reduceAdd, Nat.reduceLeDiff, Nat.reduceSub, Nat.reduceMul, Int.reduceLT, Int.reduceLE, Int.reduceEq, Int.reduceAdd, Int.reduceSub, Int.reduceMul, h0, h1, hS.fz.rows, hS.fz.one, hS.fz.cells, hS.fz.icy, hS.fz.frz, hg, q, hN.wf, q1, ↓pIdE, peIdE_val, ↓pIdN, peIdN_val, ↓pHdE, peHdE_val, ↓pHdN, peHdN_val, ↓pLbE, peLbE_val, ↓pLbN, peLbN_val, ↓pSpE, peSpE_val, ↓pSpN, peSpN_val, ETA])
    all_goals first | exact k _ kN | skip
  all_goals
    cases q2 : decide (o.sp.f.hd = o.hd) <;> (try simp only [q2, Bool.false_and, Bool.true_and] at k)
    all_goals (simp (maxSteps := 2000000) (disch := first | omega | assumption | (simp only [DS, Nat.reduceAdd, *]; done) | (simp only [DZ]; omega)) only [RUN, RU, footA, feetIn, resultsA, tupOf, frzL, slot, lay, icyL, fillA, repCells, kR, reduceIte, Nat.reduceEqDiff, Nat.reduceBEq, Nat.reduceLT, Nat.reduceAdd, Nat.reduceLeDiff, Nat.reduceSub, Nat.reduceMul, Int.reduceLT, Int.reduceLE, Int.reduceEq, Int.reduceAdd, Int.reduceSub, Int.reduceMul, h0, h1, hS.fz.rows, hS.fz.one, hS.fz.cells, hS.fz.icy, hS.fz.frz, hg, ↓pIdE, peIdE_val, ↓pIdN, peIdN_val, ↓pHdE, peHdE_val, ↓pHdN, peHdN_val, ↓pLbE, peLbE_val, ↓pLbN, peLbN_val, ↓pSpE, peSpE_val, ↓pSpN, peSpN_val, ETA, q2, hN.wf])
    all_goals first | exact k _ kN | skip
  all_goals
    cases q3 : decide ((o.rs.length : Int) = o.sp.n) <;> (try simp only [q3, Bool.false_and, Bool.true_and] at k)
    all_goals (simp (maxSteps := 2000000) (disch := first | omega | assumption | (simp only [DS, Nat.reduceAdd, *]; done) | (simp only [DZ]; omega)) only [RUN, RU, footA, feetIn, resultsA, tupOf, frzL, slot, lay, icyL, fillA, repCells, kR, reduceIte, Nat.reduceEqDiff, Nat.reduceBEq, Nat.reduceLT, Nat.reduceAdd, Nat.reduceLeDiff, Nat.reduceSub, Nat.reduceMul, Int.reduceLT, Int.reduceLE, Int.reduceEq, Int.reduceAdd, Int.reduceSub, Int.reduceMul, h0, h1, hS.fz.rows, hS.fz.one, hS.fz.cells, hS.fz.icy, hS.fz.frz, hg, ll, q3, hr, hN.wf, ↓pIdE, peIdE_val, ↓pIdN, peIdN_val, ↓pHdE, peHdE_val, ↓pHdN, peHdN_val, ↓pLbE, peLbE_val, ↓pLbN, peLbN_val, ↓pSpE, peSpE_val, ↓pSpN, peSpN_val, ETA])
    all_goals exact k _ kN
end Go.Proofs.Ytimimdjpmcmpnaa
