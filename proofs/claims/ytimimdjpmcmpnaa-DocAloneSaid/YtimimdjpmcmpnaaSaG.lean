/-
  Runs: Check, Of; operations: Twin.
-/
import Derived.Test.YtimimdjpmcmpnaaSaF
import Derived.Test.YtimimdjpmcmpnaaEf
set_option linter.unusedSimpArgs false
set_option linter.unusedVariables false
set_option maxRecDepth 100000
namespace Go.Proofs.Ytimimdjpmcmpnaa
open Go Go.Ax
variable {fuel : Nat} {M : Mem} {Q : AV → Mem → Prop} {d : Nat}

def Rn.may (r : Rn) : Bool := r.sp.may && (decide (r.af = Eid.z) || (r.af.may && decide (r.af.c < r.sp.f.c))) && decide ((r.rs.length : Int) = r.sp.n) && decide (chkR r.rs = 0)
theorem rn_rows {o : Rn} {ra : AV} (h : Fz ra) : rowsOf (.agg (rnR o ra)) = [] := fz_rowsAll (fz_rnR h)
theorem rn_icy {o : Rn} {ra : AV} (h : Fz ra) (M : Mem) : icy 12 M (.agg (rnR o ra)) = some (.agg (rnR o ra), M) := fz_icyA (fz_rnR h) (by omega) M
set_option maxHeartbeats 4000000 in
theorem runcheck_run {o : Rn} {ra : AV} (hS : Sl 1 isI32 ra o.rs) (hf : 100 < fuel) (M : Mem) : callN Try.prog (fsT tbl) fuel (d + 6) (.fn 32) [.agg (rnR o ra)] M = some (I64 (err o.may), M) := by
  have ll := hS.len
  have hc := fun M => @cid_run fuel (d + 2) o.af M
  have hs := fun M => @cspan_run fuel (d + 1) o.sp M
  have hr := fun M => rcheck_run (fuel := fuel) (d := d) hS hf M
  apply w3_eq
  refine call_gc tf32 rfl (by simp only [icyL, rn_icy hS.fz]) (by simp [a32]) fun b' ht hx => ?_
  have h0 := hx 0 _ rfl
  clear hx
  simp only [a32, c32] at ht ⊢
  unfold Rn.may
  cases q0 : o.sp.may <;> rw [q0] at hs <;> simp only [Bool.false_and, Bool.true_and]
  all_goals
    cases q1 : decide (o.af = Eid.z)
    · cases q2 : o.af.may <;> rw [q2] at hc
      · simp (maxSteps := 2000000) (disch := first | omega | assumption | (simp only [DS, Nat.reduceAdd, *]; done) | (simp only [DZ]; omega)) only [RUN, RU, footA, feetIn, resultsA, tupOf, frzL, slot, lay, icyL, fillA, repCells, kR, reduceIte, Nat.reduceEqDiff, Nat.reduceBEq, Nat.reduceLT, Nat.reduceAdd, Nat.reduceLeDiff, Nat.reduceSub, Nat.reduceMul, Int.reduceLT, Int.reduceLE, Int.reduceEq, Int.reduceAdd, Int.reduceSub, Int.reduceMul, h0, hS.fz.rows, hS.fz.one, hS.fz.cells, hS.fz.icy, hS.fz.frz, ↓pIdE, peIdE_val, ↓pIdN, peIdN_val, ↓pHdE, peHdE_val, ↓pHdN, peHdN_val, ↓pLbE, peLbE_val, ↓pLbN, peLbN_val, ↓pSpE, peSpE_val, ↓pSpN, peSpN_val, ETA, q1, hc, hs, err_t, err_f, z00, z80, Bool.false_and]
      · cases q3 : decide (o.af.c < o.sp.f.c)
        · simp (maxSteps := 2000000) (disch := first | omega | assumption | (simp only [DS, Nat.reduceAdd, *]; done) | (simp only [DZ]; omega)) only [RUN, RU, footA, feetIn, resultsA, tupOf, frzL, slot, lay, icyL, fillA, repCells, kR, reduceIte, Nat.reduceEqDiff, Nat.reduceBEq, Nat.reduceLT, Nat.reduceAdd, Nat.reduceLeDiff, Nat.reduceSub, Nat.reduceMul, Int.reduceLT, Int.reduceLE, Int.reduceEq, Int.reduceAdd, Int.reduceSub, Int.reduceMul, h0, hS.fz.rows, hS.fz.one, hS.fz.cells, hS.fz.icy, hS.fz.frz, ↓pIdE, peIdE_val, ↓pIdN, peIdN_val, ↓pHdE, peHdE_val, ↓pHdN, peHdN_val, ↓pLbE, peLbE_val, ↓pLbN, peLbN_val, ↓pSpE, peSpE_val, ↓pSpN, peSpN_val, ETA, q1, hc, hs, q3, err_t, err_f, z00, z80, Bool.false_and]
        · cases q4 : decide ((o.rs.length : Int) = o.sp.n)
          · simp (maxSteps := 2000000) (disch := first | omega | assumption | (simp only [DS, Nat.reduceAdd, *]; done) | (simp only [DZ]; omega)) only [RUN, RU, footA, feetIn, resultsA, tupOf, frzL, slot, lay, icyL, fillA, repCells, kR, reduceIte, Nat.reduceEqDiff, Nat.reduceBEq, Nat.reduceLT, Nat.reduceAdd, Nat.reduceLeDiff, Nat.reduceSub, Nat.reduceMul, Int.reduceLT, Int.reduceLE, Int.reduceEq, Int.reduceAdd, Int.reduceSub, Int.reduceMul, h0, hS.fz.rows, hS.fz.one, hS.fz.cells, hS.fz.icy, hS.fz.frz, ↓pIdE, peIdE_val, ↓pIdN, peIdN_val, ↓pHdE, peHdE_val, ↓pHdN, peHdN_val, ↓pLbE, peLbE_val, ↓pLbN, peLbN_val, ↓pSpE, peSpE_val, ↓pSpN, peSpN_val, ETA, q1, hc, hs, q3, q4, ll, err_t, err_f, z00, z80, Bool.false_and]
          · cases q5 : decide (chkR o.rs = 0)
            · simp (maxSteps := 2000000) (disch := first | omega | assumption | (simp only [DS, Nat.reduceAdd, *]; done) | (simp only [DZ]; omega)) only [RUN, RU, footA, feetIn, resultsA, tupOf, frzL, slot, lay, icyL, fillA, repCells, kR, reduceIte, Nat.reduceEqDiff, Nat.reduceBEq, Nat.reduceLT, Nat.reduceAdd, Nat.reduceLeDiff, Nat.reduceSub, Nat.reduceMul, Int.reduceLT, Int.reduceLE, Int.reduceEq, Int.reduceAdd, Int.reduceSub, Int.reduceMul, h0, hS.fz.rows, hS.fz.one, hS.fz.cells, hS.fz.icy, hS.fz.frz, ↓pIdE, peIdE_val, ↓pIdN, peIdN_val, ↓pHdE, peHdE_val, ↓pHdN, peHdN_val, ↓pLbE, peLbE_val, ↓pLbN, peLbN_val, ↓pSpE, peSpE_val, ↓pSpN, peSpN_val, ETA, q1, hc, hs, q3, q4, q5, ll, hr, err_t, err_f, z00, z80, Bool.false_and]
            · simp (maxSteps := 2000000) (disch := first | omega | assumption | (simp only [DS, Nat.reduceAdd, *]; done) | (simp only [DZ]; omega)) only [RUN, RU, footA, feetIn, resultsA, tupOf, frzL, slot, lay, icyL, fillA, repCells, kR, reduceIte, Nat.reduceEqDiff, Nat.reduceBEq, Nat.reduceLT, Nat.reduceAdd, Nat.reduceLeDiff, Nat.reduceSub, Nat.reduceMul, Int.reduceLT, Int.reduceLE, Int.reduceEq, Int.reduceAdd, Int.reduceSub, Int.reduceMul, h0, hS.fz.rows, hS.fz.one, hS.fz.cells, hS.fz.icy, hS.fz.frz, ↓pIdE, peIdE_val, ↓pIdN, peIdN_val, ↓pHdE, peHdE_val, ↓pHdN, peHdN_val, ↓pLbE, peLbE_val, ↓pLbN, peLbN_val, ↓pSpE, peSpE_val, ↓pSpN, peSpN_val, ETA, q1, hc, hs, q3, q4, q5, ll, hr, err_t, err_f, z00, z80, Bool.false_and]
    · cases q4 : decide ((o.rs.length : Int) = o.sp.n)
      · simp (maxSteps := 2000000) (disch := first | omega | assumption | (simp only [DS, Nat.reduceAdd, *]; done) | (simp only [DZ]; omega)) only [RUN, RU, footA, feetIn, resultsA, tupOf, frzL, slot, lay, icyL, fillA, repCells, kR, reduceIte, Nat.reduceEqDiff, Nat.reduceBEq, Nat.reduceLT, Nat.reduceAdd, Nat.reduceLeDiff, Nat.reduceSub, Nat.reduceMul, Int.reduceLT, Int.reduceLE, Int.reduceEq, Int.reduceAdd, Int.reduceSub, Int.reduceMul, h0, hS.fz.rows, hS.fz.one, hS.fz.cells, hS.fz.icy, hS.fz.frz, ↓pIdE, peIdE_val, ↓pIdN, peIdN_val, ↓pHdE, peHdE_val, ↓pHdN, peHdN_val, ↓pLbE, peLbE_val, ↓pLbN, peLbN_val, ↓pSpE, peSpE_val, ↓pSpN, peSpN_val, ETA, q1, hc, hs, q4, ll, err_t, err_f, z00, z80, Bool.false_and]
      · cases q5 : decide (chkR o.rs = 0)
        · simp (maxSteps := 2000000) (disch := first | omega | assumption | (simp only [DS, Nat.reduceAdd, *]; done) | (simp only [DZ]; omega)) only [RUN, RU, footA, feetIn, resultsA, tupOf, frzL, slot, lay, icyL, fillA, repCells, kR, reduceIte, Nat.reduceEqDiff, Nat.reduceBEq, Nat.reduceLT, Nat.reduceAdd, Nat.reduceLeDiff, Nat.reduceSub, Nat.reduceMul, Int.reduceLT, Int.reduceLE, Int.reduceEq, Int.reduceAdd, Int.reduceSub, Int.reduceMul, h0, hS.fz.rows, hS.fz.one, hS.fz.cells, hS.fz.icy, hS.fz.frz, ↓pIdE, peIdE_val, ↓pIdN, peIdN_val, ↓pHdE, peHdE_val, ↓pHdN, peHdN_val, ↓pLbE, peLbE_val, ↓pLbN, peLbN_val, ↓pSpE, peSpE_val, ↓pSpN, peSpN_val, ETA, q1, hc, hs, q4, q5, ll, hr, err_t, err_f, z00, z80, Bool.false_and]
        · simp (maxSteps := 2000000) (disch := first | omega | assumption | (simp only [DS, Nat.reduceAdd, *]; done) | (simp only [DZ]; omega)) only [RUN, RU, footA, feetIn, resultsA, tupOf, frzL, slot, lay, icyL, fillA, repCells, kR, reduceIte, Nat.reduceEqDiff, Nat.reduceBEq, Nat.reduceLT, Nat.reduceAdd, Nat.reduceLeDiff, Nat.reduceSub, Nat.reduceMul, Int.reduceLT, Int.reduceLE, Int.reduceEq, Int.reduceAdd, Int.reduceSub, Int.reduceMul, h0, hS.fz.rows, hS.fz.one, hS.fz.cells, hS.fz.icy, hS.fz.frz, ↓pIdE, peIdE_val, ↓pIdN, peIdN_val, ↓pHdE, peHdE_val, ↓pHdN, peHdN_val, ↓pLbE, peLbE_val, ↓pLbN, peLbN_val, ↓pSpE, peSpE_val, ↓pSpN, peSpN_val, ETA, q1, hc, hs, q4, q5, ll, hr, err_t, err_f, z00, z80, Bool.false_and]
def Op.rn (o : Op) : Rn := ⟨o.sp, o.af, o.rs⟩
def rnZ : AV := .agg (rnR ⟨⟨Eid.z, 0⟩, Eid.z, []⟩ NIL)
def rofE (o : Op) : Int := if o.may = true then (if o.kd = 1 ∧ o.rn.may = true then 0 else 2) else 8
def rofK (o : Op) (r : AV) : Prop := if rofE o = 0 then ∃ ra, r = .tup [.agg (rnR o.rn ra), I64 0] ∧ Sl 1 isI32 ra o.rs else r = .tup [rnZ, I64 (rofE o)]
theorem chk_len {l : List Int} (h : chkR l = 0) : l.length ≤ 64 := by
  unfold chkR at h
  by_cases hc : 64 < l.length
  · rw [if_pos hc] at h
    cases h
  · omega
theorem may_len {o : Op} (h : o.may = true) : o.rs.length ≤ 64 := by
  unfold Op.may Op.part Op.bare at h
  simp only [Bool.and_eq_true, decide_eq_true_eq] at h
  have h := h.2
  split at h
  · simp only [Bool.and_eq_true, decide_eq_true_eq] at h
    exact chk_len h.2
  · split at h <;> simp only [Bool.and_eq_true, decide_eq_true_eq] at h <;> omega
end Go.Proofs.Ytimimdjpmcmpnaa
