/-
  The references' Same (frozen): runes, operations, lists of operations.
-/
import Derived.Test.YtggbpfdbcibifaaSaV
import Derived.Test.YtggbpfdbcibifaaEe
set_option linter.unusedSimpArgs false
set_option linter.unusedVariables false
set_option maxRecDepth 100000
namespace Go.Proofs.Ytggbpfdbcibifaa
open Go Go.Ax
variable {fuel : Nat} {M : Mem} {Q : AV → Mem → Prop} {d : Nat}

def rsEq (l m : List Int) : Bool := decide (l = m)
theorem rsame_run {a b : AV} {l m : List Int} (ha : Sl 1 isI32 a l) (hb : Sl 1 isI32 b m) (hf : l.length < fuel) (hl : l.length ≤ 1000000000) (M : Mem) :
    callN Try.prog (fsT tbl) fuel (d + 1) (.fn 35) [a, b] M = some (BL (decide (l = m)), M) := by
  have hla := ha.len
  have hlb := hb.len
  apply w3_eq
  refine call_gc tf35 rfl (by simp (maxSteps := 2000000) (disch := first | omega | assumption | (simp only [DS, Nat.reduceAdd, *]; done) | (simp only [DZ]; omega)) only [RUN, RU, footA, feetIn, resultsA, tupOf, frzL, slot, lay, icyL, fillA, repCells, kR, reduceIte, Nat.reduceEqDiff, Nat.reduceBEq, Nat.reduceLT, Nat.reduceAdd, Nat.reduceLeDiff, Nat.reduceSub, Nat.reduceMul, Int.reduceLT, Int.reduceLE, Int.reduceEq, Int.reduceAdd, Int.reduceSub, Int.reduceMul, ha.fz.rows, ha.fz.one, ha.fz.cells, ha.fz.icy, ha.fz.frz, hb.fz.rows, hb.fz.one, hb.fz.cells, hb.fz.icy, hb.fz.frz]) (by simp [a35]) fun b' ht hx => ?_
  have h0 := hx 0 _ rfl
  have h1 := hx 1 _ rfl
  clear hx
  simp only [a35, c35] at ht ⊢
  by_cases hll : l.length = m.length
  · have q1 : decide ((l.length : Int) = m.length) = true := by simp; omega
    simp (maxSteps := 2000000) (disch := first | omega | assumption | (simp only [DS, Nat.reduceAdd, *]; done) | (simp only [DZ]; omega)) only [RUN, RU, footA, feetIn, resultsA, tupOf, frzL, slot, lay, icyL, fillA, repCells, kR, reduceIte, Nat.reduceEqDiff, Nat.reduceBEq, Nat.reduceLT, Nat.reduceAdd, Nat.reduceLeDiff, Nat.reduceSub, Nat.reduceMul, Int.reduceLT, Int.reduceLE, Int.reduceEq, Int.reduceAdd, Int.reduceSub, Int.reduceMul, h0, h1, hla, hlb, q1]
    refine w_loop (I := fun n t N => ∃ (i : Nat), n = l.length - i ∧ i ≤ l.length ∧ nth undefA t 0 = a ∧ nth undefA t 1 = b ∧ nth undefA t 5 = I64 i ∧ l.take i = m.take i) (n := l.length) (by omega) ?_ ?_
    · refine ⟨0, rfl, Nat.zero_le _, ?_, ?_, ?_, rfl⟩ <;> simp (maxSteps := 2000000) (disch := first | omega | assumption | (simp only [DS, Nat.reduceAdd, *]; done) | (simp only [DZ]; omega)) only [RUN, RU, footA, feetIn, resultsA, tupOf, frzL, slot, lay, icyL, fillA, repCells, kR, reduceIte, Nat.reduceEqDiff, Nat.reduceBEq, Nat.reduceLT, Nat.reduceAdd, Nat.reduceLeDiff, Nat.reduceSub, Nat.reduceMul, Int.reduceLT, Int.reduceLE, Int.reduceEq, Int.reduceAdd, Int.reduceSub, Int.reduceMul, h0, h1]
      all_goals first | rfl | assumption | done
    · rintro n t N hlt ⟨i, rfl, hi, g0, g1, g5, tk⟩
      simp only [ht] at hlt ⊢
      by_cases hlt' : i < l.length
      · have hc' : decide ((i : Int) < l.length) = true := by simp; omega
        have hmt : i < m.length := by omega
        have w1 : IntKind.i64.wrap ((i : Int) + 1) = ((i + 1 : Nat) : Int) := by rw [wrap_i64] <;> omega
        obtain ⟨r, hr, rfl, _⟩ := ha.iad i hlt'
        obtain ⟨r2, hr2, rfl, _⟩ := hb.iad i hmt
        by_cases he : l[i] = m[i]
        · have q2 : decide (l[i] = m[i]) = true := by simp [he]
          simp (maxSteps := 2000000) (disch := first | omega | assumption | (simp only [DS, Nat.reduceAdd, *]; done) | (simp only [DZ]; omega)) only [RUN, RU, footA, feetIn, resultsA, tupOf, frzL, slot, lay, icyL, fillA, repCells, kR, reduceIte, Nat.reduceEqDiff, Nat.reduceBEq, Nat.reduceLT, Nat.reduceAdd, Nat.reduceLeDiff, Nat.reduceSub, Nat.reduceMul, Int.reduceLT, Int.reduceLE, Int.reduceEq, Int.reduceAdd, Int.reduceSub, Int.reduceMul, g0, g1, g5, hla, hc', hr, hr2, w1, q2]
          refine ⟨hlt, l.length - (i + 1), by omega, i + 1, rfl, by omega, rfl, ?_⟩
          rw [List.take_add_one, List.take_add_one, tk, List.getElem?_eq_getElem hlt', List.getElem?_eq_getElem hmt, he]
        · have q2 : decide (l[i] = m[i]) = false := by simp [he]
          simp (maxSteps := 2000000) (disch := first | omega | assumption | (simp only [DS, Nat.reduceAdd, *]; done) | (simp only [DZ]; omega)) only [RUN, RU, footA, feetIn, resultsA, tupOf, frzL, slot, lay, icyL, fillA, repCells, kR, reduceIte, Nat.reduceEqDiff, Nat.reduceBEq, Nat.reduceLT, Nat.reduceAdd, Nat.reduceLeDiff, Nat.reduceSub, Nat.reduceMul, Int.reduceLT, Int.reduceLE, Int.reduceEq, Int.reduceAdd, Int.reduceSub, Int.reduceMul, g0, g1, g5, hla, hc', hr, hr2, w1, q2]
          have : decide (l = m) = false := by
            simp only [decide_eq_false_iff_not]
            rintro rfl; exact he rfl
          rw [this]
      · have hc' : decide ((i : Int) < l.length) = false := by simp; omega
        simp (maxSteps := 2000000) (disch := first | omega | assumption | (simp only [DS, Nat.reduceAdd, *]; done) | (simp only [DZ]; omega)) only [RUN, RU, footA, feetIn, resultsA, tupOf, frzL, slot, lay, icyL, fillA, repCells, kR, reduceIte, Nat.reduceEqDiff, Nat.reduceBEq, Nat.reduceLT, Nat.reduceAdd, Nat.reduceLeDiff, Nat.reduceSub, Nat.reduceMul, Int.reduceLT, Int.reduceLE, Int.reduceEq, Int.reduceAdd, Int.reduceSub, Int.reduceMul, g0, g1, g5, hla, hc']
        have : decide (l = m) = true := by
          simp only [decide_eq_true_eq]
          rw [show i = l.length by omega, List.take_length] at tk
          rw [tk, show l.length = m.length from hll, List.take_length]
        rw [this]
  · have q1 : decide ((l.length : Int) = m.length) = false := by simp; omega
    have q3 : decide (l = m) = false := by
      simp only [decide_eq_false_iff_not]
      rintro rfl; exact hll rfl
    simp (maxSteps := 2000000) (disch := first | omega | assumption | (simp only [DS, Nat.reduceAdd, *]; done) | (simp only [DZ]; omega)) only [RUN, RU, footA, feetIn, resultsA, tupOf, frzL, slot, lay, icyL, fillA, repCells, kR, reduceIte, Nat.reduceEqDiff, Nat.reduceBEq, Nat.reduceLT, Nat.reduceAdd, Nat.reduceLeDiff, Nat.reduceSub, Nat.reduceMul, Int.reduceLT, Int.reduceLE, Int.reduceEq, Int.reduceAdd, Int.reduceSub, Int.reduceMul, h0, h1, hla, hlb, q1, q3]
def opEq (o p : Op) : Bool := decide (o.kd = p.kd) && decide (o.hd = p.hd) && decide (o.sr = p.sr) && decide (o.sp = p.sp) && decide (o.af = p.af) && decide (o.to = p.to) && decide (o.rs = p.rs)
theorem opEq_iff (o p : Op) : opEq o p = true ↔ o = p := by
  obtain ⟨a1, a2, a3, a4, a5, a6, a7⟩ := o
  obtain ⟨b1, b2, b3, b4, b5, b6, b7⟩ := p
  simp [opEq, and_assoc]
set_option maxHeartbeats 8000000 in
theorem opsame_run {o p : Op} {ra rb : AV} (hR : Sl 1 isI32 ra o.rs) (hP : Sl 1 isI32 rb p.rs) (hl : o.rs.length ≤ 1000000000) (hf : o.rs.length < fuel) (M : Mem) : callN Try.prog (fsT tbl) fuel (d + 2) (.fn 25) [.agg (opR o ra), .agg (opR p rb)] M = some (BL (opEq o p), M) := by
  have ora := hR.one
  have orb := hP.one
  have hs := fun M => rsame_run (fuel := fuel) (d := d) hR hP hf hl M
  apply w3_eq
  refine call_gc tf25 rfl (by simp only [icyL, op_icy hR.fz, op_icy hP.fz]) (by simp [a25]) fun b' ht hx => ?_
  have h0 := hx 0 _ rfl
  have h1 := hx 1 _ rfl
  clear hx
  simp only [a25, c25] at ht ⊢
  unfold opEq
  cases q1 : decide (o.kd = p.kd)
  · simp (maxSteps := 2000000) (disch := first | omega | assumption | (simp only [DS, Nat.reduceAdd, *]; done) | (simp only [DZ]; omega)) only [RUN, RU, footA, feetIn, resultsA, tupOf, frzL, slot, lay, icyL, fillA, repCells, kR, reduceIte, Nat.reduceEqDiff, Nat.reduceBEq, Nat.reduceLT, Nat.reduceAdd, Nat.reduceLeDiff, Nat.reduceSub, Nat.reduceMul, Int.reduceLT, Int.reduceLE, Int.reduceEq, Int.reduceAdd, Int.reduceSub, Int.reduceMul, h0, h1, hR.fz.rows, hR.fz.one, hR.fz.cells, hR.fz.icy, hR.fz.frz, hP.fz.rows, hP.fz.one, hP.fz.cells, hP.fz.icy, hP.fz.frz, ↓pIdE, peIdE_val, ↓pIdN, peIdN_val, ↓pHdE, peHdE_val, ↓pHdN, peHdN_val, ↓pLbE, peLbE_val, ↓pLbN, peLbN_val, ↓pSpE, peSpE_val, ↓pSpN, peSpN_val, ETA, q1, Bool.false_and]
  cases q2 : decide (o.hd = p.hd)
  · simp (maxSteps := 2000000) (disch := first | omega | assumption | (simp only [DS, Nat.reduceAdd, *]; done) | (simp only [DZ]; omega)) only [RUN, RU, footA, feetIn, resultsA, tupOf, frzL, slot, lay, icyL, fillA, repCells, kR, reduceIte, Nat.reduceEqDiff, Nat.reduceBEq, Nat.reduceLT, Nat.reduceAdd, Nat.reduceLeDiff, Nat.reduceSub, Nat.reduceMul, Int.reduceLT, Int.reduceLE, Int.reduceEq, Int.reduceAdd, Int.reduceSub, Int.reduceMul, h0, h1, hR.fz.rows, hR.fz.one, hR.fz.cells, hR.fz.icy, hR.fz.frz, hP.fz.rows, hP.fz.one, hP.fz.cells, hP.fz.icy, hP.fz.frz, ↓pIdE, peIdE_val, ↓pIdN, peIdN_val, ↓pHdE, peHdE_val, ↓pHdN, peHdN_val, ↓pLbE, peLbE_val, ↓pLbN, peLbN_val, ↓pSpE, peSpE_val, ↓pSpN, peSpN_val, ETA, q1, q2, Bool.false_and]
  cases q3 : decide (o.sr = p.sr)
  · simp (maxSteps := 2000000) (disch := first | omega | assumption | (simp only [DS, Nat.reduceAdd, *]; done) | (simp only [DZ]; omega)) only [RUN, RU, footA, feetIn, resultsA, tupOf, frzL, slot, lay, icyL, fillA, repCells, kR, reduceIte, Nat.reduceEqDiff, Nat.reduceBEq, Nat.reduceLT, Nat.reduceAdd, Nat.reduceLeDiff, Nat.reduceSub, Nat.reduceMul, Int.reduceLT, Int.reduceLE, Int.reduceEq, Int.reduceAdd, Int.reduceSub, Int.reduceMul, h0, h1, hR.fz.rows, hR.fz.one, hR.fz.cells, hR.fz.icy, hR.fz.frz, hP.fz.rows, hP.fz.one, hP.fz.cells, hP.fz.icy, hP.fz.frz, ↓pIdE, peIdE_val, ↓pIdN, peIdN_val, ↓pHdE, peHdE_val, ↓pHdN, peHdN_val, ↓pLbE, peLbE_val, ↓pLbN, peLbN_val, ↓pSpE, peSpE_val, ↓pSpN, peSpN_val, ETA, q1, q2, q3, Bool.false_and]
  cases q4 : decide (o.sp = p.sp)
  · simp (maxSteps := 2000000) (disch := first | omega | assumption | (simp only [DS, Nat.reduceAdd, *]; done) | (simp only [DZ]; omega)) only [RUN, RU, footA, feetIn, resultsA, tupOf, frzL, slot, lay, icyL, fillA, repCells, kR, reduceIte, Nat.reduceEqDiff, Nat.reduceBEq, Nat.reduceLT, Nat.reduceAdd, Nat.reduceLeDiff, Nat.reduceSub, Nat.reduceMul, Int.reduceLT, Int.reduceLE, Int.reduceEq, Int.reduceAdd, Int.reduceSub, Int.reduceMul, h0, h1, hR.fz.rows, hR.fz.one, hR.fz.cells, hR.fz.icy, hR.fz.frz, hP.fz.rows, hP.fz.one, hP.fz.cells, hP.fz.icy, hP.fz.frz, ↓pIdE, peIdE_val, ↓pIdN, peIdN_val, ↓pHdE, peHdE_val, ↓pHdN, peHdN_val, ↓pLbE, peLbE_val, ↓pLbN, peLbN_val, ↓pSpE, peSpE_val, ↓pSpN, peSpN_val, ETA, q1, q2, q3, q4, Bool.false_and]
  cases q5 : decide (o.af = p.af)
  · simp (maxSteps := 2000000) (disch := first | omega | assumption | (simp only [DS, Nat.reduceAdd, *]; done) | (simp only [DZ]; omega)) only [RUN, RU, footA, feetIn, resultsA, tupOf, frzL, slot, lay, icyL, fillA, repCells, kR, reduceIte, Nat.reduceEqDiff, Nat.reduceBEq, Nat.reduceLT, Nat.reduceAdd, Nat.reduceLeDiff, Nat.reduceSub, Nat.reduceMul, Int.reduceLT, Int.reduceLE, Int.reduceEq, Int.reduceAdd, Int.reduceSub, Int.reduceMul, h0, h1, hR.fz.rows, hR.fz.one, hR.fz.cells, hR.fz.icy, hR.fz.frz, hP.fz.rows, hP.fz.one, hP.fz.cells, hP.fz.icy, hP.fz.frz, ↓pIdE, peIdE_val, ↓pIdN, peIdN_val, ↓pHdE, peHdE_val, ↓pHdN, peHdN_val, ↓pLbE, peLbE_val, ↓pLbN, peLbN_val, ↓pSpE, peSpE_val, ↓pSpN, peSpN_val, ETA, q1, q2, q3, q4, q5, Bool.false_and]
  cases q6 : decide (o.to = p.to)
  · simp (maxSteps := 2000000) (disch := first | omega | assumption | (simp only [DS, Nat.reduceAdd, *]; done) | (simp only [DZ]; omega)) only [RUN, RU, footA, feetIn, resultsA, tupOf, frzL, slot, lay, icyL, fillA, repCells, kR, reduceIte, Nat.reduceEqDiff, Nat.reduceBEq, Nat.reduceLT, Nat.reduceAdd, Nat.reduceLeDiff, Nat.reduceSub, Nat.reduceMul, Int.reduceLT, Int.reduceLE, Int.reduceEq, Int.reduceAdd, Int.reduceSub, Int.reduceMul, h0, h1, hR.fz.rows, hR.fz.one, hR.fz.cells, hR.fz.icy, hR.fz.frz, hP.fz.rows, hP.fz.one, hP.fz.cells, hP.fz.icy, hP.fz.frz, ↓pIdE, peIdE_val, ↓pIdN, peIdN_val, ↓pHdE, peHdE_val, ↓pHdN, peHdN_val, ↓pLbE, peLbE_val, ↓pLbN, peLbN_val, ↓pSpE, peSpE_val, ↓pSpN, peSpN_val, ETA, q1, q2, q3, q4, q5, q6, Bool.false_and]
  · simp (maxSteps := 2000000) (disch := first | omega | assumption | (simp only [DS, Nat.reduceAdd, *]; done) | (simp only [DZ]; omega)) only [RUN, RU, footA, feetIn, resultsA, tupOf, frzL, slot, lay, icyL, fillA, repCells, kR, reduceIte, Nat.reduceEqDiff, Nat.reduceBEq, Nat.reduceLT, Nat.reduceAdd, Nat.reduceLeDiff, Nat.reduceSub, Nat.reduceMul, Int.reduceLT, Int.reduceLE, Int.reduceEq, Int.reduceAdd, Int.reduceSub, Int.reduceMul, h0, h1, hR.fz.rows, hR.fz.one, hR.fz.cells, hR.fz.icy, hR.fz.frz, hP.fz.rows, hP.fz.one, hP.fz.cells, hP.fz.icy, hP.fz.frz, ↓pIdE, peIdE_val, ↓pIdN, peIdN_val, ↓pHdE, peHdE_val, ↓pHdN, peHdN_val, ↓pLbE, peLbE_val, ↓pLbN, peLbN_val, ↓pSpE, peSpE_val, ↓pSpN, peSpN_val, ETA, q1, q2, q3, q4, q5, q6, hs]
def opsEq (l m : List Op) : Bool := eqL opEq l m
theorem opsEq_iff {l m : List Op} : opsEq l m = true ↔ l = m := eqL_eq opEq_iff
set_option maxHeartbeats 8000000 in
theorem sameops_run {a b : AV} {l m : List Op} (h1' : Sl 17 isOp a l) (h2' : Sl 17 isOp b m) (hl : l.length ≤ 1000000) (hc : ∀ o ∈ l, o.rs.length ≤ 1000000000 ∧ o.rs.length < fuel) (hf : l.length < fuel) (M : Mem) : callN Try.prog (fsT tbl) fuel (d + 3) (.fn 12) [a, b] M = some (BL (opsEq l m), M) := by
  have la := h1'.len
  have lb := h2'.len
  apply w3_eq
  refine call_gc tf12 rfl (by simp (maxSteps := 2000000) (disch := first | omega | assumption | (simp only [DS, Nat.reduceAdd, *]; done) | (simp only [DZ]; omega)) only [RUN, RU, footA, feetIn, resultsA, tupOf, frzL, slot, lay, icyL, fillA, repCells, kR, reduceIte, Nat.reduceEqDiff, Nat.reduceBEq, Nat.reduceLT, Nat.reduceAdd, Nat.reduceLeDiff, Nat.reduceSub, Nat.reduceMul, Int.reduceLT, Int.reduceLE, Int.reduceEq, Int.reduceAdd, Int.reduceSub, Int.reduceMul, h1'.fz.rows, h1'.fz.one, h1'.fz.cells, h1'.fz.icy, h1'.fz.frz, h2'.fz.rows, h2'.fz.one, h2'.fz.cells, h2'.fz.icy, h2'.fz.frz]) (by simp [a12]) fun b' ht hx => ?_
  have h0 := hx 0 _ rfl
  have h1 := hx 1 _ rfl
  clear hx
  simp only [a12, c12] at ht ⊢
  by_cases q : l.length = m.length
  · have q0 : decide ((l.length : Int) = m.length) = true := decide_eq_true (by omega)
    simp (maxSteps := 2000000) (disch := first | omega | assumption | (simp only [DS, Nat.reduceAdd, *]; done) | (simp only [DZ]; omega)) only [RUN, RU, footA, feetIn, resultsA, tupOf, frzL, slot, lay, icyL, fillA, repCells, kR, reduceIte, Nat.reduceEqDiff, Nat.reduceBEq, Nat.reduceLT, Nat.reduceAdd, Nat.reduceLeDiff, Nat.reduceSub, Nat.reduceMul, Int.reduceLT, Int.reduceLE, Int.reduceEq, Int.reduceAdd, Int.reduceSub, Int.reduceMul, h0, h1, la, lb, h1'.fz.rows, h1'.fz.one, h1'.fz.cells, h1'.fz.icy, h1'.fz.frz, h2'.fz.rows, h2'.fz.one, h2'.fz.cells, h2'.fz.icy, h2'.fz.frz, q0]
    refine w_loop (I := fun n t N => ∃ (i : Nat), n = l.length - i ∧ i ≤ l.length ∧ nth undefA t 0 = a ∧ nth undefA t 1 = b ∧ nth undefA t 5 = I64 i ∧ N = mem0 ∧ (∀ j (x1 : j < l.length) (x2 : j < m.length), j < i → opEq l[j] m[j] = true)) (n := l.length) (by omega) ?_ ?_
    · refine ⟨0, rfl, Nat.zero_le _, ?_, ?_, ?_, rfl, (fun _ _ _ h => absurd h (by omega))⟩ <;> simp (maxSteps := 2000000) (disch := first | omega | assumption | (simp only [DS, Nat.reduceAdd, *]; done) | (simp only [DZ]; omega)) only [RUN, RU, footA, feetIn, resultsA, tupOf, frzL, slot, lay, icyL, fillA, repCells, kR, reduceIte, Nat.reduceEqDiff, Nat.reduceBEq, Nat.reduceLT, Nat.reduceAdd, Nat.reduceLeDiff, Nat.reduceSub, Nat.reduceMul, Int.reduceLT, Int.reduceLE, Int.reduceEq, Int.reduceAdd, Int.reduceSub, Int.reduceMul, h0, h1, la]
      all_goals first | rfl | assumption | done
    · rintro n t N hlt ⟨i, rfl, hi, g0, g1, g5, hm, hj⟩
      simp only [ht] at hlt ⊢
      subst hm
      by_cases hc' : i < l.length
      · have q1 : decide ((i : Int) < l.length) = true := decide_eq_true (by omega)
        have hc2 : i < m.length := by omega
        obtain ⟨r1, i1, ⟨ra, hr1, s1, _⟩, hl1⟩ := h1'.iad i hc'
        obtain ⟨r2, i2, ⟨rb, hr2, s2, _⟩, hl2⟩ := h2'.iad i hc2
        have hcr := hc l[i] (List.getElem_mem hc')
        have hp := fun M => opsame_run (fuel := fuel) (d := d) s1 s2 hcr.1 hcr.2 M
        have w1 : IntKind.i64.wrap ((i : Int) + 1) = ((i + 1 : Nat) : Int) := by rw [wrap_i64] <;> omega
        subst hr1 hr2
        cases q2 : opEq l[i] m[i] with
        | true =>
          rw [q2] at hp
          simp (maxSteps := 2000000) (disch := first | omega | assumption | (simp only [DS, Nat.reduceAdd, *]; done) | (simp only [DZ]; omega)) only [RUN, RU, footA, feetIn, resultsA, tupOf, frzL, slot, lay, icyL, fillA, repCells, kR, reduceIte, Nat.reduceEqDiff, Nat.reduceBEq, Nat.reduceLT, Nat.reduceAdd, Nat.reduceLeDiff, Nat.reduceSub, Nat.reduceMul, Int.reduceLT, Int.reduceLE, Int.reduceEq, Int.reduceAdd, Int.reduceSub, Int.reduceMul, g0, g1, g5, la, lb, h1'.fz.rows, h1'.fz.one, h1'.fz.cells, h1'.fz.icy, h1'.fz.frz, h2'.fz.rows, h2'.fz.one, h2'.fz.cells, h2'.fz.icy, h2'.fz.frz, q1, i1, i2, w1, s1.fz.rows, s1.fz.one, s1.fz.cells, s1.fz.icy, s1.fz.frz, s2.fz.rows, s2.fz.one, s2.fz.cells, s2.fz.icy, s2.fz.frz, hp]
          exact ⟨hlt, l.length - (i + 1), by omega, i + 1, rfl, by omega, rfl, fun j x1 x2 hj' => by
            rcases Nat.lt_succ_iff_lt_or_eq.1 hj' with h | rfl
            · exact hj j x1 x2 h
            · exact q2⟩
        | false =>
          rw [q2] at hp
          have e : opsEq l m = false := eqL_at hc' hc2 q2
          simp (maxSteps := 2000000) (disch := first | omega | assumption | (simp only [DS, Nat.reduceAdd, *]; done) | (simp only [DZ]; omega)) only [RUN, RU, footA, feetIn, resultsA, tupOf, frzL, slot, lay, icyL, fillA, repCells, kR, reduceIte, Nat.reduceEqDiff, Nat.reduceBEq, Nat.reduceLT, Nat.reduceAdd, Nat.reduceLeDiff, Nat.reduceSub, Nat.reduceMul, Int.reduceLT, Int.reduceLE, Int.reduceEq, Int.reduceAdd, Int.reduceSub, Int.reduceMul, g0, g1, g5, la, lb, h1'.fz.rows, h1'.fz.one, h1'.fz.cells, h1'.fz.icy, h1'.fz.frz, h2'.fz.rows, h2'.fz.one, h2'.fz.cells, h2'.fz.icy, h2'.fz.frz, q1, i1, i2, w1, s1.fz.rows, s1.fz.one, s1.fz.cells, s1.fz.icy, s1.fz.frz, s2.fz.rows, s2.fz.one, s2.fz.cells, s2.fz.icy, s2.fz.frz, hp, e]
      · obtain rfl : i = l.length := by omega
        have q1 : decide ((l.length : Int) < l.length) = false := decide_eq_false (by omega)
        have e : opsEq l m = true := eqL_all q fun j x1 x2 _ => hj j x1 x2 x1
        simp (maxSteps := 2000000) (disch := first | omega | assumption | (simp only [DS, Nat.reduceAdd, *]; done) | (simp only [DZ]; omega)) only [RUN, RU, footA, feetIn, resultsA, tupOf, frzL, slot, lay, icyL, fillA, repCells, kR, reduceIte, Nat.reduceEqDiff, Nat.reduceBEq, Nat.reduceLT, Nat.reduceAdd, Nat.reduceLeDiff, Nat.reduceSub, Nat.reduceMul, Int.reduceLT, Int.reduceLE, Int.reduceEq, Int.reduceAdd, Int.reduceSub, Int.reduceMul, g0, g1, g5, la, q1, h1'.fz.rows, h1'.fz.one, h1'.fz.cells, h1'.fz.icy, h1'.fz.frz, e]
  · have q0 : decide ((l.length : Int) = m.length) = false := decide_eq_false (by omega)
    have e : opsEq l m = false := eqL_ne q
    simp (maxSteps := 2000000) (disch := first | omega | assumption | (simp only [DS, Nat.reduceAdd, *]; done) | (simp only [DZ]; omega)) only [RUN, RU, footA, feetIn, resultsA, tupOf, frzL, slot, lay, icyL, fillA, repCells, kR, reduceIte, Nat.reduceEqDiff, Nat.reduceBEq, Nat.reduceLT, Nat.reduceAdd, Nat.reduceLeDiff, Nat.reduceSub, Nat.reduceMul, Int.reduceLT, Int.reduceLE, Int.reduceEq, Int.reduceAdd, Int.reduceSub, Int.reduceMul, h0, h1, la, lb, h1'.fz.rows, h1'.fz.one, h1'.fz.cells, h1'.fz.icy, h1'.fz.frz, h2'.fz.rows, h2'.fz.one, h2'.fz.cells, h2'.fz.icy, h2'.fz.frz, q0, e]
end Go.Proofs.Ytggbpfdbcibifaa
