/-
  Ids: Less, Cut; runs: Same, Twin, which one is the last, how many elements.
-/
import Derived.Test.YtbomjpdheibmfaaSbG
import Derived.Test.YtbomjpdheibmfaaSaC
import Derived.Test.YtbomjpdheibmfaaEf
set_option linter.unusedSimpArgs false
set_option linter.unusedVariables false
set_option maxRecDepth 100000
namespace Go.Proofs.Ytbomjpdheibmfaa
open Go Go.Ax
variable {fuel : Nat} {M : Mem} {Q : AV → Mem → Prop} {d : Nat}
def Lb.ahead (a b : Lb) : Bool := decide (a.lv < b.lv) || (decide (a.lv = b.lv) && decide (a.cats < b.cats))
def Eid.less (x y : Eid) : Bool := if x.c = y.c then (if x.hd.lb = y.hd.lb then decide (x.hd.num < y.hd.num) else x.hd.lb.ahead y.hd.lb) else decide (x.c < y.c)
theorem ahead_run (a b : Lb) (M : Mem) : callN Try.prog (fsT tbl) fuel (d + 1) (.fn 24) [lbA a, lbA b] M = some (BL (a.ahead b), M) := by
  have pLbE := @pLbE
  apply w3_eq
  refine call_gc tf24 rfl (by simp (maxSteps := 2000000) (disch := first | omega | assumption | (simp only [DS, Nat.reduceAdd, *]; done) | (simp only [DZ]; omega)) only [RUN, RU, zD, zC, zB, zE, zG, slot, lay, zH, zF, zA, kR, reduceIte, Nat.reduceEqDiff, Nat.reduceBEq, Nat.reduceLT, Nat.reduceAdd, Nat.reduceLeDiff, Nat.reduceSub, Nat.reduceMul, Int.reduceLT, Int.reduceLE, Int.reduceEq, Int.reduceAdd, Int.reduceSub, Int.reduceMul]) (by simp [a24]) fun b' ht hx => ?_
  have h0 := hx 0 _ rfl
  have h1 := hx 1 _ rfl
  clear hx
  simp only [a24, c24] at ht ⊢
  unfold Lb.ahead
  cases q1 : decide (a.lv < b.lv) with
  | true => simp (maxSteps := 2000000) (disch := first | omega | assumption | (simp only [DS, Nat.reduceAdd, *]; done) | (simp only [DZ]; omega)) only [RUN, RU, zD, zC, zB, zE, zG, slot, lay, zH, zF, zA, kR, reduceIte, Nat.reduceEqDiff, Nat.reduceBEq, Nat.reduceLT, Nat.reduceAdd, Nat.reduceLeDiff, Nat.reduceSub, Nat.reduceMul, Int.reduceLT, Int.reduceLE, Int.reduceEq, Int.reduceAdd, Int.reduceSub, Int.reduceMul, h0, h1, q1, ↓pIdE, peIdE_val, ↓pIdN, peIdN_val, ↓pHdE, peHdE_val, ↓pHdN, peHdN_val, ↓pLbE, peLbE_val, ↓pLbN, peLbN_val, ↓pSpE, peSpE_val, ↓pSpN, peSpN_val, ETA, Bool.true_or]
  | false =>
    have e : decide (a = (⟨b.lv, a.cats⟩ : Lb)) = decide (a.lv = b.lv) := by
      rw [Bool.eq_iff_iff, decide_eq_true_iff, decide_eq_true_iff]
      constructor
      · intro h; rw [h]
      · intro h
        obtain ⟨x, y⟩ := a
        simp only at h ⊢
        rw [h]
    cases q2 : decide (a.lv = b.lv) with
    | true =>
      rw [q2] at e
      simp (maxSteps := 2000000) (disch := first | omega | assumption | (simp only [DS, Nat.reduceAdd, *]; done) | (simp only [DZ]; omega)) only [RUN, RU, zD, zC, zB, zE, zG, slot, lay, zH, zF, zA, kR, reduceIte, Nat.reduceEqDiff, Nat.reduceBEq, Nat.reduceLT, Nat.reduceAdd, Nat.reduceLeDiff, Nat.reduceSub, Nat.reduceMul, Int.reduceLT, Int.reduceLE, Int.reduceEq, Int.reduceAdd, Int.reduceSub, Int.reduceMul, h0, h1, q1, ↓pIdE, peIdE_val, ↓pIdN, peIdN_val, ↓pHdE, peHdE_val, ↓pHdN, peHdN_val, ↓pLbE, peLbE_val, ↓pLbN, peLbN_val, ↓pSpE, peSpE_val, ↓pSpN, peSpN_val, ETA, e, Bool.false_or, Bool.true_and]
    | false =>
      rw [q2] at e
      simp (maxSteps := 2000000) (disch := first | omega | assumption | (simp only [DS, Nat.reduceAdd, *]; done) | (simp only [DZ]; omega)) only [RUN, RU, zD, zC, zB, zE, zG, slot, lay, zH, zF, zA, kR, reduceIte, Nat.reduceEqDiff, Nat.reduceBEq, Nat.reduceLT, Nat.reduceAdd, Nat.reduceLeDiff, Nat.reduceSub, Nat.reduceMul, Int.reduceLT, Int.reduceLE, Int.reduceEq, Int.reduceAdd, Int.reduceSub, Int.reduceMul, h0, h1, q1, ↓pIdE, peIdE_val, ↓pIdN, peIdN_val, ↓pHdE, peHdE_val, ↓pHdN, peHdN_val, ↓pLbE, peLbE_val, ↓pLbN, peLbN_val, ↓pSpE, peSpE_val, ↓pSpN, peSpN_val, ETA, e, Bool.false_or, Bool.false_and]
theorem less_run (x y : Eid) (M : Mem) : callN Try.prog (fsT tbl) fuel (d + 2) (.fn 9) [idA x, idA y] M = some (BL (x.less y), M) := by
  have pLbN := @pLbN
  have ha := fun M => @ahead_run fuel d x.hd.lb y.hd.lb M
  apply w3_eq
  refine call_gc tf9 rfl (by simp (maxSteps := 2000000) (disch := first | omega | assumption | (simp only [DS, Nat.reduceAdd, *]; done) | (simp only [DZ]; omega)) only [RUN, RU, zD, zC, zB, zE, zG, slot, lay, zH, zF, zA, kR, reduceIte, Nat.reduceEqDiff, Nat.reduceBEq, Nat.reduceLT, Nat.reduceAdd, Nat.reduceLeDiff, Nat.reduceSub, Nat.reduceMul, Int.reduceLT, Int.reduceLE, Int.reduceEq, Int.reduceAdd, Int.reduceSub, Int.reduceMul]) (by simp [a9]) fun b' ht hx => ?_
  have h0 := hx 0 _ rfl
  have h1 := hx 1 _ rfl
  clear hx
  simp only [a9, c9] at ht ⊢
  unfold Eid.less
  by_cases q1 : x.c = y.c
  · have q1' : decide (x.c = y.c) = true := decide_eq_true q1
    by_cases q2 : x.hd.lb = y.hd.lb
    · have q2' : decide (x.hd.lb = y.hd.lb) = true := decide_eq_true q2
      simp only [if_pos q1, if_pos q2]
      simp (maxSteps := 2000000) (disch := first | omega | assumption | (simp only [DS, Nat.reduceAdd, *]; done) | (simp only [DZ]; omega)) only [RUN, RU, zD, zC, zB, zE, zG, slot, lay, zH, zF, zA, kR, reduceIte, Nat.reduceEqDiff, Nat.reduceBEq, Nat.reduceLT, Nat.reduceAdd, Nat.reduceLeDiff, Nat.reduceSub, Nat.reduceMul, Int.reduceLT, Int.reduceLE, Int.reduceEq, Int.reduceAdd, Int.reduceSub, Int.reduceMul, h0, h1, q1', ↓pIdE, peIdE_val, ↓pIdN, peIdN_val, ↓pHdE, peHdE_val, ↓pHdN, peHdN_val, ↓pLbE, peLbE_val, ↓pLbN, peLbN_val, ↓pSpE, peSpE_val, ↓pSpN, peSpN_val, ETA, q2']
    · have q2' : decide (x.hd.lb = y.hd.lb) = false := decide_eq_false q2
      simp only [if_pos q1, if_neg q2]
      simp (maxSteps := 2000000) (disch := first | omega | assumption | (simp only [DS, Nat.reduceAdd, *]; done) | (simp only [DZ]; omega)) only [RUN, RU, zD, zC, zB, zE, zG, slot, lay, zH, zF, zA, kR, reduceIte, Nat.reduceEqDiff, Nat.reduceBEq, Nat.reduceLT, Nat.reduceAdd, Nat.reduceLeDiff, Nat.reduceSub, Nat.reduceMul, Int.reduceLT, Int.reduceLE, Int.reduceEq, Int.reduceAdd, Int.reduceSub, Int.reduceMul, h0, h1, q1', ↓pIdE, peIdE_val, ↓pIdN, peIdN_val, ↓pHdE, peHdE_val, ↓pHdN, peHdN_val, ↓pLbE, peLbE_val, ↓pLbN, peLbN_val, ↓pSpE, peSpE_val, ↓pSpN, peSpN_val, ETA, q2', ha]
  · have q1' : decide (x.c = y.c) = false := decide_eq_false q1
    simp only [if_neg q1]
    simp (maxSteps := 2000000) (disch := first | omega | assumption | (simp only [DS, Nat.reduceAdd, *]; done) | (simp only [DZ]; omega)) only [RUN, RU, zD, zC, zB, zE, zG, slot, lay, zH, zF, zA, kR, reduceIte, Nat.reduceEqDiff, Nat.reduceBEq, Nat.reduceLT, Nat.reduceAdd, Nat.reduceLeDiff, Nat.reduceSub, Nat.reduceMul, Int.reduceLT, Int.reduceLE, Int.reduceEq, Int.reduceAdd, Int.reduceSub, Int.reduceMul, h0, h1, q1']
def cutE (s : Spn) (n : Int) : Int := if s.may then (if n ≤ 0 ∨ s.n ≤ n then 2 else 0) else 8
def spZ : Spn := ⟨Eid.z, 0⟩
theorem idscut_run (s : Spn) (n : Int) (M : Mem) : callN Try.prog (fsT tbl) fuel (d + 6) (.fn 51) [spA s, I64 n] M = some (if cutE s n = 0 then .tup [spA ⟨s.f, n⟩, spA ⟨s.at n, s.n - n⟩, I64 0] else .tup [spA spZ, spA spZ, I64 (cutE s n)], M) := by
  have hat := fun M => @ids_at fuel d s n M
  apply w3_eq
  refine call_gc tf51 rfl (by simp (maxSteps := 2000000) (disch := first | omega | assumption | (simp only [DS, Nat.reduceAdd, *]; done) | (simp only [DZ]; omega)) only [RUN, RU, zD, zC, zB, zE, zG, slot, lay, zH, zF, zA, kR, reduceIte, Nat.reduceEqDiff, Nat.reduceBEq, Nat.reduceLT, Nat.reduceAdd, Nat.reduceLeDiff, Nat.reduceSub, Nat.reduceMul, Int.reduceLT, Int.reduceLE, Int.reduceEq, Int.reduceAdd, Int.reduceSub, Int.reduceMul]) (by simp [a51]) fun b' ht hx => ?_
  have h0 := hx 0 _ rfl
  have h1 := hx 1 _ rfl
  clear hx
  simp only [a51, c51] at ht ⊢
  unfold cutE spZ
  cases hm : s.may with
  | false =>
    simp only [hm, Bool.false_eq_true, if_false] at hat
    simp (maxSteps := 2000000) (disch := first | omega | assumption | (simp only [DS, Nat.reduceAdd, *]; done) | (simp only [DZ]; omega)) only [RUN, RU, zD, zC, zB, zE, zG, slot, lay, zH, zF, zA, kR, reduceIte, Nat.reduceEqDiff, Nat.reduceBEq, Nat.reduceLT, Nat.reduceAdd, Nat.reduceLeDiff, Nat.reduceSub, Nat.reduceMul, Int.reduceLT, Int.reduceLE, Int.reduceEq, Int.reduceAdd, Int.reduceSub, Int.reduceMul, h0, h1, hat, z80, Bool.false_eq_true, if_false]
    all_goals rfl
  | true =>
    simp only [hm, if_true] at hat
    have hb := Spn.may_le hm
    by_cases q0 : n < 0 ∨ s.n ≤ n
    · simp only [q0, if_true] at hat
      have q2 : n ≤ 0 ∨ s.n ≤ n := by omega
      have q3 : decide (n = 0) = false := decide_eq_false (by omega)
      simp (maxSteps := 2000000) (disch := first | omega | assumption | (simp only [DS, Nat.reduceAdd, *]; done) | (simp only [DZ]; omega)) only [RUN, RU, zD, zC, zB, zE, zG, slot, lay, zH, zF, zA, kR, reduceIte, Nat.reduceEqDiff, Nat.reduceBEq, Nat.reduceLT, Nat.reduceAdd, Nat.reduceLeDiff, Nat.reduceSub, Nat.reduceMul, Int.reduceLT, Int.reduceLE, Int.reduceEq, Int.reduceAdd, Int.reduceSub, Int.reduceMul, h0, h1, hat, q2, q3, if_true]
      all_goals rfl
    · simp only [q0, if_false] at hat
      by_cases q3 : n = 0
      · have q3' : decide (n = 0) = true := decide_eq_true q3
        have q2 : n ≤ 0 ∨ s.n ≤ n := by omega
        simp (maxSteps := 2000000) (disch := first | omega | assumption | (simp only [DS, Nat.reduceAdd, *]; done) | (simp only [DZ]; omega)) only [RUN, RU, zD, zC, zB, zE, zG, slot, lay, zH, zF, zA, kR, reduceIte, Nat.reduceEqDiff, Nat.reduceBEq, Nat.reduceLT, Nat.reduceAdd, Nat.reduceLeDiff, Nat.reduceSub, Nat.reduceMul, Int.reduceLT, Int.reduceLE, Int.reduceEq, Int.reduceAdd, Int.reduceSub, Int.reduceMul, h0, h1, hat, q2, q3', z00, if_true]
        all_goals rfl
      · have q3' : decide (n = 0) = false := decide_eq_false q3
        have q2 : ¬(n ≤ 0 ∨ s.n ≤ n) := by omega
        have w1 : IntKind.i64.wrap (s.n - n) = s.n - n := wrap_i64 (by omega) (by omega)
        simp (maxSteps := 2000000) (disch := first | omega | assumption | (simp only [DS, Nat.reduceAdd, *]; done) | (simp only [DZ]; omega)) only [RUN, RU, zD, zC, zB, zE, zG, slot, lay, zH, zF, zA, kR, reduceIte, Nat.reduceEqDiff, Nat.reduceBEq, Nat.reduceLT, Nat.reduceAdd, Nat.reduceLeDiff, Nat.reduceSub, Nat.reduceMul, Int.reduceLT, Int.reduceLE, Int.reduceEq, Int.reduceAdd, Int.reduceSub, Int.reduceMul, h0, h1, hat, q2, q3', z00, if_true, if_false, w1]
        rfl
theorem equal_run {a b : AV} {l m : List Int} (ha : Sl 1 isI32 a l) (hb : Sl 1 isI32 b m) (hf : l.length < fuel) (hl : l.length ≤ 1000000000) (M : Mem) :
    callN Try.prog (fsT tbl) fuel (d + 1) (.fn 57) [a, b] M = some (BL (decide (l = m)), M) := by
  have hla := ha.len
  have hlb := hb.len
  apply w3_eq
  refine call_gc tf57 rfl (by simp (maxSteps := 2000000) (disch := first | omega | assumption | (simp only [DS, Nat.reduceAdd, *]; done) | (simp only [DZ]; omega)) only [RUN, RU, zD, zC, zB, zE, zG, slot, lay, zH, zF, zA, kR, reduceIte, Nat.reduceEqDiff, Nat.reduceBEq, Nat.reduceLT, Nat.reduceAdd, Nat.reduceLeDiff, Nat.reduceSub, Nat.reduceMul, Int.reduceLT, Int.reduceLE, Int.reduceEq, Int.reduceAdd, Int.reduceSub, Int.reduceMul, ha.fz.rows, ha.fz.one, ha.fz.cells, ha.fz.icy, ha.fz.frz, hb.fz.rows, hb.fz.one, hb.fz.cells, hb.fz.icy, hb.fz.frz]) (by simp [a57]) fun b' ht hx => ?_
  have h0 := hx 0 _ rfl
  have h1 := hx 1 _ rfl
  clear hx
  simp only [a57, c57] at ht ⊢
  by_cases hll : l.length = m.length
  · have q1 : decide ((l.length : Int) = m.length) = true := by simp; omega
    simp (maxSteps := 2000000) (disch := first | omega | assumption | (simp only [DS, Nat.reduceAdd, *]; done) | (simp only [DZ]; omega)) only [RUN, RU, zD, zC, zB, zE, zG, slot, lay, zH, zF, zA, kR, reduceIte, Nat.reduceEqDiff, Nat.reduceBEq, Nat.reduceLT, Nat.reduceAdd, Nat.reduceLeDiff, Nat.reduceSub, Nat.reduceMul, Int.reduceLT, Int.reduceLE, Int.reduceEq, Int.reduceAdd, Int.reduceSub, Int.reduceMul, h0, h1, hla, hlb, ha.fz.rows, ha.fz.one, ha.fz.cells, ha.fz.icy, ha.fz.frz, hb.fz.rows, hb.fz.one, hb.fz.cells, hb.fz.icy, hb.fz.frz, q1]
    refine w_loop (I := fun n t N => ∃ (i : Nat), n = l.length - i ∧ i ≤ l.length ∧ nth undefA t 0 = a ∧ nth undefA t 1 = b ∧ nth undefA t 11 = a ∧ nth undefA t 12 = I64 l.length ∧ nth undefA t 13 = I64 i ∧ l.take i = m.take i) (n := l.length) (by omega) ?_ ?_
    · refine ⟨0, rfl, Nat.zero_le _, ?_, ?_, ?_, ?_, ?_, rfl⟩ <;> simp (maxSteps := 2000000) (disch := first | omega | assumption | (simp only [DS, Nat.reduceAdd, *]; done) | (simp only [DZ]; omega)) only [RUN, RU, zD, zC, zB, zE, zG, slot, lay, zH, zF, zA, kR, reduceIte, Nat.reduceEqDiff, Nat.reduceBEq, Nat.reduceLT, Nat.reduceAdd, Nat.reduceLeDiff, Nat.reduceSub, Nat.reduceMul, Int.reduceLT, Int.reduceLE, Int.reduceEq, Int.reduceAdd, Int.reduceSub, Int.reduceMul, h0, h1, hla]
      all_goals first | rfl | assumption | done
    · rintro n t N hlt ⟨i, rfl, hi, g0, g1, g11, g12, g13, tk⟩
      simp only [ht] at hlt ⊢
      by_cases hlt' : i < l.length
      · have hc' : decide ((i : Int) < l.length) = true := by simp; omega
        have hmt : i < m.length := by omega
        have w1 : IntKind.i64.wrap ((i : Int) + 1) = ((i + 1 : Nat) : Int) := by rw [wrap_i64] <;> omega
        obtain ⟨r, hr, rfl, _⟩ := ha.iad i hlt'
        obtain ⟨r2, hr2, rfl, _⟩ := hb.iad i hmt
        by_cases he : l[i] = m[i]
        · have q2 : decide (l[i] = m[i]) = true := by simp [he]
          simp (maxSteps := 2000000) (disch := first | omega | assumption | (simp only [DS, Nat.reduceAdd, *]; done) | (simp only [DZ]; omega)) only [RUN, RU, zD, zC, zB, zE, zG, slot, lay, zH, zF, zA, kR, reduceIte, Nat.reduceEqDiff, Nat.reduceBEq, Nat.reduceLT, Nat.reduceAdd, Nat.reduceLeDiff, Nat.reduceSub, Nat.reduceMul, Int.reduceLT, Int.reduceLE, Int.reduceEq, Int.reduceAdd, Int.reduceSub, Int.reduceMul, g0, g1, g11, g12, g13, hc', hr, hr2, w1, q2]
          refine ⟨hlt, l.length - (i + 1), by omega, i + 1, rfl, by omega, rfl, ?_⟩
          rw [List.take_add_one, List.take_add_one, tk, List.getElem?_eq_getElem hlt', List.getElem?_eq_getElem hmt, he]
        · have q2 : decide (l[i] = m[i]) = false := by simp [he]
          simp (maxSteps := 2000000) (disch := first | omega | assumption | (simp only [DS, Nat.reduceAdd, *]; done) | (simp only [DZ]; omega)) only [RUN, RU, zD, zC, zB, zE, zG, slot, lay, zH, zF, zA, kR, reduceIte, Nat.reduceEqDiff, Nat.reduceBEq, Nat.reduceLT, Nat.reduceAdd, Nat.reduceLeDiff, Nat.reduceSub, Nat.reduceMul, Int.reduceLT, Int.reduceLE, Int.reduceEq, Int.reduceAdd, Int.reduceSub, Int.reduceMul, g0, g1, g11, g12, g13, hc', hr, hr2, w1, q2]
          have : decide (l = m) = false := by
            simp only [decide_eq_false_iff_not]
            rintro rfl; exact he rfl
          rw [this]
      · have hc' : decide ((i : Int) < l.length) = false := by simp; omega
        simp (maxSteps := 2000000) (disch := first | omega | assumption | (simp only [DS, Nat.reduceAdd, *]; done) | (simp only [DZ]; omega)) only [RUN, RU, zD, zC, zB, zE, zG, slot, lay, zH, zF, zA, kR, reduceIte, Nat.reduceEqDiff, Nat.reduceBEq, Nat.reduceLT, Nat.reduceAdd, Nat.reduceLeDiff, Nat.reduceSub, Nat.reduceMul, Int.reduceLT, Int.reduceLE, Int.reduceEq, Int.reduceAdd, Int.reduceSub, Int.reduceMul, g0, g1, g11, g12, g13, hc']
        have : decide (l = m) = true := by
          simp only [decide_eq_true_eq]
          rw [show i = l.length by omega, List.take_length] at tk
          rw [tk, show l.length = m.length from hll, List.take_length]
        rw [this]
  · have q1 : decide ((l.length : Int) = m.length) = false := by simp; omega
    have q3 : decide (l = m) = false := by
      simp only [decide_eq_false_iff_not]
      rintro rfl; exact hll rfl
    simp (maxSteps := 2000000) (disch := first | omega | assumption | (simp only [DS, Nat.reduceAdd, *]; done) | (simp only [DZ]; omega)) only [RUN, RU, zD, zC, zB, zE, zG, slot, lay, zH, zF, zA, kR, reduceIte, Nat.reduceEqDiff, Nat.reduceBEq, Nat.reduceLT, Nat.reduceAdd, Nat.reduceLeDiff, Nat.reduceSub, Nat.reduceMul, Int.reduceLT, Int.reduceLE, Int.reduceEq, Int.reduceAdd, Int.reduceSub, Int.reduceMul, h0, h1, hla, hlb, ha.fz.rows, ha.fz.one, ha.fz.cells, ha.fz.icy, ha.fz.frz, hb.fz.rows, hb.fz.one, hb.fz.cells, hb.fz.icy, hb.fz.frz, q1, q3]
def rnEq (o p : Rn) : Bool := decide (o.sp = p.sp) && decide (o.af = p.af) && decide (o.rs = p.rs)
theorem rnEq_iff (o p : Rn) : rnEq o p = true ↔ o = p := by
  obtain ⟨a1, a2, a3⟩ := o
  obtain ⟨b1, b2, b3⟩ := p
  simp [rnEq, and_assoc]
set_option maxHeartbeats 4000000 in
theorem runsame_run {o p : Rn} {ra rb : AV} (hR : Sl 1 isI32 ra o.rs) (hP : Sl 1 isI32 rb p.rs) (hl : o.rs.length ≤ 1000000000) (hf : o.rs.length < fuel) (M : Mem) : callN Try.prog (fsT tbl) fuel (d + 2) (.fn 45) [.agg (rnR o ra), .agg (rnR p rb)] M = some (BL (rnEq o p), M) := by
  have ora := hR.one
  have orb := hP.one
  have hs := fun M => equal_run (fuel := fuel) (d := d) hR hP hf hl M
  apply w3_eq
  refine call_gc tf45 rfl (by simp only [zH, rn_icy hR.fz, rn_icy hP.fz]) (by simp [a45]) fun b' ht hx => ?_
  have h0 := hx 0 _ rfl
  have h1 := hx 1 _ rfl
  clear hx
  simp only [a45, c45] at ht ⊢
  unfold rnEq
  cases q1 : decide (o.sp = p.sp)
  · simp (maxSteps := 2000000) (disch := first | omega | assumption | (simp only [DS, Nat.reduceAdd, *]; done) | (simp only [DZ]; omega)) only [RUN, RU, zD, zC, zB, zE, zG, slot, lay, zH, zF, zA, kR, reduceIte, Nat.reduceEqDiff, Nat.reduceBEq, Nat.reduceLT, Nat.reduceAdd, Nat.reduceLeDiff, Nat.reduceSub, Nat.reduceMul, Int.reduceLT, Int.reduceLE, Int.reduceEq, Int.reduceAdd, Int.reduceSub, Int.reduceMul, h0, h1, hR.fz.rows, hR.fz.one, hR.fz.cells, hR.fz.icy, hR.fz.frz, hP.fz.rows, hP.fz.one, hP.fz.cells, hP.fz.icy, hP.fz.frz, ↓pIdE, peIdE_val, ↓pIdN, peIdN_val, ↓pHdE, peHdE_val, ↓pHdN, peHdN_val, ↓pLbE, peLbE_val, ↓pLbN, peLbN_val, ↓pSpE, peSpE_val, ↓pSpN, peSpN_val, ETA, q1, Bool.false_and]
  · cases q2 : decide (o.af = p.af)
    · simp (maxSteps := 2000000) (disch := first | omega | assumption | (simp only [DS, Nat.reduceAdd, *]; done) | (simp only [DZ]; omega)) only [RUN, RU, zD, zC, zB, zE, zG, slot, lay, zH, zF, zA, kR, reduceIte, Nat.reduceEqDiff, Nat.reduceBEq, Nat.reduceLT, Nat.reduceAdd, Nat.reduceLeDiff, Nat.reduceSub, Nat.reduceMul, Int.reduceLT, Int.reduceLE, Int.reduceEq, Int.reduceAdd, Int.reduceSub, Int.reduceMul, h0, h1, hR.fz.rows, hR.fz.one, hR.fz.cells, hR.fz.icy, hR.fz.frz, hP.fz.rows, hP.fz.one, hP.fz.cells, hP.fz.icy, hP.fz.frz, ↓pIdE, peIdE_val, ↓pIdN, peIdN_val, ↓pHdE, peHdE_val, ↓pHdN, peHdN_val, ↓pLbE, peLbE_val, ↓pLbN, peLbN_val, ↓pSpE, peSpE_val, ↓pSpN, peSpN_val, ETA, q1, q2, Bool.false_and, Bool.true_and]
    · simp (maxSteps := 2000000) (disch := first | omega | assumption | (simp only [DS, Nat.reduceAdd, *]; done) | (simp only [DZ]; omega)) only [RUN, RU, zD, zC, zB, zE, zG, slot, lay, zH, zF, zA, kR, reduceIte, Nat.reduceEqDiff, Nat.reduceBEq, Nat.reduceLT, Nat.reduceAdd, Nat.reduceLeDiff, Nat.reduceSub, Nat.reduceMul, Int.reduceLT, Int.reduceLE, Int.reduceEq, Int.reduceAdd, Int.reduceSub, Int.reduceMul, h0, h1, hR.fz.rows, hR.fz.one, hR.fz.cells, hR.fz.icy, hR.fz.frz, hP.fz.rows, hP.fz.one, hP.fz.cells, hP.fz.icy, hP.fz.frz, ↓pIdE, peIdE_val, ↓pIdN, peIdN_val, ↓pHdE, peHdE_val, ↓pHdN, peHdN_val, ↓pLbE, peLbE_val, ↓pLbN, peLbN_val, ↓pSpE, peSpE_val, ↓pSpN, peSpN_val, ETA, q1, q2, hs, Bool.false_and, Bool.true_and]
set_option maxHeartbeats 4000000 in
theorem runtwin_run {o : Rn} {ra : AV} (hR : Sl 1 isI32 ra o.rs) (hl : o.rs.length ≤ 1000000000) : ∃ r, Sl 1 isI32 r o.rs ∧ ∀ M, callN Try.prog (fsT tbl) fuel (d + 2) (.fn 39) [.agg (rnR o ra)] M = some (.agg (rnR o r), M) := by
  have ora := hR.one
  refine gc_ex tf39 rfl (fun M => by simp only [zH, rn_icy hR.fz]) ?_
  refine call_gc tf39 rfl (by simp only [zH, rn_icy hR.fz]) (by simp [a39]) fun b' ht hx => ?_
  have h0 := hx 0 _ rfl
  clear hx
  simp only [a39, c39] at ht ⊢
  simp (maxSteps := 2000000) (disch := first | omega | assumption | (simp only [DS, Nat.reduceAdd, *]; done) | (simp only [DZ]; omega)) only [RUN, RU, zD, zC, zB, zE, zG, slot, lay, zH, zF, zA, kR, reduceIte, Nat.reduceEqDiff, Nat.reduceBEq, Nat.reduceLT, Nat.reduceAdd, Nat.reduceLeDiff, Nat.reduceSub, Nat.reduceMul, Int.reduceLT, Int.reduceLE, Int.reduceEq, Int.reduceAdd, Int.reduceSub, Int.reduceMul, h0, hR.fz.rows, hR.fz.one, hR.fz.cells, hR.fz.icy, hR.fz.frz]
  refine rclone0 hR hl (by simp (maxSteps := 2000000) (disch := first | omega | assumption | (simp only [DS, Nat.reduceAdd, *]; done) | (simp only [DZ]; omega)) only [RUN, RU, zD, zC, zB, zE, zG, slot, lay, zH, zF, zA, kR, reduceIte, Nat.reduceEqDiff, Nat.reduceBEq, Nat.reduceLT, Nat.reduceAdd, Nat.reduceLeDiff, Nat.reduceSub, Nat.reduceMul, Int.reduceLT, Int.reduceLE, Int.reduceEq, Int.reduceAdd, Int.reduceSub, Int.reduceMul]) fun a' M' wf' le' kp' sm' new' wm' di' => ?_
  have hsz : 2 ≤ M'.size := le'
  have g0 : M'.get 0 = some (.row false (rnR o ra)) := by rw [kp' 0 (by show 0 < 2; omega)]; simp (maxSteps := 2000000) (disch := first | omega | assumption | (simp only [DS, Nat.reduceAdd, *]; done) | (simp only [DZ]; omega)) only [RUN, RU, zD, zC, zB, zE, zG, slot, lay, zH, zF, zA, kR, reduceIte, Nat.reduceEqDiff, Nat.reduceBEq, Nat.reduceLT, Nat.reduceAdd, Nat.reduceLeDiff, Nat.reduceSub, Nat.reduceMul, Int.reduceLT, Int.reduceLE, Int.reduceEq, Int.reduceAdd, Int.reduceSub, Int.reduceMul]
  have g1 : M'.get 1 = some (.row false (rnR ⟨⟨Eid.z, 0⟩, Eid.z, []⟩ NIL)) := by rw [kp' 1 (by show 1 < 2; omega)]; simp (maxSteps := 2000000) (disch := first | omega | assumption | (simp only [DS, Nat.reduceAdd, *]; done) | (simp only [DZ]; omega)) only [RUN, RU, zD, zC, zB, zE, zG, slot, lay, zH, zF, zA, kR, reduceIte, Nat.reduceEqDiff, Nat.reduceBEq, Nat.reduceLT, Nat.reduceAdd, Nat.reduceLeDiff, Nat.reduceSub, Nat.reduceMul, Int.reduceLT, Int.reduceLE, Int.reduceEq, Int.reduceAdd, Int.reduceSub, Int.reduceMul]
  have oa := sm'.one
  have ca := sm'.cells
  have rl := rows_lt sm'.rl (Nat.le_refl M'.size)
  have nr : ∀ j, rowOf a' = some j → 2 ≤ j := new'
  obtain ⟨ro, hro, hfr⟩ := slm_frz2 sm' fz_I32.cel 11 (by omega)
  have hfr := hfr ((M'.upd 0 (.row false (rnR o a'))).upd 1 (.row false (rnR o a'))) fun id h => by
    have := nr id h
    rw [get_upd_ne (wf'.upd _ _) _ _ _ (by omega), get_upd_ne wf' _ _ _ (by omega)]
  simp (maxSteps := 2000000) (disch := first | omega | assumption | (simp only [DS, Nat.reduceAdd, *]; done) | (simp only [DZ]; omega)) only [RUN, RU, zD, zC, zB, zE, zG, slot, lay, zH, zF, zA, kR, reduceIte, Nat.reduceEqDiff, Nat.reduceBEq, Nat.reduceLT, Nat.reduceAdd, Nat.reduceLeDiff, Nat.reduceSub, Nat.reduceMul, Int.reduceLT, Int.reduceLE, Int.reduceEq, Int.reduceAdd, Int.reduceSub, Int.reduceMul, h0, wf', g0, g1, oa, ca, rl, hfr]
  exact ⟨_, hro, rfl⟩
def Rn.last (r : Rn) : Eid := if r.sp.may then r.sp.at (r.sp.n - 1) else Eid.z
theorem last_run {o : Rn} {ra : AV} (hR : Sl 1 isI32 ra o.rs) (ho : o.ok) (M : Mem) : callN Try.prog (fsT tbl) fuel (d + 6) (.fn 37) [.agg (rnR o ra)] M = some (idA o.last, M) := by
  have ora := hR.one
  have hat := fun M => @ids_at fuel d o.sp (IntKind.i64.wrap (o.sp.n - 1)) M
  apply w3_eq
  refine call_gc tf37 rfl (by simp only [zH, rn_icy hR.fz]) (by simp [a37]) fun b' ht hx => ?_
  have h0 := hx 0 _ rfl
  clear hx
  simp only [a37, c37] at ht ⊢
  unfold Rn.last
  cases hm : o.sp.may with
  | false =>
    simp only [hm, Bool.false_eq_true, if_false] at hat
    simp (maxSteps := 2000000) (disch := first | omega | assumption | (simp only [DS, Nat.reduceAdd, *]; done) | (simp only [DZ]; omega)) only [RUN, RU, zD, zC, zB, zE, zG, slot, lay, zH, zF, zA, kR, reduceIte, Nat.reduceEqDiff, Nat.reduceBEq, Nat.reduceLT, Nat.reduceAdd, Nat.reduceLeDiff, Nat.reduceSub, Nat.reduceMul, Int.reduceLT, Int.reduceLE, Int.reduceEq, Int.reduceAdd, Int.reduceSub, Int.reduceMul, h0, hR.fz.rows, hR.fz.one, hR.fz.cells, hR.fz.icy, hR.fz.frz, hat, Bool.false_eq_true, if_false]
  | true =>
    have hb := Spn.may_le hm
    rw [wrap_i64 (by omega) (by omega)] at hat
    have w1 : IntKind.i64.wrap (o.sp.n - 1) = o.sp.n - 1 := wrap_i64 (by omega) (by omega)
    simp only [hm, if_true, if_neg (show ¬(o.sp.n - 1 < 0 ∨ o.sp.n ≤ o.sp.n - 1) by omega)] at hat
    simp (maxSteps := 2000000) (disch := first | omega | assumption | (simp only [DS, Nat.reduceAdd, *]; done) | (simp only [DZ]; omega)) only [RUN, RU, zD, zC, zB, zE, zG, slot, lay, zH, zF, zA, kR, reduceIte, Nat.reduceEqDiff, Nat.reduceBEq, Nat.reduceLT, Nat.reduceAdd, Nat.reduceLeDiff, Nat.reduceSub, Nat.reduceMul, Int.reduceLT, Int.reduceLE, Int.reduceEq, Int.reduceAdd, Int.reduceSub, Int.reduceMul, h0, hR.fz.rows, hR.fz.one, hR.fz.cells, hR.fz.icy, hR.fz.frz, hat, w1, if_true]
end Go.Proofs.Ytbomjpdheibmfaa
