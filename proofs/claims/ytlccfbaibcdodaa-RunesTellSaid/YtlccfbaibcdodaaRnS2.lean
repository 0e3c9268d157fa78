/-
  The reference's Same (rows that are lent stay rows).
-/
import Derived.Test.YtlccfbaibcdodaaRnC
set_option linter.unusedSimpArgs false
set_option linter.unusedVariables false
set_option maxRecDepth 100000
namespace Go.Proofs.Ytlccfbaibcdodaa
open Go Go.Ax
variable {fuel : Nat} {M : Mem} {Q : AV → Mem → Prop} {d : Nat}

theorem call_gc2 {P : Program} {fs : Nat → Option AFunc} {f : Nat} {af : AFunc} (h : fs f = some af) (hg : af.gc = 2) {n : Nat} {args : List AV} {M : Mem} {Q : AV → Mem → Prop} (hz : icyL (icy 12) M args = some (args, M)) (hl : args.length ≤ af.ntmps)
    (hb : ∀ b : List AV, b.length = af.ntmps → (∀ (i : Nat) (x : AV), args[i]? = some x → nth undefA b i = x) → W (execCode P fuel (callN P fs fuel n) none af.body ⟨St b [], []⟩ mem0) (fin af.results (fun r => (∃ v, r = .sc v) ∧ Q r M))) :
    W3 (callN P fs fuel (n + 1) (.fn f) args M) Q := by
  obtain ⟨e, fr, M', he, hq⟩ := hb (args ++ List.replicate (af.ntmps - args.length) undefA) (by simp; omega) (fun i x hx => nth_app hx)
  have he : execCode P fuel (callN P fs fuel n) none af.body ⟨args ++ List.replicate (af.ntmps - args.length) undefA, []⟩ mem0 = some (e, fr, M') := he
  have key : ∀ e, (∀ i, e ≠ .exit i) → fin af.results (fun r => (∃ v, r = .sc v) ∧ Q r M) e fr M' → ∃ M2 vs ws, spend fr.marks M' = some M2 ∧ resultsA fr.t M2 af.results = some vs ∧ frzL (frz M2 0 12) vs = some ws ∧ (∃ v, tupOf ws = .sc v) ∧ Q (tupOf ws) M := by
    intro e hne hq
    unfold fin at hq
    split at hq
    · exact hq.elim
    · split at hq
      · rename_i M2 h2
        split at hq
        · rename_i vs h3
          split at hq
          · rename_i ws h4
            exact ⟨M2, vs, ws, h2, h3, h4, hq⟩
          · exact hq.elim
        · exact hq.elim
      · exact hq.elim
  have hne : ∀ i, e ≠ .exit i := fun i hi => by subst hi; exact hq
  obtain ⟨M2, vs, ws, h2, h3, h4, ⟨v, h5⟩, h6⟩ := key e hne hq
  have hsc : ws.all scA = true := by
    unfold tupOf at h5
    split at h5
    · subst h5; rfl
    · cases h5
  refine ⟨tupOf ws, M, ?_, h6⟩
  simp only [callN, h, hg, hz, he]
  cases e with
  | exit i => exact absurd rfl (hne i)
  | _ => simp only [h2, h3, h4, lendA, hsc]

theorem same_run {a b : AV} {l m : List Int} (ha : Sl 1 isI32 a l) (hb : Sl 1 isI32 b m) (hf : l.length < fuel) (hl : l.length ≤ 1000000) (M : Mem) :
    callN Try.prog (fsT tbl) fuel (d + 1) (.fn 11) [a, b] M = some (BL (decide (l = m)), M) := by
  have hla := ha.len
  have hlb := hb.len
  apply w3_eq
  refine call_gc2 tf11 rfl (by simp (maxSteps := 2000000) (disch := first | omega | assumption | (simp only [DS, Nat.reduceAdd, *]; done) | (simp only [DZ]; omega)) only [RUN, RU, footA, feetIn, resultsA, tupOf, frzL, slot, lay, icyL, fillA, repCells, kR, reduceIte, Nat.reduceEqDiff, Nat.reduceBEq, Nat.reduceLT, Nat.reduceAdd, Nat.reduceLeDiff, Nat.reduceSub, Nat.reduceMul, Int.reduceLT, Int.reduceLE, Int.reduceEq, Int.reduceAdd, Int.reduceSub, Int.reduceMul, ha.icy, hb.icy]) (by simp [a11]) fun b' ht hx => ?_
  have h0 := hx 0 _ rfl
  have h1 := hx 1 _ rfl
  clear hx
  simp only [a11, c11] at ht ⊢
  by_cases hll : l.length = m.length
  · have q1 : decide ((l.length : Int) = m.length) = true := by simp; omega
    simp (maxSteps := 2000000) (disch := first | omega | assumption | (simp only [DS, Nat.reduceAdd, *]; done) | (simp only [DZ]; omega)) only [RUN, RU, footA, feetIn, resultsA, tupOf, frzL, slot, lay, icyL, fillA, repCells, kR, reduceIte, Nat.reduceEqDiff, Nat.reduceBEq, Nat.reduceLT, Nat.reduceAdd, Nat.reduceLeDiff, Nat.reduceSub, Nat.reduceMul, Int.reduceLT, Int.reduceLE, Int.reduceEq, Int.reduceAdd, Int.reduceSub, Int.reduceMul, h0, h1, hla, hlb, q1]
    refine w_loop (I := fun n t N => ∃ i : Nat, i ≤ l.length ∧ n = l.length - i ∧ nth undefA t 0 = a ∧ nth undefA t 1 = b ∧ nth undefA t 5 = I64 i ∧ l.take i = m.take i) (n := l.length) hf ?_ ?_
    · refine ⟨0, by omega, by omega, ?_, ?_, ?_, rfl⟩
      all_goals simp (maxSteps := 2000000) (disch := first | omega | assumption | (simp only [DS, Nat.reduceAdd, *]; done) | (simp only [DZ]; omega)) only [RUN, RU, footA, feetIn, resultsA, tupOf, frzL, slot, lay, icyL, fillA, repCells, kR, reduceIte, Nat.reduceEqDiff, Nat.reduceBEq, Nat.reduceLT, Nat.reduceAdd, Nat.reduceLeDiff, Nat.reduceSub, Nat.reduceMul, Int.reduceLT, Int.reduceLE, Int.reduceEq, Int.reduceAdd, Int.reduceSub, Int.reduceMul, h0, h1]
      rfl
    · rintro n t N hl' ⟨i, hi, hn, t0, t1, t5, htk⟩
      simp only [ht] at hl' ⊢
      clear h0 h1 ht b'
      by_cases hlt : i < l.length
      · have hc' : decide ((i : Int) < l.length) = true := by simp; omega
        have hmt : i < m.length := by omega
        have w1 : IntKind.i64.wrap ((i : Int) + 1) = ((i + 1 : Nat) : Int) := by rw [wrap_i64] <;> omega
        obtain ⟨r, hr, ⟨rfl, _⟩, _⟩ := ha.iad i hlt
        obtain ⟨r2, hr2, ⟨rfl, _⟩, _⟩ := hb.iad i hmt
        by_cases he : l[i] = m[i]
        · have q2 : decide (l[i] = m[i]) = true := by simp [he]
          simp (maxSteps := 2000000) (disch := first | omega | assumption | (simp only [DS, Nat.reduceAdd, *]; done) | (simp only [DZ]; omega)) only [RUN, RU, footA, feetIn, resultsA, tupOf, frzL, slot, lay, icyL, fillA, repCells, kR, reduceIte, Nat.reduceEqDiff, Nat.reduceBEq, Nat.reduceLT, Nat.reduceAdd, Nat.reduceLeDiff, Nat.reduceSub, Nat.reduceMul, Int.reduceLT, Int.reduceLE, Int.reduceEq, Int.reduceAdd, Int.reduceSub, Int.reduceMul, t0, t1, t5, hla, hc', hr, hr2, w1, q2]
          refine ⟨hl', l.length - (i + 1), by omega, i + 1, by omega, rfl, rfl, ?_⟩
          rw [List.take_add_one, List.take_add_one, htk, List.getElem?_eq_getElem hlt, List.getElem?_eq_getElem hmt, he]
        · have q2 : decide (l[i] = m[i]) = false := by simp [he]
          simp (maxSteps := 2000000) (disch := first | omega | assumption | (simp only [DS, Nat.reduceAdd, *]; done) | (simp only [DZ]; omega)) only [RUN, RU, footA, feetIn, resultsA, tupOf, frzL, slot, lay, icyL, fillA, repCells, kR, reduceIte, Nat.reduceEqDiff, Nat.reduceBEq, Nat.reduceLT, Nat.reduceAdd, Nat.reduceLeDiff, Nat.reduceSub, Nat.reduceMul, Int.reduceLT, Int.reduceLE, Int.reduceEq, Int.reduceAdd, Int.reduceSub, Int.reduceMul, t0, t1, t5, hla, hc', hr, hr2, w1, q2]
          have : decide (l = m) = false := by
            simp only [decide_eq_false_iff_not]
            rintro rfl; exact he rfl
          rw [this]
          exact ⟨⟨_, rfl⟩, rfl⟩
      · have hc' : decide ((i : Int) < l.length) = false := by simp; omega
        simp (maxSteps := 2000000) (disch := first | omega | assumption | (simp only [DS, Nat.reduceAdd, *]; done) | (simp only [DZ]; omega)) only [RUN, RU, footA, feetIn, resultsA, tupOf, frzL, slot, lay, icyL, fillA, repCells, kR, reduceIte, Nat.reduceEqDiff, Nat.reduceBEq, Nat.reduceLT, Nat.reduceAdd, Nat.reduceLeDiff, Nat.reduceSub, Nat.reduceMul, Int.reduceLT, Int.reduceLE, Int.reduceEq, Int.reduceAdd, Int.reduceSub, Int.reduceMul, t0, t1, t5, hla, hc']
        have : decide (l = m) = true := by
          simp only [decide_eq_true_eq]
          rw [show i = l.length by omega, List.take_length] at htk
          rw [htk, show l.length = m.length from hll, List.take_length]
        rw [this]
        exact ⟨⟨_, rfl⟩, rfl⟩
  · have q1 : decide ((l.length : Int) = m.length) = false := by simp; omega
    have q3 : decide (l = m) = false := by
      simp only [decide_eq_false_iff_not]
      rintro rfl; exact hll rfl
    simp (maxSteps := 2000000) (disch := first | omega | assumption | (simp only [DS, Nat.reduceAdd, *]; done) | (simp only [DZ]; omega)) only [RUN, RU, footA, feetIn, resultsA, tupOf, frzL, slot, lay, icyL, fillA, repCells, kR, reduceIte, Nat.reduceEqDiff, Nat.reduceBEq, Nat.reduceLT, Nat.reduceAdd, Nat.reduceLeDiff, Nat.reduceSub, Nat.reduceMul, Int.reduceLT, Int.reduceLE, Int.reduceEq, Int.reduceAdd, Int.reduceSub, Int.reduceMul, h0, h1, hla, hlb, q1, q3]
    exact ⟨_, rfl⟩
end Go.Proofs.Ytlccfbaibcdodaa
