/-
  The references' Great of texts.
-/
import Derived.Test.YtbomjpdheibmfaaSaA
import Derived.Test.YtbomjpdheibmfaaEf
set_option linter.unusedSimpArgs false
set_option linter.unusedVariables false
set_option maxRecDepth 100000
namespace Go.Proofs.Ytbomjpdheibmfaa
open Go Go.Ax
variable {fuel : Nat} {M : Mem} {Q : AV → Mem → Prop} {d : Nat} {l : List Rn} {a : AV}
def wR (r : Rn) : Int := imax (r.rs.length : Int) (imin (imax r.sp.n 0) 100)
def sumX : List Rn → Int → Int
  | [], n => n
  | r :: l, n => sumX l (IntKind.i64.wrap (n + wR r))
theorem sumX_snoc (l : List Rn) (r : Rn) (n : Int) : sumX (l ++ [r]) n = IntKind.i64.wrap (sumX l n + wR r) := by
  induction l generalizing n with
  | nil => rfl
  | cons q l ih => simp only [List.cons_append, sumX, ih]
def greatT (l : List Rn) : Bool := decide ((60 : Int) < l.length) || decide (250 < sumX (l.take 100) 0)
theorem greatT_small {l : List Rn} (h : greatT l = false) : l.length ≤ 60 := by
  unfold greatT at h
  simp only [Bool.or_eq_false_iff, decide_eq_false_iff_not] at h
  omega
theorem take_snocG {α : Type} (l : List α) (i : Nat) (h : i < l.length) : l.take (i + 1) = l.take i ++ [l[i]] := by
  rw [List.take_add_one, List.getElem?_eq_getElem h]; rfl
set_option maxHeartbeats 4000000 in
theorem greatT_run (hS : Sl 10 isRn a l) (hf : 400 < fuel) (M : Mem) : callN Try.prog (fsT tbl) fuel (d + 1) (.fn 5) [a] M = some (BL (greatT l), M) := by
  have ll := hS.len
  apply w3_eq
  refine call_gc tf5 rfl (by simp only [zH, fun M => hS.icy M 12 (by omega)]) (by simp [a5]) fun b' ht hx => ?_
  have h0 := hx 0 _ rfl
  clear hx
  simp only [a5, c5] at ht ⊢
  unfold greatT
  simp (maxSteps := 2000000) (disch := first | omega | assumption | (simp only [DS, Nat.reduceAdd, *]; done) | (simp only [DZ]; omega)) only [RUN, RU, zD, zC, zB, zE, zG, slot, lay, zH, zF, zA, kR, reduceIte, Nat.reduceEqDiff, Nat.reduceBEq, Nat.reduceLT, Nat.reduceAdd, Nat.reduceLeDiff, Nat.reduceSub, Nat.reduceMul, Int.reduceLT, Int.reduceLE, Int.reduceEq, Int.reduceAdd, Int.reduceSub, Int.reduceMul, h0, ll, hS.fz.rows, hS.fz.one, hS.fz.cells, hS.fz.icy, hS.fz.frz]
  refine w_loop (I := fun n t N => ∃ (i : Nat), n = 100 - i ∧ i ≤ 100 ∧ nth undefA t 0 = a ∧ nth undefA t 3 = I64 (sumX (l.take i) 0) ∧ nth undefA t 4 = I64 i ∧ N = mem0 ∧ i ≤ l.length) (n := 100) (by omega) ?_ ?_
  · refine ⟨0, rfl, Nat.zero_le _, ?_, ?_, ?_, rfl, Nat.zero_le _⟩ <;> simp (maxSteps := 2000000) (disch := first | omega | assumption | (simp only [DS, Nat.reduceAdd, *]; done) | (simp only [DZ]; omega)) only [RUN, RU, zD, zC, zB, zE, zG, slot, lay, zH, zF, zA, kR, reduceIte, Nat.reduceEqDiff, Nat.reduceBEq, Nat.reduceLT, Nat.reduceAdd, Nat.reduceLeDiff, Nat.reduceSub, Nat.reduceMul, Int.reduceLT, Int.reduceLE, Int.reduceEq, Int.reduceAdd, Int.reduceSub, Int.reduceMul, h0, sumX]
    all_goals first | rfl | assumption | done
  · rintro n t N hlt ⟨i, rfl, hi, g0, g3, g4, hm, hil⟩
    simp only [ht] at hlt ⊢
    subst hm
    by_cases hc : i < l.length
    · have q1 : decide ((i : Int) < l.length) = true := decide_eq_true (by omega)
      by_cases hc3 : i < 100
      · have q2 : decide ((i : Int) < 100) = true := decide_eq_true (by omega)
        have w1 : IntKind.i64.wrap ((i : Int) + 1) = ((i + 1 : Nat) : Int) := by rw [wrap_i64] <;> omega
        obtain ⟨r, hiad, hr, hrl⟩ := hS.iad i hc
        have hsn := sumX_snoc (l.take i) l[i] 0
        rw [← take_snocG l i hc] at hsn
        generalize l[i] = e at *
        obtain ⟨ra, rfl, hra, hok⟩ := hr
        have lra := hra.len
        have w2 : IntKind.i64.wrap (sumX (l.take i) 0 + wR e) = sumX (l.take (i + 1)) 0 := hsn.symm
        simp (maxSteps := 2000000) (disch := first | omega | assumption | (simp only [DS, Nat.reduceAdd, *]; done) | (simp only [DZ]; omega)) only [RUN, RU, zD, zC, zB, zE, zG, slot, lay, zH, zF, zA, kR, reduceIte, Nat.reduceEqDiff, Nat.reduceBEq, Nat.reduceLT, Nat.reduceAdd, Nat.reduceLeDiff, Nat.reduceSub, Nat.reduceMul, Int.reduceLT, Int.reduceLE, Int.reduceEq, Int.reduceAdd, Int.reduceSub, Int.reduceMul, g0, g3, g4, ll, hS.fz.rows, hS.fz.one, hS.fz.cells, hS.fz.icy, hS.fz.frz, q1, q2, w1, hiad, hra.fz.rows, hra.fz.one, hra.fz.cells, hra.fz.icy, hra.fz.frz, lra, pB_max2, pB_min2, pB_max3, BMM, apart2_pu]
        refine ⟨hlt, 100 - (i + 1), by omega, i + 1, rfl, by omega, ?_, rfl, by omega⟩
        show AV.sc (.int .i64 (IntKind.i64.wrap (sumX (l.take i) 0 + wR e))) = I64 _
        rw [w2]
      · have q2 : decide ((i : Int) < 100) = false := decide_eq_false (by omega)
        obtain rfl : i = 100 := by omega
        cases q3 : decide ((60 : Int) < (l.length : Int))
        all_goals simp (maxSteps := 2000000) (disch := first | omega | assumption | (simp only [DS, Nat.reduceAdd, *]; done) | (simp only [DZ]; omega)) only [RUN, RU, zD, zC, zB, zE, zG, slot, lay, zH, zF, zA, kR, reduceIte, Nat.reduceEqDiff, Nat.reduceBEq, Nat.reduceLT, Nat.reduceAdd, Nat.reduceLeDiff, Nat.reduceSub, Nat.reduceMul, Int.reduceLT, Int.reduceLE, Int.reduceEq, Int.reduceAdd, Int.reduceSub, Int.reduceMul, g0, g3, g4, ll, hS.fz.rows, hS.fz.one, hS.fz.cells, hS.fz.icy, hS.fz.frz, q1, q2, q3, Bool.false_or, Bool.true_or]
    · have q1 : decide ((i : Int) < l.length) = false := decide_eq_false (by omega)
      obtain rfl : i = l.length := by omega
      have et : l.take 100 = l.take l.length := by rw [List.take_of_length_le (Nat.le_refl _), List.take_of_length_le (by omega)]
      rw [et]
      cases q3 : decide ((60 : Int) < (l.length : Int))
      all_goals simp (maxSteps := 2000000) (disch := first | omega | assumption | (simp only [DS, Nat.reduceAdd, *]; done) | (simp only [DZ]; omega)) only [RUN, RU, zD, zC, zB, zE, zG, slot, lay, zH, zF, zA, kR, reduceIte, Nat.reduceEqDiff, Nat.reduceBEq, Nat.reduceLT, Nat.reduceAdd, Nat.reduceLeDiff, Nat.reduceSub, Nat.reduceMul, Int.reduceLT, Int.reduceLE, Int.reduceEq, Int.reduceAdd, Int.reduceSub, Int.reduceMul, g0, g3, g4, ll, hS.fz.rows, hS.fz.one, hS.fz.cells, hS.fz.icy, hS.fz.frz, q1, q3, Bool.false_or, Bool.true_or]
end Go.Proofs.Ytbomjpdheibmfaa
