/-
  The references' Great.
-/
import Derived.Test.YtimimdjpmcmpnaaSaV
import Derived.Test.YtimimdjpmcmpnaaEf
set_option linter.unusedSimpArgs false
set_option linter.unusedVariables false
set_option maxRecDepth 100000
namespace Go.Proofs.Ytimimdjpmcmpnaa
open Go Go.Ax
variable {fuel : Nat} {M : Mem} {Q : AV → Mem → Prop} {d : Nat} {l : List Op} {a : AV}

def wO (o : Op) : Int := imax (imin (imax o.sp.n 0) 100) (imin (o.rs.length : Int) 1000)
def sumW (l : List Op) : Int := (l.map wO).sum
def greatB (l : List Op) (many : Int) : Bool := decide (many < l.length) || decide (300 < sumW (l.take 300))
theorem wO_pos (o : Op) : 0 ≤ wO o ∧ wO o ≤ 1000 ∧ ((o.rs.length : Int) ≤ wO o ∨ 1000 ≤ wO o) := by
  unfold wO imax imin
  repeat' split
  all_goals omega
theorem sumW_snoc (l : List Op) (o : Op) : sumW (l ++ [o]) = sumW l + wO o := by unfold sumW; simp
theorem sumW_pos : ∀ (l : List Op), 0 ≤ sumW l ∧ sumW l ≤ 1000 * l.length
  | [] => by simp [sumW]
  | o :: l => by
    have h1 := sumW_pos l
    have h2 := wO_pos o
    unfold sumW at *
    simp only [List.map_cons, List.sum_cons, List.length_cons]
    omega
theorem sumW_mem : ∀ (l : List Op) (o : Op), o ∈ l → wO o ≤ sumW l
  | [], _, h => by cases h
  | p :: l, o, h => by
    have h1 := sumW_pos l
    have h2 := wO_pos p
    rcases List.mem_cons.1 h with rfl | h
    · unfold sumW at *; simp only [List.map_cons, List.sum_cons]; omega
    · have := sumW_mem l o h
      unfold sumW at *; simp only [List.map_cons, List.sum_cons]; omega
theorem great_small {many : Int} (hm : many ≤ 300) (h : greatB l many = false) : (l.length : Int) ≤ many ∧ ∀ o ∈ l, o.rs.length ≤ 300 := by
  unfold greatB at h
  simp only [Bool.or_eq_false_iff, decide_eq_false_iff_not] at h
  refine ⟨by omega, fun o ho => ?_⟩
  have ht : l.take 300 = l := List.take_of_length_le (by omega)
  rw [ht] at h
  have := sumW_mem l o ho
  have := wO_pos o
  omega
set_option maxHeartbeats 4000000 in
theorem great_run {many : Int} (hS : Sl 17 isOp a l) (hf : 400 < fuel) (M : Mem) : callN Try.prog (fsT tbl) fuel (d + 1) (.fn 5) [a, I64 many] M = some (BL (greatB l many), M) := by
  have ll := hS.len
  apply w3_eq
  refine call_gc tf5 rfl (by simp only [icyL, fun M => hS.icy M 12 (by omega), icy12]) (by simp [a5]) fun b' ht hx => ?_
  have h0 := hx 0 _ rfl
  have h1 := hx 1 _ rfl
  clear hx
  simp only [a5, c5] at ht ⊢
  unfold greatB
  simp (maxSteps := 2000000) (disch := first | omega | assumption | (simp only [DS, Nat.reduceAdd, *]; done) | (simp only [DZ]; omega)) only [RUN, RU, footA, feetIn, resultsA, tupOf, frzL, slot, lay, icyL, fillA, repCells, kR, reduceIte, Nat.reduceEqDiff, Nat.reduceBEq, Nat.reduceLT, Nat.reduceAdd, Nat.reduceLeDiff, Nat.reduceSub, Nat.reduceMul, Int.reduceLT, Int.reduceLE, Int.reduceEq, Int.reduceAdd, Int.reduceSub, Int.reduceMul, h0, h1, ll, hS.fz.rows, hS.fz.one, hS.fz.cells, hS.fz.icy, hS.fz.frz]
  refine w_loop (I := fun n t N => ∃ (i : Nat), n = 300 - i ∧ i ≤ 300 ∧ nth undefA t 0 = a ∧ nth undefA t 1 = I64 many ∧ nth undefA t 5 = I64 (sumW (l.take i)) ∧ nth undefA t 6 = I64 i ∧ N = mem0 ∧ i ≤ l.length) (n := 300) (by omega) ?_ ?_
  · refine ⟨0, rfl, Nat.zero_le _, ?_, ?_, ?_, ?_, rfl, Nat.zero_le _⟩ <;> simp (maxSteps := 2000000) (disch := first | omega | assumption | (simp only [DS, Nat.reduceAdd, *]; done) | (simp only [DZ]; omega)) only [RUN, RU, footA, feetIn, resultsA, tupOf, frzL, slot, lay, icyL, fillA, repCells, kR, reduceIte, Nat.reduceEqDiff, Nat.reduceBEq, Nat.reduceLT, Nat.reduceAdd, Nat.reduceLeDiff, Nat.reduceSub, Nat.reduceMul, Int.reduceLT, Int.reduceLE, Int.reduceEq, Int.reduceAdd, Int.reduceSub, Int.reduceMul, h0, h1]
    all_goals first | rfl | assumption | done
  · rintro n t N hlt ⟨i, rfl, hi, g0, g1, g5, g6, hm, hil⟩
    simp only [ht] at hlt ⊢
    subst hm
    by_cases hc : i < l.length
    · have q1 : decide ((i : Int) < l.length) = true := decide_eq_true (by omega)
      by_cases hc3 : i < 300
      · have q2 : decide ((i : Int) < 300) = true := decide_eq_true (by omega)
        have w1 : IntKind.i64.wrap ((i : Int) + 1) = ((i + 1 : Nat) : Int) := by rw [wrap_i64] <;> omega
        obtain ⟨r, hiad, hr, hrl⟩ := hS.iad i hc
        have hsn := sumW_snoc (l.take i) l[i]
        rw [← take_snoc l i hc] at hsn
        have hps := sumW_pos (l.take i)
        rw [List.length_take] at hps
        have hwo := wO_pos l[i]
        generalize l[i] = e at *
        obtain ⟨ra, rfl, hra, hok⟩ := hr
        have lra := hra.len
        have w2 : IntKind.i64.wrap (sumW (l.take i) + wO e) = sumW (l.take (i + 1)) := by rw [hsn]; exact wrap_i64 (by omega) (by omega)
        simp (maxSteps := 2000000) (disch := first | omega | assumption | (simp only [DS, Nat.reduceAdd, *]; done) | (simp only [DZ]; omega)) only [RUN, RU, footA, feetIn, resultsA, tupOf, frzL, slot, lay, icyL, fillA, repCells, kR, reduceIte, Nat.reduceEqDiff, Nat.reduceBEq, Nat.reduceLT, Nat.reduceAdd, Nat.reduceLeDiff, Nat.reduceSub, Nat.reduceMul, Int.reduceLT, Int.reduceLE, Int.reduceEq, Int.reduceAdd, Int.reduceSub, Int.reduceMul, g0, g1, g5, g6, ll, hS.fz.rows, hS.fz.one, hS.fz.cells, hS.fz.icy, hS.fz.frz, q1, q2, w1, hiad, lra, pB_max2, pB_min2, pB_max3, BMM, w2]
        refine ⟨hlt, 300 - (i + 1), by omega, i + 1, rfl, by omega, ?_, rfl, by omega⟩
        show AV.sc (.int .i64 (IntKind.i64.wrap (sumW (l.take i) + wO e))) = I64 _
        rw [w2]
      · have q2 : decide ((i : Int) < 300) = false := decide_eq_false (by omega)
        obtain rfl : i = 300 := by omega
        cases q3 : decide (many < (l.length : Int))
        all_goals simp (maxSteps := 2000000) (disch := first | omega | assumption | (simp only [DS, Nat.reduceAdd, *]; done) | (simp only [DZ]; omega)) only [RUN, RU, footA, feetIn, resultsA, tupOf, frzL, slot, lay, icyL, fillA, repCells, kR, reduceIte, Nat.reduceEqDiff, Nat.reduceBEq, Nat.reduceLT, Nat.reduceAdd, Nat.reduceLeDiff, Nat.reduceSub, Nat.reduceMul, Int.reduceLT, Int.reduceLE, Int.reduceEq, Int.reduceAdd, Int.reduceSub, Int.reduceMul, g0, g1, g5, g6, ll, hS.fz.rows, hS.fz.one, hS.fz.cells, hS.fz.icy, hS.fz.frz, q1, q2, q3, Bool.false_or, Bool.true_or]
    · have q1 : decide ((i : Int) < l.length) = false := decide_eq_false (by omega)
      obtain rfl : i = l.length := by omega
      have et : l.take 300 = l.take l.length := by rw [List.take_of_length_le (Nat.le_refl _), List.take_of_length_le (by omega)]
      rw [et]
      cases q3 : decide (many < (l.length : Int))
      all_goals simp (maxSteps := 2000000) (disch := first | omega | assumption | (simp only [DS, Nat.reduceAdd, *]; done) | (simp only [DZ]; omega)) only [RUN, RU, footA, feetIn, resultsA, tupOf, frzL, slot, lay, icyL, fillA, repCells, kR, reduceIte, Nat.reduceEqDiff, Nat.reduceBEq, Nat.reduceLT, Nat.reduceAdd, Nat.reduceLeDiff, Nat.reduceSub, Nat.reduceMul, Int.reduceLT, Int.reduceLE, Int.reduceEq, Int.reduceAdd, Int.reduceSub, Int.reduceMul, g0, g1, g5, g6, ll, hS.fz.rows, hS.fz.one, hS.fz.cells, hS.fz.icy, hS.fz.frz, q1, q3, Bool.false_or, Bool.true_or]
end Go.Proofs.Ytimimdjpmcmpnaa
