/-
  Chains: Check, Fits.
-/
import Derived.Test.YtimimdjpmcmpnaaSaM
import Derived.Test.YtimimdjpmcmpnaaEf
set_option linter.unusedSimpArgs false
set_option linter.unusedVariables false
set_option maxRecDepth 100000
namespace Go.Proofs.Ytimimdjpmcmpnaa
open Go Go.Ax
variable {fuel : Nat} {M : Mem} {Q : AV → Mem → Prop} {d : Nat} {a : AV} {x : Eid} {v : Lb} {l : List Op}

def rightF : List Op → List Op → Bool
  | _, [] => true
  | pre, o :: l => o.may && rightly pre o && rightF (pre ++ [o]) l
def chainE (l : List Op) : Int := if 2048 < l.length then 4 else err (rightF [] l)
theorem drop_step {α : Type} (l : List α) (i : Nat) (h : i < l.length) : l.drop i = l[i] :: l.drop (i + 1) := List.drop_eq_getElem_cons h
set_option maxHeartbeats 8000000 in
theorem chcheck_run (hS : Sl 17 isOp a l) (hl : l.length ≤ 40000) (hf : l.length + 200 < fuel) (M : Mem) : callN Try.prog (fsT tbl) fuel (d + 9) (.fn 82) [a] M = some (I64 (chainE l), M) := by
  have ll := hS.len
  apply w3_eq
  refine call_g2 tf82 rfl (by simp only [icyL, fun M => hS.icy M 12 (by omega)]) (by simp [a82]) fun b' ht hx => ?_
  have h0 := hx 0 _ rfl
  clear hx
  simp only [a82, c82] at ht ⊢
  unfold chainE
  by_cases q0 : 2048 < l.length
  · have q1 : decide ((2048 : Int) < l.length) = true := decide_eq_true (by omega)
    simp (maxSteps := 2000000) (disch := first | omega | assumption | (simp only [DS, Nat.reduceAdd, *]; done) | (simp only [DZ]; omega)) only [RUN, RU, footA, feetIn, resultsA, tupOf, frzL, slot, lay, icyL, fillA, repCells, kR, reduceIte, Nat.reduceEqDiff, Nat.reduceBEq, Nat.reduceLT, Nat.reduceAdd, Nat.reduceLeDiff, Nat.reduceSub, Nat.reduceMul, Int.reduceLT, Int.reduceLE, Int.reduceEq, Int.reduceAdd, Int.reduceSub, Int.reduceMul, h0, ll, hS.fz.rows, hS.fz.one, hS.fz.cells, hS.fz.icy, hS.fz.frz, q1, q0, if_true, sc_ex]
  · have q1 : decide ((2048 : Int) < l.length) = false := decide_eq_false (by omega)
    simp (maxSteps := 2000000) (disch := first | omega | assumption | (simp only [DS, Nat.reduceAdd, *]; done) | (simp only [DZ]; omega)) only [RUN, RU, footA, feetIn, resultsA, tupOf, frzL, slot, lay, icyL, fillA, repCells, kR, reduceIte, Nat.reduceEqDiff, Nat.reduceBEq, Nat.reduceLT, Nat.reduceAdd, Nat.reduceLeDiff, Nat.reduceSub, Nat.reduceMul, Int.reduceLT, Int.reduceLE, Int.reduceEq, Int.reduceAdd, Int.reduceSub, Int.reduceMul, h0, ll, hS.fz.rows, hS.fz.one, hS.fz.cells, hS.fz.icy, hS.fz.frz, q1, q0, if_false, sc_ex]
    refine w_loop (I := fun n t N => ∃ (i : Nat), n = l.length - i ∧ i ≤ l.length ∧ nth undefA t 0 = a ∧ nth undefA t 8 = a ∧ nth undefA t 9 = I64 l.length ∧ nth undefA t 10 = I64 i ∧ Wf N ∧ rightF [] l = rightF (l.take i) (l.drop i)) (n := l.length) (by omega) ?_ ?_
    · refine ⟨0, rfl, Nat.zero_le _, ?_, ?_, ?_, ?_, Wf.mem0, rfl⟩ <;> simp (maxSteps := 2000000) (disch := first | omega | assumption | (simp only [DS, Nat.reduceAdd, *]; done) | (simp only [DZ]; omega)) only [RUN, RU, footA, feetIn, resultsA, tupOf, frzL, slot, lay, icyL, fillA, repCells, kR, reduceIte, Nat.reduceEqDiff, Nat.reduceBEq, Nat.reduceLT, Nat.reduceAdd, Nat.reduceLeDiff, Nat.reduceSub, Nat.reduceMul, Int.reduceLT, Int.reduceLE, Int.reduceEq, Int.reduceAdd, Int.reduceSub, Int.reduceMul, h0, ll]
      all_goals first | rfl | assumption | done
    · rintro n t N hlt ⟨i, rfl, hi, g0, g8, g9, g10, w, inv⟩
      simp only [ht] at hlt ⊢
      by_cases hc : i < l.length
      · have q2 : decide ((i : Int) < l.length) = true := decide_eq_true (by omega)
        have w1 : IntKind.i64.wrap ((i : Int) + 1) = ((i + 1 : Nat) : Int) := by rw [wrap_i64] <;> omega
        obtain ⟨r, hiad, hr, hrl⟩ := hS.iad i hc
        obtain ⟨p, hp1, hp2⟩ := sl_to hS (j := i) (by omega)
        rw [drop_step l i hc, rightF, ← take_snoc l i hc] at inv
        have hkeep : l.take i ++ l[i] :: l.drop (i + 1) = l := by rw [← drop_step l i hc, List.take_append_drop]
        generalize l[i] = e at *
        obtain ⟨ra, rfl, hra, hok⟩ := hr
        have ora := hra.one
        have hck := fun M => @opcheck_run fuel (d + 1) e ra hra hok (by omega) M
        cases hm : e.may with
        | false =>
          rw [hm] at hck
          simp only [hm, Bool.false_and] at inv
          rw [inv]
          simp (maxSteps := 2000000) (disch := first | omega | assumption | (simp only [DS, Nat.reduceAdd, *]; done) | (simp only [DZ]; omega)) only [RUN, RU, footA, feetIn, resultsA, tupOf, frzL, slot, lay, icyL, fillA, repCells, kR, reduceIte, Nat.reduceEqDiff, Nat.reduceBEq, Nat.reduceLT, Nat.reduceAdd, Nat.reduceLeDiff, Nat.reduceSub, Nat.reduceMul, Int.reduceLT, Int.reduceLE, Int.reduceEq, Int.reduceAdd, Int.reduceSub, Int.reduceMul, g0, g8, g9, g10, hS.fz.rows, hS.fz.one, hS.fz.cells, hS.fz.icy, hS.fz.frz, q2, hiad, hra.fz.rows, hra.fz.one, hra.fz.cells, hra.fz.icy, hra.fz.frz, w, hck, err_f, z80, sc_ex]
        | true =>
          rw [hm] at hck
          have hfi := fun M => fits_run (fuel := fuel) (d := d) hp2 (by simp; omega) (by simp; omega) hra hok hm M
          cases hr' : rightly (l.take i) e with
          | false =>
            rw [hr'] at hfi
            simp only [hm, hr', Bool.false_and, Bool.and_false] at inv
            rw [inv]
            simp (maxSteps := 2000000) (disch := first | omega | assumption | (simp only [DS, Nat.reduceAdd, *]; done) | (simp only [DZ]; omega)) only [RUN, RU, footA, feetIn, resultsA, tupOf, frzL, slot, lay, icyL, fillA, repCells, kR, reduceIte, Nat.reduceEqDiff, Nat.reduceBEq, Nat.reduceLT, Nat.reduceAdd, Nat.reduceLeDiff, Nat.reduceSub, Nat.reduceMul, Int.reduceLT, Int.reduceLE, Int.reduceEq, Int.reduceAdd, Int.reduceSub, Int.reduceMul, g0, g8, g9, g10, hS.fz.rows, hS.fz.one, hS.fz.cells, hS.fz.icy, hS.fz.frz, q2, hiad, hra.fz.rows, hra.fz.one, hra.fz.cells, hra.fz.icy, hra.fz.frz, w, hck, err_t, err_f, z00, hp1, hp2.fz.rows, hp2.fz.one, hp2.fz.cells, hp2.fz.icy, hp2.fz.frz, hfi, sc_ex]
          | true =>
            rw [hr'] at hfi
            simp only [hm, hr', Bool.true_and] at inv
            simp (maxSteps := 2000000) (disch := first | omega | assumption | (simp only [DS, Nat.reduceAdd, *]; done) | (simp only [DZ]; omega)) only [RUN, RU, footA, feetIn, resultsA, tupOf, frzL, slot, lay, icyL, fillA, repCells, kR, reduceIte, Nat.reduceEqDiff, Nat.reduceBEq, Nat.reduceLT, Nat.reduceAdd, Nat.reduceLeDiff, Nat.reduceSub, Nat.reduceMul, Int.reduceLT, Int.reduceLE, Int.reduceEq, Int.reduceAdd, Int.reduceSub, Int.reduceMul, g0, g8, g9, g10, hS.fz.rows, hS.fz.one, hS.fz.cells, hS.fz.icy, hS.fz.frz, q2, hiad, hra.fz.rows, hra.fz.one, hra.fz.cells, hra.fz.icy, hra.fz.frz, w, hck, err_t, z00, hp1, hp2.fz.rows, hp2.fz.one, hp2.fz.cells, hp2.fz.icy, hp2.fz.frz, hfi, w1]
            exact ⟨hlt, l.length - (i + 1), by omega, i + 1, rfl, by omega, rfl, inv⟩
      · obtain rfl : i = l.length := by omega
        have q1 : decide ((l.length : Int) < l.length) = false := decide_eq_false (by omega)
        rw [List.drop_length, rightF] at inv
        rw [inv]
        simp (maxSteps := 2000000) (disch := first | omega | assumption | (simp only [DS, Nat.reduceAdd, *]; done) | (simp only [DZ]; omega)) only [RUN, RU, footA, feetIn, resultsA, tupOf, frzL, slot, lay, icyL, fillA, repCells, kR, reduceIte, Nat.reduceEqDiff, Nat.reduceBEq, Nat.reduceLT, Nat.reduceAdd, Nat.reduceLeDiff, Nat.reduceSub, Nat.reduceMul, Int.reduceLT, Int.reduceLE, Int.reduceEq, Int.reduceAdd, Int.reduceSub, Int.reduceMul, g8, g9, g10, q1, err_t, sc_ex]
end Go.Proofs.Ytimimdjpmcmpnaa
