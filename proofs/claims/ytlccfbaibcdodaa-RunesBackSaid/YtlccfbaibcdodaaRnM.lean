/-
  The statement RunesBack: the run.
-/
import Derived.Test.YtlccfbaibcdodaaRnK
import Derived.Test.YtlccfbaibcdodaaRnL
import Derived.Test.YtlccfbaibcdodaaRnD
set_option linter.unusedSimpArgs false
set_option linter.unusedVariables false
set_option maxRecDepth 100000
namespace Go.Proofs.Ytlccfbaibcdodaa
open Go Go.Ax
variable {M : Mem} {Q : AV → Mem → Prop}

set_option maxHeartbeats 16000000 in
theorem back_run {a ab : AV} {l : List Int} {s b : List UInt8} (hS : Sl 1 isI32 a l) (hB : Bs ab b) :
    callN Try.prog (fsT tbl) 100000 21 (.fn 4) [a, STR s, ab] mem0 = some (BL true, mem0) := by
  have hla := hS.len
  have hlb := hB.len
  have ln := fun t x r => pLenS (P := Try.prog) (t := t) Try.underlying9 x r
  apply w3_eq
  refine call_gc tf4 rfl (by simp (maxSteps := 2000000) (disch := first | omega | assumption | (simp only [DS, Nat.reduceAdd, *]; done) | (simp only [DZ]; omega)) only [RUN, RU, footA, feetIn, resultsA, tupOf, frzL, slot, lay, icyL, fillA, repCells, kR, reduceIte, Nat.reduceEqDiff, Nat.reduceBEq, Nat.reduceLT, Nat.reduceAdd, Nat.reduceLeDiff, Nat.reduceSub, Nat.reduceMul, Int.reduceLT, Int.reduceLE, Int.reduceEq, Int.reduceAdd, Int.reduceSub, Int.reduceMul, hS.icy, hB.icy]) (by simp [a4]) fun b' ht hx => ?_
  have h0 := hx 0 _ rfl
  have h1 := hx 1 _ rfl
  have h2 := hx 2 _ rfl
  clear hx
  simp only [a4, c4] at ht ⊢
  by_cases g1 : 2000 < l.length
  · have q1 : decide ((2000 : Int) < l.length) = true := decide_eq_true (by omega)
    simp (maxSteps := 2000000) (disch := first | omega | assumption | (simp only [DS, Nat.reduceAdd, *]; done) | (simp only [DZ]; omega)) only [RUN, RU, footA, feetIn, resultsA, tupOf, frzL, slot, lay, icyL, fillA, repCells, kR, reduceIte, Nat.reduceEqDiff, Nat.reduceBEq, Nat.reduceLT, Nat.reduceAdd, Nat.reduceLeDiff, Nat.reduceSub, Nat.reduceMul, Int.reduceLT, Int.reduceLE, Int.reduceEq, Int.reduceAdd, Int.reduceSub, Int.reduceMul, h0, h1, h2, hla, hlb, alive_run, q1, ln, psl_str, str_size]
  have q1 : decide ((2000 : Int) < l.length) = false := decide_eq_false (by omega)
  by_cases g2 : 2000 < s.length
  · have q2 : decide ((2000 : Int) < s.length) = true := decide_eq_true (by omega)
    simp (maxSteps := 2000000) (disch := first | omega | assumption | (simp only [DS, Nat.reduceAdd, *]; done) | (simp only [DZ]; omega)) only [RUN, RU, footA, feetIn, resultsA, tupOf, frzL, slot, lay, icyL, fillA, repCells, kR, reduceIte, Nat.reduceEqDiff, Nat.reduceBEq, Nat.reduceLT, Nat.reduceAdd, Nat.reduceLeDiff, Nat.reduceSub, Nat.reduceMul, Int.reduceLT, Int.reduceLE, Int.reduceEq, Int.reduceAdd, Int.reduceSub, Int.reduceMul, h0, h1, h2, hla, hlb, alive_run, q1, q2, ln, psl_str, str_size]
  have q2 : decide ((2000 : Int) < s.length) = false := decide_eq_false (by omega)
  by_cases g3 : 2000 < b.length
  · have q3 : decide ((2000 : Int) < b.length) = true := decide_eq_true (by omega)
    simp (maxSteps := 2000000) (disch := first | omega | assumption | (simp only [DS, Nat.reduceAdd, *]; done) | (simp only [DZ]; omega)) only [RUN, RU, footA, feetIn, resultsA, tupOf, frzL, slot, lay, icyL, fillA, repCells, kR, reduceIte, Nat.reduceEqDiff, Nat.reduceBEq, Nat.reduceLT, Nat.reduceAdd, Nat.reduceLeDiff, Nat.reduceSub, Nat.reduceMul, Int.reduceLT, Int.reduceLE, Int.reduceEq, Int.reduceAdd, Int.reduceSub, Int.reduceMul, h0, h1, h2, hla, hlb, alive_run, q1, q2, q3, ln, psl_str, str_size]
  have q3 : decide ((2000 : Int) < b.length) = false := decide_eq_false (by omega)
  have hput := put_run (fuel := 100000) (d := 14) hS (by omega)
  obtain ⟨rg, hRg, hget⟩ := get_run (fuel := 100000) (d := 14) hB (by omega) (by omega)
  obtain ⟨ro, hRo, hof⟩ := of_run (fuel := 100000) (d := 17) s (by omega) (by omega)
  have hput2 := put_run (fuel := 100000) (d := 14) hRg (by omega)
  have htx := text_run (fuel := 100000) (d := 19) hRo [63] (by simp)
  have hck := check_run (fuel := 100000) (d := 15) hRo (by omega)
  have hlo := hRo.len
  -- the last part
  have last : ∀ (t : List AV) (M : Mem), t.length = b'.length → True := fun _ _ _ => trivial
  clear last
  by_cases g4 : chk l = 0
  · rw [if_neg (by omega)] at hput
    obtain ⟨rp, hRp, hput⟩ := hput
    have q4 : decide (chk l = 0) = true := decide_eq_true g4
    obtain ⟨rq, hRq, hget2⟩ := get_run (fuel := 100000) (d := 14) hRp (by rw [wide_len]; omega) (by omega)
    rw [get_put (sl_bound hS) g4] at hRq hget2
    simp only at hRq hget2
    have hlp := hRp.len
    rw [wide_len] at hlp
    have sm := same_run (fuel := 100000) (d := 19) hRq hS (by omega) (by omega)
    simp only [decide_true] at sm
    have w4 : IntKind.i64.wrap (4 * (l.length : Int)) = ((4 * l.length : Nat) : Int) := by rw [wrap_i64] <;> omega
    have z4 : decide (((4 * l.length : Nat) : Int) = ((4 * l.length : Nat) : Int)) = true := decide_eq_true rfl
    by_cases g5 : (getF b).2 = 0
    · obtain ⟨k1, k2, k3, k4⟩ := getF_ok g5
      rw [k1] at hRg hget hput2
      simp only at hRg hget hput2
      rw [k2, if_neg (by omega), k3] at hput2
      obtain ⟨ry, hRy, hput2⟩ := hput2
      by_cases g6 : ofE s = 0
      · obtain ⟨m1, m2⟩ := ofM_ok [63] g6
        rw [textR_ok m2, m1] at htx
        rw [m2] at hck
        simp (maxSteps := 2000000) (disch := first | omega | assumption | (simp only [DS, Nat.reduceAdd, *]; done) | (simp only [DZ]; omega)) only [RUN, RU, footA, feetIn, resultsA, tupOf, frzL, slot, lay, icyL, fillA, repCells, kR, reduceIte, Nat.reduceEqDiff, Nat.reduceBEq, Nat.reduceLT, Nat.reduceAdd, Nat.reduceLeDiff, Nat.reduceSub, Nat.reduceMul, Int.reduceLT, Int.reduceLE, Int.reduceEq, Int.reduceAdd, Int.reduceSub, Int.reduceMul, h0, h1, h2, hla, hlb, alive_run, q1, q2, q3, ln, psl_str, str_size, hput, g4, hget2, hlp, w4, z4, sm, hget, hput2, hRy.b2s, hB.b2s, hof, g6, htx, hck, hRp.rows mem0, hRq.rows mem0, hRy.rows mem0, hB.rows mem0]
      · have q6 : decide (ofE s = 0) = false := decide_eq_false g6
        have hm := ofM_bad g6
        rw [hm] at hlo
        simp (maxSteps := 2000000) (disch := first | omega | assumption | (simp only [DS, Nat.reduceAdd, *]; done) | (simp only [DZ]; omega)) only [RUN, RU, footA, feetIn, resultsA, tupOf, frzL, slot, lay, icyL, fillA, repCells, kR, reduceIte, Nat.reduceEqDiff, Nat.reduceBEq, Nat.reduceLT, Nat.reduceAdd, Nat.reduceLeDiff, Nat.reduceSub, Nat.reduceMul, Int.reduceLT, Int.reduceLE, Int.reduceEq, Int.reduceAdd, Int.reduceSub, Int.reduceMul, h0, h1, h2, hla, hlb, alive_run, q1, q2, q3, ln, psl_str, str_size, hput, g4, hget2, hlp, w4, z4, sm, hget, hput2, hRy.b2s, hB.b2s, hof, q6, hlo, hRp.rows mem0, hRq.rows mem0, hRy.rows mem0, hB.rows mem0]
        rfl
    · have q5 : decide ((getF b).2 = 0) = false := decide_eq_false g5
      by_cases g6 : ofE s = 0
      · obtain ⟨m1, m2⟩ := ofM_ok [63] g6
        rw [textR_ok m2, m1] at htx
        rw [m2] at hck
        simp (maxSteps := 2000000) (disch := first | omega | assumption | (simp only [DS, Nat.reduceAdd, *]; done) | (simp only [DZ]; omega)) only [RUN, RU, footA, feetIn, resultsA, tupOf, frzL, slot, lay, icyL, fillA, repCells, kR, reduceIte, Nat.reduceEqDiff, Nat.reduceBEq, Nat.reduceLT, Nat.reduceAdd, Nat.reduceLeDiff, Nat.reduceSub, Nat.reduceMul, Int.reduceLT, Int.reduceLE, Int.reduceEq, Int.reduceAdd, Int.reduceSub, Int.reduceMul, h0, h1, h2, hla, hlb, alive_run, q1, q2, q3, ln, psl_str, str_size, hput, g4, hget2, hlp, w4, z4, sm, hget, q5, hof, g6, htx, hck, hRp.rows mem0, hRq.rows mem0, hB.rows mem0]
      · have q6 : decide (ofE s = 0) = false := decide_eq_false g6
        have hm := ofM_bad g6
        rw [hm] at hlo
        simp (maxSteps := 2000000) (disch := first | omega | assumption | (simp only [DS, Nat.reduceAdd, *]; done) | (simp only [DZ]; omega)) only [RUN, RU, footA, feetIn, resultsA, tupOf, frzL, slot, lay, icyL, fillA, repCells, kR, reduceIte, Nat.reduceEqDiff, Nat.reduceBEq, Nat.reduceLT, Nat.reduceAdd, Nat.reduceLeDiff, Nat.reduceSub, Nat.reduceMul, Int.reduceLT, Int.reduceLE, Int.reduceEq, Int.reduceAdd, Int.reduceSub, Int.reduceMul, h0, h1, h2, hla, hlb, alive_run, q1, q2, q3, ln, psl_str, str_size, hput, g4, hget2, hlp, w4, z4, sm, hget, q5, hof, q6, hlo, hRp.rows mem0, hRq.rows mem0, hB.rows mem0]
        rfl
  · rw [if_pos g4] at hput
    have q4 : decide (chk l = 0) = false := decide_eq_false g4
    by_cases g5 : (getF b).2 = 0
    · obtain ⟨k1, k2, k3, k4⟩ := getF_ok g5
      rw [k1] at hRg hget hput2
      simp only at hRg hget hput2
      rw [k2, if_neg (by omega), k3] at hput2
      obtain ⟨ry, hRy, hput2⟩ := hput2
      by_cases g6 : ofE s = 0
      · obtain ⟨m1, m2⟩ := ofM_ok [63] g6
        rw [textR_ok m2, m1] at htx
        rw [m2] at hck
        simp (maxSteps := 2000000) (disch := first | omega | assumption | (simp only [DS, Nat.reduceAdd, *]; done) | (simp only [DZ]; omega)) only [RUN, RU, footA, feetIn, resultsA, tupOf, frzL, slot, lay, icyL, fillA, repCells, kR, reduceIte, Nat.reduceEqDiff, Nat.reduceBEq, Nat.reduceLT, Nat.reduceAdd, Nat.reduceLeDiff, Nat.reduceSub, Nat.reduceMul, Int.reduceLT, Int.reduceLE, Int.reduceEq, Int.reduceAdd, Int.reduceSub, Int.reduceMul, h0, h1, h2, hla, hlb, alive_run, q1, q2, q3, ln, psl_str, str_size, hput, q4, hget, hput2, hRy.b2s, hB.b2s, hof, g6, htx, hck, hRy.rows mem0, hB.rows mem0]
      · have q6 : decide (ofE s = 0) = false := decide_eq_false g6
        have hm := ofM_bad g6
        rw [hm] at hlo
        simp (maxSteps := 2000000) (disch := first | omega | assumption | (simp only [DS, Nat.reduceAdd, *]; done) | (simp only [DZ]; omega)) only [RUN, RU, footA, feetIn, resultsA, tupOf, frzL, slot, lay, icyL, fillA, repCells, kR, reduceIte, Nat.reduceEqDiff, Nat.reduceBEq, Nat.reduceLT, Nat.reduceAdd, Nat.reduceLeDiff, Nat.reduceSub, Nat.reduceMul, Int.reduceLT, Int.reduceLE, Int.reduceEq, Int.reduceAdd, Int.reduceSub, Int.reduceMul, h0, h1, h2, hla, hlb, alive_run, q1, q2, q3, ln, psl_str, str_size, hput, q4, hget, hput2, hRy.b2s, hB.b2s, hof, q6, hlo, hRy.rows mem0, hB.rows mem0]
        rfl
    · have q5 : decide ((getF b).2 = 0) = false := decide_eq_false g5
      by_cases g6 : ofE s = 0
      · obtain ⟨m1, m2⟩ := ofM_ok [63] g6
        rw [textR_ok m2, m1] at htx
        rw [m2] at hck
        simp (maxSteps := 2000000) (disch := first | omega | assumption | (simp only [DS, Nat.reduceAdd, *]; done) | (simp only [DZ]; omega)) only [RUN, RU, footA, feetIn, resultsA, tupOf, frzL, slot, lay, icyL, fillA, repCells, kR, reduceIte, Nat.reduceEqDiff, Nat.reduceBEq, Nat.reduceLT, Nat.reduceAdd, Nat.reduceLeDiff, Nat.reduceSub, Nat.reduceMul, Int.reduceLT, Int.reduceLE, Int.reduceEq, Int.reduceAdd, Int.reduceSub, Int.reduceMul, h0, h1, h2, hla, hlb, alive_run, q1, q2, q3, ln, psl_str, str_size, hput, q4, hget, q5, hof, g6, htx, hck, hB.rows mem0]
      · have q6 : decide (ofE s = 0) = false := decide_eq_false g6
        have hm := ofM_bad g6
        rw [hm] at hlo
        simp (maxSteps := 2000000) (disch := first | omega | assumption | (simp only [DS, Nat.reduceAdd, *]; done) | (simp only [DZ]; omega)) only [RUN, RU, footA, feetIn, resultsA, tupOf, frzL, slot, lay, icyL, fillA, repCells, kR, reduceIte, Nat.reduceEqDiff, Nat.reduceBEq, Nat.reduceLT, Nat.reduceAdd, Nat.reduceLeDiff, Nat.reduceSub, Nat.reduceMul, Int.reduceLT, Int.reduceLE, Int.reduceEq, Int.reduceAdd, Int.reduceSub, Int.reduceMul, h0, h1, h2, hla, hlb, alive_run, q1, q2, q3, ln, psl_str, str_size, hput, q4, hget, q5, hof, q6, hlo, hB.rows mem0]
        rfl
end Go.Proofs.Ytlccfbaibcdodaa
