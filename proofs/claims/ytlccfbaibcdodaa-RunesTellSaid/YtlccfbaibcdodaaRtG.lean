/-
  The statement RunesTell: the run.
-/
import Derived.Test.YtlccfbaibcdodaaRtE
import Derived.Test.YtlccfbaibcdodaaRtF
import Derived.Test.YtlccfbaibcdodaaRnK
import Derived.Test.YtlccfbaibcdodaaRnS2
import Derived.Test.YtlccfbaibcdodaaEe
set_option linter.unusedSimpArgs false
set_option linter.unusedVariables false
set_option maxRecDepth 100000
namespace Go.Proofs.Ytlccfbaibcdodaa
open Go Go.Ax
variable {M : Mem} {Q : AV → Mem → Prop}

theorem textR_eq (m : List UInt8) (l : List Int) : textR m l = .tup [STR (textM m l), I64 (chk l)] := by
  unfold textM
  by_cases h : chk l = 0
  · rw [textR_ok h, if_pos h, h]
  · rw [textR_bad h, if_neg h]
theorem text_own {fuel d : Nat} {a a' : AV} {l : List Int} (h : Sl 1 isI32 a' l) (m : List UInt8) (hm : m.length ≤ 1000000) {M M' : Mem} (ic : icyL (icy 12) M [a, STR m] = some ([a', STR m], M')) : callN Try.prog (fsT tbl) fuel (d + 1) (.fn 14) [a, STR m] M = some (textR m l, M') := by
  have e : extText [a', STR m] = some (textR m l) := by
    simp only [extText, str_size, Nat.ble_eq_true_of_le hm, row32_of h]
  simp only [callN, tf14, a14, ic, e]

set_option maxHeartbeats 32000000 in
theorem tell_run {a aw ab : AV} {l : List Int} {w : List Bool} {s b mk : List UInt8} (hS : Sl 1 isI32 a l) (hW : Sl 1 isBool aw w) (hB : Bs ab b) :
    callN Try.prog (fsT tbl) 100000 21 (.fn 6) [STR s, a, aw, ab, STR mk] mem0 = some (BL true, mem0) := by
  have hla := hS.len
  have hlw := hW.len
  have hlb := hB.len
  have ln := fun t x r => pLenS (P := Try.prog) (t := t) Try.underlying9 x r
  apply w3_eq
  refine call_gc tf6 rfl (by simp (maxSteps := 2000000) (disch := first | omega | assumption | (simp only [DS, Nat.reduceAdd, *]; done) | (simp only [DZ]; omega)) only [RUN, RU, footA, feetIn, resultsA, tupOf, frzL, slot, lay, icyL, fillA, repCells, kR, reduceIte, Nat.reduceEqDiff, Nat.reduceBEq, Nat.reduceLT, Nat.reduceAdd, Nat.reduceLeDiff, Nat.reduceSub, Nat.reduceMul, Int.reduceLT, Int.reduceLE, Int.reduceEq, Int.reduceAdd, Int.reduceSub, Int.reduceMul, hS.icy, hW.icy, hB.icy]) (by simp [a6]) fun b' ht hx => ?_
  have h0 := hx 0 _ rfl
  have h1 := hx 1 _ rfl
  have h2 := hx 2 _ rfl
  have h3 := hx 3 _ rfl
  have h4 := hx 4 _ rfl
  clear hx
  simp only [a6, c6] at ht ⊢
  by_cases g1 : 2000 < s.length
  · have q1 : decide ((2000 : Int) < s.length) = true := decide_eq_true (by omega)
    simp (maxSteps := 2000000) (disch := first | omega | assumption | (simp only [DS, Nat.reduceAdd, *]; done) | (simp only [DZ]; omega)) only [RUN, RU, footA, feetIn, resultsA, tupOf, frzL, slot, lay, icyL, fillA, repCells, kR, reduceIte, Nat.reduceEqDiff, Nat.reduceBEq, Nat.reduceLT, Nat.reduceAdd, Nat.reduceLeDiff, Nat.reduceSub, Nat.reduceMul, Int.reduceLT, Int.reduceLE, Int.reduceEq, Int.reduceAdd, Int.reduceSub, Int.reduceMul, h0, h1, h2, h3, h4, hla, hlw, hlb, q1, ln, psl_str, str_size]
  have q1 : decide ((2000 : Int) < s.length) = false := decide_eq_false (by omega)
  by_cases g2 : 2000 < l.length
  · have q2 : decide ((2000 : Int) < l.length) = true := decide_eq_true (by omega)
    simp (maxSteps := 2000000) (disch := first | omega | assumption | (simp only [DS, Nat.reduceAdd, *]; done) | (simp only [DZ]; omega)) only [RUN, RU, footA, feetIn, resultsA, tupOf, frzL, slot, lay, icyL, fillA, repCells, kR, reduceIte, Nat.reduceEqDiff, Nat.reduceBEq, Nat.reduceLT, Nat.reduceAdd, Nat.reduceLeDiff, Nat.reduceSub, Nat.reduceMul, Int.reduceLT, Int.reduceLE, Int.reduceEq, Int.reduceAdd, Int.reduceSub, Int.reduceMul, h0, h1, h2, h3, h4, hla, hlw, hlb, q1, q2, ln, psl_str, str_size]
  have q2 : decide ((2000 : Int) < l.length) = false := decide_eq_false (by omega)
  by_cases g3 : 2000 < w.length
  · have q3 : decide ((2000 : Int) < w.length) = true := decide_eq_true (by omega)
    simp (maxSteps := 2000000) (disch := first | omega | assumption | (simp only [DS, Nat.reduceAdd, *]; done) | (simp only [DZ]; omega)) only [RUN, RU, footA, feetIn, resultsA, tupOf, frzL, slot, lay, icyL, fillA, repCells, kR, reduceIte, Nat.reduceEqDiff, Nat.reduceBEq, Nat.reduceLT, Nat.reduceAdd, Nat.reduceLeDiff, Nat.reduceSub, Nat.reduceMul, Int.reduceLT, Int.reduceLE, Int.reduceEq, Int.reduceAdd, Int.reduceSub, Int.reduceMul, h0, h1, h2, h3, h4, hla, hlw, hlb, q1, q2, q3, ln, psl_str, str_size]
  have q3 : decide ((2000 : Int) < w.length) = false := decide_eq_false (by omega)
  by_cases g4 : 2000 < b.length
  · have q4 : decide ((2000 : Int) < b.length) = true := decide_eq_true (by omega)
    simp (maxSteps := 2000000) (disch := first | omega | assumption | (simp only [DS, Nat.reduceAdd, *]; done) | (simp only [DZ]; omega)) only [RUN, RU, footA, feetIn, resultsA, tupOf, frzL, slot, lay, icyL, fillA, repCells, kR, reduceIte, Nat.reduceEqDiff, Nat.reduceBEq, Nat.reduceLT, Nat.reduceAdd, Nat.reduceLeDiff, Nat.reduceSub, Nat.reduceMul, Int.reduceLT, Int.reduceLE, Int.reduceEq, Int.reduceAdd, Int.reduceSub, Int.reduceMul, h0, h1, h2, h3, h4, hla, hlw, hlb, q1, q2, q3, q4, ln, psl_str, str_size]
  have q4 : decide ((2000 : Int) < b.length) = false := decide_eq_false (by omega)
  by_cases g5 : 100 < mk.length
  · have q5 : decide ((100 : Int) < mk.length) = true := decide_eq_true (by omega)
    simp (maxSteps := 2000000) (disch := first | omega | assumption | (simp only [DS, Nat.reduceAdd, *]; done) | (simp only [DZ]; omega)) only [RUN, RU, footA, feetIn, resultsA, tupOf, frzL, slot, lay, icyL, fillA, repCells, kR, reduceIte, Nat.reduceEqDiff, Nat.reduceBEq, Nat.reduceLT, Nat.reduceAdd, Nat.reduceLeDiff, Nat.reduceSub, Nat.reduceMul, Int.reduceLT, Int.reduceLE, Int.reduceEq, Int.reduceAdd, Int.reduceSub, Int.reduceMul, h0, h1, h2, h3, h4, hla, hlw, hlb, q1, q2, q3, q4, q5, ln, psl_str, str_size]
  have q5 : decide ((100 : Int) < mk.length) = false := decide_eq_false (by omega)
  have celI : CelI isI32 := fun r x h y hy M k hk => by
    obtain ⟨rfl, _⟩ := h
    simp at hy; subst hy
    exact icy_sc _ hk
  -- the copy
  obtain ⟨rows, hcl, hll, hA, hrr⟩ := hS.open
  obtain ⟨own, M1, hap, hSm, wf1, s1, s1', kp1, rm, _⟩ := (SlM.nil (M := mem0) (st := 1) (T := isI32)).appO Wf.mem0 (y := a) (l' := l) (new := rows) (bytes := 4) (hcl _) hll hA hrr (cel_I32.all hA) (by omega) (by simp; omega) (by simp; omega)
  simp only [List.nil_append] at hSm
  obtain ⟨own', M2, hi2, hSo, wf2, sz2, kp2, hF⟩ := SlM.handF hSm wf1 celI (k := 12) (by omega)
  obtain ⟨ro, hRo, hof⟩ := of_run (fuel := 100000) (d := 17) s (by omega) (by omega)
  obtain ⟨rr, hRr, hrof⟩ := rof_run (fuel := 100000) (d := 16) s (by omega) (by omega)
  have hput0 : ∃ r, Bs r (putM l) ∧ ∀ M, callN Try.prog (fsT tbl) 100000 20 (.fn 10) [own'] M = some (.tup [r, I64 (chk l)], M) := by
    have := put_run (fuel := 100000) (d := 14) hSo (by omega)
    unfold putM
    by_cases hc : chk l = 0
    · rw [if_neg (by omega)] at this
      rw [if_pos hc, hc]; exact this
    · rw [if_pos hc] at this
      rw [if_neg hc]; exact ⟨NIL, .inl ⟨rfl, rfl⟩, this⟩
  obtain ⟨x, hX, hput0⟩ := hput0
  have icM : icyL (icy 12) M1 [own] = some ([own'], M2) := by simp only [icyL, hi2]
  have icm' : ∀ M, icyL (icy 12) M [own'] = some ([own'], M) := fun M => by simp (maxSteps := 2000000) (disch := first | omega | assumption | (simp only [DS, Nat.reduceAdd, *]; done) | (simp only [DZ]; omega)) only [RUN, RU, footA, feetIn, resultsA, tupOf, frzL, slot, lay, icyL, fillA, repCells, kR, reduceIte, Nat.reduceEqDiff, Nat.reduceBEq, Nat.reduceLT, Nat.reduceAdd, Nat.reduceLeDiff, Nat.reduceSub, Nat.reduceMul, Int.reduceLT, Int.reduceLE, Int.reduceEq, Int.reduceAdd, Int.reduceSub, Int.reduceMul, hSo.icy]
  have hput := call_own tf10 rfl (hput0 mem0) (icm' mem0) icM
  obtain ⟨y, hY, hrput⟩ := rput_run (fuel := 100000) (d := 17) hS (by omega)
  obtain ⟨g, hG, hget⟩ := get_run (fuel := 100000) (d := 14) hB (by omega) (by omega)
  obtain ⟨h, hH, hrget⟩ := rget_run (fuel := 100000) (d := 18) hB (by omega) (by omega)
  have r1 := hS.rows mem0
  have r2 := hB.rows mem0
  have r3 := rows_lt hSm.rl (Nat.le_refl M1.size)
  have r4 := hF.rows (Nat.le_refl M2.size)
  have r5 := hW.rows mem0
  simp (maxSteps := 2000000) (disch := first | omega | assumption | (simp only [DS, Nat.reduceAdd, *]; done) | (simp only [DZ]; omega)) only [RUN, RU, footA, feetIn, resultsA, tupOf, frzL, slot, lay, icyL, fillA, repCells, kR, reduceIte, Nat.reduceEqDiff, Nat.reduceBEq, Nat.reduceLT, Nat.reduceAdd, Nat.reduceLeDiff, Nat.reduceSub, Nat.reduceMul, Int.reduceLT, Int.reduceLE, Int.reduceEq, Int.reduceAdd, Int.reduceSub, Int.reduceMul, h0, h1, h2, h3, h4, hla, hlw, hlb, q1, q2, q3, q4, q5, ln, psl_str, str_size, hap, hB.b2s, hof, hrof, hput, hrput, hget, hrget, r1, r2, r3, r4, r5]
  refine hide0_run hF hW (by omega) wf2 fun p N wN sN kN hP hpo => ?_
  obtain ⟨q, hQ, hrhide⟩ := rhide_run (fuel := 100000) (d := 17) hS hW (by omega)
  have hFN : SlF N 1 isI32 own l := hF.keep fun id hid => kN id (hF.lt id hid)
  obtain ⟨own2, hS2, hic2⟩ := hFN.icy celI (k := 12) (by omega)
  have icN : icyL (icy 12) N [own] = some ([own2], N) := by simp only [icyL, hic2 N (fun _ _ => rfl)]
  have icT : icyL (icy 12) N [own, STR mk] = some ([own2, STR mk], N) := by
    have h2 := hic2 N (fun _ _ => rfl)
    simp (maxSteps := 2000000) (disch := first | omega | assumption | (simp only [DS, Nat.reduceAdd, *]; done) | (simp only [DZ]; omega)) only [RUN, RU, footA, feetIn, resultsA, tupOf, frzL, slot, lay, icyL, fillA, repCells, kR, reduceIte, Nat.reduceEqDiff, Nat.reduceBEq, Nat.reduceLT, Nat.reduceAdd, Nat.reduceLeDiff, Nat.reduceSub, Nat.reduceMul, Int.reduceLT, Int.reduceLE, Int.reduceEq, Int.reduceAdd, Int.reduceSub, Int.reduceMul, h2]
  have ic2 : ∀ M, icyL (icy 12) M [own2] = some ([own2], M) := fun M => by simp (maxSteps := 2000000) (disch := first | omega | assumption | (simp only [DS, Nat.reduceAdd, *]; done) | (simp only [DZ]; omega)) only [RUN, RU, footA, feetIn, resultsA, tupOf, frzL, slot, lay, icyL, fillA, repCells, kR, reduceIte, Nat.reduceEqDiff, Nat.reduceBEq, Nat.reduceLT, Nat.reduceAdd, Nat.reduceLeDiff, Nat.reduceSub, Nat.reduceMul, Int.reduceLT, Int.reduceLE, Int.reduceEq, Int.reduceAdd, Int.reduceSub, Int.reduceMul, hS2.icy]
  have htext := text_own (fuel := 100000) (d := 19) hS2 mk (by omega) icT
  rw [textR_eq] at htext
  have hrtext := rtext_run (fuel := 100000) (d := 17) hS mk (by omega) (by omega)
  have zi : ∀ x : Int, decide (x = x) = true := fun x => by simp
  have zl : ∀ x : List Int, decide (x = x) = true := fun x => by simp
  have zb : ∀ x : List UInt8, decide (x = x) = true := fun x => by simp
  have ofl : (ofM s).length ≤ 64 := by
    unfold ofM
    cases ofL s with
    | none => exact Nat.zero_le _
    | some m =>
      show (if 64 < m.length then [] else m).length ≤ 64
      split
      · exact Nat.zero_le _
      · omega
  have gfl : (getF b).1.length ≤ 1000 := by
    unfold getF
    have := nums_len b
    split
    · simp
    · split
      · simp
      · split
        · simp
        · show (nums b).length ≤ 1000
          omega
  have hml : (hideM l w).length ≤ 100 := by
    unfold hideM
    split
    · simp
    · rename_i hc
      split
      · simp
      · have := (chk_ok (l := l) (by omega)).1
        rw [show (hid l w).length = l.length from hidTo_len ..]; omega
  have sm1 := same_run (fuel := 100000) (d := 19) hRo hRr (by omega) (by omega)
  have sm2 := same_run (fuel := 100000) (d := 19) hG hH (by omega) (by omega)
  rw [zl] at sm1 sm2
  obtain ⟨p', N', hip, hSp, _, _, _, _⟩ := hP.hand wN celI (k := 12) (by omega)
  have sm3' := same_run (fuel := 100000) (d := 19) hSp hQ (by omega) (by omega) mem0
  rw [zl] at sm3'
  have sm3 := call_lend tf11 rfl sm3' (M3 := mem0) (by simp (maxSteps := 2000000) (disch := first | omega | assumption | (simp only [DS, Nat.reduceAdd, *]; done) | (simp only [DZ]; omega)) only [RUN, RU, footA, feetIn, resultsA, tupOf, frzL, slot, lay, icyL, fillA, repCells, kR, reduceIte, Nat.reduceEqDiff, Nat.reduceBEq, Nat.reduceLT, Nat.reduceAdd, Nat.reduceLeDiff, Nat.reduceSub, Nat.reduceMul, Int.reduceLT, Int.reduceLE, Int.reduceEq, Int.reduceAdd, Int.reduceSub, Int.reduceMul, hSp.icy, hQ.icy]) (show icyL (icy 12) N [p, q] = some ([p', q], N') by simp only [icyL, hip, hQ.icy _ 12 (by omega)])
  have hck := call_own tf8 rfl (check_run (fuel := 100000) (d := 15) hS2 (by omega) mem0) (ic2 mem0) icN
  have hrck := rcheck_run (fuel := 100000) (d := 18) hS (by omega)
  have e1 := hRo.rows mem0
  have e2 := hRr.rows mem0
  have e3 := hX.rows mem0
  have e4 := hY.rows mem0
  have e5 := hG.rows mem0
  have e6 := hH.rows mem0
  have e7 := hQ.rows mem0
  have e8 := rows_lt hP.rl (Nat.le_refl N.size)
  have e9 := hFN.rows (Nat.le_refl N.size)
  refine kO_cut fun t htl hlk => ?_
  rw [ht] at htl hlk
  have v0 : nth undefA t 0 = STR s := by rw [hlk 0 (by omega)]; simp (maxSteps := 2000000) (disch := first | omega | assumption | (simp only [DS, Nat.reduceAdd, *]; done) | (simp only [DZ]; omega)) only [RUN, RU, footA, feetIn, resultsA, tupOf, frzL, slot, lay, icyL, fillA, repCells, kR, reduceIte, Nat.reduceEqDiff, Nat.reduceBEq, Nat.reduceLT, Nat.reduceAdd, Nat.reduceLeDiff, Nat.reduceSub, Nat.reduceMul, Int.reduceLT, Int.reduceLE, Int.reduceEq, Int.reduceAdd, Int.reduceSub, Int.reduceMul, h0]
  have v1 : nth undefA t 1 = a := by rw [hlk 1 (by omega)]; simp (maxSteps := 2000000) (disch := first | omega | assumption | (simp only [DS, Nat.reduceAdd, *]; done) | (simp only [DZ]; omega)) only [RUN, RU, footA, feetIn, resultsA, tupOf, frzL, slot, lay, icyL, fillA, repCells, kR, reduceIte, Nat.reduceEqDiff, Nat.reduceBEq, Nat.reduceLT, Nat.reduceAdd, Nat.reduceLeDiff, Nat.reduceSub, Nat.reduceMul, Int.reduceLT, Int.reduceLE, Int.reduceEq, Int.reduceAdd, Int.reduceSub, Int.reduceMul, h1]
  have v2 : nth undefA t 2 = aw := by rw [hlk 2 (by omega)]; simp (maxSteps := 2000000) (disch := first | omega | assumption | (simp only [DS, Nat.reduceAdd, *]; done) | (simp only [DZ]; omega)) only [RUN, RU, footA, feetIn, resultsA, tupOf, frzL, slot, lay, icyL, fillA, repCells, kR, reduceIte, Nat.reduceEqDiff, Nat.reduceBEq, Nat.reduceLT, Nat.reduceAdd, Nat.reduceLeDiff, Nat.reduceSub, Nat.reduceMul, Int.reduceLT, Int.reduceLE, Int.reduceEq, Int.reduceAdd, Int.reduceSub, Int.reduceMul, h2]
  have v3 : nth undefA t 3 = ab := by rw [hlk 3 (by omega)]; simp (maxSteps := 2000000) (disch := first | omega | assumption | (simp only [DS, Nat.reduceAdd, *]; done) | (simp only [DZ]; omega)) only [RUN, RU, footA, feetIn, resultsA, tupOf, frzL, slot, lay, icyL, fillA, repCells, kR, reduceIte, Nat.reduceEqDiff, Nat.reduceBEq, Nat.reduceLT, Nat.reduceAdd, Nat.reduceLeDiff, Nat.reduceSub, Nat.reduceMul, Int.reduceLT, Int.reduceLE, Int.reduceEq, Int.reduceAdd, Int.reduceSub, Int.reduceMul, h3]
  have v4 : nth undefA t 4 = STR mk := by rw [hlk 4 (by omega)]; simp (maxSteps := 2000000) (disch := first | omega | assumption | (simp only [DS, Nat.reduceAdd, *]; done) | (simp only [DZ]; omega)) only [RUN, RU, footA, feetIn, resultsA, tupOf, frzL, slot, lay, icyL, fillA, repCells, kR, reduceIte, Nat.reduceEqDiff, Nat.reduceBEq, Nat.reduceLT, Nat.reduceAdd, Nat.reduceLeDiff, Nat.reduceSub, Nat.reduceMul, Int.reduceLT, Int.reduceLE, Int.reduceEq, Int.reduceAdd, Int.reduceSub, Int.reduceMul, h4]
  have v11 : nth undefA t 11 = own := by rw [hlk 11 (by omega)]; simp (maxSteps := 2000000) (disch := first | omega | assumption | (simp only [DS, Nat.reduceAdd, *]; done) | (simp only [DZ]; omega)) only [RUN, RU, footA, feetIn, resultsA, tupOf, frzL, slot, lay, icyL, fillA, repCells, kR, reduceIte, Nat.reduceEqDiff, Nat.reduceBEq, Nat.reduceLT, Nat.reduceAdd, Nat.reduceLeDiff, Nat.reduceSub, Nat.reduceMul, Int.reduceLT, Int.reduceLE, Int.reduceEq, Int.reduceAdd, Int.reduceSub, Int.reduceMul]
  have v12 : nth undefA t 12 = STR b := by rw [hlk 12 (by omega)]; simp (maxSteps := 2000000) (disch := first | omega | assumption | (simp only [DS, Nat.reduceAdd, *]; done) | (simp only [DZ]; omega)) only [RUN, RU, footA, feetIn, resultsA, tupOf, frzL, slot, lay, icyL, fillA, repCells, kR, reduceIte, Nat.reduceEqDiff, Nat.reduceBEq, Nat.reduceLT, Nat.reduceAdd, Nat.reduceLeDiff, Nat.reduceSub, Nat.reduceMul, Int.reduceLT, Int.reduceLE, Int.reduceEq, Int.reduceAdd, Int.reduceSub, Int.reduceMul]
  have v13 : nth undefA t 13 = ro := by rw [hlk 13 (by omega)]; simp (maxSteps := 2000000) (disch := first | omega | assumption | (simp only [DS, Nat.reduceAdd, *]; done) | (simp only [DZ]; omega)) only [RUN, RU, footA, feetIn, resultsA, tupOf, frzL, slot, lay, icyL, fillA, repCells, kR, reduceIte, Nat.reduceEqDiff, Nat.reduceBEq, Nat.reduceLT, Nat.reduceAdd, Nat.reduceLeDiff, Nat.reduceSub, Nat.reduceMul, Int.reduceLT, Int.reduceLE, Int.reduceEq, Int.reduceAdd, Int.reduceSub, Int.reduceMul]
  have v14 : nth undefA t 14 = I64 (ofE s) := by rw [hlk 14 (by omega)]; simp (maxSteps := 2000000) (disch := first | omega | assumption | (simp only [DS, Nat.reduceAdd, *]; done) | (simp only [DZ]; omega)) only [RUN, RU, footA, feetIn, resultsA, tupOf, frzL, slot, lay, icyL, fillA, repCells, kR, reduceIte, Nat.reduceEqDiff, Nat.reduceBEq, Nat.reduceLT, Nat.reduceAdd, Nat.reduceLeDiff, Nat.reduceSub, Nat.reduceMul, Int.reduceLT, Int.reduceLE, Int.reduceEq, Int.reduceAdd, Int.reduceSub, Int.reduceMul]
  have v15 : nth undefA t 15 = rr := by rw [hlk 15 (by omega)]; simp (maxSteps := 2000000) (disch := first | omega | assumption | (simp only [DS, Nat.reduceAdd, *]; done) | (simp only [DZ]; omega)) only [RUN, RU, footA, feetIn, resultsA, tupOf, frzL, slot, lay, icyL, fillA, repCells, kR, reduceIte, Nat.reduceEqDiff, Nat.reduceBEq, Nat.reduceLT, Nat.reduceAdd, Nat.reduceLeDiff, Nat.reduceSub, Nat.reduceMul, Int.reduceLT, Int.reduceLE, Int.reduceEq, Int.reduceAdd, Int.reduceSub, Int.reduceMul]
  have v16 : nth undefA t 16 = I64 (ofE s) := by rw [hlk 16 (by omega)]; simp (maxSteps := 2000000) (disch := first | omega | assumption | (simp only [DS, Nat.reduceAdd, *]; done) | (simp only [DZ]; omega)) only [RUN, RU, footA, feetIn, resultsA, tupOf, frzL, slot, lay, icyL, fillA, repCells, kR, reduceIte, Nat.reduceEqDiff, Nat.reduceBEq, Nat.reduceLT, Nat.reduceAdd, Nat.reduceLeDiff, Nat.reduceSub, Nat.reduceMul, Int.reduceLT, Int.reduceLE, Int.reduceEq, Int.reduceAdd, Int.reduceSub, Int.reduceMul]
  have v17 : nth undefA t 17 = x := by rw [hlk 17 (by omega)]; simp (maxSteps := 2000000) (disch := first | omega | assumption | (simp only [DS, Nat.reduceAdd, *]; done) | (simp only [DZ]; omega)) only [RUN, RU, footA, feetIn, resultsA, tupOf, frzL, slot, lay, icyL, fillA, repCells, kR, reduceIte, Nat.reduceEqDiff, Nat.reduceBEq, Nat.reduceLT, Nat.reduceAdd, Nat.reduceLeDiff, Nat.reduceSub, Nat.reduceMul, Int.reduceLT, Int.reduceLE, Int.reduceEq, Int.reduceAdd, Int.reduceSub, Int.reduceMul]
  have v18 : nth undefA t 18 = I64 (chk l) := by rw [hlk 18 (by omega)]; simp (maxSteps := 2000000) (disch := first | omega | assumption | (simp only [DS, Nat.reduceAdd, *]; done) | (simp only [DZ]; omega)) only [RUN, RU, footA, feetIn, resultsA, tupOf, frzL, slot, lay, icyL, fillA, repCells, kR, reduceIte, Nat.reduceEqDiff, Nat.reduceBEq, Nat.reduceLT, Nat.reduceAdd, Nat.reduceLeDiff, Nat.reduceSub, Nat.reduceMul, Int.reduceLT, Int.reduceLE, Int.reduceEq, Int.reduceAdd, Int.reduceSub, Int.reduceMul]
  have v19 : nth undefA t 19 = y := by rw [hlk 19 (by omega)]; simp (maxSteps := 2000000) (disch := first | omega | assumption | (simp only [DS, Nat.reduceAdd, *]; done) | (simp only [DZ]; omega)) only [RUN, RU, footA, feetIn, resultsA, tupOf, frzL, slot, lay, icyL, fillA, repCells, kR, reduceIte, Nat.reduceEqDiff, Nat.reduceBEq, Nat.reduceLT, Nat.reduceAdd, Nat.reduceLeDiff, Nat.reduceSub, Nat.reduceMul, Int.reduceLT, Int.reduceLE, Int.reduceEq, Int.reduceAdd, Int.reduceSub, Int.reduceMul]
  have v20 : nth undefA t 20 = I64 (chk l) := by rw [hlk 20 (by omega)]; simp (maxSteps := 2000000) (disch := first | omega | assumption | (simp only [DS, Nat.reduceAdd, *]; done) | (simp only [DZ]; omega)) only [RUN, RU, footA, feetIn, resultsA, tupOf, frzL, slot, lay, icyL, fillA, repCells, kR, reduceIte, Nat.reduceEqDiff, Nat.reduceBEq, Nat.reduceLT, Nat.reduceAdd, Nat.reduceLeDiff, Nat.reduceSub, Nat.reduceMul, Int.reduceLT, Int.reduceLE, Int.reduceEq, Int.reduceAdd, Int.reduceSub, Int.reduceMul]
  have v21 : nth undefA t 21 = g := by rw [hlk 21 (by omega)]; simp (maxSteps := 2000000) (disch := first | omega | assumption | (simp only [DS, Nat.reduceAdd, *]; done) | (simp only [DZ]; omega)) only [RUN, RU, footA, feetIn, resultsA, tupOf, frzL, slot, lay, icyL, fillA, repCells, kR, reduceIte, Nat.reduceEqDiff, Nat.reduceBEq, Nat.reduceLT, Nat.reduceAdd, Nat.reduceLeDiff, Nat.reduceSub, Nat.reduceMul, Int.reduceLT, Int.reduceLE, Int.reduceEq, Int.reduceAdd, Int.reduceSub, Int.reduceMul]
  have v22 : nth undefA t 22 = I64 (getF b).2 := by rw [hlk 22 (by omega)]; simp (maxSteps := 2000000) (disch := first | omega | assumption | (simp only [DS, Nat.reduceAdd, *]; done) | (simp only [DZ]; omega)) only [RUN, RU, footA, feetIn, resultsA, tupOf, frzL, slot, lay, icyL, fillA, repCells, kR, reduceIte, Nat.reduceEqDiff, Nat.reduceBEq, Nat.reduceLT, Nat.reduceAdd, Nat.reduceLeDiff, Nat.reduceSub, Nat.reduceMul, Int.reduceLT, Int.reduceLE, Int.reduceEq, Int.reduceAdd, Int.reduceSub, Int.reduceMul]
  have v23 : nth undefA t 23 = h := by rw [hlk 23 (by omega)]; simp (maxSteps := 2000000) (disch := first | omega | assumption | (simp only [DS, Nat.reduceAdd, *]; done) | (simp only [DZ]; omega)) only [RUN, RU, footA, feetIn, resultsA, tupOf, frzL, slot, lay, icyL, fillA, repCells, kR, reduceIte, Nat.reduceEqDiff, Nat.reduceBEq, Nat.reduceLT, Nat.reduceAdd, Nat.reduceLeDiff, Nat.reduceSub, Nat.reduceMul, Int.reduceLT, Int.reduceLE, Int.reduceEq, Int.reduceAdd, Int.reduceSub, Int.reduceMul]
  have v24 : nth undefA t 24 = I64 (getF b).2 := by rw [hlk 24 (by omega)]; simp (maxSteps := 2000000) (disch := first | omega | assumption | (simp only [DS, Nat.reduceAdd, *]; done) | (simp only [DZ]; omega)) only [RUN, RU, footA, feetIn, resultsA, tupOf, frzL, slot, lay, icyL, fillA, repCells, kR, reduceIte, Nat.reduceEqDiff, Nat.reduceBEq, Nat.reduceLT, Nat.reduceAdd, Nat.reduceLeDiff, Nat.reduceSub, Nat.reduceMul, Int.reduceLT, Int.reduceLE, Int.reduceEq, Int.reduceAdd, Int.reduceSub, Int.reduceMul]
  clear hlk h0 h1 h2 h3 h4 ht b'
  have ht := htl
  simp (maxSteps := 2000000) (disch := first | omega | assumption | (simp only [DS, Nat.reduceAdd, *]; done) | (simp only [DZ]; omega)) only [RUN, RU, footA, feetIn, resultsA, tupOf, frzL, slot, lay, icyL, fillA, repCells, kR, reduceIte, Nat.reduceEqDiff, Nat.reduceBEq, Nat.reduceLT, Nat.reduceAdd, Nat.reduceLeDiff, Nat.reduceSub, Nat.reduceMul, Int.reduceLT, Int.reduceLE, Int.reduceEq, Int.reduceAdd, Int.reduceSub, Int.reduceMul, v0, v1, v2, v3, v4, v11, v12, v13, v14, v15, v16, v17, v18, v19, v20, v21, v22, v23, v24, hrhide, htext, hrtext, sm1, sm2, sm3, hck, hrck, zi, zb, hX.b2s, hY.b2s, r1, r2, r5, e1, e2, e3, e4, e5, e6, e7, e8, e9]
  refine w_loop (I := fun n t N' => ∃ (i : Nat) (lp : List Int), lp.length = (hideM l w).length ∧ i ≤ lp.length ∧ n = lp.length - i ∧ nth undefA t 35 = I64 i ∧ nth undefA t 25 = p ∧ nth undefA t 33 = BL true ∧ nth undefA t 34 = BL true ∧ nth undefA t 11 = own ∧ nth undefA t 1 = a ∧ nth undefA t 3 = ab ∧ nth undefA t 12 = STR b ∧ Wf N' ∧ SlM N' 1 isI32 p lp ∧ M2.size ≤ N'.size ∧ (∀ j, j < M2.size → N'.get j = N.get j)) (n := (hideM l w).length) (by omega) ?_ ?_
  · refine ⟨0, hideM l w, rfl, by omega, rfl, ?_, ?_, ?_, ?_, ?_, ?_, ?_, ?_, wN, hP, sN, fun _ _ => rfl⟩
    all_goals simp (maxSteps := 2000000) (disch := first | omega | assumption | (simp only [DS, Nat.reduceAdd, *]; done) | (simp only [DZ]; omega)) only [RUN, RU, footA, feetIn, resultsA, tupOf, frzL, slot, lay, icyL, fillA, repCells, kR, reduceIte, Nat.reduceEqDiff, Nat.reduceBEq, Nat.reduceLT, Nat.reduceAdd, Nat.reduceLeDiff, Nat.reduceSub, Nat.reduceMul, Int.reduceLT, Int.reduceLE, Int.reduceEq, Int.reduceAdd, Int.reduceSub, Int.reduceMul, v1, v3, v11, v12]
    all_goals rfl
  · clear v0 v1 v2 v3 v4 v11 v12 v13 v14 v15 v16 v17 v18 v19 v20 v21 v22 v23 v24
    rintro n t N' hl' ⟨i, lp, hlp, hi, rfl, t35, t25, t33, t34, t11, t1, t3, t12, wN', hP', sN', kN'⟩
    simp only [ht] at hl' ⊢
    clear ht
    have lenp := hP'.len
    by_cases hlt : i < lp.length
    · have hc' : decide ((i : Int) < lp.length) = true := decide_eq_true (by omega)
      have w1 : IntKind.i64.wrap ((i : Int) + 1) = ((i + 1 : Nat) : Int) := by rw [wrap_i64] <;> omega
      have er := rows_lt hP'.rl (Nat.le_refl N'.size)
      rcases hP' with ⟨rfl, hn0⟩ | ⟨id, rows, cap, rfl, hcap, hg, hA, hrr⟩
      · rw [hn0] at hlt; simp at hlt
      · have hrl := hA.length_eq
        have lid := Mem.get_lt hg
        have hid0 := hpo id rfl
        have hfl := flat_len hrr
        have hir : i < rows.length := by omega
        have hgi : rows[i]? = some rows[i] := by simp [hir]
        have hlay := flat_lay (st := 1) (off := 0) (new := [I32 7]) hrr hgi (by simp)
        have hri : rows[i].length = 1 := hrr _ (List.getElem_mem hir)
        have hc2 : decide ((i : Int) < rows.length) = true := decide_eq_true (by omega)
        simp (maxSteps := 2000000) (disch := first | omega | assumption | (simp only [DS, Nat.reduceAdd, *]; done) | (simp only [DZ]; omega)) only [RUN, RU, footA, feetIn, resultsA, tupOf, frzL, slot, lay, icyL, fillA, repCells, kR, reduceIte, Nat.reduceEqDiff, Nat.reduceBEq, Nat.reduceLT, Nat.reduceAdd, Nat.reduceLeDiff, Nat.reduceSub, Nat.reduceMul, Int.reduceLT, Int.reduceLE, Int.reduceEq, Int.reduceAdd, Int.reduceSub, Int.reduceMul, t35, t25, t33, t34, t11, t1, t3, t12, hc2, w1, hg, wN', hir, hfl]
        refine ⟨hl', (lp.set i 7).length - (i + 1), by simp; omega, i + 1, lp.set i 7, by simpa using hlp, by simp; omega, rfl, rfl, .inr ⟨id, rows.set i [I32 7], cap, by simp, by simpa using hcap, ?_, ?_, ?_⟩, sN', fun j hj => by rw [get_upd_ne wN' _ _ _ (by omega)]; exact kN' j hj⟩
        · rw [get_upd_eq wN' _ _ lid]
          obtain ⟨x, hx⟩ : ∃ x, rows[i] = [x] := by
            match hm : rows[i], hri with
            | [x], _ => exact ⟨x, rfl⟩
          rw [hx] at hlay
          simp only [lay, Nat.mul_one, Nat.add_zero, List.length_cons, List.length_nil, List.take_zero, List.nil_append, List.drop_succ_cons, List.drop_zero, Nat.zero_add, List.append_nil, List.drop_nil] at hlay ⊢
          rw [hlay]
        · refine all2_mk (by simp [hrl]) fun j x y hx hy => ?_
          rw [List.getElem?_set] at hx hy
          by_cases e : i = j
          · subst e
            rw [if_pos rfl, if_pos hir] at hx
            rw [if_pos rfl, if_pos hlt] at hy
            cases hx
            cases hy
            exact ⟨rfl, by omega, by omega⟩
          · rw [if_neg e] at hx hy
            exact all2_at hA hx hy
        · intro r hr'
          rcases List.mem_or_eq_of_mem_set hr' with h | h
          · exact hrr r h
          · subst h; rfl
    · have hc' : decide ((i : Int) < lp.length) = false := decide_eq_false (by omega)
      have er := rows_lt hP'.rl (Nat.le_refl N'.size)
      have kO : ∀ j, rowOf own = some j → N'.get j = N.get j := fun j hj => kN' j (hF.lt j hj)
      have ef := (hFN.keep kO).rows (Nat.le_refl N'.size)
      have sm4' := same_run (fuel := 100000) (d := 19) hS2 hS (by omega) (by omega) mem0
      rw [zl] at sm4'
      have sm4 := call_lend tf11 rfl sm4' (M3 := mem0) (by simp (maxSteps := 2000000) (disch := first | omega | assumption | (simp only [DS, Nat.reduceAdd, *]; done) | (simp only [DZ]; omega)) only [RUN, RU, footA, feetIn, resultsA, tupOf, frzL, slot, lay, icyL, fillA, repCells, kR, reduceIte, Nat.reduceEqDiff, Nat.reduceBEq, Nat.reduceLT, Nat.reduceAdd, Nat.reduceLeDiff, Nat.reduceSub, Nat.reduceMul, Int.reduceLT, Int.reduceLE, Int.reduceEq, Int.reduceAdd, Int.reduceSub, Int.reduceMul, hS2.icy, hS.icy]) (show icyL (icy 12) N' [own, a] = some ([own2, a], N') by simp only [icyL, hic2 N' kO, hS.icy _ 12 (by omega)])
      simp (maxSteps := 2000000) (disch := first | omega | assumption | (simp only [DS, Nat.reduceAdd, *]; done) | (simp only [DZ]; omega)) only [RUN, RU, footA, feetIn, resultsA, tupOf, frzL, slot, lay, icyL, fillA, repCells, kR, reduceIte, Nat.reduceEqDiff, Nat.reduceBEq, Nat.reduceLT, Nat.reduceAdd, Nat.reduceLeDiff, Nat.reduceSub, Nat.reduceMul, Int.reduceLT, Int.reduceLE, Int.reduceEq, Int.reduceAdd, Int.reduceSub, Int.reduceMul, t35, t25, t33, t34, t11, t1, t3, t12, lenp, hc', er, ef, sm4, hB.b2s, zb, r1, r2]
end Go.Proofs.Ytlccfbaibcdodaa
