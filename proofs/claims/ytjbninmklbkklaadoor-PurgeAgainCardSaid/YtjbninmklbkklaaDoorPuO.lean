/-
  The statement PurgeAgain: the run.
-/
import Derived.Test.YtjbninmklbkklaaDoorPuN
set_option linter.unusedSimpArgs false
set_option linter.unusedVariables false
set_option maxRecDepth 100000
namespace Go.Proofs.YtjbninmklbkklaaDoor
open Go Go.Ax

theorem purgeF_err {v : Lb} {l : List Ev} (h : (purgeF v l).2 ≠ 0) : (purgeF v l).1 = [] := by
  unfold purgeF at h ⊢
  split
  · rfl
  · rename_i hc
    rw [if_neg hc] at h
    split
    · rename_i hm
      rw [if_pos hm] at h
      exact absurd rfl h
    · rfl
theorem countP_snoc {l : List Ev} {i : Nat} (h : i < l.length) : (l.take (i + 1)).countP alls = (l.take i).countP alls + (if alls l[i] then 1 else 0) := by
  rw [take_snoc l i h, List.countP_append]
  congr 1
  simp [List.countP_cons]
namespace purgeAgain
set_option maxHeartbeats 32000000 in
theorem law_run {a : AV} {l : List Ev} (v u : Lb) (hA : Sl 17 isEv a l) :
    callN Tryd.prog (fsT tbl) 100000 21 (.fn 5) [a, lbA v, lbA u] mem0 = some (BL true, mem0) := by
  have ra := hA.rows mem0
  have la := hA.len
  have hal := alive_run
  obtain ⟨g1, hg1, hG1⟩ := great_run (fuel := 100000) (d := 19) hA 100 (by omega)
  have ic : ∀ M, icyL (icy 12) M [a, lbA v, lbA u] = some ([a, lbA v, lbA u], M) := fun M => by simp (maxSteps := 2000000) (disch := first | omega | assumption | (simp only [DS, Nat.reduceAdd, *]; done) | (simp only [DZ]; omega)) only [RUN, RU, footA, feetIn, resultsA, tupOf, frzL, slot, lay, icyL, fillA, repCells, kR, reduceIte, Nat.reduceEqDiff, Nat.reduceBEq, Nat.reduceLT, Nat.reduceAdd, Nat.reduceLeDiff, Nat.reduceSub, Nat.reduceMul, Int.reduceLT, Int.reduceLE, Int.reduceEq, Int.reduceAdd, Int.reduceSub, Int.reduceMul, hA.icy]
  apply w3_eq
  refine call_gc tf5 rfl (ic mem0) (by simp [a5]) fun b' ht hx => ?_
  have x0 := hx 0 _ rfl
  have x1 := hx 1 _ rfl
  have x2 := hx 2 _ rfl
  clear hx
  simp only [a5, c5] at ht ⊢
  cases g1 with
  | true => simp (maxSteps := 2000000) (disch := first | omega | assumption | (simp only [DS, Nat.reduceAdd, *]; done) | (simp only [DZ]; omega)) only [RUN, RU, footA, feetIn, resultsA, tupOf, frzL, slot, lay, icyL, fillA, repCells, kR, reduceIte, Nat.reduceEqDiff, Nat.reduceBEq, Nat.reduceLT, Nat.reduceAdd, Nat.reduceLeDiff, Nat.reduceSub, Nat.reduceMul, Int.reduceLT, Int.reduceLE, Int.reduceEq, Int.reduceAdd, Int.reduceSub, Int.reduceMul, x0, x1, x2, hal, hG1, ra]
  | false =>
  have n1 := hg1 rfl
  obtain ⟨x, hX, hPx⟩ := purge_run (fuel := 100000) (d := 8) v hA (by omega) (by omega)
  have z0 : decide ((0 : Int) = 0) = true := rfl
  have rx := hX.rows mem0
  by_cases hE : (purgeF v l).2 = 0
  rotate_left
  · have q1 : decide ((purgeF v l).2 = 0) = false := decide_eq_false hE
    rw [purgeF_err hE] at hX
    have lx := hX.len
    have q2 : decide (((([] : List Ev).length : Nat) : Int) = 0) = true := rfl
    simp (maxSteps := 2000000) (disch := first | omega | assumption | (simp only [DS, Nat.reduceAdd, *]; done) | (simp only [DZ]; omega)) only [RUN, RU, footA, feetIn, resultsA, tupOf, frzL, slot, lay, icyL, fillA, repCells, kR, reduceIte, Nat.reduceEqDiff, Nat.reduceBEq, Nat.reduceLT, Nat.reduceAdd, Nat.reduceLeDiff, Nat.reduceSub, Nat.reduceMul, Int.reduceLT, Int.reduceLE, Int.reduceEq, Int.reduceAdd, Int.reduceSub, Int.reduceMul, x0, x1, x2, hal, hG1, ra, hPx, q1, lx, q2, rx]
    rfl
  obtain ⟨e1, e2⟩ := purgeF_ok.1 hE
  rw [purgeF_1 hE] at hX
  rw [hE] at hPx
  have lx := hX.len
  have ox := hX.one
  have hL := leftF_len v l
  have e3 : chk (leftF v l) = 0 := chk_left e1
  have hE2 : (purgeF v (leftF v l)).2 = 0 := purgeF_ok.2 ⟨e3, e2⟩
  obtain ⟨y, hY, hPy⟩ := purge_run (fuel := 100000) (d := 8) v hX (by omega) (by omega)
  rw [purgeF_1 hE2, leftF_up (leq_refl v)] at hY
  rw [hE2] at hPy
  have ry := hY.rows mem0
  have hC1 := crashes_run (fuel := 100000) (d := 11) hA e1 (by omega) (by omega)
  have hC2 := crashes_run (fuel := 100000) (d := 11) hX e3 (by omega) (by omega)
  rw [nums_left] at hC2
  have q3 : decide (((nums l).length : Int) = (nums l).length) = true := decide_eq_true rfl
  have hcr : ∀ e ∈ leftF v l, e.crash.length ≤ 1000000 ∧ e.crash.length < 100000 := fun e he => by have := left_crash e1 e he; omega
  have hS1 := fun M => same_run (fuel := 100000) (d := 17) hX hY (by omega) hcr (by omega) M
  have hK := fun M => check_run (fuel := 100000) (d := 12) hX (by omega) (by omega) M
  rw [e3] at hK
  obtain ⟨na, hNa, hNa'⟩ := numbers_run (fuel := 100000) (d := 19) hA (fun e he => (may_len ((chk_may e1).2 e he)).2) (by omega) (by omega)
  obtain ⟨nb, hNb, hNb'⟩ := numbers_run (fuel := 100000) (d := 19) hX (fun e he => left_crash e1 e he) (by omega) (by omega)
  rw [nums_left] at hNb
  have lna := hNa.len
  have lnb := hNb.len
  have rna := hNa.rows mem0
  have rnb := hNb.rows mem0
  have hnl := nums_len (l := l) fun e he => (may_len ((chk_may e1).2 e he)).2
  simp (maxSteps := 2000000) (disch := first | omega | assumption | (simp only [DS, Nat.reduceAdd, *]; done) | (simp only [DZ]; omega)) only [RUN, RU, footA, feetIn, resultsA, tupOf, frzL, slot, lay, icyL, fillA, repCells, kR, reduceIte, Nat.reduceEqDiff, Nat.reduceBEq, Nat.reduceLT, Nat.reduceAdd, Nat.reduceLeDiff, Nat.reduceSub, Nat.reduceMul, Int.reduceLT, Int.reduceLE, Int.reduceEq, Int.reduceAdd, Int.reduceSub, Int.reduceMul, x0, x1, x2, hal, hG1, ra, hPx, z0, rx, hPy, ry, hC1, hC2, q3, hS1, hK, hNa', hNb']
  have mm : ∀ M, M = (mem0.add (.row false [U8 v.lv, U32 v.cats])).add (.row false [U8 u.lv, U32 u.cats]) → Wf M ∧ M.size = 2 ∧ M.get 0 = some (.row false [U8 v.lv, U32 v.cats]) ∧ M.get 1 = some (.row false [U8 u.lv, U32 u.cats]) := fun M hM => by
    rw [hM]
    refine ⟨(Wf.mem0.add _).add _, rfl, ?_, ?_⟩ <;> simp (maxSteps := 2000000) (disch := first | omega | assumption | (simp only [DS, Nat.reduceAdd, *]; done) | (simp only [DZ]; omega)) only [RUN, RU, footA, feetIn, resultsA, tupOf, frzL, slot, lay, icyL, fillA, repCells, kR, reduceIte, Nat.reduceEqDiff, Nat.reduceBEq, Nat.reduceLT, Nat.reduceAdd, Nat.reduceLeDiff, Nat.reduceSub, Nat.reduceMul, Int.reduceLT, Int.reduceLE, Int.reduceEq, Int.reduceAdd, Int.reduceSub, Int.reduceMul]
  refine w_loop (I := fun n t M => ∃ i : Nat, n = (nums l).length - i ∧ i ≤ (nums l).length ∧ nth undefA t 18 = I64 i ∧ nth undefA t 16 = na ∧ nth undefA t 17 = nb ∧ nth undefA t 0 = a ∧ nth undefA t 8 = x ∧ nth undefA t 7 = BL true ∧ nth undefA t 4 = .ptr 0 0 ∧ nth undefA t 5 = .ptr 1 0 ∧ M = (mem0.add (.row false [U8 v.lv, U32 v.cats])).add (.row false [U8 u.lv, U32 u.cats])) (n := (nums l).length) (by omega) ?_ ?_
  · refine ⟨0, rfl, by omega, ?_, ?_, ?_, ?_, ?_, ?_, ?_, ?_, rfl⟩ <;> simp (maxSteps := 2000000) (disch := first | omega | assumption | (simp only [DS, Nat.reduceAdd, *]; done) | (simp only [DZ]; omega)) only [RUN, RU, footA, feetIn, resultsA, tupOf, frzL, slot, lay, icyL, fillA, repCells, kR, reduceIte, Nat.reduceEqDiff, Nat.reduceBEq, Nat.reduceLT, Nat.reduceAdd, Nat.reduceLeDiff, Nat.reduceSub, Nat.reduceMul, Int.reduceLT, Int.reduceLE, Int.reduceEq, Int.reduceAdd, Int.reduceSub, Int.reduceMul, x0, x1, x2]
    all_goals first | rfl | assumption
  rintro n t M hlt ⟨i, rfl, hi, g18, g16, g17, g0, g8, g7, g4, g5, hM⟩
  obtain ⟨wM, sM, mM0, mM1⟩ := mm M hM
  simp only [ht] at hlt ⊢
  by_cases hc : i < (nums l).length
  · have q1 : decide ((i : Int) < (nums l).length) = true := decide_eq_true (by omega)
    have q1' : decide (((nums l).length : Int) ≤ i) = false := decide_eq_false (by omega)
    obtain ⟨r1, i1, hr1, hl1⟩ := hNa.iad i hc
    obtain ⟨r2, i2, hr2, hl2⟩ := hNb.iad i hc
    obtain rfl : r1 = [I64 (nums l)[i]] := hr1
    obtain rfl : r2 = [I64 (nums l)[i]] := hr2
    have q2 : decide ((nums l)[i] = (nums l)[i]) = true := decide_eq_true rfl
    have w1 : IntKind.i64.wrap ((i : Int) + 1) = ((i + 1 : Nat) : Int) := by rw [wrap_i64] <;> omega
    simp (maxSteps := 2000000) (disch := first | omega | assumption | (simp only [DS, Nat.reduceAdd, *]; done) | (simp only [DZ]; omega)) only [RUN, RU, footA, feetIn, resultsA, tupOf, frzL, slot, lay, icyL, fillA, repCells, kR, reduceIte, Nat.reduceEqDiff, Nat.reduceBEq, Nat.reduceLT, Nat.reduceAdd, Nat.reduceLeDiff, Nat.reduceSub, Nat.reduceMul, Int.reduceLT, Int.reduceLE, Int.reduceEq, Int.reduceAdd, Int.reduceSub, Int.reduceMul, g18, g16, g17, g0, g8, g7, g4, g5, lna, lnb, rna, rnb, q1, q1', i1, i2, q2, w1]
    exact ⟨hlt, (nums l).length - (i + 1), by omega, i + 1, rfl, by omega, rfl, hM⟩
  obtain rfl : i = (nums l).length := by omega
  have q1 : decide (((nums l).length : Int) < (nums l).length) = false := decide_eq_false (by omega)
  simp (maxSteps := 2000000) (disch := first | omega | assumption | (simp only [DS, Nat.reduceAdd, *]; done) | (simp only [DZ]; omega)) only [RUN, RU, footA, feetIn, resultsA, tupOf, frzL, slot, lay, icyL, fillA, repCells, kR, reduceIte, Nat.reduceEqDiff, Nat.reduceBEq, Nat.reduceLT, Nat.reduceAdd, Nat.reduceLeDiff, Nat.reduceSub, Nat.reduceMul, Int.reduceLT, Int.reduceLE, Int.reduceEq, Int.reduceAdd, Int.reduceSub, Int.reduceMul, g18, g16, g17, g0, g8, g7, g4, g5, lna, rna, q1]
  clear hNa hNb hNa' hNb' lna lnb hS1 hK hC1 hC2
  refine w_loop (I := fun n t M => ∃ i : Nat, n = l.length - i ∧ i ≤ l.length ∧ nth undefA t 20 = I64 i ∧ nth undefA t 19 = I64 ((l.take i).countP alls : Nat) ∧ nth undefA t 0 = a ∧ nth undefA t 8 = x ∧ nth undefA t 7 = BL true ∧ nth undefA t 4 = .ptr 0 0 ∧ nth undefA t 5 = .ptr 1 0 ∧ M = (mem0.add (.row false [U8 v.lv, U32 v.cats])).add (.row false [U8 u.lv, U32 u.cats])) (n := l.length) (by omega) ?_ ?_
  · refine ⟨0, rfl, by omega, ?_, ?_, ?_, ?_, ?_, ?_, ?_, hM⟩ <;> simp (maxSteps := 2000000) (disch := first | omega | assumption | (simp only [DS, Nat.reduceAdd, *]; done) | (simp only [DZ]; omega)) only [RUN, RU, footA, feetIn, resultsA, tupOf, frzL, slot, lay, icyL, fillA, repCells, kR, reduceIte, Nat.reduceEqDiff, Nat.reduceBEq, Nat.reduceLT, Nat.reduceAdd, Nat.reduceLeDiff, Nat.reduceSub, Nat.reduceMul, Int.reduceLT, Int.reduceLE, Int.reduceEq, Int.reduceAdd, Int.reduceSub, Int.reduceMul, g0, g8, g7, g4, g5]
    all_goals first | rfl | assumption
  clear g18 g16 g17 g0 g8 g7 g4 g5
  rintro n t2 M2 hlt2 ⟨i, rfl, hi2, g20, g19, g0, g8, g7, g4, g5, hM2⟩
  simp only [hlt] at hlt2 ⊢
  by_cases hc : i < l.length
  · have q1 : decide ((i : Int) < l.length) = true := decide_eq_true (by omega)
    obtain ⟨r, hiad, ⟨da, ca, rfl, d1, c1⟩, hrl⟩ := hA.iad i hc
    have hcs := countP_snoc hc
    have hcl := List.countP_le_length (p := alls) (l := l.take i)
    rw [List.length_take] at hcl
    have w1 : IntKind.i64.wrap ((i : Int) + 1) = ((i + 1 : Nat) : Int) := by rw [wrap_i64] <;> omega
    unfold evRow at hiad hrl
    by_cases k17 : (17 : Int) ≤ l[i].kind.toNat
    · have p1 : decide ((17 : Int) ≤ l[i].kind.toNat) = true := decide_eq_true k17
      by_cases k20 : (l[i].kind.toNat : Int) < 20
      · have p2 : decide ((l[i].kind.toNat : Int) < 20) = true := decide_eq_true k20
        have hal1 : alls l[i] = true := by unfold alls; rw [p1, p2]; rfl
        rw [hal1, if_pos rfl] at hcs
        have w2 : IntKind.i64.wrap (((l.take i).countP alls : Int) + 1) = (((l.take (i + 1)).countP alls : Nat) : Int) := by rw [hcs, wrap_i64] <;> omega
        simp (maxSteps := 2000000) (disch := first | omega | assumption | (simp only [DS, Nat.reduceAdd, *]; done) | (simp only [DZ]; omega)) only [RUN, RU, footA, feetIn, resultsA, tupOf, frzL, slot, lay, icyL, fillA, repCells, kR, reduceIte, Nat.reduceEqDiff, Nat.reduceBEq, Nat.reduceLT, Nat.reduceAdd, Nat.reduceLeDiff, Nat.reduceSub, Nat.reduceMul, Int.reduceLT, Int.reduceLE, Int.reduceEq, Int.reduceAdd, Int.reduceSub, Int.reduceMul, g20, g19, g0, g8, g7, g4, g5, la, ra, q1, hiad, p1, p2, w1, w2]
        exact ⟨hlt2, l.length - (i + 1), by omega, i + 1, rfl, by omega, rfl, rfl, hM2⟩
      · have p2 : decide ((l[i].kind.toNat : Int) < 20) = false := decide_eq_false k20
        have hal1 : alls l[i] = false := by unfold alls; rw [p1, p2]; rfl
        rw [hal1, if_neg (by simp), Nat.add_zero] at hcs
        simp (maxSteps := 2000000) (disch := first | omega | assumption | (simp only [DS, Nat.reduceAdd, *]; done) | (simp only [DZ]; omega)) only [RUN, RU, footA, feetIn, resultsA, tupOf, frzL, slot, lay, icyL, fillA, repCells, kR, reduceIte, Nat.reduceEqDiff, Nat.reduceBEq, Nat.reduceLT, Nat.reduceAdd, Nat.reduceLeDiff, Nat.reduceSub, Nat.reduceMul, Int.reduceLT, Int.reduceLE, Int.reduceEq, Int.reduceAdd, Int.reduceSub, Int.reduceMul, g20, g19, g0, g8, g7, g4, g5, la, ra, q1, hiad, p1, p2, w1]
        exact ⟨hlt2, l.length - (i + 1), by omega, i + 1, rfl, by omega, rfl, by rw [hcs]; rfl, hM2⟩
    · have p1 : decide ((17 : Int) ≤ l[i].kind.toNat) = false := decide_eq_false k17
      have hal1 : alls l[i] = false := by unfold alls; rw [p1]; rfl
      rw [hal1, if_neg (by simp), Nat.add_zero] at hcs
      simp (maxSteps := 2000000) (disch := first | omega | assumption | (simp only [DS, Nat.reduceAdd, *]; done) | (simp only [DZ]; omega)) only [RUN, RU, footA, feetIn, resultsA, tupOf, frzL, slot, lay, icyL, fillA, repCells, kR, reduceIte, Nat.reduceEqDiff, Nat.reduceBEq, Nat.reduceLT, Nat.reduceAdd, Nat.reduceLeDiff, Nat.reduceSub, Nat.reduceMul, Int.reduceLT, Int.reduceLE, Int.reduceEq, Int.reduceAdd, Int.reduceSub, Int.reduceMul, g20, g19, g0, g8, g7, g4, g5, la, ra, q1, hiad, p1, w1]
      exact ⟨hlt2, l.length - (i + 1), by omega, i + 1, rfl, by omega, rfl, by rw [hcs]; rfl, hM2⟩
  obtain rfl : i = l.length := by omega
  have q1 : decide ((l.length : Int) < l.length) = false := decide_eq_false (by omega)
  rw [List.take_length] at g19
  simp (maxSteps := 2000000) (disch := first | omega | assumption | (simp only [DS, Nat.reduceAdd, *]; done) | (simp only [DZ]; omega)) only [RUN, RU, footA, feetIn, resultsA, tupOf, frzL, slot, lay, icyL, fillA, repCells, kR, reduceIte, Nat.reduceEqDiff, Nat.reduceBEq, Nat.reduceLT, Nat.reduceAdd, Nat.reduceLeDiff, Nat.reduceSub, Nat.reduceMul, Int.reduceLT, Int.reduceLE, Int.reduceEq, Int.reduceAdd, Int.reduceSub, Int.reduceMul, g20, g19, g0, g8, g7, g4, g5, la, ra, q1]
  refine w_loop (I := fun n t M => ∃ i : Nat, n = (leftF v l).length - i ∧ i ≤ (leftF v l).length ∧ nth undefA t 21 = I64 i ∧ nth undefA t 19 = I64 ((l.countP alls : Int) - (((leftF v l).take i).countP alls : Nat)) ∧ nth undefA t 0 = a ∧ nth undefA t 8 = x ∧ nth undefA t 7 = BL true ∧ nth undefA t 4 = .ptr 0 0 ∧ nth undefA t 5 = .ptr 1 0 ∧ M = (mem0.add (.row false [U8 v.lv, U32 v.cats])).add (.row false [U8 u.lv, U32 u.cats])) (n := (leftF v l).length) (by omega) ?_ ?_
  · refine ⟨0, rfl, by omega, ?_, ?_, ?_, ?_, ?_, ?_, ?_, hM2⟩ <;> simp (maxSteps := 2000000) (disch := first | omega | assumption | (simp only [DS, Nat.reduceAdd, *]; done) | (simp only [DZ]; omega)) only [RUN, RU, footA, feetIn, resultsA, tupOf, frzL, slot, lay, icyL, fillA, repCells, kR, reduceIte, Nat.reduceEqDiff, Nat.reduceBEq, Nat.reduceLT, Nat.reduceAdd, Nat.reduceLeDiff, Nat.reduceSub, Nat.reduceMul, Int.reduceLT, Int.reduceLE, Int.reduceEq, Int.reduceAdd, Int.reduceSub, Int.reduceMul, g19, g0, g8, g7, g4, g5]
    all_goals first | rfl | assumption | simp
  clear g20 g19 g0 g8 g7 g4 g5
  rintro n t3 M3 hlt3 ⟨i, rfl, hi3, g21, g19, g0, g8, g7, g4, g5, hM3⟩
  obtain ⟨wM3, sM3, mM30, mM31⟩ := mm M3 hM3
  have s30 : 0 < M3.size := by omega
  have s31 : 1 < M3.size := by omega
  simp only [hlt2] at hlt3 ⊢
  by_cases hc : i < (leftF v l).length
  · have q1 : decide ((i : Int) < (leftF v l).length) = true := decide_eq_true (by omega)
    obtain ⟨r, hiad, ⟨da, ca, rfl, d1, c1⟩, hrl⟩ := hX.iad i hc
    have hcs := countP_snoc hc
    have hcl := List.countP_le_length (p := alls) (l := l)
    have hct := List.countP_le_length (p := alls) (l := (leftF v l).take i)
    rw [List.length_take] at hct
    have hlow := low_left (v := v) (l := l) _ (List.getElem_mem hc)
    have hq := fun M => @leq_run 100000 19 (leftF v l)[i].lb v M
    have w1 : IntKind.i64.wrap ((i : Int) + 1) = ((i + 1 : Nat) : Int) := by rw [wrap_i64] <;> omega
    unfold evRow at hiad hrl
    by_cases k17 : (17 : Int) ≤ (leftF v l)[i].kind.toNat
    · have p1 : decide ((17 : Int) ≤ (leftF v l)[i].kind.toNat) = true := decide_eq_true k17
      have p3 : decide (((leftF v l)[i].kind.toNat : Int) < 17) = false := decide_eq_false (by omega)
      by_cases k20 : ((leftF v l)[i].kind.toNat : Int) < 20
      · have p2 : decide (((leftF v l)[i].kind.toNat : Int) < 20) = true := decide_eq_true k20
        have hal1 : alls (leftF v l)[i] = true := by unfold alls; rw [p1, p2]; rfl
        rw [hal1, if_pos rfl] at hcs
        have w2 : IntKind.i64.wrap ((l.countP alls : Int) - (((leftF v l).take i).countP alls : Nat) - 1) = (l.countP alls : Int) - (((leftF v l).take (i + 1)).countP alls : Nat) := by rw [hcs, wrap_i64] <;> omega
        simp (maxSteps := 2000000) (disch := first | omega | assumption | (simp only [DS, Nat.reduceAdd, *]; done) | (simp only [DZ]; omega)) only [RUN, RU, footA, feetIn, resultsA, tupOf, frzL, slot, lay, icyL, fillA, repCells, kR, reduceIte, Nat.reduceEqDiff, Nat.reduceBEq, Nat.reduceLT, Nat.reduceAdd, Nat.reduceLeDiff, Nat.reduceSub, Nat.reduceMul, Int.reduceLT, Int.reduceLE, Int.reduceEq, Int.reduceAdd, Int.reduceSub, Int.reduceMul, g21, g19, g0, g8, g7, g4, g5, lx, rx, q1, hiad, p1, p2, p3, w1, w2, mM30, mM31, s30, s31]
        exact ⟨hlt3, (leftF v l).length - (i + 1), by omega, i + 1, rfl, by omega, rfl, rfl, hM3⟩
      · have p2 : decide (((leftF v l)[i].kind.toNat : Int) < 20) = false := decide_eq_false k20
        have hal1 : alls (leftF v l)[i] = false := by unfold alls; rw [p1, p2]; rfl
        rw [hal1, if_neg (by simp)] at hcs
        simp (maxSteps := 2000000) (disch := first | omega | assumption | (simp only [DS, Nat.reduceAdd, *]; done) | (simp only [DZ]; omega)) only [RUN, RU, footA, feetIn, resultsA, tupOf, frzL, slot, lay, icyL, fillA, repCells, kR, reduceIte, Nat.reduceEqDiff, Nat.reduceBEq, Nat.reduceLT, Nat.reduceAdd, Nat.reduceLeDiff, Nat.reduceSub, Nat.reduceMul, Int.reduceLT, Int.reduceLE, Int.reduceEq, Int.reduceAdd, Int.reduceSub, Int.reduceMul, g21, g19, g0, g8, g7, g4, g5, lx, rx, q1, hiad, p1, p2, p3, w1, mM30, mM31, s30, s31]
        exact ⟨hlt3, (leftF v l).length - (i + 1), by omega, i + 1, rfl, by omega, rfl, by rw [hcs]; rfl, hM3⟩
    · have p1 : decide ((17 : Int) ≤ (leftF v l)[i].kind.toNat) = false := decide_eq_false k17
      have k3 : ((leftF v l)[i].kind.toNat : Int) < 17 := by omega
      have p3 : decide (((leftF v l)[i].kind.toNat : Int) < 17) = true := decide_eq_true k3
      rw [hlow k3] at hq
      have hal1 : alls (leftF v l)[i] = false := by unfold alls; rw [p1]; rfl
      rw [hal1, if_neg (by simp)] at hcs
      simp (maxSteps := 2000000) (disch := first | omega | assumption | (simp only [DS, Nat.reduceAdd, *]; done) | (simp only [DZ]; omega)) only [RUN, RU, footA, feetIn, resultsA, tupOf, frzL, slot, lay, icyL, fillA, repCells, kR, reduceIte, Nat.reduceEqDiff, Nat.reduceBEq, Nat.reduceLT, Nat.reduceAdd, Nat.reduceLeDiff, Nat.reduceSub, Nat.reduceMul, Int.reduceLT, Int.reduceLE, Int.reduceEq, Int.reduceAdd, Int.reduceSub, Int.reduceMul, g21, g19, g0, g8, g7, g4, g5, lx, rx, q1, hiad, p1, p3, w1, mM30, mM31, s30, s31, hq]
      exact ⟨hlt3, (leftF v l).length - (i + 1), by omega, i + 1, rfl, by omega, rfl, by rw [hcs]; rfl, hM3⟩
  obtain rfl : i = (leftF v l).length := by omega
  have q1 : decide (((leftF v l).length : Int) < (leftF v l).length) = false := decide_eq_false (by omega)
  have hcnt : (l.countP alls : Int) - (((leftF v l).take (leftF v l).length).countP alls : Nat) = 0 := by rw [List.take_length, alls_left]; omega
  rw [hcnt] at g19
  obtain ⟨z, hZ, hPz⟩ := purge_run (fuel := 100000) (d := 8) u hX (by omega) (by omega)
  obtain ⟨w, hW, hPw⟩ := purge_run (fuel := 100000) (d := 8) u hA (by omega) (by omega)
  have rz := hZ.rows mem0
  have rw' := hW.rows mem0
  have hq1 := fun M => @leq_run 100000 19 u v M
  have hq2 := fun M => @leq_run 100000 19 v u M
  cases hum : u.may with
  | false =>
    have f1 : (purgeF u (leftF v l)).2 = 8 := by unfold purgeF; rw [if_neg (by simpa using e3), hum]; rfl
    have f2 : (purgeF u l).2 = 8 := by unfold purgeF; rw [if_neg (by simpa using e1), hum]; rfl
    rw [f1] at hPz
    rw [f2] at hPw
    have z8 : decide ((8 : Int) = 0) = false := rfl
    have z88 : decide ((8 : Int) = 8) = true := rfl
    simp (maxSteps := 2000000) (disch := first | omega | assumption | (simp only [DS, Nat.reduceAdd, *]; done) | (simp only [DZ]; omega)) only [RUN, RU, footA, feetIn, resultsA, tupOf, frzL, slot, lay, icyL, fillA, repCells, kR, reduceIte, Nat.reduceEqDiff, Nat.reduceBEq, Nat.reduceLT, Nat.reduceAdd, Nat.reduceLeDiff, Nat.reduceSub, Nat.reduceMul, Int.reduceLT, Int.reduceLE, Int.reduceEq, Int.reduceAdd, Int.reduceSub, Int.reduceMul, g21, g19, g0, g8, g7, g4, g5, lx, rx, ra, q1, mM30, mM31, s30, s31, hPz, hPw, z0, z8, z88]
  | true =>
    have f1 : (purgeF u (leftF v l)).2 = 0 := purgeF_ok.2 ⟨e3, hum⟩
    have f2 : (purgeF u l).2 = 0 := purgeF_ok.2 ⟨e1, hum⟩
    rw [f1] at hPz
    rw [f2] at hPw
    rw [purgeF_1 f1] at hZ
    rw [purgeF_1 f2] at hW
    have hLu := leftF_len u (leftF v l)
    have hcu : ∀ e ∈ leftF u (leftF v l), e.crash.length ≤ 1000000 ∧ e.crash.length < 100000 := fun e he => by have := left_crash e3 e he; omega
    cases hk1 : u.leq v with
    | true =>
      rw [hk1] at hq1
      have hW' := hW
      rw [← leftF_down hk1 l] at hW'
      have hS2 := fun M => same_run (fuel := 100000) (d := 17) hZ hW' (by omega) hcu (by omega) M
      cases hk2 : v.leq u with
      | true =>
        rw [hk2] at hq2
        have hX' := hX
        rw [← leftF_up hk2 l] at hX'
        have hS3 := fun M => same_run (fuel := 100000) (d := 17) hZ hX' (by omega) hcu (by omega) M
        simp (maxSteps := 2000000) (disch := first | omega | assumption | (simp only [DS, Nat.reduceAdd, *]; done) | (simp only [DZ]; omega)) only [RUN, RU, footA, feetIn, resultsA, tupOf, frzL, slot, lay, icyL, fillA, repCells, kR, reduceIte, Nat.reduceEqDiff, Nat.reduceBEq, Nat.reduceLT, Nat.reduceAdd, Nat.reduceLeDiff, Nat.reduceSub, Nat.reduceMul, Int.reduceLT, Int.reduceLE, Int.reduceEq, Int.reduceAdd, Int.reduceSub, Int.reduceMul, g21, g19, g0, g8, g7, g4, g5, lx, rx, ra, q1, mM30, mM31, s30, s31, hPz, hPw, z0, hq1, hq2, hS2, hS3, rz, rw']
      | false =>
        rw [hk2] at hq2
        simp (maxSteps := 2000000) (disch := first | omega | assumption | (simp only [DS, Nat.reduceAdd, *]; done) | (simp only [DZ]; omega)) only [RUN, RU, footA, feetIn, resultsA, tupOf, frzL, slot, lay, icyL, fillA, repCells, kR, reduceIte, Nat.reduceEqDiff, Nat.reduceBEq, Nat.reduceLT, Nat.reduceAdd, Nat.reduceLeDiff, Nat.reduceSub, Nat.reduceMul, Int.reduceLT, Int.reduceLE, Int.reduceEq, Int.reduceAdd, Int.reduceSub, Int.reduceMul, g21, g19, g0, g8, g7, g4, g5, lx, rx, ra, q1, mM30, mM31, s30, s31, hPz, hPw, z0, hq1, hq2, hS2, rz, rw']
    | false =>
      rw [hk1] at hq1
      cases hk2 : v.leq u with
      | true =>
        rw [hk2] at hq2
        have hX' := hX
        rw [← leftF_up hk2 l] at hX'
        have hS3 := fun M => same_run (fuel := 100000) (d := 17) hZ hX' (by omega) hcu (by omega) M
        simp (maxSteps := 2000000) (disch := first | omega | assumption | (simp only [DS, Nat.reduceAdd, *]; done) | (simp only [DZ]; omega)) only [RUN, RU, footA, feetIn, resultsA, tupOf, frzL, slot, lay, icyL, fillA, repCells, kR, reduceIte, Nat.reduceEqDiff, Nat.reduceBEq, Nat.reduceLT, Nat.reduceAdd, Nat.reduceLeDiff, Nat.reduceSub, Nat.reduceMul, Int.reduceLT, Int.reduceLE, Int.reduceEq, Int.reduceAdd, Int.reduceSub, Int.reduceMul, g21, g19, g0, g8, g7, g4, g5, lx, rx, ra, q1, mM30, mM31, s30, s31, hPz, hPw, z0, hq1, hq2, hS3, rz, rw']
      | false =>
        rw [hk2] at hq2
        simp (maxSteps := 2000000) (disch := first | omega | assumption | (simp only [DS, Nat.reduceAdd, *]; done) | (simp only [DZ]; omega)) only [RUN, RU, footA, feetIn, resultsA, tupOf, frzL, slot, lay, icyL, fillA, repCells, kR, reduceIte, Nat.reduceEqDiff, Nat.reduceBEq, Nat.reduceLT, Nat.reduceAdd, Nat.reduceLeDiff, Nat.reduceSub, Nat.reduceMul, Int.reduceLT, Int.reduceLE, Int.reduceEq, Int.reduceAdd, Int.reduceSub, Int.reduceMul, g21, g19, g0, g8, g7, g4, g5, lx, rx, ra, q1, mM30, mM31, s30, s31, hPz, hPw, z0, hq1, hq2, rz, rw']
theorem run_args (a0 a1 a2 : AV) (h0 : IsA (.sl gEv) a0) (h1 : IsA gLb a1) (h2 : IsA gLb a2) :
    callN Tryd.prog (fsT tbl) 100000 21 (.fn 5) [a0, a1, a2] mem0 = some (BL true, mem0) := by
  obtain ⟨a, la, h0', hA⟩ := Is.slice of_ev h0
  obtain rfl : a0 = a := by simpa using h0'
  obtain ⟨as1, rfl, h1⟩ := h1
  obtain ⟨v, rfl⟩ := of_lb (by simpa only [gLb, Is] using h1)
  obtain ⟨as2, rfl, h2⟩ := h2
  obtain ⟨u, rfl⟩ := of_lb (by simpa only [gLb, Is] using h2)
  exact law_run v u hA
end purgeAgain
end Go.Proofs.YtjbninmklbkklaaDoor
