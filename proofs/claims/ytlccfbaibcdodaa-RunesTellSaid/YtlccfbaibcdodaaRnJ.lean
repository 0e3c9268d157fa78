/-
  runes: Get, the run: the chunks, the whole.
-/
import Derived.Test.YtlccfbaibcdodaaRnI
set_option linter.unusedSimpArgs false
set_option linter.unusedVariables false
set_option maxRecDepth 100000
namespace Go.Proofs.Ytlccfbaibcdodaa
open Go Go.Ax
variable {fuel : Nat} {M : Mem} {Q : AV → Mem → Prop} {d : Nat}

theorem four_of {l : List UInt8} {i : Nat} (h : i + 4 ≤ l.length) : ∃ a b c e, (l.drop i).take 4 = [a, b, c, e] := by
  have hl : (l.drop i).length = l.length - i := by simp
  match hd : l.drop i, hl with
  | a :: b :: c :: e :: tl, _ => exact ⟨a, b, c, e, rfl⟩
  | [], hl => simp at hl; omega
  | [_], hl => simp at hl; omega
  | [_, _], hl => simp at hl; omega
  | [_, _, _], hl => simp at hl; omega

set_option maxHeartbeats 8000000 in
theorem chunk1_run {a : AV} {l : List UInt8} {id df : Nat} {tm : List AV} (hS : Bs a l) (h4 : l.length % 4 = 0) (hl : l.length ≤ 256) (hf : 1000 < fuel) (wf : Wf M) (hg : M.get id = some (.loop .ready none tm [17] cG1 cG2 df)) (h2 : nth undefA tm 2 = .ptr 0 0) (hlen : tm.length = 50) (m0 : M.get 0 = some (.row false [NIL])) (m1 : M.get 1 = some (.row false [a])) (m2 : M.get 2 = some (.row false [I64 4])) (z0 : id ≠ 0) (z1 : id ≠ 1) (z2 : id ≠ 2)
    (k : ∀ u o N, Wf N → M.size ≤ N.size → N.get 0 = some (.row false [o]) → SlM N 1 isI32 o (nums l) → (∀ j, rowOf o = some j → M.size ≤ j) → N.get id = some (.loop .ready none tm [17] cG1 cG2 df) → (∀ j, j < M.size → j ≠ 0 → j ≠ id → N.get j = M.get j) → Q u N) :
    W3 (callN Try.prog (fsT tbl) fuel (d + 2) (.fn 37) [.yl id, .ptr 1 0, .ptr 2 0] M) Q := by
  have ll := hS.len
  have lr := hS.rows mem0
  have s0 := Mem.get_lt m0
  have s1 := Mem.get_lt m1
  have s2 := Mem.get_lt m2
  have si := Mem.get_lt hg
  refine call_0 tf37 rfl (by simp [a37]) fun b ht hx => ?_
  have x0 := hx 0 _ rfl
  have x1 := hx 1 _ rfl
  have x2 := hx 2 _ rfl
  clear hx
  simp only [a37, c37] at ht ⊢
  simp (maxSteps := 2000000) (disch := first | omega | assumption | (simp only [DS, Nat.reduceAdd, *]; done) | (simp only [DZ]; omega)) only [RUN, RU, footA, feetIn, resultsA, tupOf, frzL, slot, lay, icyL, fillA, repCells, kR, reduceIte, Nat.reduceEqDiff, Nat.reduceBEq, Nat.reduceLT, Nat.reduceAdd, Nat.reduceLeDiff, Nat.reduceSub, Nat.reduceMul, Int.reduceLT, Int.reduceLE, Int.reduceEq, Int.reduceAdd, Int.reduceSub, Int.reduceMul, x0, x1, x2]
  refine w_loop (I := fun n t M' => ∃ (i : Nat) (o : AV), n = l.length - i ∧ i ≤ l.length ∧ i % 4 = 0 ∧ nth undefA t 4 = I64 i ∧ nth undefA t 0 = .yl id ∧ nth undefA t 1 = .ptr 1 0 ∧ nth undefA t 2 = .ptr 2 0 ∧ Wf M' ∧ M.size ≤ M'.size ∧ M'.get 0 = some (.row false [o]) ∧ SlM M' 1 isI32 o (nums (l.take i)) ∧ (∀ j, rowOf o = some j → M.size ≤ j) ∧ M'.get id = some (.loop .ready none tm [17] cG1 cG2 df) ∧ (∀ j, j < M.size → j ≠ 0 → j ≠ id → M'.get j = M.get j)) (n := l.length) (by omega) ?_ ?_
  · refine ⟨0, NIL, rfl, by omega, rfl, ?_, ?_, ?_, ?_, wf, Nat.le_refl _, m0, SlM.nil, (fun j h => by cases h), hg, fun j _ _ _ => rfl⟩ <;> simp (maxSteps := 2000000) (disch := first | omega | assumption | (simp only [DS, Nat.reduceAdd, *]; done) | (simp only [DZ]; omega)) only [RUN, RU, footA, feetIn, resultsA, tupOf, frzL, slot, lay, icyL, fillA, repCells, kR, reduceIte, Nat.reduceEqDiff, Nat.reduceBEq, Nat.reduceLT, Nat.reduceAdd, Nat.reduceLeDiff, Nat.reduceSub, Nat.reduceMul, Int.reduceLT, Int.reduceLE, Int.reduceEq, Int.reduceAdd, Int.reduceSub, Int.reduceMul, x0, x1, x2]
    all_goals first | rfl | assumption
  · rintro n t M' hlt ⟨i, o, rfl, hi, hi4, g4, g0, g1, g2, wf', ls, n0, hm, hno, mi, hk⟩
    simp only [ht] at hlt ⊢
    have p1 : M'.get 1 = some (.row false [a]) := (hk 1 s1 (by omega) (fun e => z1 e.symm)).trans m1
    have p2 : M'.get 2 = some (.row false [I64 4]) := (hk 2 s2 (by omega) (fun e => z2 e.symm)).trans m2
    by_cases hc : i < l.length
    · have q1 : decide ((i : Int) < l.length) = true := decide_eq_true (by omega)
      have hi' : i + 4 ≤ l.length := by omega
      obtain ⟨af, cf, bf⟩ := cut_from hS (i := i) (by omega)
      obtain ⟨am, cm, bm⟩ := cut_mid hS (i := i) (j := i + 4) (by omega) hi'
      rw [show i + 4 - i = 4 by omega] at bm
      obtain ⟨e0, e1, e2, e3, he⟩ := four_of hi'
      rw [he] at bm
      have lf := bf.len
      have rf := bf.rows mem0
      have rm := bm.rows mem0
      have hmin : (if ((l.drop i).length : Int) < 4 then ((l.drop i).length : Int) else 4) = 4 := by rw [List.length_drop, if_neg (by omega)]
      have w1 : IntKind.i64.wrap ((i : Int) + 4) = ((i + 4 : Nat) : Int) := by rw [wrap_i64] <;> omega
      have zi' : 1 < M'.size := by omega
      have zi2 : 2 < M'.size := by omega
      have hns : nums (l.take (i + 4)) = nums (l.take i) ++ [IntKind.i32.wrap (num4 e0 e1 e2 e3 : Nat)] := by
        refine nums_four (l.take i) ⟨i / 4, ?_, by rw [List.length_take]; omega⟩
        rw [← he, List.take_add]
      have hnl := nums_len (l.take i)
      rw [List.length_take] at hnl
      have ho1 : rowOf o ≠ some 0 := fun h => by have := hno 0 h; omega
      have hoi : rowOf o ≠ some id := fun h => by have := hno id h; omega
      simp (maxSteps := 2000000) (disch := first | omega | assumption | (simp only [DS, Nat.reduceAdd, *]; done) | (simp only [DZ]; omega)) only [RUN, RU, footA, feetIn, resultsA, tupOf, frzL, slot, lay, icyL, fillA, repCells, kR, reduceIte, Nat.reduceEqDiff, Nat.reduceBEq, Nat.reduceLT, Nat.reduceAdd, Nat.reduceLeDiff, Nat.reduceSub, Nat.reduceMul, Int.reduceLT, Int.reduceLE, Int.reduceEq, Int.reduceAdd, Int.reduceSub, Int.reduceMul, g4, g0, g1, g2, q1, p1, p2, ll, lr, cf, cm, lf, rf, rm, pMin2, pmn_int, hmin, w1]
      refine gyield_run (df := df) wf' mi h2 hlen bm n0 z0 hm ho1 hoi (by omega) (fun o' N wN lN n1 nm ni nk nn => ?_)
      rw [← hns] at nm
      simp (maxSteps := 2000000) (disch := first | omega | assumption | (simp only [DS, Nat.reduceAdd, *]; done) | (simp only [DZ]; omega)) only [RUN, RU, footA, feetIn, resultsA, tupOf, frzL, slot, lay, icyL, fillA, repCells, kR, reduceIte, Nat.reduceEqDiff, Nat.reduceBEq, Nat.reduceLT, Nat.reduceAdd, Nat.reduceLeDiff, Nat.reduceSub, Nat.reduceMul, Int.reduceLT, Int.reduceLE, Int.reduceEq, Int.reduceAdd, Int.reduceSub, Int.reduceMul, g4, g0, g1, g2, w1]
      have gg : N.get 2 = some (.row false [I64 4]) := (nk 2 (by omega) (by omega) (fun e => z2 e.symm) (fun h => by have := hno 2 h; omega)).trans p2
      have zN : 2 < N.size := by omega
      simp (maxSteps := 2000000) (disch := first | omega | assumption | (simp only [DS, Nat.reduceAdd, *]; done) | (simp only [DZ]; omega)) only [RUN, RU, footA, feetIn, resultsA, tupOf, frzL, slot, lay, icyL, fillA, repCells, kR, reduceIte, Nat.reduceEqDiff, Nat.reduceBEq, Nat.reduceLT, Nat.reduceAdd, Nat.reduceLeDiff, Nat.reduceSub, Nat.reduceMul, Int.reduceLT, Int.reduceLE, Int.reduceEq, Int.reduceAdd, Int.reduceSub, Int.reduceMul, g4, g0, g1, g2, w1, gg]
      refine ⟨hlt, l.length - (i + 4), by omega, i + 4, o', rfl, by omega, by omega, rfl, wN, by omega, n1, nm, fun j hj => ?_, ni, fun j b1 b2 b3 => ?_⟩
      · rcases nn j hj with h | h
        · exact hno j h
        · omega
      · rw [nk j (by omega) b2 b3 (fun h => by have := hno j h; omega)]
        exact hk j b1 b2 b3
    · obtain rfl : i = l.length := by omega
      have q1 : decide ((l.length : Int) < l.length) = false := decide_eq_false (by omega)
      rw [List.take_length] at hm
      have zi' : 1 < M'.size := by omega
      simp (maxSteps := 2000000) (disch := first | omega | assumption | (simp only [DS, Nat.reduceAdd, *]; done) | (simp only [DZ]; omega)) only [RUN, RU, footA, feetIn, resultsA, tupOf, frzL, slot, lay, icyL, fillA, repCells, kR, reduceIte, Nat.reduceEqDiff, Nat.reduceBEq, Nat.reduceLT, Nat.reduceAdd, Nat.reduceLeDiff, Nat.reduceSub, Nat.reduceMul, Int.reduceLT, Int.reduceLE, Int.reduceEq, Int.reduceAdd, Int.reduceSub, Int.reduceMul, g4, g0, g1, g2, q1, p1, ll, lr]
      exact k _ o M' wf' ls n0 hm hno mi hk
end Go.Proofs.Ytlccfbaibcdodaa
