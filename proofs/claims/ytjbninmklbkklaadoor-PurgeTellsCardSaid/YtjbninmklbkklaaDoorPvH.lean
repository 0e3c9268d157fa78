/-
  purge: the law's spoil.
-/
import Derived.Test.YtjbninmklbkklaaDoorPvG
set_option linter.unusedSimpArgs false
set_option linter.unusedVariables false
set_option maxRecDepth 100000
namespace Go.Proofs.YtjbninmklbkklaaDoor
open Go Go.Ax
variable {fuel : Nat} {M : Mem} {Q : AV → Mem → Prop} {d : Nat}

theorem part_at {rows : List (List AV)} {i off : Nat} {r : List AV} {x : AV} (hr : ∀ r ∈ rows, r.length = 17) (hi : rows[i]? = some r) (hx : r[off]? = some x)  : rows.flatten[i * 17 + off]? = some x := by
  have h := flat_slot (st := 17) hr i r hi
  rw [← hx, ← h]
  unfold slot
  have ho : off < 17 := by
    have := (List.getElem?_eq_some_iff.1 hx).1
    rwa [hr r (List.mem_of_getElem? hi)] at this
  rw [List.getElem?_take, if_pos ho, List.getElem?_drop]
set_option maxHeartbeats 4000000 in
theorem spoil_run {o : AV} {n L : Nat} (hS : ShX M o n L) (hn : n < fuel) (hL : L < fuel) (hn2 : n ≤ 1000000) (hL2 : L ≤ 1000000000000000) (wf : Wf M)
    (k : ∀ N, Wf N → Pres M N → Q (.tup []) N) : W3 (callN Tryd.prog (fsT tbl) fuel (d + 1) (.fn 22) [o] M) Q := by
  refine call_0 tf22 rfl (by simp [a22]) fun b' ht hx => ?_
  have h0 := hx 0 _ rfl
  clear hx
  simp only [a22, c22] at ht ⊢
  simp (maxSteps := 2000000) (disch := first | omega | assumption | (simp only [DS, Nat.reduceAdd, *]; done) | (simp only [DZ]; omega)) only [RUN, RU, footA, feetIn, resultsA, tupOf, frzL, slot, lay, icyL, fillA, repCells, kR, reduceIte, Nat.reduceEqDiff, Nat.reduceBEq, Nat.reduceLT, Nat.reduceAdd, Nat.reduceLeDiff, Nat.reduceSub, Nat.reduceMul, Int.reduceLT, Int.reduceLE, Int.reduceEq, Int.reduceAdd, Int.reduceSub, Int.reduceMul, h0, wf]
  refine w_loop (I := fun m t N => ∃ i : Nat, m = n - i ∧ i ≤ n ∧ nth undefA t 0 = o ∧ nth undefA t 2 = I64 i ∧ Wf N ∧ Pres M N) (n := n) hn ?_ ?_
  · refine ⟨0, rfl, by omega, ?_, ?_, wf, Pres.refl _⟩ <;> simp (maxSteps := 2000000) (disch := first | omega | assumption | (simp only [DS, Nat.reduceAdd, *]; done) | (simp only [DZ]; omega)) only [RUN, RU, footA, feetIn, resultsA, tupOf, frzL, slot, lay, icyL, fillA, repCells, kR, reduceIte, Nat.reduceEqDiff, Nat.reduceBEq, Nat.reduceLT, Nat.reduceAdd, Nat.reduceLeDiff, Nat.reduceSub, Nat.reduceMul, Int.reduceLT, Int.reduceLE, Int.reduceEq, Int.reduceAdd, Int.reduceSub, Int.reduceMul, h0]
    all_goals rfl
  · rintro m t N hlt ⟨i, rfl, hi, g0, g2, wN, pN⟩
    simp only [ht] at hlt ⊢
    have hS' := hS.pres pN
    by_cases hc : i < n
    · have q1 : decide ((i : Int) < n) = true := decide_eq_true (by omega)
      have w1 : IntKind.i64.wrap ((i : Int) + 1) = ((i + 1 : Nat) : Int) := by rw [wrap_i64] <;> omega
      rcases hS' with ⟨_, h⟩ | ⟨id, cap, rows, rfl, hg, hl, hr⟩
      · omega
      have hir : rows[i]? = some rows[i] := List.getElem?_eq_getElem (by omega)
      obtain ⟨e, da, ca, nd, nc, hre, hda, hca, ld, lc⟩ := hr rows[i] (List.getElem_mem (by omega))
      rw [hre] at hir
      have hr17 : ∀ r ∈ rows, r.length = 17 := fun r h => by
        obtain ⟨_, _, _, _, _, h, _⟩ := hr r h
        rw [h]; rfl
      have p1 := part_at (off := 16) (x := ca) hr17 hir rfl
      have p2 := part_at (off := 11) (x := da) hr17 hir rfl
      have lid := Mem.get_lt hg
      simp (maxSteps := 2000000) (disch := first | omega | assumption | (simp only [DS, Nat.reduceAdd, *]; done) | (simp only [DZ]; omega)) only [RUN, RU, footA, feetIn, resultsA, tupOf, frzL, slot, lay, icyL, fillA, repCells, kR, reduceIte, Nat.reduceEqDiff, Nat.reduceBEq, Nat.reduceLT, Nat.reduceAdd, Nat.reduceLeDiff, Nat.reduceSub, Nat.reduceMul, Int.reduceLT, Int.reduceLE, Int.reduceEq, Int.reduceAdd, Int.reduceSub, Int.reduceMul, g0, g2, q1]
      refine w_loop (I := fun m t N' => ∃ k : Nat, m = nc - k ∧ k ≤ nc ∧ nth undefA t 0 = .sl id 0 n cap 17 ∧ nth undefA t 2 = I64 i ∧ nth undefA t 3 = I64 k ∧ Wf N' ∧ Pres N N') (n := nc) (by omega) ?_ ?_
      · refine ⟨0, rfl, by omega, ?_, ?_, ?_, wN, Pres.refl _⟩ <;> simp (maxSteps := 2000000) (disch := first | omega | assumption | (simp only [DS, Nat.reduceAdd, *]; done) | (simp only [DZ]; omega)) only [RUN, RU, footA, feetIn, resultsA, tupOf, frzL, slot, lay, icyL, fillA, repCells, kR, reduceIte, Nat.reduceEqDiff, Nat.reduceBEq, Nat.reduceLT, Nat.reduceAdd, Nat.reduceLeDiff, Nat.reduceSub, Nat.reduceMul, Int.reduceLT, Int.reduceLE, Int.reduceEq, Int.reduceAdd, Int.reduceSub, Int.reduceMul, g0, g2]
        all_goals rfl
      · rintro m t1 N1 hlt1 ⟨k1, rfl, hk1, f0, f2, f3, w1', p1'⟩
        rw [hlt] at hlt1 ⊢
        have hg1 := p1'.big hg hir
        have hca1 := hca.pres p1'
        have s1 := p1'.1
        by_cases hc1 : k1 < nc
        · have q2 : decide ((k1 : Int) < nc) = true := decide_eq_true (by omega)
          have w2 : IntKind.i64.wrap ((k1 : Int) + 1) = ((k1 + 1 : Nat) : Int) := by rw [wrap_i64] <;> omega
          rcases hca1 with ⟨_, h⟩ | ⟨id1, cap1, cs1, rfl, hg2, hl2, hi2⟩
          · omega
          have lid1 := Mem.get_lt hg2
          obtain ⟨i3, l3⟩ := int_lay (z := -7) (k := 0 + k1 * 1) hi2 (by omega)
          have pu := Pres.upd w1' hg2 l3 (.inl ⟨hi2, i3⟩)
          simp (maxSteps := 2000000) (disch := first | omega | assumption | (simp only [DS, Nat.reduceAdd, *]; done) | (simp only [DZ]; omega)) only [RUN, RU, footA, feetIn, resultsA, tupOf, frzL, slot, lay, icyL, fillA, repCells, kR, reduceIte, Nat.reduceEqDiff, Nat.reduceBEq, Nat.reduceLT, Nat.reduceAdd, Nat.reduceLeDiff, Nat.reduceSub, Nat.reduceMul, Int.reduceLT, Int.reduceLE, Int.reduceEq, Int.reduceAdd, Int.reduceSub, Int.reduceMul, f0, f2, f3, q2, w2, hg1, p1, hg2, w1']
          exact ⟨hlt1, nc - (k1 + 1), by omega, k1 + 1, rfl, by omega, rfl, by simpa only [lay, Nat.zero_add, List.length_cons, List.length_nil] using p1'.trans pu⟩
        · obtain rfl : k1 = nc := by omega
          have q2 : decide ((k1 : Int) < k1) = false := decide_eq_false (by omega)
          have hlen : ∀ N, lenO N ca = some (I64 k1, N) := fun N => by
            rcases hca with ⟨rfl, rfl⟩ | ⟨_, _, _, rfl, _⟩ <;> rfl
          simp (maxSteps := 2000000) (disch := first | omega | assumption | (simp only [DS, Nat.reduceAdd, *]; done) | (simp only [DZ]; omega)) only [RUN, RU, footA, feetIn, resultsA, tupOf, frzL, slot, lay, icyL, fillA, repCells, kR, reduceIte, Nat.reduceEqDiff, Nat.reduceBEq, Nat.reduceLT, Nat.reduceAdd, Nat.reduceLeDiff, Nat.reduceSub, Nat.reduceMul, Int.reduceLT, Int.reduceLE, Int.reduceEq, Int.reduceAdd, Int.reduceSub, Int.reduceMul, f0, f2, f3, q2, hg1, p1, hlen, w1']
          refine w_loop (I := fun m t N' => ∃ k : Nat, m = nd - k ∧ k ≤ nd ∧ nth undefA t 0 = .sl id 0 n cap 17 ∧ nth undefA t 2 = I64 i ∧ nth undefA t 4 = I64 k ∧ Wf N' ∧ Pres N N') (n := nd) (by omega) ?_ ?_
          · refine ⟨0, rfl, by omega, ?_, ?_, ?_, w1', p1'⟩ <;> simp (maxSteps := 2000000) (disch := first | omega | assumption | (simp only [DS, Nat.reduceAdd, *]; done) | (simp only [DZ]; omega)) only [RUN, RU, footA, feetIn, resultsA, tupOf, frzL, slot, lay, icyL, fillA, repCells, kR, reduceIte, Nat.reduceEqDiff, Nat.reduceBEq, Nat.reduceLT, Nat.reduceAdd, Nat.reduceLeDiff, Nat.reduceSub, Nat.reduceMul, Int.reduceLT, Int.reduceLE, Int.reduceEq, Int.reduceAdd, Int.reduceSub, Int.reduceMul, f0, f2]
            all_goals rfl
          · rintro m t2 N2 hlt2 ⟨k2, rfl, hk2, e0, e2, e4, w2', p2'⟩
            rw [hlt1] at hlt2 ⊢
            have hg3 := p2'.big hg hir
            have hda1 := hda.pres p2'
            have s2 := p2'.1
            by_cases hc2 : k2 < nd
            · have q3 : decide ((k2 : Int) < nd) = true := decide_eq_true (by omega)
              have w3 : IntKind.i64.wrap ((k2 : Int) + 1) = ((k2 + 1 : Nat) : Int) := by rw [wrap_i64] <;> omega
              rcases hda1 with ⟨_, h⟩ | ⟨id2, cap2, cs2, rfl, hg4, hl4, hi4⟩
              · omega
              have lid2 := Mem.get_lt hg4
              obtain ⟨z, hz⟩ := hi4 cs2[k2] (List.getElem_mem (by omega))
              have pz : cs2[k2]? = some (U8 z) := by rw [List.getElem?_eq_getElem (by omega), hz]
              have pu := fun y => Pres.upd w2' hg4 (byte_lay (z := y) (k := 0 + k2 * 1) hi4 (by omega)).2 (.inr ⟨hi4, (byte_lay (z := y) (k := 0 + k2 * 1) hi4 (by omega)).1⟩)
              have aq := fun a b => apart2_q a b N2.size
              have m1 : k2 * 1 = k2 := Nat.mul_one _
              simp (maxSteps := 2000000) (disch := first | omega | assumption | (simp only [DS, Nat.reduceAdd, *]; done) | (simp only [DZ]; omega)) only [RUN, RU, footA, feetIn, resultsA, tupOf, frzL, slot, lay, icyL, fillA, repCells, kR, reduceIte, Nat.reduceEqDiff, Nat.reduceBEq, Nat.reduceLT, Nat.reduceAdd, Nat.reduceLeDiff, Nat.reduceSub, Nat.reduceMul, Int.reduceLT, Int.reduceLE, Int.reduceEq, Int.reduceAdd, Int.reduceSub, Int.reduceMul, e0, e2, e4, q3, w3, hg3, p2, hg4, w2', pz, m1, aq]
              exact ⟨hlt2, nd - (k2 + 1), by omega, k2 + 1, rfl, by omega, rfl, by simpa only [lay, Nat.zero_add, Nat.mul_one, List.length_cons, List.length_nil] using p2'.trans (pu _)⟩
            · obtain rfl : k2 = nd := by omega
              have q3 : decide ((k2 : Int) < k2) = false := decide_eq_false (by omega)
              have hlen2 : ∀ N, lenO N da = some (I64 k2, N) := fun N => by
                rcases hda with ⟨rfl, rfl⟩ | ⟨_, _, _, rfl, _⟩ <;> rfl
              simp (maxSteps := 2000000) (disch := first | omega | assumption | (simp only [DS, Nat.reduceAdd, *]; done) | (simp only [DZ]; omega)) only [RUN, RU, footA, feetIn, resultsA, tupOf, frzL, slot, lay, icyL, fillA, repCells, kR, reduceIte, Nat.reduceEqDiff, Nat.reduceBEq, Nat.reduceLT, Nat.reduceAdd, Nat.reduceLeDiff, Nat.reduceSub, Nat.reduceMul, Int.reduceLT, Int.reduceLE, Int.reduceEq, Int.reduceAdd, Int.reduceSub, Int.reduceMul, e0, e2, e4, q3, hg3, p2, hlen2, w2', w1]
              exact ⟨hlt2, n - (i + 1), by omega, i + 1, rfl, by omega, rfl, pN.trans p2'⟩
    · obtain rfl : i = n := by omega
      have q1 : decide ((i : Int) < i) = false := decide_eq_false (by omega)
      have hlen : ∀ N, lenO N o = some (I64 i, N) := fun N => by
        rcases hS with ⟨rfl, rfl⟩ | ⟨_, _, _, rfl, _⟩ <;> rfl
      simp (maxSteps := 2000000) (disch := first | omega | assumption | (simp only [DS, Nat.reduceAdd, *]; done) | (simp only [DZ]; omega)) only [RUN, RU, footA, feetIn, resultsA, tupOf, frzL, slot, lay, icyL, fillA, repCells, kR, reduceIte, Nat.reduceEqDiff, Nat.reduceBEq, Nat.reduceLT, Nat.reduceAdd, Nat.reduceLeDiff, Nat.reduceSub, Nat.reduceMul, Int.reduceLT, Int.reduceLE, Int.reduceEq, Int.reduceAdd, Int.reduceSub, Int.reduceMul, g0, g2, q1, hlen]
      exact k _ wN pN
end Go.Proofs.YtjbninmklbkklaaDoor
