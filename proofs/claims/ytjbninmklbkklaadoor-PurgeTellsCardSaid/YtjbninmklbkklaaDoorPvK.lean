/-
  purge: Crashes, the reference's and the program's.
-/
import Derived.Test.YtjbninmklbkklaaDoorPvJ
import Derived.Test.YtjbninmklbkklaaDoorPvE
set_option linter.unusedSimpArgs false
set_option linter.unusedVariables false
set_option maxRecDepth 100000
namespace Go.Proofs.YtjbninmklbkklaaDoor
open Go Go.Ax
variable {fuel : Nat} {M : Mem} {Q : AV → Mem → Prop} {d : Nat}

def crashN (l : List Ev) : Nat := (l.map fun e => e.crash.length).sum
theorem crashN_snoc (l : List Ev) (i : Nat) (h : i < l.length) : crashN (l.take (i + 1)) = crashN (l.take i) + l[i].crash.length := by
  rw [take_snoc l i h]; simp only [crashN, List.map_append, List.sum_append, List.map_cons, List.map_nil, List.sum_cons, List.sum_nil, Nat.add_zero]
theorem crashN_le {l : List Ev} (h : chk l = 0) (i : Nat) : crashN (l.take i) ≤ 6144 := by
  obtain ⟨h1, h2⟩ := chk_may h
  have : ∀ (m : List Ev), (∀ e ∈ m, e.may = true) → crashN m ≤ 3 * m.length := by
    intro m
    induction m with
    | nil => intro _; simp [crashN]
    | cons e m ih =>
      intro hm
      have a := (may_len (hm e (by simp))).2
      have b := ih fun x hx => hm x (by simp [hx])
      simp only [crashN, List.map_cons, List.sum_cons, List.length_cons] at b ⊢
      omega
  have := this (l.take i) fun e he => h2 e (List.mem_of_mem_take he)
  rw [List.length_take] at this
  omega
def crashesF (l : List Ev) : Int × Int := if chk l ≠ 0 then (0, chk l) else ((crashN l : Int), 0)
theorem evRow_crash (e : Ev) (da ca : AV) : (evRow e da ca)[16]? = some ca := rfl
set_option maxHeartbeats 4000000 in
theorem crashes1_run {a : AV} {l : List Ev} (hS : Sl 17 isEv a l) (hl : l.length ≤ 1000000) (hf : l.length + 100 < fuel) (M : Mem) : callN Tryd.prog (fsT tbl) fuel (d + 5) (.fn 18) [a] M = some (.tup [I64 (crashesF l).1, I64 (crashesF l).2], M) := by
  have ll := hS.len
  have hck := fun M => check1_run (fuel := fuel) (d := d) hS hl hf M
  apply w3_eq
  refine call_gc tf18 rfl (by simp (maxSteps := 2000000) (disch := first | omega | assumption | (simp only [DS, Nat.reduceAdd, *]; done) | (simp only [DZ]; omega)) only [RUN, RU, footA, feetIn, resultsA, tupOf, frzL, slot, lay, icyL, fillA, repCells, kR, reduceIte, Nat.reduceEqDiff, Nat.reduceBEq, Nat.reduceLT, Nat.reduceAdd, Nat.reduceLeDiff, Nat.reduceSub, Nat.reduceMul, Int.reduceLT, Int.reduceLE, Int.reduceEq, Int.reduceAdd, Int.reduceSub, Int.reduceMul, hS.fz.rows, hS.fz.one, hS.fz.cells, hS.fz.icy, hS.fz.frz]) (by simp [a18]) fun b' ht hx => ?_
  have h0 := hx 0 _ rfl
  clear hx
  simp only [a18, c18] at ht ⊢
  by_cases hc : chk l = 0
  · have hr : crashesF l = ((crashN l : Int), 0) := by unfold crashesF; rw [if_neg (by simpa using hc)]
    have z0 : decide ((0 : Int) = 0) = true := rfl
    rw [hc] at hck
    simp (maxSteps := 2000000) (disch := first | omega | assumption | (simp only [DS, Nat.reduceAdd, *]; done) | (simp only [DZ]; omega)) only [RUN, RU, footA, feetIn, resultsA, tupOf, frzL, slot, lay, icyL, fillA, repCells, kR, reduceIte, Nat.reduceEqDiff, Nat.reduceBEq, Nat.reduceLT, Nat.reduceAdd, Nat.reduceLeDiff, Nat.reduceSub, Nat.reduceMul, Int.reduceLT, Int.reduceLE, Int.reduceEq, Int.reduceAdd, Int.reduceSub, Int.reduceMul, h0, ll, hS.fz.rows, hS.fz.one, hS.fz.cells, hS.fz.icy, hS.fz.frz, hck, hr, z0]
    refine w_loop (I := fun n t N => ∃ (i : Nat), n = l.length - i ∧ i ≤ l.length ∧ nth undefA t 0 = a ∧ nth undefA t 6 = I64 i ∧ nth undefA t 5 = I64 (crashN (l.take i)) ∧ N = mem0) (n := l.length) (by omega) ?_ ?_
    · refine ⟨0, rfl, Nat.zero_le _, ?_, ?_, ?_, rfl⟩ <;> simp (maxSteps := 2000000) (disch := first | omega | assumption | (simp only [DS, Nat.reduceAdd, *]; done) | (simp only [DZ]; omega)) only [RUN, RU, footA, feetIn, resultsA, tupOf, frzL, slot, lay, icyL, fillA, repCells, kR, reduceIte, Nat.reduceEqDiff, Nat.reduceBEq, Nat.reduceLT, Nat.reduceAdd, Nat.reduceLeDiff, Nat.reduceSub, Nat.reduceMul, Int.reduceLT, Int.reduceLE, Int.reduceEq, Int.reduceAdd, Int.reduceSub, Int.reduceMul, h0]
      all_goals first | rfl | assumption | done
    · rintro n t N hlt ⟨i, rfl, hi, g0, g6, g5, hm⟩
      simp only [ht] at hlt ⊢
      subst hm
      by_cases hc' : i < l.length
      · have q2 : decide ((i : Int) < l.length) = true := decide_eq_true (by omega)
        have w1 : IntKind.i64.wrap ((i : Int) + 1) = ((i + 1 : Nat) : Int) := by rw [wrap_i64] <;> omega
        have hs := crashN_snoc l i hc'
        have b1 := crashN_le hc (i + 1)
        have w2 : IntKind.i64.wrap ((crashN (l.take i) : Int) + l[i].crash.length) = ((crashN (l.take (i + 1)) : Nat) : Int) := by rw [hs, wrap_i64] <;> omega
        obtain ⟨r, hr', hev, _⟩ := hS.iad i hc'
        obtain ⟨da, ca, hrow, k1, k2⟩ := hev
        have p1 : r[16]? = some ca := by rw [hrow]; rfl
        have lc := k2.len
        simp (maxSteps := 2000000) (disch := first | omega | assumption | (simp only [DS, Nat.reduceAdd, *]; done) | (simp only [DZ]; omega)) only [RUN, RU, footA, feetIn, resultsA, tupOf, frzL, slot, lay, icyL, fillA, repCells, kR, reduceIte, Nat.reduceEqDiff, Nat.reduceBEq, Nat.reduceLT, Nat.reduceAdd, Nat.reduceLeDiff, Nat.reduceSub, Nat.reduceMul, Int.reduceLT, Int.reduceLE, Int.reduceEq, Int.reduceAdd, Int.reduceSub, Int.reduceMul, g0, g5, g6, ll, hS.fz.rows, hS.fz.one, hS.fz.cells, hS.fz.icy, hS.fz.frz, q2, w1, hr', p1, lc, k2.fz.rows, k2.fz.one, k2.fz.cells, k2.fz.icy, k2.fz.frz, w2]
        exact ⟨hlt, l.length - (i + 1), by omega, i + 1, rfl, by omega, rfl, rfl⟩
      · obtain rfl : i = l.length := by omega
        have q2 : decide ((l.length : Int) < l.length) = false := decide_eq_false (by omega)
        rw [List.take_length] at g5
        simp (maxSteps := 2000000) (disch := first | omega | assumption | (simp only [DS, Nat.reduceAdd, *]; done) | (simp only [DZ]; omega)) only [RUN, RU, footA, feetIn, resultsA, tupOf, frzL, slot, lay, icyL, fillA, repCells, kR, reduceIte, Nat.reduceEqDiff, Nat.reduceBEq, Nat.reduceLT, Nat.reduceAdd, Nat.reduceLeDiff, Nat.reduceSub, Nat.reduceMul, Int.reduceLT, Int.reduceLE, Int.reduceEq, Int.reduceAdd, Int.reduceSub, Int.reduceMul, g0, g5, g6, ll, hS.fz.rows, hS.fz.one, hS.fz.cells, hS.fz.icy, hS.fz.frz, q2]
  · have hr : crashesF l = (0, chk l) := by unfold crashesF; rw [if_pos hc]
    have q : decide (chk l = 0) = false := decide_eq_false hc
    simp (maxSteps := 2000000) (disch := first | omega | assumption | (simp only [DS, Nat.reduceAdd, *]; done) | (simp only [DZ]; omega)) only [RUN, RU, footA, feetIn, resultsA, tupOf, frzL, slot, lay, icyL, fillA, repCells, kR, reduceIte, Nat.reduceEqDiff, Nat.reduceBEq, Nat.reduceLT, Nat.reduceAdd, Nat.reduceLeDiff, Nat.reduceSub, Nat.reduceMul, Int.reduceLT, Int.reduceLE, Int.reduceEq, Int.reduceAdd, Int.reduceSub, Int.reduceMul, h0, ll, hS.fz.rows, hS.fz.one, hS.fz.cells, hS.fz.icy, hS.fz.frz, hck, hr, q]
set_option maxHeartbeats 4000000 in
theorem crashes_run {a : AV} {l : List Ev} (hS : Sl 17 isEv a l) (hl : l.length ≤ 1000000) (hf : l.length + 100 < fuel) (M : Mem) : callN Tryd.prog (fsT tbl) fuel (d + 9) (.fn 11) [a] M = some (.tup [I64 (crashesF l).1, I64 (crashesF l).2], M) := by
  have ll := hS.len
  have hck := fun M => check_run (fuel := fuel) (d := d) hS hl hf M
  apply w3_eq
  refine call_gc tf11 rfl (by simp (maxSteps := 2000000) (disch := first | omega | assumption | (simp only [DS, Nat.reduceAdd, *]; done) | (simp only [DZ]; omega)) only [RUN, RU, footA, feetIn, resultsA, tupOf, frzL, slot, lay, icyL, fillA, repCells, kR, reduceIte, Nat.reduceEqDiff, Nat.reduceBEq, Nat.reduceLT, Nat.reduceAdd, Nat.reduceLeDiff, Nat.reduceSub, Nat.reduceMul, Int.reduceLT, Int.reduceLE, Int.reduceEq, Int.reduceAdd, Int.reduceSub, Int.reduceMul, hS.fz.rows, hS.fz.one, hS.fz.cells, hS.fz.icy, hS.fz.frz]) (by simp [a11]) fun b' ht hx => ?_
  have h0 := hx 0 _ rfl
  clear hx
  simp only [a11, c11] at ht ⊢
  by_cases hc : chk l = 0
  · have hr : crashesF l = ((crashN l : Int), 0) := by unfold crashesF; rw [if_neg (by simpa using hc)]
    have z0 : decide ((0 : Int) = 0) = true := rfl
    rw [hc] at hck
    simp (maxSteps := 2000000) (disch := first | omega | assumption | (simp only [DS, Nat.reduceAdd, *]; done) | (simp only [DZ]; omega)) only [RUN, RU, footA, feetIn, resultsA, tupOf, frzL, slot, lay, icyL, fillA, repCells, kR, reduceIte, Nat.reduceEqDiff, Nat.reduceBEq, Nat.reduceLT, Nat.reduceAdd, Nat.reduceLeDiff, Nat.reduceSub, Nat.reduceMul, Int.reduceLT, Int.reduceLE, Int.reduceEq, Int.reduceAdd, Int.reduceSub, Int.reduceMul, h0, ll, hS.fz.rows, hS.fz.one, hS.fz.cells, hS.fz.icy, hS.fz.frz, hck, hr, z0]
    refine w_loop (I := fun n t N => ∃ (i : Nat), n = l.length - i ∧ i ≤ l.length ∧ nth undefA t 12 = a ∧ nth undefA t 13 = I64 l.length ∧ nth undefA t 14 = I64 i ∧ nth undefA t 2 = I64 (crashN (l.take i)) ∧ Wf N) (n := l.length) (by omega) ?_ ?_
    · refine ⟨0, rfl, Nat.zero_le _, ?_, ?_, ?_, ?_, Wf.mem0⟩ <;> simp (maxSteps := 2000000) (disch := first | omega | assumption | (simp only [DS, Nat.reduceAdd, *]; done) | (simp only [DZ]; omega)) only [RUN, RU, footA, feetIn, resultsA, tupOf, frzL, slot, lay, icyL, fillA, repCells, kR, reduceIte, Nat.reduceEqDiff, Nat.reduceBEq, Nat.reduceLT, Nat.reduceAdd, Nat.reduceLeDiff, Nat.reduceSub, Nat.reduceMul, Int.reduceLT, Int.reduceLE, Int.reduceEq, Int.reduceAdd, Int.reduceSub, Int.reduceMul, h0]
      all_goals first | rfl | assumption | done
    · rintro n t N hlt ⟨i, rfl, hi, g12, g13, g14, g2, wN⟩
      simp only [ht] at hlt ⊢
      by_cases hc' : i < l.length
      · have q2 : decide ((i : Int) < l.length) = true := decide_eq_true (by omega)
        have w1 : IntKind.i64.wrap ((i : Int) + 1) = ((i + 1 : Nat) : Int) := by rw [wrap_i64] <;> omega
        have hs := crashN_snoc l i hc'
        have b1 := crashN_le hc (i + 1)
        have w2 : IntKind.i64.wrap ((crashN (l.take i) : Int) + l[i].crash.length) = ((crashN (l.take (i + 1)) : Nat) : Int) := by rw [hs, wrap_i64] <;> omega
        obtain ⟨r, hr', hev, _⟩ := hS.iad i hc'
        obtain ⟨da, ca, hrow, k1, k2⟩ := hev
        have p1 : Go.Ax.part r 0 17 true = some (.agg (evRow l[i] da ca)) := by rw [hrow]; rfl
        have lc := k2.len
        have od := k1.one
        have oc := k2.one
        unfold evRow at p1
        simp (maxSteps := 2000000) (disch := first | omega | assumption | (simp only [DS, Nat.reduceAdd, *]; done) | (simp only [DZ]; omega)) only [RUN, RU, footA, feetIn, resultsA, tupOf, frzL, slot, lay, icyL, fillA, repCells, kR, reduceIte, Nat.reduceEqDiff, Nat.reduceBEq, Nat.reduceLT, Nat.reduceAdd, Nat.reduceLeDiff, Nat.reduceSub, Nat.reduceMul, Int.reduceLT, Int.reduceLE, Int.reduceEq, Int.reduceAdd, Int.reduceSub, Int.reduceMul, g12, g13, g14, g2, hS.fz.rows, hS.fz.one, hS.fz.cells, hS.fz.icy, hS.fz.frz, q2, w1, hr', p1, lc, k1.fz.rows, k1.fz.one, k1.fz.cells, k1.fz.icy, k1.fz.frz, k2.fz.rows, k2.fz.one, k2.fz.cells, k2.fz.icy, k2.fz.frz, w2, wN]
        exact ⟨hlt, l.length - (i + 1), by omega, i + 1, rfl, by omega, rfl, rfl⟩
      · obtain rfl : i = l.length := by omega
        have q2 : decide ((l.length : Int) < l.length) = false := decide_eq_false (by omega)
        rw [List.take_length] at g2
        simp (maxSteps := 2000000) (disch := first | omega | assumption | (simp only [DS, Nat.reduceAdd, *]; done) | (simp only [DZ]; omega)) only [RUN, RU, footA, feetIn, resultsA, tupOf, frzL, slot, lay, icyL, fillA, repCells, kR, reduceIte, Nat.reduceEqDiff, Nat.reduceBEq, Nat.reduceLT, Nat.reduceAdd, Nat.reduceLeDiff, Nat.reduceSub, Nat.reduceMul, Int.reduceLT, Int.reduceLE, Int.reduceEq, Int.reduceAdd, Int.reduceSub, Int.reduceMul, g12, g13, g14, g2, q2, hr]
  · have hr : crashesF l = (0, chk l) := by unfold crashesF; rw [if_pos hc]
    have q : decide (chk l = 0) = false := decide_eq_false hc
    simp (maxSteps := 2000000) (disch := first | omega | assumption | (simp only [DS, Nat.reduceAdd, *]; done) | (simp only [DZ]; omega)) only [RUN, RU, footA, feetIn, resultsA, tupOf, frzL, slot, lay, icyL, fillA, repCells, kR, reduceIte, Nat.reduceEqDiff, Nat.reduceBEq, Nat.reduceLT, Nat.reduceAdd, Nat.reduceLeDiff, Nat.reduceSub, Nat.reduceMul, Int.reduceLT, Int.reduceLE, Int.reduceEq, Int.reduceAdd, Int.reduceSub, Int.reduceMul, h0, ll, hS.fz.rows, hS.fz.one, hS.fz.cells, hS.fz.icy, hS.fz.frz, hck, hr, q]
end Go.Proofs.YtjbninmklbkklaaDoor
