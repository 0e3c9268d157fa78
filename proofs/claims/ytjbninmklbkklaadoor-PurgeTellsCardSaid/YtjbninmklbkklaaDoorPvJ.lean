/-
  purge: the reference's MayOne, Check, Crashes; the program's Crashes.
-/
import Derived.Test.YtjbninmklbkklaaDoorPvI
set_option linter.unusedSimpArgs false
set_option linter.unusedVariables false
set_option maxRecDepth 100000
namespace Go.Proofs.YtjbninmklbkklaaDoor
open Go Go.Ax
variable {fuel : Nat} {M : Mem} {Q : AV → Mem → Prop} {d : Nat}

def oddZ (n : Int) : Bool := decide (n < 0) || decide (16777216 ≤ n)
set_option maxHeartbeats 8000000 in
theorem mayone_run {e : Ev} {da ca : AV} (h1 : Bs da e.data) (h2 : Sl 1 isInt ca e.crash) (hf : 100 < fuel) (M : Mem) : callN Tryd.prog (fsT tbl) fuel (d + 3) (.fn 33) [.agg (evRow e da ca)] M = some (BL e.may, M) := by
  have pls := fun t x r => pLenS (P := Tryd.prog) (t := t) Tryd.underlying9 x r
  have hit := fun a b M => @its1_run fuel (d + 1) e da ca h1 h2 a b M
  have hm := fun M => @mayh_run fuel d e.lb e.num M
  have ld := h1.len
  have lc := h2.len
  have pHdE := @pHdE
  have ic : ∀ M, icyL (icy 12) M [.agg (evRow e da ca)] = some ([.agg (evRow e da ca)], M) := fun M => by simp only [icyL, ev_icy1 h1 h2]
  have i1 : ∀ M, icy 11 M da = some (da, M) := fun M => h1.icy M 11 (by omega)
  have sz := szB
  apply w3_eq
  refine call_gc tf33 rfl (ic M) (by simp [a33]) fun b' ht hx => ?_
  have h0 := hx 0 _ rfl
  clear hx
  simp only [a33, c33] at ht ⊢
  unfold evRow at *
  by_cases c1 : 1 ≤ e.kind.toNat
  case neg =>
    have p1 : decide ((e.kind.toNat : Int) < 1) = true := decide_eq_true (by omega)
    have r : e.may = false := by unfold Ev.may; rw [decide_eq_false (p := (1 : Int) ≤ e.kind.toNat) (by omega)]; rfl
    simp (maxSteps := 2000000) (disch := first | omega | assumption | (simp only [DS, Nat.reduceAdd, *]; done) | (simp only [DZ]; omega)) only [RUN, RU, footA, feetIn, resultsA, tupOf, frzL, slot, lay, icyL, fillA, repCells, kR, reduceIte, Nat.reduceEqDiff, Nat.reduceBEq, Nat.reduceLT, Nat.reduceAdd, Nat.reduceLeDiff, Nat.reduceSub, Nat.reduceMul, Int.reduceLT, Int.reduceLE, Int.reduceEq, Int.reduceAdd, Int.reduceSub, Int.reduceMul, h0, h1.fz.rows, h1.fz.one, h1.fz.cells, h1.fz.icy, h1.fz.frz, h2.fz.rows, h2.fz.one, h2.fz.cells, h2.fz.icy, h2.fz.frz, p1, r]
  have p1 : decide ((e.kind.toNat : Int) < 1) = false := decide_eq_false (by omega)
  by_cases c2 : e.kind.toNat ≤ 20
  case neg =>
    have p2 : decide ((20 : Int) < e.kind.toNat) = true := decide_eq_true (by omega)
    have r : e.may = false := by unfold Ev.may; rw [decide_eq_false (p := (e.kind.toNat : Int) ≤ 20) (by omega)]; simp
    simp (maxSteps := 2000000) (disch := first | omega | assumption | (simp only [DS, Nat.reduceAdd, *]; done) | (simp only [DZ]; omega)) only [RUN, RU, footA, feetIn, resultsA, tupOf, frzL, slot, lay, icyL, fillA, repCells, kR, reduceIte, Nat.reduceEqDiff, Nat.reduceBEq, Nat.reduceLT, Nat.reduceAdd, Nat.reduceLeDiff, Nat.reduceSub, Nat.reduceMul, Int.reduceLT, Int.reduceLE, Int.reduceEq, Int.reduceAdd, Int.reduceSub, Int.reduceMul, h0, h1.fz.rows, h1.fz.one, h1.fz.cells, h1.fz.icy, h1.fz.frz, h2.fz.rows, h2.fz.one, h2.fz.cells, h2.fz.icy, h2.fz.frz, p1, p2, r]
  have p2 : decide ((20 : Int) < e.kind.toNat) = false := decide_eq_false (by omega)
  by_cases c3 : e.text.length ≤ 400
  case neg =>
    have p3 : decide ((400 : Int) < e.text.length) = true := decide_eq_true (by omega)
    have r : e.may = false := by unfold Ev.may; rw [decide_eq_false (p := (e.text.length : Int) ≤ 400) (by omega)]; simp
    simp (maxSteps := 2000000) (disch := first | omega | assumption | (simp only [DS, Nat.reduceAdd, *]; done) | (simp only [DZ]; omega)) only [RUN, RU, footA, feetIn, resultsA, tupOf, frzL, slot, lay, icyL, fillA, repCells, kR, reduceIte, Nat.reduceEqDiff, Nat.reduceBEq, Nat.reduceLT, Nat.reduceAdd, Nat.reduceLeDiff, Nat.reduceSub, Nat.reduceMul, Int.reduceLT, Int.reduceLE, Int.reduceEq, Int.reduceAdd, Int.reduceSub, Int.reduceMul, h0, h1.fz.rows, h1.fz.one, h1.fz.cells, h1.fz.icy, h1.fz.frz, h2.fz.rows, h2.fz.one, h2.fz.cells, h2.fz.icy, h2.fz.frz, p1, p2, p3, r, pls, sz]
  have p3 : decide ((400 : Int) < e.text.length) = false := decide_eq_false (by omega)
  by_cases c4 : e.data.length ≤ 1100
  case neg =>
    have p4 : decide ((1100 : Int) < e.data.length) = true := decide_eq_true (by omega)
    have r : e.may = false := by unfold Ev.may; rw [decide_eq_false (p := (e.data.length : Int) ≤ 1100) (by omega)]; simp
    simp (maxSteps := 2000000) (disch := first | omega | assumption | (simp only [DS, Nat.reduceAdd, *]; done) | (simp only [DZ]; omega)) only [RUN, RU, footA, feetIn, resultsA, tupOf, frzL, slot, lay, icyL, fillA, repCells, kR, reduceIte, Nat.reduceEqDiff, Nat.reduceBEq, Nat.reduceLT, Nat.reduceAdd, Nat.reduceLeDiff, Nat.reduceSub, Nat.reduceMul, Int.reduceLT, Int.reduceLE, Int.reduceEq, Int.reduceAdd, Int.reduceSub, Int.reduceMul, h0, h1.fz.rows, h1.fz.one, h1.fz.cells, h1.fz.icy, h1.fz.frz, h2.fz.rows, h2.fz.one, h2.fz.cells, h2.fz.icy, h2.fz.frz, p1, p2, p3, p4, r, pls, sz, ld]
  have p4 : decide ((1100 : Int) < e.data.length) = false := decide_eq_false (by omega)
  by_cases c5 : e.crash.length ≤ 3
  case neg =>
    have p5 : decide ((3 : Int) < e.crash.length) = true := decide_eq_true (by omega)
    have r : e.may = false := by unfold Ev.may; rw [decide_eq_false (p := (e.crash.length : Int) ≤ 3) (by omega)]; simp
    simp (maxSteps := 2000000) (disch := first | omega | assumption | (simp only [DS, Nat.reduceAdd, *]; done) | (simp only [DZ]; omega)) only [RUN, RU, footA, feetIn, resultsA, tupOf, frzL, slot, lay, icyL, fillA, repCells, kR, reduceIte, Nat.reduceEqDiff, Nat.reduceBEq, Nat.reduceLT, Nat.reduceAdd, Nat.reduceLeDiff, Nat.reduceSub, Nat.reduceMul, Int.reduceLT, Int.reduceLE, Int.reduceEq, Int.reduceAdd, Int.reduceSub, Int.reduceMul, h0, h1.fz.rows, h1.fz.one, h1.fz.cells, h1.fz.icy, h1.fz.frz, h2.fz.rows, h2.fz.one, h2.fz.cells, h2.fz.icy, h2.fz.frz, p1, p2, p3, p4, p5, r, pls, sz, ld, lc]
  have p5 : decide ((3 : Int) < e.crash.length) = false := decide_eq_false (by omega)
  have r0 : e.may = (((decide (e.lb.lv = 0) && decide (e.lb.cats = 0) && decide (e.num = 0)) || (itsK e.kind.toNat && hdMay e.lb e.num)) && !(e.crash.any oddZ)) := by
    unfold Ev.may
    rw [decide_eq_true (p := (1 : Int) ≤ e.kind.toNat) (by omega), decide_eq_true (p := (e.kind.toNat : Int) ≤ 20) (by omega), decide_eq_true (p := (e.text.length : Int) ≤ 400) (by omega), decide_eq_true (p := (e.data.length : Int) ≤ 1100) (by omega), decide_eq_true (p := (e.crash.length : Int) ≤ 3) (by omega)]
    simp only [Bool.true_and, Bool.and_true]
    rfl
  simp (maxSteps := 2000000) (disch := first | omega | assumption | (simp only [DS, Nat.reduceAdd, *]; done) | (simp only [DZ]; omega)) only [RUN, RU, footA, feetIn, resultsA, tupOf, frzL, slot, lay, icyL, fillA, repCells, kR, reduceIte, Nat.reduceEqDiff, Nat.reduceBEq, Nat.reduceLT, Nat.reduceAdd, Nat.reduceLeDiff, Nat.reduceSub, Nat.reduceMul, Int.reduceLT, Int.reduceLE, Int.reduceEq, Int.reduceAdd, Int.reduceSub, Int.reduceMul, h0, h1.fz.rows, h1.fz.one, h1.fz.cells, h1.fz.icy, h1.fz.frz, h2.fz.rows, h2.fz.one, h2.fz.cells, h2.fz.icy, h2.fz.frz, p1, p2, p3, p4, p5, pls, sz, ld, lc]
  refine w_loop (I := fun n t N => ∃ (i : Nat), n = e.crash.length - i ∧ i ≤ e.crash.length ∧ nth undefA t 1 = .ptr 0 0 ∧ nth undefA t 3 = I64 i ∧ N = mem0.add (.row false [U8 e.kind.toNat, U8 e.lb.lv, U32 e.lb.cats, U8 e.num, I64 e.user, I64 e.k, I64 e.many, STR e.text, U8 e.to.lv, U32 e.to.cats, U8 e.what, da, I64 e.gu, U8 e.gl.lv, U32 e.gl.cats, BL e.gok, ca]) ∧ (∀ j (h : j < e.crash.length), j < i → oddZ e.crash[j] = false)) (n := e.crash.length) (by omega) ?_ ?_
  · refine ⟨0, rfl, Nat.zero_le _, ?_, ?_, rfl, (fun _ _ h => absurd h (by omega))⟩ <;> simp (maxSteps := 2000000) (disch := first | omega | assumption | (simp only [DS, Nat.reduceAdd, *]; done) | (simp only [DZ]; omega)) only [RUN, RU, footA, feetIn, resultsA, tupOf, frzL, slot, lay, icyL, fillA, repCells, kR, reduceIte, Nat.reduceEqDiff, Nat.reduceBEq, Nat.reduceLT, Nat.reduceAdd, Nat.reduceLeDiff, Nat.reduceSub, Nat.reduceMul, Int.reduceLT, Int.reduceLE, Int.reduceEq, Int.reduceAdd, Int.reduceSub, Int.reduceMul, h0]
    all_goals first | rfl | assumption | done
  · rintro n t N hlt ⟨i, rfl, hi, g1, g3, hm', hj⟩
    simp only [ht] at hlt ⊢
    subst hm'
    by_cases hc : i < e.crash.length
    · have q1 : decide ((i : Int) < e.crash.length) = true := decide_eq_true (by omega)
      have w1 : IntKind.i64.wrap ((i : Int) + 1) = ((i + 1 : Nat) : Int) := by rw [wrap_i64] <;> omega
      obtain ⟨r1, i1, hr1, hl1⟩ := h2.iad i hc
      obtain rfl : r1 = [I64 e.crash[i]] := hr1
      cases o1 : decide (e.crash[i] < 0) with
      | true =>
        have r : e.may = false := by
          have : e.crash.any oddZ = true := List.any_eq_true.2 ⟨_, List.getElem_mem hc, by unfold oddZ; rw [o1]; rfl⟩
          rw [r0, this]; simp
        simp (maxSteps := 2000000) (disch := first | omega | assumption | (simp only [DS, Nat.reduceAdd, *]; done) | (simp only [DZ]; omega)) only [RUN, RU, footA, feetIn, resultsA, tupOf, frzL, slot, lay, icyL, fillA, repCells, kR, reduceIte, Nat.reduceEqDiff, Nat.reduceBEq, Nat.reduceLT, Nat.reduceAdd, Nat.reduceLeDiff, Nat.reduceSub, Nat.reduceMul, Int.reduceLT, Int.reduceLE, Int.reduceEq, Int.reduceAdd, Int.reduceSub, Int.reduceMul, g1, g3, q1, w1, h1.fz.rows, h1.fz.one, h1.fz.cells, h1.fz.icy, h1.fz.frz, h2.fz.rows, h2.fz.one, h2.fz.cells, h2.fz.icy, h2.fz.frz, lc, i1, o1, r]
      | false =>
        cases o2 : decide (16777216 ≤ e.crash[i]) with
        | true =>
          have r : e.may = false := by
            have : e.crash.any oddZ = true := List.any_eq_true.2 ⟨_, List.getElem_mem hc, by unfold oddZ; rw [o1, o2]; rfl⟩
            rw [r0, this]; simp
          simp (maxSteps := 2000000) (disch := first | omega | assumption | (simp only [DS, Nat.reduceAdd, *]; done) | (simp only [DZ]; omega)) only [RUN, RU, footA, feetIn, resultsA, tupOf, frzL, slot, lay, icyL, fillA, repCells, kR, reduceIte, Nat.reduceEqDiff, Nat.reduceBEq, Nat.reduceLT, Nat.reduceAdd, Nat.reduceLeDiff, Nat.reduceSub, Nat.reduceMul, Int.reduceLT, Int.reduceLE, Int.reduceEq, Int.reduceAdd, Int.reduceSub, Int.reduceMul, g1, g3, q1, w1, h1.fz.rows, h1.fz.one, h1.fz.cells, h1.fz.icy, h1.fz.frz, h2.fz.rows, h2.fz.one, h2.fz.cells, h2.fz.icy, h2.fz.frz, lc, i1, o1, o2, r]
        | false =>
          simp (maxSteps := 2000000) (disch := first | omega | assumption | (simp only [DS, Nat.reduceAdd, *]; done) | (simp only [DZ]; omega)) only [RUN, RU, footA, feetIn, resultsA, tupOf, frzL, slot, lay, icyL, fillA, repCells, kR, reduceIte, Nat.reduceEqDiff, Nat.reduceBEq, Nat.reduceLT, Nat.reduceAdd, Nat.reduceLeDiff, Nat.reduceSub, Nat.reduceMul, Int.reduceLT, Int.reduceLE, Int.reduceEq, Int.reduceAdd, Int.reduceSub, Int.reduceMul, g1, g3, q1, w1, h1.fz.rows, h1.fz.one, h1.fz.cells, h1.fz.icy, h1.fz.frz, h2.fz.rows, h2.fz.one, h2.fz.cells, h2.fz.icy, h2.fz.frz, lc, i1, o1, o2]
          exact ⟨hlt, e.crash.length - (i + 1), by omega, i + 1, rfl, by omega, rfl, fun j h hj' => by
            rcases Nat.lt_succ_iff_lt_or_eq.1 hj' with h' | rfl
            · exact hj j h h'
            · unfold oddZ; rw [o1, o2]; rfl⟩
    · obtain rfl : i = e.crash.length := by omega
      have q1 : decide ((e.crash.length : Int) < e.crash.length) = false := decide_eq_false (by omega)
      have hno : e.crash.any oddZ = false := by
        rw [List.any_eq_false]
        intro x hx
        obtain ⟨j, h, rfl⟩ := List.getElem_of_mem hx
        rw [hj j h h]; simp
      rw [hno] at r0
      replace hit := fun M => hit (by omega) (by omega) M
      cases k1 : itsK e.kind.toNat with
      | true =>
        rw [k1] at hit
        have r : e.may = hdMay e.lb e.num := by
          rw [r0, k1]
          cases hh : hdMay e.lb e.num with
          | true => simp
          | false =>
            unfold hdMay Lb.may at hh
            simp only [Bool.true_and, Bool.or_false, Bool.and_true, Bool.not_false]
            rw [Bool.eq_false_iff]
            intro hz
            simp only [Bool.and_eq_true, decide_eq_true_eq] at hz
            rw [hz.1.1, hz.2] at hh
            cases hh
        simp (maxSteps := 2000000) (disch := first | omega | assumption | (simp only [DS, Nat.reduceAdd, *]; done) | (simp only [DZ]; omega)) only [RUN, RU, footA, feetIn, resultsA, tupOf, frzL, slot, lay, icyL, fillA, repCells, kR, reduceIte, Nat.reduceEqDiff, Nat.reduceBEq, Nat.reduceLT, Nat.reduceAdd, Nat.reduceLeDiff, Nat.reduceSub, Nat.reduceMul, Int.reduceLT, Int.reduceLE, Int.reduceEq, Int.reduceAdd, Int.reduceSub, Int.reduceMul, g1, g3, q1, h1.fz.rows, h1.fz.one, h1.fz.cells, h1.fz.icy, h1.fz.frz, h2.fz.rows, h2.fz.one, h2.fz.cells, h2.fz.icy, h2.fz.frz, lc, hit, hm, r]
      | false =>
        rw [k1] at hit
        have r : e.may = (decide (e.lb.lv = 0) && decide (e.lb.cats = 0) && decide (e.num = 0)) := by
          rw [r0, k1]; simp
        simp (maxSteps := 2000000) (disch := first | omega | assumption | (simp only [DS, Nat.reduceAdd, *]; done) | (simp only [DZ]; omega)) only [RUN, RU, footA, feetIn, resultsA, tupOf, frzL, slot, lay, icyL, fillA, repCells, kR, reduceIte, Nat.reduceEqDiff, Nat.reduceBEq, Nat.reduceLT, Nat.reduceAdd, Nat.reduceLeDiff, Nat.reduceSub, Nat.reduceMul, Int.reduceLT, Int.reduceLE, Int.reduceEq, Int.reduceAdd, Int.reduceSub, Int.reduceMul, g1, g3, q1, h1.fz.rows, h1.fz.one, h1.fz.cells, h1.fz.icy, h1.fz.frz, h2.fz.rows, h2.fz.one, h2.fz.cells, h2.fz.icy, h2.fz.frz, lc, hit, r, ↓pHdE, pe3E_val]
theorem check1_run {a : AV} {l : List Ev} (hS : Sl 17 isEv a l) (hl : l.length ≤ 1000000) (hf : l.length + 100 < fuel) (M : Mem) : callN Tryd.prog (fsT tbl) fuel (d + 4) (.fn 20) [a] M = some (I64 (chk l), M) := by
  have ll := hS.len
  apply w3_eq
  refine call_gc tf20 rfl (by simp (maxSteps := 2000000) (disch := first | omega | assumption | (simp only [DS, Nat.reduceAdd, *]; done) | (simp only [DZ]; omega)) only [RUN, RU, footA, feetIn, resultsA, tupOf, frzL, slot, lay, icyL, fillA, repCells, kR, reduceIte, Nat.reduceEqDiff, Nat.reduceBEq, Nat.reduceLT, Nat.reduceAdd, Nat.reduceLeDiff, Nat.reduceSub, Nat.reduceMul, Int.reduceLT, Int.reduceLE, Int.reduceEq, Int.reduceAdd, Int.reduceSub, Int.reduceMul, hS.fz.rows, hS.fz.one, hS.fz.cells, hS.fz.icy, hS.fz.frz]) (by simp [a20]) fun b' ht hx => ?_
  have h0 := hx 0 _ rfl
  clear hx
  simp only [a20, c20] at ht ⊢
  unfold chk
  by_cases q : 2048 < l.length
  · have q1 : decide ((2048 : Int) < l.length) = true := decide_eq_true (by omega)
    simp (maxSteps := 2000000) (disch := first | omega | assumption | (simp only [DS, Nat.reduceAdd, *]; done) | (simp only [DZ]; omega)) only [RUN, RU, footA, feetIn, resultsA, tupOf, frzL, slot, lay, icyL, fillA, repCells, kR, reduceIte, Nat.reduceEqDiff, Nat.reduceBEq, Nat.reduceLT, Nat.reduceAdd, Nat.reduceLeDiff, Nat.reduceSub, Nat.reduceMul, Int.reduceLT, Int.reduceLE, Int.reduceEq, Int.reduceAdd, Int.reduceSub, Int.reduceMul, h0, ll, hS.fz.rows, hS.fz.one, hS.fz.cells, hS.fz.icy, hS.fz.frz, q1, q, if_true]
  · have q1 : decide ((2048 : Int) < l.length) = false := decide_eq_false (by omega)
    simp (maxSteps := 2000000) (disch := first | omega | assumption | (simp only [DS, Nat.reduceAdd, *]; done) | (simp only [DZ]; omega)) only [RUN, RU, footA, feetIn, resultsA, tupOf, frzL, slot, lay, icyL, fillA, repCells, kR, reduceIte, Nat.reduceEqDiff, Nat.reduceBEq, Nat.reduceLT, Nat.reduceAdd, Nat.reduceLeDiff, Nat.reduceSub, Nat.reduceMul, Int.reduceLT, Int.reduceLE, Int.reduceEq, Int.reduceAdd, Int.reduceSub, Int.reduceMul, h0, ll, hS.fz.rows, hS.fz.one, hS.fz.cells, hS.fz.icy, hS.fz.frz, q1, q, if_false]
    refine w_loop (I := fun n t N => ∃ (i : Nat), n = l.length - i ∧ i ≤ l.length ∧ nth undefA t 0 = a ∧ nth undefA t 3 = I64 i ∧ N = mem0 ∧ (∀ j (h : j < l.length), j < i → l[j].may = true)) (n := l.length) (by omega) ?_ ?_
    · refine ⟨0, rfl, Nat.zero_le _, ?_, ?_, rfl, (fun _ _ h => absurd h (by omega))⟩ <;> simp (maxSteps := 2000000) (disch := first | omega | assumption | (simp only [DS, Nat.reduceAdd, *]; done) | (simp only [DZ]; omega)) only [RUN, RU, footA, feetIn, resultsA, tupOf, frzL, slot, lay, icyL, fillA, repCells, kR, reduceIte, Nat.reduceEqDiff, Nat.reduceBEq, Nat.reduceLT, Nat.reduceAdd, Nat.reduceLeDiff, Nat.reduceSub, Nat.reduceMul, Int.reduceLT, Int.reduceLE, Int.reduceEq, Int.reduceAdd, Int.reduceSub, Int.reduceMul, h0]
      all_goals first | rfl | assumption | done
    · rintro n t N hlt ⟨i, rfl, hi, g0, g3, hm, hj⟩
      simp only [ht] at hlt ⊢
      subst hm
      by_cases hc : i < l.length
      · have q2 : decide ((i : Int) < l.length) = true := decide_eq_true (by omega)
        have w1 : IntKind.i64.wrap ((i : Int) + 1) = ((i + 1 : Nat) : Int) := by rw [wrap_i64] <;> omega
        obtain ⟨r, hr, hev, _⟩ := hS.iad i hc
        have hmi := hj i hc
        have hin : l[i] ∈ l := List.getElem_mem hc
        obtain ⟨da, ca, hrow, k1, k2⟩ := hev
        have hmy := fun M => @mayone_run fuel d l[i] da ca k1 k2 (by omega) M
        have p1 : Go.Ax.part r 0 17 true = some (.agg (evRow l[i] da ca)) := by rw [hrow]; rfl
        have ric : rowsOf (.agg (evRow l[i] da ca)) = [] := by unfold evRow; simp (maxSteps := 2000000) (disch := first | omega | assumption | (simp only [DS, Nat.reduceAdd, *]; done) | (simp only [DZ]; omega)) only [RUN, RU, footA, feetIn, resultsA, tupOf, frzL, slot, lay, icyL, fillA, repCells, kR, reduceIte, Nat.reduceEqDiff, Nat.reduceBEq, Nat.reduceLT, Nat.reduceAdd, Nat.reduceLeDiff, Nat.reduceSub, Nat.reduceMul, Int.reduceLT, Int.reduceLE, Int.reduceEq, Int.reduceAdd, Int.reduceSub, Int.reduceMul, k1.fz.rows, k1.fz.one, k1.fz.cells, k1.fz.icy, k1.fz.frz, k2.fz.rows, k2.fz.one, k2.fz.cells, k2.fz.icy, k2.fz.frz]
        cases hb : l[i].may with
        | true =>
          rw [hb] at hmy
          simp (maxSteps := 2000000) (disch := first | omega | assumption | (simp only [DS, Nat.reduceAdd, *]; done) | (simp only [DZ]; omega)) only [RUN, RU, footA, feetIn, resultsA, tupOf, frzL, slot, lay, icyL, fillA, repCells, kR, reduceIte, Nat.reduceEqDiff, Nat.reduceBEq, Nat.reduceLT, Nat.reduceAdd, Nat.reduceLeDiff, Nat.reduceSub, Nat.reduceMul, Int.reduceLT, Int.reduceLE, Int.reduceEq, Int.reduceAdd, Int.reduceSub, Int.reduceMul, g0, g3, ll, hS.fz.rows, hS.fz.one, hS.fz.cells, hS.fz.icy, hS.fz.frz, q2, w1, hr, p1, hmy, ric]
          exact ⟨hlt, l.length - (i + 1), by omega, i + 1, rfl, by omega, rfl, fun j h hj' => by
            rcases Nat.lt_succ_iff_lt_or_eq.1 hj' with h' | rfl
            · exact hj j h h'
            · exact hb⟩
        | false =>
          rw [hb] at hmy
          have e1 : (l.any fun e => !e.may) = true := List.any_eq_true.2 ⟨_, hin, by rw [hb]; rfl⟩
          simp (maxSteps := 2000000) (disch := first | omega | assumption | (simp only [DS, Nat.reduceAdd, *]; done) | (simp only [DZ]; omega)) only [RUN, RU, footA, feetIn, resultsA, tupOf, frzL, slot, lay, icyL, fillA, repCells, kR, reduceIte, Nat.reduceEqDiff, Nat.reduceBEq, Nat.reduceLT, Nat.reduceAdd, Nat.reduceLeDiff, Nat.reduceSub, Nat.reduceMul, Int.reduceLT, Int.reduceLE, Int.reduceEq, Int.reduceAdd, Int.reduceSub, Int.reduceMul, g0, g3, ll, hS.fz.rows, hS.fz.one, hS.fz.cells, hS.fz.icy, hS.fz.frz, q2, w1, hr, p1, hmy, ric, e1, if_true]
      · obtain rfl : i = l.length := by omega
        have q2 : decide ((l.length : Int) < l.length) = false := decide_eq_false (by omega)
        have e1 : (l.any fun e => !e.may) = false := by
          rw [List.any_eq_false]
          intro x hx
          obtain ⟨j, h, rfl⟩ := List.getElem_of_mem hx
          rw [hj j h h]; simp
        simp (maxSteps := 2000000) (disch := first | omega | assumption | (simp only [DS, Nat.reduceAdd, *]; done) | (simp only [DZ]; omega)) only [RUN, RU, footA, feetIn, resultsA, tupOf, frzL, slot, lay, icyL, fillA, repCells, kR, reduceIte, Nat.reduceEqDiff, Nat.reduceBEq, Nat.reduceLT, Nat.reduceAdd, Nat.reduceLeDiff, Nat.reduceSub, Nat.reduceMul, Int.reduceLT, Int.reduceLE, Int.reduceEq, Int.reduceAdd, Int.reduceSub, Int.reduceMul, g0, g3, ll, hS.fz.rows, hS.fz.one, hS.fz.cells, hS.fz.icy, hS.fz.frz, q2, e1, Bool.false_eq_true, if_false]
end Go.Proofs.YtjbninmklbkklaaDoor
