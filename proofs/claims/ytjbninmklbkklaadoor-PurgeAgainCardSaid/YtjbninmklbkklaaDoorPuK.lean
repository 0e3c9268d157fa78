/-
  purge: how great scripts are; what is left of one.
-/
import Derived.Test.YtjbninmklbkklaaDoorPuJ
set_option linter.unusedSimpArgs false
set_option linter.unusedVariables false
set_option maxRecDepth 100000
namespace Go.Proofs.YtjbninmklbkklaaDoor
open Go Go.Ax
variable {fuel : Nat} {M : Mem} {Q : AV → Mem → Prop} {d : Nat}

set_option maxHeartbeats 8000000 in
theorem great_run {a : AV} {l : List Ev} (hS : Sl 17 isEv a l) (many : Int) (hf : 400 < fuel) : ∃ g : Bool, (g = false → (l.length : Int) ≤ many) ∧ ∀ M, callN Tryd.prog (fsT tbl) fuel (d + 1) (.fn 8) [a, I64 many] M = some (BL g, M) := by
  have ll := hS.len
  have lr := hS.rows mem0
  have ic : ∀ M, icyL (icy 12) M [a, I64 many] = some ([a, I64 many], M) := fun M => by simp (maxSteps := 2000000) (disch := first | omega | assumption | (simp only [DS, Nat.reduceAdd, *]; done) | (simp only [DZ]; omega)) only [RUN, RU, footA, feetIn, resultsA, tupOf, frzL, slot, lay, icyL, fillA, repCells, kR, reduceIte, Nat.reduceEqDiff, Nat.reduceBEq, Nat.reduceLT, Nat.reduceAdd, Nat.reduceLeDiff, Nat.reduceSub, Nat.reduceMul, Int.reduceLT, Int.reduceLE, Int.reduceEq, Int.reduceAdd, Int.reduceSub, Int.reduceMul, hS.icy]
  have pls := fun t x r => pLenS (P := Tryd.prog) (t := t) Tryd.underlying9 x r
  have key : W3 (callN Tryd.prog (fsT tbl) fuel (d + 1) (.fn 8) [a, I64 many] mem0) (fun r' _ => ∃ g : Bool, (g = false → (l.length : Int) ≤ many) ∧ r' = BL g) := by
    refine call_gc tf8 rfl (ic mem0) (by simp [a8]) fun b' ht hx => ?_
    have h0 := hx 0 _ rfl
    have h1 := hx 1 _ rfl
    clear hx
    simp only [a8, c8] at ht ⊢
    simp (maxSteps := 2000000) (disch := first | omega | assumption | (simp only [DS, Nat.reduceAdd, *]; done) | (simp only [DZ]; omega)) only [RUN, RU, footA, feetIn, resultsA, tupOf, frzL, slot, lay, icyL, fillA, repCells, kR, reduceIte, Nat.reduceEqDiff, Nat.reduceBEq, Nat.reduceLT, Nat.reduceAdd, Nat.reduceLeDiff, Nat.reduceSub, Nat.reduceMul, Int.reduceLT, Int.reduceLE, Int.reduceEq, Int.reduceAdd, Int.reduceSub, Int.reduceMul, h0, h1, ll, lr]
    refine w_loop (I := fun n t M => ∃ (i : Nat) (s : Int), n = 300 - i ∧ i ≤ 300 ∧ 0 ≤ s ∧ s ≤ 30000 * i ∧ nth undefA t 6 = I64 i ∧ nth undefA t 5 = I64 s ∧ nth undefA t 0 = a ∧ nth undefA t 1 = I64 many ∧ M = mem0) (n := 300) (by omega) ?_ ?_
    · refine ⟨0, 0, rfl, by omega, by omega, by omega, ?_, ?_, ?_, ?_, rfl⟩ <;> simp (maxSteps := 2000000) (disch := first | omega | assumption | (simp only [DS, Nat.reduceAdd, *]; done) | (simp only [DZ]; omega)) only [RUN, RU, footA, feetIn, resultsA, tupOf, frzL, slot, lay, icyL, fillA, repCells, kR, reduceIte, Nat.reduceEqDiff, Nat.reduceBEq, Nat.reduceLT, Nat.reduceAdd, Nat.reduceLeDiff, Nat.reduceSub, Nat.reduceMul, Int.reduceLT, Int.reduceLE, Int.reduceEq, Int.reduceAdd, Int.reduceSub, Int.reduceMul, h0, h1, ll, lr]
      all_goals first | rfl | assumption
    · rintro n t M' hlt ⟨i, s, rfl, hi, hs0, hs1, g6, g5, g0, g1, rfl⟩
      simp only [ht] at hlt ⊢
      by_cases hc : (i : Int) < l.length
      · have q1 : decide ((i : Int) < l.length) = true := decide_eq_true hc
        by_cases hc2 : i < 300
        · have q2 : decide ((i : Int) < 300) = true := decide_eq_true (by omega)
          obtain ⟨r, hiad, ⟨da, ca, rfl, hd, hcr⟩, hrl⟩ := hS.iad i (by omega)
          have ld := hd.len
          have lc := hcr.len
          have rd := hd.rows mem0
          have rc := hcr.rows mem0
          generalize hx1 : (if (10000 : Int) < ((l[i]).text.length : Int) then (10000 : Int) else ((l[i]).text.length : Int)) = x1
          generalize hx2 : (if (10000 : Int) < ((l[i]).data.length : Int) then (10000 : Int) else ((l[i]).data.length : Int)) = x2
          generalize hx3 : (if (10000 : Int) < ((l[i]).crash.length : Int) then (10000 : Int) else ((l[i]).crash.length : Int)) = x3
          have b1 : 0 ≤ x1 ∧ x1 ≤ 10000 := by rw [← hx1]; split <;> omega
          have b2 : 0 ≤ x2 ∧ x2 ≤ 10000 := by rw [← hx2]; split <;> omega
          have b3 : 0 ≤ x3 ∧ x3 ≤ 10000 := by rw [← hx3]; split <;> omega
          have w1 : IntKind.i64.wrap ((i : Int) + 1) = ((i + 1 : Nat) : Int) := by rw [wrap_i64] <;> omega
          have w2 : IntKind.i64.wrap (s + x1) = s + x1 := by rw [wrap_i64] <;> omega
          have w3 : IntKind.i64.wrap (s + x1 + x2) = s + x1 + x2 := by rw [wrap_i64] <;> omega
          have w4 : IntKind.i64.wrap (s + x1 + x2 + x3) = s + x1 + x2 + x3 := by rw [wrap_i64] <;> omega
          unfold evRow at hiad hrl
          simp (maxSteps := 2000000) (disch := first | omega | assumption | (simp only [DS, Nat.reduceAdd, *]; done) | (simp only [DZ]; omega)) only [RUN, RU, footA, feetIn, resultsA, tupOf, frzL, slot, lay, icyL, fillA, repCells, kR, reduceIte, Nat.reduceEqDiff, Nat.reduceBEq, Nat.reduceLT, Nat.reduceAdd, Nat.reduceLeDiff, Nat.reduceSub, Nat.reduceMul, Int.reduceLT, Int.reduceLE, Int.reduceEq, Int.reduceAdd, Int.reduceSub, Int.reduceMul, g6, g5, g0, g1, ll, lr, q1, q2, hiad, pls, szB, ld, lc, rd, rc, hx1, hx2, hx3, w1, w2, w3, w4]
          exact ⟨hlt, 300 - (i + 1), by omega, i + 1, s + x1 + x2 + x3, rfl, by omega, by omega, by omega, rfl, rfl⟩
        · have q2 : decide ((i : Int) < 300) = false := decide_eq_false (by omega)
          by_cases hm : many < (l.length : Int)
          · have q3 : decide (many < (l.length : Int)) = true := decide_eq_true hm
            simp (maxSteps := 2000000) (disch := first | omega | assumption | (simp only [DS, Nat.reduceAdd, *]; done) | (simp only [DZ]; omega)) only [RUN, RU, footA, feetIn, resultsA, tupOf, frzL, slot, lay, icyL, fillA, repCells, kR, reduceIte, Nat.reduceEqDiff, Nat.reduceBEq, Nat.reduceLT, Nat.reduceAdd, Nat.reduceLeDiff, Nat.reduceSub, Nat.reduceMul, Int.reduceLT, Int.reduceLE, Int.reduceEq, Int.reduceAdd, Int.reduceSub, Int.reduceMul, g6, g5, g0, g1, ll, lr, q1, q2, q3]
            exact ⟨true, (fun h => by cases h), rfl⟩
          · have q3 : decide (many < (l.length : Int)) = false := decide_eq_false hm
            simp (maxSteps := 2000000) (disch := first | omega | assumption | (simp only [DS, Nat.reduceAdd, *]; done) | (simp only [DZ]; omega)) only [RUN, RU, footA, feetIn, resultsA, tupOf, frzL, slot, lay, icyL, fillA, repCells, kR, reduceIte, Nat.reduceEqDiff, Nat.reduceBEq, Nat.reduceLT, Nat.reduceAdd, Nat.reduceLeDiff, Nat.reduceSub, Nat.reduceMul, Int.reduceLT, Int.reduceLE, Int.reduceEq, Int.reduceAdd, Int.reduceSub, Int.reduceMul, g6, g5, g0, g1, ll, lr, q1, q2, q3]
            exact ⟨_, (fun _ => by omega), rfl⟩
      · have q1 : decide ((i : Int) < l.length) = false := decide_eq_false hc
        by_cases hm : many < (l.length : Int)
        · have q3 : decide (many < (l.length : Int)) = true := decide_eq_true hm
          simp (maxSteps := 2000000) (disch := first | omega | assumption | (simp only [DS, Nat.reduceAdd, *]; done) | (simp only [DZ]; omega)) only [RUN, RU, footA, feetIn, resultsA, tupOf, frzL, slot, lay, icyL, fillA, repCells, kR, reduceIte, Nat.reduceEqDiff, Nat.reduceBEq, Nat.reduceLT, Nat.reduceAdd, Nat.reduceLeDiff, Nat.reduceSub, Nat.reduceMul, Int.reduceLT, Int.reduceLE, Int.reduceEq, Int.reduceAdd, Int.reduceSub, Int.reduceMul, g6, g5, g0, g1, ll, lr, q1, q3]
          exact ⟨true, (fun h => by cases h), rfl⟩
        · have q3 : decide (many < (l.length : Int)) = false := decide_eq_false hm
          simp (maxSteps := 2000000) (disch := first | omega | assumption | (simp only [DS, Nat.reduceAdd, *]; done) | (simp only [DZ]; omega)) only [RUN, RU, footA, feetIn, resultsA, tupOf, frzL, slot, lay, icyL, fillA, repCells, kR, reduceIte, Nat.reduceEqDiff, Nat.reduceBEq, Nat.reduceLT, Nat.reduceAdd, Nat.reduceLeDiff, Nat.reduceSub, Nat.reduceMul, Int.reduceLT, Int.reduceLE, Int.reduceEq, Int.reduceAdd, Int.reduceSub, Int.reduceMul, g6, g5, g0, g1, ll, lr, q1, q3]
          exact ⟨_, (fun _ => by omega), rfl⟩
  obtain ⟨r', N, hk, g, hg, rfl⟩ := key
  exact ⟨g, hg, fun M => call_own tf8 rfl hk (ic mem0) (ic M)⟩

/-- What is left of an event, up to a label. -/
def zeroEv : Ev := ⟨0, ⟨0, 0⟩, 0, 0, 0, 0, [], ⟨0, 0⟩, 0, [], 0, ⟨0, 0⟩, false, []⟩
def Ev.left (v : Lb) (e : Ev) : Option Ev := if itsK e.kind.toNat && !e.lb.leq v then (if e.crash.length = 0 then none else some { zeroEv with kind := 20, crash := e.crash }) else some e
def leftF (v : Lb) (l : List Ev) : List Ev := l.filterMap (Ev.left v)
theorem left_run {a : AV} (v : Lb) (wf : Wf M) (ha : oneA a = true) (hc : cellsA a = [a]) (hr : rowsOf a = []) : callN Tryd.prog (fsT tbl) fuel (d + 1) (.fn 25) [a, lbA v] M = some (.fn 38 [] [.ptr M.size 0, .ptr (M.size + 1) 0], (M.add (.row false [a])).add (.row false [U8 v.lv, U32 v.cats])) := by
  apply w3_eq
  refine call_0 tf25 rfl (by simp [a25]) fun b' ht hx => ?_
  have h0 := hx 0 _ rfl
  have h1 := hx 1 _ rfl
  clear hx
  simp only [a25, c25] at ht ⊢
  simp (maxSteps := 2000000) (disch := first | omega | assumption | (simp only [DS, Nat.reduceAdd, *]; done) | (simp only [DZ]; omega)) only [RUN, RU, footA, feetIn, resultsA, tupOf, frzL, slot, lay, icyL, fillA, repCells, kR, reduceIte, Nat.reduceEqDiff, Nat.reduceBEq, Nat.reduceLT, Nat.reduceAdd, Nat.reduceLeDiff, Nat.reduceSub, Nat.reduceMul, Int.reduceLT, Int.reduceLE, Int.reduceEq, Int.reduceAdd, Int.reduceSub, Int.reduceMul, h0, h1, ha, hc, hr]
end Go.Proofs.YtjbninmklbkklaaDoor
