/-
  purge: Check; the reference's Great; what is left of an event.
-/
import Derived.Test.YtjbninmklbkklaaDoorPuI
set_option linter.unusedSimpArgs false
set_option linter.unusedVariables false
set_option maxRecDepth 100000
namespace Go.Proofs.YtjbninmklbkklaaDoor
open Go Go.Ax
variable {fuel : Nat} {M : Mem} {Q : AV → Mem → Prop} {d : Nat}

theorem issLbN (a0 : Int) (a1 : Int) : PT.iss [.int .u8, .int .u32] [.int .u8 a0, .int .u32 a1] := by
  simp only [PT.iss, PT.is]
  exact ⟨[.int .u8 a0], [.int .u32 a1], rfl, ⟨_, rfl⟩, ⟨[.int .u32 a1], [], rfl, ⟨_, rfl⟩, rfl⟩⟩
/-- Are two of them the same? -/
def peLbN (d : Option AV) (u v : AV) : Option AV := match u, v with
  | .agg [.sc (.int .u8 a0), .sc (.int .u32 a1)], .agg [.sc (.int .u8 b0), .sc (.int .u32 b1)] => some (BL (!(decide (a0 = b0) && decide (a1 = b1))))
  | _, _ => d
theorem pLbN {t : List AV} (i j : Nat) : pureOp Tryd.prog t (mkO (.binOp .neq 25 (.tmp i) (.tmp j) 25) 4) = peLbN (pureD Tryd.prog t (mkO (.binOp .neq 25 (.tmp i) (.tmp j) 25) 4)) (evalA t (.tmp i)) (evalA t (.tmp j)) := by
  unfold peLbN
  split
  · rename_i a0 a1 b0 b1 h1 h2
    obtain ⟨r, hr, he⟩ := pEqS (P := Tryd.prog) [.int .u8, .int .u32] true 25 25 4 i j (by kernel_rfl) (by decide) (by kernel_rfl) h1 h2 rfl rfl (issLbN _ _) (issLbN _ _)
    have e : r = (decide (a0 = b0) && decide (a1 = b1)) := by
      rw [Bool.eq_iff_iff, he]
      simp [and_assoc]
    rw [← e]
    exact hr
  · rfl
theorem peLbN_val (d : Option AV) (a0 : Int) (a1 : Int) (b0 : Int) (b1 : Int) : peLbN d (.agg [.sc (.int .u8 a0), .sc (.int .u32 a1)]) (.agg [.sc (.int .u8 b0), .sc (.int .u32 b1)]) = some (BL (!(decide (a0 = b0) && decide (a1 = b1)))) := rfl
theorem issGrE (a0 : Int) (a1 : Int) (a2 : Int) (a3 : Bool) : PT.iss [.int .i64, .st [.st [.int .u8, .int .u32], .bool]] [.int .i64 a0, .int .u8 a1, .int .u32 a2, .bool a3] := by
  simp only [PT.iss, PT.is]
  exact ⟨[.int .i64 a0], [.int .u8 a1, .int .u32 a2, .bool a3], rfl, ⟨_, rfl⟩, ⟨[.int .u8 a1, .int .u32 a2, .bool a3], [], rfl, ⟨[.int .u8 a1, .int .u32 a2], [.bool a3], rfl, ⟨[.int .u8 a1], [.int .u32 a2], rfl, ⟨_, rfl⟩, ⟨[.int .u32 a2], [], rfl, ⟨_, rfl⟩, rfl⟩⟩, ⟨[.bool a3], [], rfl, ⟨_, rfl⟩, rfl⟩⟩, rfl⟩⟩
/-- Are two of them the same? -/
def peGrE (d : Option AV) (u v : AV) : Option AV := match u, v with
  | .agg [.sc (.int .i64 a0), .sc (.int .u8 a1), .sc (.int .u32 a2), .sc (.bool a3)], .agg [.sc (.int .i64 b0), .sc (.int .u8 b1), .sc (.int .u32 b2), .sc (.bool b3)] => some (BL (decide (a0 = b0) && decide (a1 = b1) && decide (a2 = b2) && decide (a3 = b3)))
  | _, _ => d
theorem pGrE {t : List AV} (i j : Nat) : pureOp Tryd.prog t (mkO (.binOp .eql 41 (.tmp i) (.tmp j) 41) 4) = peGrE (pureD Tryd.prog t (mkO (.binOp .eql 41 (.tmp i) (.tmp j) 41) 4)) (evalA t (.tmp i)) (evalA t (.tmp j)) := by
  unfold peGrE
  split
  · rename_i a0 a1 a2 a3 b0 b1 b2 b3 h1 h2
    obtain ⟨r, hr, he⟩ := pEqS (P := Tryd.prog) [.int .i64, .st [.st [.int .u8, .int .u32], .bool]] false 41 41 4 i j (by kernel_rfl) (by decide) (by kernel_rfl) h1 h2 rfl rfl (issGrE _ _ _ _) (issGrE _ _ _ _)
    have e : r = (decide (a0 = b0) && decide (a1 = b1) && decide (a2 = b2) && decide (a3 = b3)) := by
      rw [Bool.eq_iff_iff, he]
      simp [and_assoc]
    rw [← e]
    exact hr
  · rfl
theorem peGrE_val (d : Option AV) (a0 : Int) (a1 : Int) (a2 : Int) (a3 : Bool) (b0 : Int) (b1 : Int) (b2 : Int) (b3 : Bool) : peGrE d (.agg [.sc (.int .i64 a0), .sc (.int .u8 a1), .sc (.int .u32 a2), .sc (.bool a3)]) (.agg [.sc (.int .i64 b0), .sc (.int .u8 b1), .sc (.int .u32 b2), .sc (.bool b3)]) = some (BL (decide (a0 = b0) && decide (a1 = b1) && decide (a2 = b2) && decide (a3 = b3))) := rfl

theorem not_run {e : Ev} {r : List AV} (hr : isEv r e) (hf : 100 < fuel) (M : Mem) : callN Tryd.prog (fsT tbl) fuel (d + 5) (.fn 28) [.agg r] M = some (BL (!e.may), M) := by
  obtain ⟨da, ca, rfl, h1, h2⟩ := hr
  have hm := fun M => @may_run fuel d e da ca h1 h2 hf M
  have ic : ∀ M, icyL (icy 12) M [.agg (evRow e da ca)] = some ([.agg (evRow e da ca)], M) := fun M => by simp only [icyL, ev_icy1 h1 h2]
  apply w3_eq
  refine call_gc tf28 rfl (ic M) (by simp [a28]) fun b' ht hx => ?_
  have h0 := hx 0 _ rfl
  clear hx
  simp only [a28, c28] at ht ⊢
  have p1 := part_ev e da ca
  simp (maxSteps := 2000000) (disch := first | omega | assumption | (simp only [DS, Nat.reduceAdd, *]; done) | (simp only [DZ]; omega)) only [RUN, RU, footA, feetIn, resultsA, tupOf, frzL, slot, lay, icyL, fillA, repCells, kR, reduceIte, Nat.reduceEqDiff, Nat.reduceBEq, Nat.reduceLT, Nat.reduceAdd, Nat.reduceLeDiff, Nat.reduceSub, Nat.reduceMul, Int.reduceLT, Int.reduceLE, Int.reduceEq, Int.reduceAdd, Int.reduceSub, Int.reduceMul, h0, hm, p1]
def chk (l : List Ev) : Int := if 2048 < l.length then 4 else if l.any (fun e => !e.may) then 8 else 0
theorem check_run {a : AV} {l : List Ev} (hS : Sl 17 isEv a l) (hl : l.length ≤ 1000000) (hf : l.length + 100 < fuel) (M : Mem) : callN Tryd.prog (fsT tbl) fuel (d + 8) (.fn 13) [a] M = some (I64 (chk l), M) := by
  have hh := fun M => has_ev (fuel := fuel) (d := d + 5) (p := fun e => !e.may) (g := 28) hS hl (by omega) (fun r x hr _ M => not_run (d := d) hr (by omega) M) M
  have ll := hS.len
  have lr := hS.rows mem0
  apply w3_eq
  refine call_gc tf13 rfl (by simp (maxSteps := 2000000) (disch := first | omega | assumption | (simp only [DS, Nat.reduceAdd, *]; done) | (simp only [DZ]; omega)) only [RUN, RU, footA, feetIn, resultsA, tupOf, frzL, slot, lay, icyL, fillA, repCells, kR, reduceIte, Nat.reduceEqDiff, Nat.reduceBEq, Nat.reduceLT, Nat.reduceAdd, Nat.reduceLeDiff, Nat.reduceSub, Nat.reduceMul, Int.reduceLT, Int.reduceLE, Int.reduceEq, Int.reduceAdd, Int.reduceSub, Int.reduceMul, hS.icy]) (by simp [a13]) fun b' ht hx => ?_
  have h0 := hx 0 _ rfl
  clear hx
  simp only [a13, c13] at ht ⊢
  unfold chk
  by_cases q : 2048 < l.length
  · have q1 : decide ((2048 : Int) < l.length) = true := decide_eq_true (by omega)
    simp (maxSteps := 2000000) (disch := first | omega | assumption | (simp only [DS, Nat.reduceAdd, *]; done) | (simp only [DZ]; omega)) only [RUN, RU, footA, feetIn, resultsA, tupOf, frzL, slot, lay, icyL, fillA, repCells, kR, reduceIte, Nat.reduceEqDiff, Nat.reduceBEq, Nat.reduceLT, Nat.reduceAdd, Nat.reduceLeDiff, Nat.reduceSub, Nat.reduceMul, Int.reduceLT, Int.reduceLE, Int.reduceEq, Int.reduceAdd, Int.reduceSub, Int.reduceMul, h0, ll, lr, q1, q, if_true]
  · have q1 : decide ((2048 : Int) < l.length) = false := decide_eq_false (by omega)
    cases hb : l.any (fun e => !e.may) with
    | true =>
      rw [hb] at hh
      simp (maxSteps := 2000000) (disch := first | omega | assumption | (simp only [DS, Nat.reduceAdd, *]; done) | (simp only [DZ]; omega)) only [RUN, RU, footA, feetIn, resultsA, tupOf, frzL, slot, lay, icyL, fillA, repCells, kR, reduceIte, Nat.reduceEqDiff, Nat.reduceBEq, Nat.reduceLT, Nat.reduceAdd, Nat.reduceLeDiff, Nat.reduceSub, Nat.reduceMul, Int.reduceLT, Int.reduceLE, Int.reduceEq, Int.reduceAdd, Int.reduceSub, Int.reduceMul, h0, ll, lr, q1, q, hh, if_true, if_false]
    | false =>
      rw [hb] at hh
      simp (maxSteps := 2000000) (disch := first | omega | assumption | (simp only [DS, Nat.reduceAdd, *]; done) | (simp only [DZ]; omega)) only [RUN, RU, footA, feetIn, resultsA, tupOf, frzL, slot, lay, icyL, fillA, repCells, kR, reduceIte, Nat.reduceEqDiff, Nat.reduceBEq, Nat.reduceLT, Nat.reduceAdd, Nat.reduceLeDiff, Nat.reduceSub, Nat.reduceMul, Int.reduceLT, Int.reduceLE, Int.reduceEq, Int.reduceAdd, Int.reduceSub, Int.reduceMul, h0, ll, lr, q1, q, hh, if_false, Bool.false_eq_true]
set_option maxHeartbeats 8000000 in
theorem great_run {a : AV} {l : List Ev} (hS : Sl 17 isEv a l) (many : Int) (hf : 400 < fuel) : ∃ g : Bool, (g = false → (l.length : Int) ≤ many) ∧ ∀ M, callN Tryd.prog (fsT tbl) fuel (d + 1) (.fn 8) [a, I64 many] M = some (BL g, M) := by
  have ll := hS.len
  have lr := hS.rows mem0
  have ic : ∀ M, icyL (icy 12) M [a, I64 many] = some ([a, I64 many], M) := fun M => by simp (maxSteps := 2000000) (disch := first | omega | assumption | (simp only [DS, Nat.reduceAdd, *]; done) | (simp only [DZ]; omega)) only [RUN, RU, footA, feetIn, resultsA, tupOf, frzL, slot, lay, icyL, fillA, repCells, kR, reduceIte, Nat.reduceEqDiff, Nat.reduceBEq, Nat.reduceLT, Nat.reduceAdd, Nat.reduceLeDiff, Nat.reduceSub, Nat.reduceMul, Int.reduceLT, Int.reduceLE, Int.reduceEq, Int.reduceAdd, Int.reduceSub, Int.reduceMul, hS.icy]
  have pls := fun t x r => pLenS (P := Tryd.prog) (t := t) Tryd.underlying9 x r
  have key : W3 (callN Tryd.prog (fsT tbl) fuel (d + 1) (.fn 8) [a, I64 many] mem0) (fun r' _ => ∃ g : Bool, (g = false → (l.length : Int) ≤ many) ∧ r' = BL g) := by
    refine call_gc tf8 rfl (ic mem0) (by simp [a8]) fun b' ht hx => ?_
    have h0 := hx 0 _ rfl
    have h1 := hx 1 _ rfl
    clear hx
    simp only [a8, c8] at ht ⊢
    simp (maxSteps := 2000000) (disch := first | omega | assumption | (simp only [DS, Nat.reduceAdd, *]; done) | (simp only [DZ]; omega)) only [RUN, RU, footA, feetIn, resultsA, tupOf, frzL, slot, lay, icyL, fillA, repCells, kR, reduceIte, Nat.reduceEqDiff, Nat.reduceBEq, Nat.reduceLT, Nat.reduceAdd, Nat.reduceLeDiff, Nat.reduceSub, Nat.reduceMul, Int.reduceLT, Int.reduceLE, Int.reduceEq, Int.reduceAdd, Int.reduceSub, Int.reduceMul, h0, h1, ll, lr]
    refine w_loop (I := fun n t M => ∃ (i : Nat) (s : Int), n = 300 - i ∧ i ≤ 300 ∧ 0 ≤ s ∧ s ≤ 30000 * i ∧ nth undefA t 6 = I64 i ∧ nth undefA t 5 = I64 s ∧ nth undefA t 0 = a ∧ nth undefA t 1 = I64 many ∧ M = mem0) (n := 300) (by omega) ?_ ?_
    · refine ⟨0, 0, rfl, by omega, by omega, by omega, ?_, ?_, ?_, ?_, rfl⟩ <;> simp (maxSteps := 2000000) (disch := first | omega | assumption | (simp only [DS, Nat.reduceAdd, *]; done) | (simp only [DZ]; omega)) only [RUN, RU, footA, feetIn, resultsA, tupOf, frzL, slot, lay, icyL, fillA, repCells, kR, reduceIte, Nat.reduceEqDiff, Nat.reduceBEq, Nat.reduceLT, Nat.reduceAdd, Nat.reduceLeDiff, Nat.reduceSub, Nat.reduceMul, Int.reduceLT, Int.reduceLE, Int.reduceEq, Int.reduceAdd, Int.reduceSub, Int.reduceMul, h0, h1, ll, lr]
      all_goals first | rfl | assumption
    · rintro n t M' hlt ⟨i, s, rfl, hi, hs0, hs1, g6, g5, g0, g1, rfl⟩
      simp only [ht] at hlt ⊢
      by_cases hc : (i : Int) < l.length
      · have q1 : decide ((i : Int) < l.length) = true := decide_eq_true hc
        by_cases hc2 : i < 300
        · have q2 : decide ((i : Int) < 300) = true := decide_eq_true (by omega)
          obtain ⟨r, hiad, ⟨da, ca, rfl, hd, hcr⟩, hrl⟩ := hS.iad i (by omega)
          have ld := hd.len
          have lc := hcr.len
          have rd := hd.rows mem0
          have rc := hcr.rows mem0
          generalize hx1 : (if (10000 : Int) < ((l[i]).text.length : Int) then (10000 : Int) else ((l[i]).text.length : Int)) = x1
          generalize hx2 : (if (10000 : Int) < ((l[i]).data.length : Int) then (10000 : Int) else ((l[i]).data.length : Int)) = x2
          generalize hx3 : (if (10000 : Int) < ((l[i]).crash.length : Int) then (10000 : Int) else ((l[i]).crash.length : Int)) = x3
          have b1 : 0 ≤ x1 ∧ x1 ≤ 10000 := by rw [← hx1]; split <;> omega
          have b2 : 0 ≤ x2 ∧ x2 ≤ 10000 := by rw [← hx2]; split <;> omega
          have b3 : 0 ≤ x3 ∧ x3 ≤ 10000 := by rw [← hx3]; split <;> omega
          have w1 : IntKind.i64.wrap ((i : Int) + 1) = ((i + 1 : Nat) : Int) := by rw [wrap_i64] <;> omega
          have w2 : IntKind.i64.wrap (s + x1) = s + x1 := by rw [wrap_i64] <;> omega
          have w3 : IntKind.i64.wrap (s + x1 + x2) = s + x1 + x2 := by rw [wrap_i64] <;> omega
          have w4 : IntKind.i64.wrap (s + x1 + x2 + x3) = s + x1 + x2 + x3 := by rw [wrap_i64] <;> omega
          unfold evRow at hiad hrl
          simp (maxSteps := 2000000) (disch := first | omega | assumption | (simp only [DS, Nat.reduceAdd, *]; done) | (simp only [DZ]; omega)) only [RUN, RU, footA, feetIn, resultsA, tupOf, frzL, slot, lay, icyL, fillA, repCells, kR, reduceIte, Nat.reduceEqDiff, Nat.reduceBEq, Nat.reduceLT, Nat.reduceAdd, Nat.reduceLeDiff, Nat.reduceSub, Nat.reduceMul, Int.reduceLT, Int.reduceLE, Int.reduceEq, Int.reduceAdd, Int.reduceSub, Int.reduceMul, g6, g5, g0, g1, ll, lr, q1, q2, hiad, pls, szB, ld, lc, rd, rc, hx1, hx2, hx3, w1, w2, w3, w4]
          exact ⟨hlt, 300 - (i + 1), by omega, i + 1, s + x1 + x2 + x3, rfl, by omega, by omega, by omega, rfl, rfl⟩
        · have q2 : decide ((i : Int) < 300) = false := decide_eq_false (by omega)
          by_cases hm : many < (l.length : Int)
          · have q3 : decide (many < (l.length : Int)) = true := decide_eq_true hm
            simp (maxSteps := 2000000) (disch := first | omega | assumption | (simp only [DS, Nat.reduceAdd, *]; done) | (simp only [DZ]; omega)) only [RUN, RU, footA, feetIn, resultsA, tupOf, frzL, slot, lay, icyL, fillA, repCells, kR, reduceIte, Nat.reduceEqDiff, Nat.reduceBEq, Nat.reduceLT, Nat.reduceAdd, Nat.reduceLeDiff, Nat.reduceSub, Nat.reduceMul, Int.reduceLT, Int.reduceLE, Int.reduceEq, Int.reduceAdd, Int.reduceSub, Int.reduceMul, g6, g5, g0, g1, ll, lr, q1, q2, q3]
            exact ⟨true, (fun h => by cases h), rfl⟩
          · have q3 : decide (many < (l.length : Int)) = false := decide_eq_false hm
            simp (maxSteps := 2000000) (disch := first | omega | assumption | (simp only [DS, Nat.reduceAdd, *]; done) | (simp only [DZ]; omega)) only [RUN, RU, footA, feetIn, resultsA, tupOf, frzL, slot, lay, icyL, fillA, repCells, kR, reduceIte, Nat.reduceEqDiff, Nat.reduceBEq, Nat.reduceLT, Nat.reduceAdd, Nat.reduceLeDiff, Nat.reduceSub, Nat.reduceMul, Int.reduceLT, Int.reduceLE, Int.reduceEq, Int.reduceAdd, Int.reduceSub, Int.reduceMul, g6, g5, g0, g1, ll, lr, q1, q2, q3]
            exact ⟨_, (fun _ => by omega), rfl⟩
      · have q1 : decide ((i : Int) < l.length) = false := decide_eq_false hc
        by_cases hm : many < (l.length : Int)
        · have q3 : decide (many < (l.length : Int)) = true := decide_eq_true hm
          simp (maxSteps := 2000000) (disch := first | omega | assumption | (simp only [DS, Nat.reduceAdd, *]; done) | (simp only [DZ]; omega)) only [RUN, RU, footA, feetIn, resultsA, tupOf, frzL, slot, lay, icyL, fillA, repCells, kR, reduceIte, Nat.reduceEqDiff, Nat.reduceBEq, Nat.reduceLT, Nat.reduceAdd, Nat.reduceLeDiff, Nat.reduceSub, Nat.reduceMul, Int.reduceLT, Int.reduceLE, Int.reduceEq, Int.reduceAdd, Int.reduceSub, Int.reduceMul, g6, g5, g0, g1, ll, lr, q1, q3]
          exact ⟨true, (fun h => by cases h), rfl⟩
        · have q3 : decide (many < (l.length : Int)) = false := decide_eq_false hm
          simp (maxSteps := 2000000) (disch := first | omega | assumption | (simp only [DS, Nat.reduceAdd, *]; done) | (simp only [DZ]; omega)) only [RUN, RU, footA, feetIn, resultsA, tupOf, frzL, slot, lay, icyL, fillA, repCells, kR, reduceIte, Nat.reduceEqDiff, Nat.reduceBEq, Nat.reduceLT, Nat.reduceAdd, Nat.reduceLeDiff, Nat.reduceSub, Nat.reduceMul, Int.reduceLT, Int.reduceLE, Int.reduceEq, Int.reduceAdd, Int.reduceSub, Int.reduceMul, g6, g5, g0, g1, ll, lr, q1, q3]
          exact ⟨_, (fun _ => by omega), rfl⟩
  obtain ⟨r', N, hk, g, hg, rfl⟩ := key
  exact ⟨g, hg, fun M => call_own tf8 rfl hk (ic mem0) (ic M)⟩

/-- What is left of an event, up to a label. -/
def zeroEv : Ev := ⟨0, ⟨0, 0⟩, 0, 0, 0, 0, [], ⟨0, 0⟩, 0, [], 0, ⟨0, 0⟩, false, []⟩
def Ev.left (v : Lb) (e : Ev) : Option Ev := if itsK e.kind.toNat && !e.lb.leq v then (if e.crash.length = 0 then none else some { zeroEv with kind := 20, crash := e.crash }) else some e
def leftF (v : Lb) (l : List Ev) : List Ev := l.filterMap (Ev.left v)
theorem left_run {a : AV} (v : Lb) (wf : Wf M) (ha : oneA a = true) (hc : cellsA a = [a]) (hr : rowsOf a = []) : callN Tryd.prog (fsT tbl) fuel (d + 1) (.fn 25) [a, lbA v] M = some (.fn 38 [] [.ptr M.size 0, .ptr (M.size + 1) 0], (M.add (.row false [a])).add (.row false [U8 v.lv, U32 v.cats])) := by
  apply w3_eq
  refine call_0 tf25 rfl (by simp [a25]) fun b' ht hx => ?_
  have h0 := hx 0 _ rfl
  have h1 := hx 1 _ rfl
  clear hx
  simp only [a25, c25] at ht ⊢
  simp (maxSteps := 2000000) (disch := first | omega | assumption | (simp only [DS, Nat.reduceAdd, *]; done) | (simp only [DZ]; omega)) only [RUN, RU, footA, feetIn, resultsA, tupOf, frzL, slot, lay, icyL, fillA, repCells, kR, reduceIte, Nat.reduceEqDiff, Nat.reduceBEq, Nat.reduceLT, Nat.reduceAdd, Nat.reduceLeDiff, Nat.reduceSub, Nat.reduceMul, Int.reduceLT, Int.reduceLE, Int.reduceEq, Int.reduceAdd, Int.reduceSub, Int.reduceMul, h0, h1, ha, hc, hr]
end Go.Proofs.YtjbninmklbkklaaDoor
