/-
  purge: events, labels, handles.
-/
import Derived.Test.YtjbninmklbkklaaDoorTb
import Derived.Test.YtjbninmklbkklaaDoorPuX
set_option linter.unusedSimpArgs false
set_option linter.unusedVariables false
set_option maxRecDepth 100000
namespace Go.Proofs.YtjbninmklbkklaaDoor
open Go Go.Ax
variable {fuel : Nat} {M : Mem} {Q : AV → Mem → Prop} {d : Nat}

abbrev U32 (n : Int) : AV := .sc (.int .u32 n)
theorem szB (l : List UInt8) : (⟨l.toArray⟩ : ByteArray).size = l.length := by simp [ByteArray.size]
/-- Labels: a level, and what there is of categories. -/
structure Lb where
  lv : Int
  cats : Int
structure Ev where
  kind : UInt8
  lb : Lb
  num : Int
  user : Int
  k : Int
  many : Int
  text : List UInt8
  to : Lb
  what : Int
  data : List UInt8
  gu : Int
  gl : Lb
  gok : Bool
  crash : List Int
def isInt (r : List AV) (n : Int) : Prop := r = [I64 n]
def evRow (e : Ev) (da ca : AV) : List AV := [U8 e.kind.toNat, U8 e.lb.lv, U32 e.lb.cats, U8 e.num, I64 e.user, I64 e.k, I64 e.many, STR e.text, U8 e.to.lv, U32 e.to.cats, U8 e.what, da, I64 e.gu, U8 e.gl.lv, U32 e.gl.cats, BL e.gok, ca]
def isEv (r : List AV) (e : Ev) : Prop := ∃ da ca, r = evRow e da ca ∧ Bs da e.data ∧ Sl 1 isInt ca e.crash
abbrev lbA (l : Lb) : AV := .agg [U8 l.lv, U32 l.cats]
theorem cel_Int : Cel isInt := fun r x h y hy => by
  rw [h, List.mem_singleton] at hy
  subst hy
  exact ⟨rfl, fun M k hk => frz_sc _ hk⟩
theorem cel_Ev : Cel isEv := fun r x h y hy => by
  obtain ⟨da, ca, rfl, h1, h2⟩ := h
  simp only [evRow, List.mem_cons, List.not_mem_nil, or_false] at hy
  rcases hy with rfl | rfl | rfl | rfl | rfl | rfl | rfl | rfl | rfl | rfl | rfl | rfl | rfl | rfl | rfl | rfl | rfl
  all_goals first | exact ⟨rfl, fun M k hk => frz_sc _ hk⟩ | exact ⟨h1.one, fun M k hk => h1.frz M 0 k hk⟩ | exact ⟨h2.one, fun M k hk => h2.frz M 0 k hk⟩
theorem celI_Ev : CelI isEv := fun r x h y hy M k hk => by
  obtain ⟨da, ca, rfl, h1, h2⟩ := h
  simp only [evRow, List.mem_cons, List.not_mem_nil, or_false] at hy
  rcases hy with rfl | rfl | rfl | rfl | rfl | rfl | rfl | rfl | rfl | rfl | rfl | rfl | rfl | rfl | rfl | rfl | rfl
  all_goals first | exact icy_sc _ hk | exact h1.icy M k hk | exact h2.icy M k hk

/-- What one category set has that another one lacks. -/
def lacks (a b : Int) : Int := IntKind.u32.wrap ((BitVec.ofInt 32 a &&& ~~~ BitVec.ofInt 32 b).toNat : Nat)
def Lb.leq (a b : Lb) : Bool := decide (a.lv ≤ b.lv) && decide (lacks a.cats b.cats = 0)
def Lb.may (a : Lb) : Bool := !decide (15 < a.lv)
theorem andNot32 (P : Program) (ty : TypeId) (a b : Int) : binV P .andNot ty .u32 a .u32 b = some (.int .u32 (lacks a b)) := by
  simp only [binV, binOp, ne_eq, not_true_eq_false, if_false, Op.intBits]
  rfl

theorem leq_run (a b : Lb) (M : Mem) : callN Tryd.prog (fsT tbl) fuel (d + 1) (.fn 15) [lbA a, lbA b] M = some (BL (a.leq b), M) := by
  apply w3_eq
  refine call_gc tf15 rfl (by simp (maxSteps := 2000000) (disch := first | omega | assumption | (simp only [DS, Nat.reduceAdd, *]; done) | (simp only [DZ]; omega)) only [RUN, RU, footA, feetIn, resultsA, tupOf, frzL, slot, lay, icyL, fillA, repCells, kR, reduceIte, Nat.reduceEqDiff, Nat.reduceBEq, Nat.reduceLT, Nat.reduceAdd, Nat.reduceLeDiff, Nat.reduceSub, Nat.reduceMul, Int.reduceLT, Int.reduceLE, Int.reduceEq, Int.reduceAdd, Int.reduceSub, Int.reduceMul]) (by simp [a15]) fun b' ht hx => ?_
  have h0 := hx 0 _ rfl
  have h1 := hx 1 _ rfl
  clear hx
  simp only [a15, c15] at ht ⊢
  unfold Lb.leq
  by_cases q : a.lv ≤ b.lv
  · have q1 : decide (a.lv ≤ b.lv) = true := decide_eq_true q
    simp (maxSteps := 2000000) (disch := first | omega | assumption | (simp only [DS, Nat.reduceAdd, *]; done) | (simp only [DZ]; omega)) only [RUN, RU, footA, feetIn, resultsA, tupOf, frzL, slot, lay, icyL, fillA, repCells, kR, reduceIte, Nat.reduceEqDiff, Nat.reduceBEq, Nat.reduceLT, Nat.reduceAdd, Nat.reduceLeDiff, Nat.reduceSub, Nat.reduceMul, Int.reduceLT, Int.reduceLE, Int.reduceEq, Int.reduceAdd, Int.reduceSub, Int.reduceMul, h0, h1, q1, andNot32]
  · have q1 : decide (a.lv ≤ b.lv) = false := decide_eq_false q
    simp (maxSteps := 2000000) (disch := first | omega | assumption | (simp only [DS, Nat.reduceAdd, *]; done) | (simp only [DZ]; omega)) only [RUN, RU, footA, feetIn, resultsA, tupOf, frzL, slot, lay, icyL, fillA, repCells, kR, reduceIte, Nat.reduceEqDiff, Nat.reduceBEq, Nat.reduceLT, Nat.reduceAdd, Nat.reduceLeDiff, Nat.reduceSub, Nat.reduceMul, Int.reduceLT, Int.reduceLE, Int.reduceEq, Int.reduceAdd, Int.reduceSub, Int.reduceMul, h0, h1, q1, andNot32, Bool.false_and]
theorem lcheck_run (a : Lb) (M : Mem) : callN Tryd.prog (fsT tbl) fuel (d + 1) (.fn 24) [lbA a] M = some (I64 (if a.may then 0 else 8), M) := by
  apply w3_eq
  refine call_gc tf24 rfl (by simp (maxSteps := 2000000) (disch := first | omega | assumption | (simp only [DS, Nat.reduceAdd, *]; done) | (simp only [DZ]; omega)) only [RUN, RU, footA, feetIn, resultsA, tupOf, frzL, slot, lay, icyL, fillA, repCells, kR, reduceIte, Nat.reduceEqDiff, Nat.reduceBEq, Nat.reduceLT, Nat.reduceAdd, Nat.reduceLeDiff, Nat.reduceSub, Nat.reduceMul, Int.reduceLT, Int.reduceLE, Int.reduceEq, Int.reduceAdd, Int.reduceSub, Int.reduceMul]) (by simp [a24]) fun b' ht hx => ?_
  have h0 := hx 0 _ rfl
  clear hx
  simp only [a24, c24] at ht ⊢
  unfold Lb.may
  by_cases q : 15 < a.lv
  · have q1 : decide (15 < a.lv) = true := decide_eq_true q
    simp (maxSteps := 2000000) (disch := first | omega | assumption | (simp only [DS, Nat.reduceAdd, *]; done) | (simp only [DZ]; omega)) only [RUN, RU, footA, feetIn, resultsA, tupOf, frzL, slot, lay, icyL, fillA, repCells, kR, reduceIte, Nat.reduceEqDiff, Nat.reduceBEq, Nat.reduceLT, Nat.reduceAdd, Nat.reduceLeDiff, Nat.reduceSub, Nat.reduceMul, Int.reduceLT, Int.reduceLE, Int.reduceEq, Int.reduceAdd, Int.reduceSub, Int.reduceMul, h0, q1, Bool.false_eq_true, if_false]
  · have q1 : decide (15 < a.lv) = false := decide_eq_false q
    simp (maxSteps := 2000000) (disch := first | omega | assumption | (simp only [DS, Nat.reduceAdd, *]; done) | (simp only [DZ]; omega)) only [RUN, RU, footA, feetIn, resultsA, tupOf, frzL, slot, lay, icyL, fillA, repCells, kR, reduceIte, Nat.reduceEqDiff, Nat.reduceBEq, Nat.reduceLT, Nat.reduceAdd, Nat.reduceLeDiff, Nat.reduceSub, Nat.reduceMul, Int.reduceLT, Int.reduceLE, Int.reduceEq, Int.reduceAdd, Int.reduceSub, Int.reduceMul, h0, q1, if_true]
theorem right_run (b : Bool) (M : Mem) : callN Tryd.prog (fsT tbl) fuel (d + 1) (.fn 50) [BL b] M = some (I64 (if b then 0 else 8), M) := by
  apply w3_eq
  refine call_gc tf50 rfl (by simp (maxSteps := 2000000) (disch := first | omega | assumption | (simp only [DS, Nat.reduceAdd, *]; done) | (simp only [DZ]; omega)) only [RUN, RU, footA, feetIn, resultsA, tupOf, frzL, slot, lay, icyL, fillA, repCells, kR, reduceIte, Nat.reduceEqDiff, Nat.reduceBEq, Nat.reduceLT, Nat.reduceAdd, Nat.reduceLeDiff, Nat.reduceSub, Nat.reduceMul, Int.reduceLT, Int.reduceLE, Int.reduceEq, Int.reduceAdd, Int.reduceSub, Int.reduceMul]) (by simp [a50]) fun b' ht hx => ?_
  have h0 := hx 0 _ rfl
  clear hx
  simp only [a50, c50] at ht ⊢
  cases b <;> simp (maxSteps := 2000000) (disch := first | omega | assumption | (simp only [DS, Nat.reduceAdd, *]; done) | (simp only [DZ]; omega)) only [RUN, RU, footA, feetIn, resultsA, tupOf, frzL, slot, lay, icyL, fillA, repCells, kR, reduceIte, Nat.reduceEqDiff, Nat.reduceBEq, Nat.reduceLT, Nat.reduceAdd, Nat.reduceLeDiff, Nat.reduceSub, Nat.reduceMul, Int.reduceLT, Int.reduceLE, Int.reduceEq, Int.reduceAdd, Int.reduceSub, Int.reduceMul, h0, Bool.false_eq_true, if_false, if_true]
abbrev hdA (l : Lb) (n : Int) : AV := .agg [U8 l.lv, U32 l.cats, U8 n]
def hdMay (l : Lb) (n : Int) : Bool := l.may && decide (n < 8)
theorem handle_run (l : Lb) (n : Int) (M : Mem) : callN Tryd.prog (fsT tbl) fuel (d + 2) (.fn 42) [hdA l n] M = some (I64 (if hdMay l n then 0 else 8), M) := by
  have hl := fun M => @lcheck_run fuel d l M
  have hr := fun b M => @right_run fuel d b M
  apply w3_eq
  refine call_gc tf42 rfl (by simp (maxSteps := 2000000) (disch := first | omega | assumption | (simp only [DS, Nat.reduceAdd, *]; done) | (simp only [DZ]; omega)) only [RUN, RU, footA, feetIn, resultsA, tupOf, frzL, slot, lay, icyL, fillA, repCells, kR, reduceIte, Nat.reduceEqDiff, Nat.reduceBEq, Nat.reduceLT, Nat.reduceAdd, Nat.reduceLeDiff, Nat.reduceSub, Nat.reduceMul, Int.reduceLT, Int.reduceLE, Int.reduceEq, Int.reduceAdd, Int.reduceSub, Int.reduceMul]) (by simp [a42]) fun b' ht hx => ?_
  have h0 := hx 0 _ rfl
  clear hx
  simp only [a42, c42] at ht ⊢
  unfold hdMay
  have z0 : decide ((0 : Int) = 0) = true := rfl
  have z8 : decide ((8 : Int) = 0) = false := rfl
  cases hm : l.may with
  | true =>
    simp only [hm, if_true] at hl
    simp (maxSteps := 2000000) (disch := first | omega | assumption | (simp only [DS, Nat.reduceAdd, *]; done) | (simp only [DZ]; omega)) only [RUN, RU, footA, feetIn, resultsA, tupOf, frzL, slot, lay, icyL, fillA, repCells, kR, reduceIte, Nat.reduceEqDiff, Nat.reduceBEq, Nat.reduceLT, Nat.reduceAdd, Nat.reduceLeDiff, Nat.reduceSub, Nat.reduceMul, Int.reduceLT, Int.reduceLE, Int.reduceEq, Int.reduceAdd, Int.reduceSub, Int.reduceMul, h0, hl, hr, z0]
  | false =>
    simp only [hm, Bool.false_eq_true, if_false] at hl
    simp (maxSteps := 2000000) (disch := first | omega | assumption | (simp only [DS, Nat.reduceAdd, *]; done) | (simp only [DZ]; omega)) only [RUN, RU, footA, feetIn, resultsA, tupOf, frzL, slot, lay, icyL, fillA, repCells, kR, reduceIte, Nat.reduceEqDiff, Nat.reduceBEq, Nat.reduceLT, Nat.reduceAdd, Nat.reduceLeDiff, Nat.reduceSub, Nat.reduceMul, Int.reduceLT, Int.reduceLE, Int.reduceEq, Int.reduceAdd, Int.reduceSub, Int.reduceMul, h0, hl, hr, z8, Bool.false_and, Bool.false_eq_true, if_false]
end Go.Proofs.YtjbninmklbkklaaDoor
