/-
  Rows of runes: Check; clone.
-/
import Derived.Test.YtbomjpdheibmfaaSaB
set_option linter.unusedSimpArgs false
set_option linter.unusedVariables false
set_option maxRecDepth 100000
namespace Go.Proofs.Ytbomjpdheibmfaa
open Go Go.Ax
variable {fuel : Nat} {M : Mem} {Q : AV → Mem → Prop} {d : Nat}
def validR (x : Int) : Bool := (decide (0 ≤ x) && decide (x < 55296)) || (decide (57343 < x) && decide (x ≤ 1114111))
def okR (x : Int) : Bool := decide (x = -1) || validR x
def chkR (l : List Int) : Int := if 64 < l.length then 4 else err (l.all okR)
theorem valid_run (x : Int) (M : Mem) : callN Try.prog (fsT tbl) fuel (d + 1) (.fn 49) [I32 x] M = some (BL (validR x), M) := by
  apply w3_eq
  refine call_gc tf49 rfl (by simp (maxSteps := 2000000) (disch := first | omega | assumption | (simp only [DS, Nat.reduceAdd, *]; done) | (simp only [DZ]; omega)) only [RUN, RU, zD, zC, zB, zE, zG, slot, lay, zH, zF, zA, kR, reduceIte, Nat.reduceEqDiff, Nat.reduceBEq, Nat.reduceLT, Nat.reduceAdd, Nat.reduceLeDiff, Nat.reduceSub, Nat.reduceMul, Int.reduceLT, Int.reduceLE, Int.reduceEq, Int.reduceAdd, Int.reduceSub, Int.reduceMul]) (by simp [a49]) fun b' ht hx => ?_
  have h0 := hx 0 _ rfl
  clear hx
  simp only [a49, c49] at ht ⊢
  unfold validR
  cases q1 : decide (0 ≤ x) <;> cases q2 : decide (x < 55296) <;> cases q3 : decide (57343 < x) <;> cases q4 : decide (x ≤ 1114111)
  all_goals simp (maxSteps := 2000000) (disch := first | omega | assumption | (simp only [DS, Nat.reduceAdd, *]; done) | (simp only [DZ]; omega)) only [RUN, RU, zD, zC, zB, zE, zG, slot, lay, zH, zF, zA, kR, reduceIte, Nat.reduceEqDiff, Nat.reduceBEq, Nat.reduceLT, Nat.reduceAdd, Nat.reduceLeDiff, Nat.reduceSub, Nat.reduceMul, Int.reduceLT, Int.reduceLE, Int.reduceEq, Int.reduceAdd, Int.reduceSub, Int.reduceMul, h0, q1, q2, q3, q4]
theorem wrong_run (x : Int) (M : Mem) : callN Try.prog (fsT tbl) fuel (d + 2) (.fn 48) [I32 x] M = some (BL (!okR x), M) := by
  have hv := fun M => @valid_run fuel d x M
  apply w3_eq
  refine call_gc tf48 rfl (by simp (maxSteps := 2000000) (disch := first | omega | assumption | (simp only [DS, Nat.reduceAdd, *]; done) | (simp only [DZ]; omega)) only [RUN, RU, zD, zC, zB, zE, zG, slot, lay, zH, zF, zA, kR, reduceIte, Nat.reduceEqDiff, Nat.reduceBEq, Nat.reduceLT, Nat.reduceAdd, Nat.reduceLeDiff, Nat.reduceSub, Nat.reduceMul, Int.reduceLT, Int.reduceLE, Int.reduceEq, Int.reduceAdd, Int.reduceSub, Int.reduceMul]) (by simp [a48]) fun b' ht hx => ?_
  have h0 := hx 0 _ rfl
  clear hx
  simp only [a48, c48] at ht ⊢
  unfold okR
  cases q : decide (x = -1) <;> simp (maxSteps := 2000000) (disch := first | omega | assumption | (simp only [DS, Nat.reduceAdd, *]; done) | (simp only [DZ]; omega)) only [RUN, RU, zD, zC, zB, zE, zG, slot, lay, zH, zF, zA, kR, reduceIte, Nat.reduceEqDiff, Nat.reduceBEq, Nat.reduceLT, Nat.reduceAdd, Nat.reduceLeDiff, Nat.reduceSub, Nat.reduceMul, Int.reduceLT, Int.reduceLE, Int.reduceEq, Int.reduceAdd, Int.reduceSub, Int.reduceMul, h0, q, hv, Bool.not_or]
theorem any_not {α : Type} (p : α → Bool) (l : List α) : (l.any fun x => !p x) = !l.all p := by
  induction l with
  | nil => rfl
  | cons x l ih => simp only [List.any_cons, List.all_cons, ih, Bool.not_and]
theorem rcheck_run {a : AV} {l : List Int} (hS : Sl 1 isI32 a l) (hf : 100 < fuel) (M : Mem) : callN Try.prog (fsT tbl) fuel (d + 5) (.fn 32) [a] M = some (I64 (chkR l), M) := by
  have ll := hS.len
  apply w3_eq
  refine call_gc tf32 rfl (by simp (maxSteps := 2000000) (disch := first | omega | assumption | (simp only [DS, Nat.reduceAdd, *]; done) | (simp only [DZ]; omega)) only [RUN, RU, zD, zC, zB, zE, zG, slot, lay, zH, zF, zA, kR, reduceIte, Nat.reduceEqDiff, Nat.reduceBEq, Nat.reduceLT, Nat.reduceAdd, Nat.reduceLeDiff, Nat.reduceSub, Nat.reduceMul, Int.reduceLT, Int.reduceLE, Int.reduceEq, Int.reduceAdd, Int.reduceSub, Int.reduceMul, hS.fz.rows, hS.fz.one, hS.fz.cells, hS.fz.icy, hS.fz.frz]) (by simp [a32]) fun b' ht hx => ?_
  have h0 := hx 0 _ rfl
  clear hx
  simp only [a32, c32] at ht ⊢
  unfold chkR
  by_cases q : 64 < l.length
  · have q1 : decide ((64 : Int) < l.length) = true := decide_eq_true (by omega)
    simp (maxSteps := 2000000) (disch := first | omega | assumption | (simp only [DS, Nat.reduceAdd, *]; done) | (simp only [DZ]; omega)) only [RUN, RU, zD, zC, zB, zE, zG, slot, lay, zH, zF, zA, kR, reduceIte, Nat.reduceEqDiff, Nat.reduceBEq, Nat.reduceLT, Nat.reduceAdd, Nat.reduceLeDiff, Nat.reduceSub, Nat.reduceMul, Int.reduceLT, Int.reduceLE, Int.reduceEq, Int.reduceAdd, Int.reduceSub, Int.reduceMul, h0, ll, hS.fz.rows, hS.fz.one, hS.fz.cells, hS.fz.icy, hS.fz.frz, q1, q, if_true]
  · have q1 : decide ((64 : Int) < l.length) = false := decide_eq_false (by omega)
    have hh := fun M => has_gc (P := Try.prog) (fs := fsT tbl) (fuel := fuel) (l := l) (ag := false) (n := d + 2) tf50 tf59 (fun _ => rfl) fz_I32 hS (by omega) (by omega) (fz_fn0 48) (p := fun x => !okR x) (fun r x hr _ M => by
      obtain rfl := hr
      exact @wrong_run fuel d x M) M
    rw [any_not] at hh
    cases hb : l.all okR <;> rw [hb] at hh <;> simp (maxSteps := 2000000) (disch := first | omega | assumption | (simp only [DS, Nat.reduceAdd, *]; done) | (simp only [DZ]; omega)) only [RUN, RU, zD, zC, zB, zE, zG, slot, lay, zH, zF, zA, kR, reduceIte, Nat.reduceEqDiff, Nat.reduceBEq, Nat.reduceLT, Nat.reduceAdd, Nat.reduceLeDiff, Nat.reduceSub, Nat.reduceMul, Int.reduceLT, Int.reduceLE, Int.reduceEq, Int.reduceAdd, Int.reduceSub, Int.reduceMul, h0, ll, hS.fz.rows, hS.fz.one, hS.fz.cells, hS.fz.icy, hS.fz.frz, q1, q, hh, if_false, err_t, err_f]
theorem rclone0 {a : AV} {l : List Int} (hS : Sl 1 isI32 a l) (hl : l.length ≤ 1000000000) (wf : Wf M)
    (k : ∀ a' M', Wf M' → M.size ≤ M'.size → (∀ j, j < M.size → M'.get j = M.get j) → SlM M' 1 isI32 a' l → (∀ id, rowOf a' = some id → M.size ≤ id) → M'.wm = M.wm → M'.dirty = M.dirty → Q a' M') : W3 (callN Try.prog (fsT tbl) fuel (d + 1) (.fn 55) [a] M) Q :=
  clone_0 fz_I32.cel tf55 Try.underlying32 hS (by omega) (by omega) wf k
end Go.Proofs.Ytbomjpdheibmfaa
