/-
  Rows of runes, operations: Check; Twin.
-/
import Derived.Test.YtimimdjpmcmpnaaSaB
set_option linter.unusedSimpArgs false
set_option linter.unusedVariables false
set_option maxRecDepth 100000
namespace Go.Proofs.Ytimimdjpmcmpnaa
open Go Go.Ax
variable {fuel : Nat} {M : Mem} {Q : AV → Mem → Prop} {d : Nat}

def validR (x : Int) : Bool := (decide (0 ≤ x) && decide (x < 55296)) || (decide (57343 < x) && decide (x ≤ 1114111))
def okR (x : Int) : Bool := decide (x = -1) || validR x
def chkR (l : List Int) : Int := if 64 < l.length then 4 else err (l.all okR)
theorem valid_run (x : Int) (M : Mem) : callN Try.prog (fsT tbl) fuel (d + 1) (.fn 78) [I32 x] M = some (BL (validR x), M) := by
  apply w3_eq
  refine call_gc tf78 rfl (by simp (maxSteps := 2000000) (disch := first | omega | assumption | (simp only [DS, Nat.reduceAdd, *]; done) | (simp only [DZ]; omega)) only [RUN, RU, footA, feetIn, resultsA, tupOf, frzL, slot, lay, icyL, fillA, repCells, kR, reduceIte, Nat.reduceEqDiff, Nat.reduceBEq, Nat.reduceLT, Nat.reduceAdd, Nat.reduceLeDiff, Nat.reduceSub, Nat.reduceMul, Int.reduceLT, Int.reduceLE, Int.reduceEq, Int.reduceAdd, Int.reduceSub, Int.reduceMul]) (by simp [a78]) fun b' ht hx => ?_
  have h0 := hx 0 _ rfl
  clear hx
  simp only [a78, c78] at ht ⊢
  unfold validR
  cases q1 : decide (0 ≤ x) <;> cases q2 : decide (x < 55296) <;> cases q3 : decide (57343 < x) <;> cases q4 : decide (x ≤ 1114111)
  all_goals simp (maxSteps := 2000000) (disch := first | omega | assumption | (simp only [DS, Nat.reduceAdd, *]; done) | (simp only [DZ]; omega)) only [RUN, RU, footA, feetIn, resultsA, tupOf, frzL, slot, lay, icyL, fillA, repCells, kR, reduceIte, Nat.reduceEqDiff, Nat.reduceBEq, Nat.reduceLT, Nat.reduceAdd, Nat.reduceLeDiff, Nat.reduceSub, Nat.reduceMul, Int.reduceLT, Int.reduceLE, Int.reduceEq, Int.reduceAdd, Int.reduceSub, Int.reduceMul, h0, q1, q2, q3, q4]
theorem wrong_run (x : Int) (M : Mem) : callN Try.prog (fsT tbl) fuel (d + 2) (.fn 77) [I32 x] M = some (BL (!okR x), M) := by
  have hv := fun M => @valid_run fuel d x M
  apply w3_eq
  refine call_gc tf77 rfl (by simp (maxSteps := 2000000) (disch := first | omega | assumption | (simp only [DS, Nat.reduceAdd, *]; done) | (simp only [DZ]; omega)) only [RUN, RU, footA, feetIn, resultsA, tupOf, frzL, slot, lay, icyL, fillA, repCells, kR, reduceIte, Nat.reduceEqDiff, Nat.reduceBEq, Nat.reduceLT, Nat.reduceAdd, Nat.reduceLeDiff, Nat.reduceSub, Nat.reduceMul, Int.reduceLT, Int.reduceLE, Int.reduceEq, Int.reduceAdd, Int.reduceSub, Int.reduceMul]) (by simp [a77]) fun b' ht hx => ?_
  have h0 := hx 0 _ rfl
  clear hx
  simp only [a77, c77] at ht ⊢
  unfold okR
  cases q : decide (x = -1) <;> simp (maxSteps := 2000000) (disch := first | omega | assumption | (simp only [DS, Nat.reduceAdd, *]; done) | (simp only [DZ]; omega)) only [RUN, RU, footA, feetIn, resultsA, tupOf, frzL, slot, lay, icyL, fillA, repCells, kR, reduceIte, Nat.reduceEqDiff, Nat.reduceBEq, Nat.reduceLT, Nat.reduceAdd, Nat.reduceLeDiff, Nat.reduceSub, Nat.reduceMul, Int.reduceLT, Int.reduceLE, Int.reduceEq, Int.reduceAdd, Int.reduceSub, Int.reduceMul, h0, q, hv, Bool.not_or]
theorem any_not {α : Type} (p : α → Bool) (l : List α) : (l.any fun x => !p x) = !l.all p := by
  induction l with
  | nil => rfl
  | cons x l ih => simp only [List.any_cons, List.all_cons, ih, Bool.not_and]
theorem rcheck_run {a : AV} {l : List Int} (hS : Sl 1 isI32 a l) (hf : 100 < fuel) (M : Mem) : callN Try.prog (fsT tbl) fuel (d + 5) (.fn 53) [a] M = some (I64 (chkR l), M) := by
  have ll := hS.len
  apply w3_eq
  refine call_gc tf53 rfl (by simp (maxSteps := 2000000) (disch := first | omega | assumption | (simp only [DS, Nat.reduceAdd, *]; done) | (simp only [DZ]; omega)) only [RUN, RU, footA, feetIn, resultsA, tupOf, frzL, slot, lay, icyL, fillA, repCells, kR, reduceIte, Nat.reduceEqDiff, Nat.reduceBEq, Nat.reduceLT, Nat.reduceAdd, Nat.reduceLeDiff, Nat.reduceSub, Nat.reduceMul, Int.reduceLT, Int.reduceLE, Int.reduceEq, Int.reduceAdd, Int.reduceSub, Int.reduceMul, hS.fz.rows, hS.fz.one, hS.fz.cells, hS.fz.icy, hS.fz.frz]) (by simp [a53]) fun b' ht hx => ?_
  have h0 := hx 0 _ rfl
  clear hx
  simp only [a53, c53] at ht ⊢
  unfold chkR
  by_cases q : 64 < l.length
  · have q1 : decide ((64 : Int) < l.length) = true := decide_eq_true (by omega)
    simp (maxSteps := 2000000) (disch := first | omega | assumption | (simp only [DS, Nat.reduceAdd, *]; done) | (simp only [DZ]; omega)) only [RUN, RU, footA, feetIn, resultsA, tupOf, frzL, slot, lay, icyL, fillA, repCells, kR, reduceIte, Nat.reduceEqDiff, Nat.reduceBEq, Nat.reduceLT, Nat.reduceAdd, Nat.reduceLeDiff, Nat.reduceSub, Nat.reduceMul, Int.reduceLT, Int.reduceLE, Int.reduceEq, Int.reduceAdd, Int.reduceSub, Int.reduceMul, h0, ll, hS.fz.rows, hS.fz.one, hS.fz.cells, hS.fz.icy, hS.fz.frz, q1, q, if_true]
  · have q1 : decide ((64 : Int) < l.length) = false := decide_eq_false (by omega)
    have hh := fun M => has_gc (P := Try.prog) (fs := fsT tbl) (fuel := fuel) (l := l) (ag := false) (n := d + 2) tf79 tf90 (fun _ => rfl) fz_I32 hS (by omega) (by omega) (fz_fn0 77) (p := fun x => !okR x) (fun r x hr _ M => by
      obtain rfl := hr
      exact @wrong_run fuel d x M) M
    rw [any_not] at hh
    cases hb : l.all okR <;> rw [hb] at hh <;> simp (maxSteps := 2000000) (disch := first | omega | assumption | (simp only [DS, Nat.reduceAdd, *]; done) | (simp only [DZ]; omega)) only [RUN, RU, footA, feetIn, resultsA, tupOf, frzL, slot, lay, icyL, fillA, repCells, kR, reduceIte, Nat.reduceEqDiff, Nat.reduceBEq, Nat.reduceLT, Nat.reduceAdd, Nat.reduceLeDiff, Nat.reduceSub, Nat.reduceMul, Int.reduceLT, Int.reduceLE, Int.reduceEq, Int.reduceAdd, Int.reduceSub, Int.reduceMul, h0, ll, hS.fz.rows, hS.fz.one, hS.fz.cells, hS.fz.icy, hS.fz.frz, q1, q, hh, if_false, err_t, err_f]
theorem least_run (M : Mem) : callN Try.prog (fsT tbl) fuel (d + 1) (.fn 51) [] M = some (lbA Lb.z, M) := by
  apply w3_eq
  refine call_gc tf51 rfl (by simp (maxSteps := 2000000) (disch := first | omega | assumption | (simp only [DS, Nat.reduceAdd, *]; done) | (simp only [DZ]; omega)) only [RUN, RU, footA, feetIn, resultsA, tupOf, frzL, slot, lay, icyL, fillA, repCells, kR, reduceIte, Nat.reduceEqDiff, Nat.reduceBEq, Nat.reduceLT, Nat.reduceAdd, Nat.reduceLeDiff, Nat.reduceSub, Nat.reduceMul, Int.reduceLT, Int.reduceLE, Int.reduceEq, Int.reduceAdd, Int.reduceSub, Int.reduceMul]) (by simp [a51]) fun b' ht hx => ?_
  clear hx
  simp only [a51, c51] at ht ⊢
  simp (maxSteps := 2000000) (disch := first | omega | assumption | (simp only [DS, Nat.reduceAdd, *]; done) | (simp only [DZ]; omega)) only [RUN, RU, footA, feetIn, resultsA, tupOf, frzL, slot, lay, icyL, fillA, repCells, kR, reduceIte, Nat.reduceEqDiff, Nat.reduceBEq, Nat.reduceLT, Nat.reduceAdd, Nat.reduceLeDiff, Nat.reduceSub, Nat.reduceMul, Int.reduceLT, Int.reduceLE, Int.reduceEq, Int.reduceAdd, Int.reduceSub, Int.reduceMul]
theorem rclone0 {a : AV} {l : List Int} (hS : Sl 1 isI32 a l) (hl : l.length ≤ 1000000000) (wf : Wf M)
    (k : ∀ a' M', Wf M' → M.size ≤ M'.size → (∀ j, j < M.size → M'.get j = M.get j) → SlM M' 1 isI32 a' l → (∀ id, rowOf a' = some id → M.size ≤ id) → M'.wm = M.wm → M'.dirty = M.dirty → Q a' M') : W3 (callN Try.prog (fsT tbl) fuel (d + 1) (.fn 24) [a] M) Q :=
  clone_0 fz_I32.cel tf24 Try.underlying32 hS (by omega) (by omega) wf k
theorem op_rows {o : Op} {ra : AV} (h : Fz ra) : rowsOf (.agg (opR o ra)) = [] := fz_rowsAll (fz_opR h)
theorem op_icy {o : Op} {ra : AV} (h : Fz ra) (M : Mem) : icy 12 M (.agg (opR o ra)) = some (.agg (opR o ra), M) := fz_icyA (fz_opR h) (by omega) M
theorem op_frz {o : Op} {ra : AV} (h : Fz ra) (M : Mem) : frz M 0 12 (.agg (opR o ra)) = some (.agg (opR o ra)) := fz_frzA (fz_opR h) (by omega) M
def Op.bare (o : Op) : Bool := decide (o.af = Eid.z) && decide ((o.rs.length : Int) = 0)
def Op.part (o : Op) : Bool :=
  if o.kd = 1 then decide (o.to = Lb.z) && (decide (o.af = Eid.z) || o.af.may) && decide (o.sp.f.hd = o.hd) && decide ((o.rs.length : Int) = o.sp.n) && decide (chkR o.rs = 0)
  else if o.kd = 2 then decide (o.to = Lb.z) && o.bare
  else o.bare && o.to.may
def Op.may (o : Op) : Bool := !decide (o.kd = 0) && !decide (4 ≤ o.kd) && o.hd.may && !decide (o.sr < 1) && !decide (16777216 ≤ o.sr) && o.sp.may && o.part
theorem bare_0 {o : Op} {ra : AV} (hS : Sl 1 isI32 ra o.rs) (wf : Wf M) (k : ∀ N, Kept M N → Q (BL o.bare) N) : W3 (callN Try.prog (fsT tbl) fuel (d + 1) (.fn 49) [.agg (opR o ra)] M) Q := by
  have pIdE := @pIdE
  have ll := hS.len
  unfold Op.bare at k
  refine call_0 tf49 rfl (by simp [a49]) fun b' ht hx => ?_
  have h0 := hx 0 _ rfl
  clear hx
  simp only [a49, c49] at ht ⊢
  cases q : decide (o.af = Eid.z) <;> rw [q] at k <;> simp only [Bool.false_and, Bool.true_and] at k <;> simp (maxSteps := 2000000) (disch := first | omega | assumption | (simp only [DS, Nat.reduceAdd, *]; done) | (simp only [DZ]; omega)) only [RUN, RU, footA, feetIn, resultsA, tupOf, frzL, slot, lay, icyL, fillA, repCells, kR, reduceIte, Nat.reduceEqDiff, Nat.reduceBEq, Nat.reduceLT, Nat.reduceAdd, Nat.reduceLeDiff, Nat.reduceSub, Nat.reduceMul, Int.reduceLT, Int.reduceLE, Int.reduceEq, Int.reduceAdd, Int.reduceSub, Int.reduceMul, h0, hS.fz.rows, hS.fz.one, hS.fz.cells, hS.fz.icy, hS.fz.frz, ↓pIdE, peIdE_val, ETA, q, ll, Bool.false_and, wf]
  all_goals exact k _ ((Kept.refl wf).add _)
theorem leasts_0 {o : Op} {ra : AV} (hS : Sl 1 isI32 ra o.rs) (wf : Wf M) (k : ∀ N, Kept M N → Q (BL (decide (o.to = Lb.z))) N) : W3 (callN Try.prog (fsT tbl) fuel (d + 2) (.fn 50) [.agg (opR o ra)] M) Q := by
  have pLbE := @pLbE
  have hl := fun M => @least_run fuel d M
  refine call_0 tf50 rfl (by simp [a50]) fun b' ht hx => ?_
  have h0 := hx 0 _ rfl
  clear hx
  simp only [a50, c50] at ht ⊢
  simp (maxSteps := 2000000) (disch := first | omega | assumption | (simp only [DS, Nat.reduceAdd, *]; done) | (simp only [DZ]; omega)) only [RUN, RU, footA, feetIn, resultsA, tupOf, frzL, slot, lay, icyL, fillA, repCells, kR, reduceIte, Nat.reduceEqDiff, Nat.reduceBEq, Nat.reduceLT, Nat.reduceAdd, Nat.reduceLeDiff, Nat.reduceSub, Nat.reduceMul, Int.reduceLT, Int.reduceLE, Int.reduceEq, Int.reduceAdd, Int.reduceSub, Int.reduceMul, h0, hS.fz.rows, hS.fz.one, hS.fz.cells, hS.fz.icy, hS.fz.frz, ↓pLbE, peLbE_val, ETA, hl, wf]
  exact k _ ((Kept.refl wf).add _)
end Go.Proofs.Ytimimdjpmcmpnaa
