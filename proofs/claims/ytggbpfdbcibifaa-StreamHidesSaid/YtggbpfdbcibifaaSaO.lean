/-
  Chains: Fits, Shown.
-/
import Derived.Test.YtggbpfdbcibifaaSaN
import Derived.Test.YtggbpfdbcibifaaEe
set_option linter.unusedSimpArgs false
set_option linter.unusedVariables false
set_option maxRecDepth 100000
namespace Go.Proofs.Ytggbpfdbcibifaa
open Go Go.Ax
variable {fuel : Nat} {M : Mem} {Q : AV → Mem → Prop} {d : Nat} {a : AV} {x : Eid} {v : Lb} {l : List Op}

def chfE (l : List Op) (o : Op) : Int := if chainE l = 0 then err o.may else chainE l
def chfB (l : List Op) (o : Op) : Bool := decide (chfE l o = 0) && rightly l o
theorem rl_of {n : Nat} {a : AV} (h : RL n a) {m : Nat} (k : n ≤ m) : ((rowsOf a).all fun i => Nat.blt i m) = true := rows_lt h k
set_option maxHeartbeats 4000000 in
theorem chfits_0 {o : Op} {ra : AV} (hS : Rd M 17 isOp a l) (hl : l.length ≤ 40000) (hf : l.length + 200 < fuel) (hR : Sl 1 isI32 ra o.rs) (ho : o.ok) (wf : Wf M) (k : ∀ N, Kept M N → Q (.tup [BL (chfB l o), I64 (chfE l o)]) N) :
    W3 (callN Try.prog (fsT tbl) fuel (d + 10) (.fn 72) [a, .agg (opR o ra)] M) Q := by
  have ora := hR.one
  have wA := wf.add (.row false (opR o ra))
  have hS' : Rd (M.add (.row false (opR o ra))) 17 isOp a l := hS.keep fun j hj => get_add wf _ _ (by
    rcases hS with h | h
    · rcases h with ⟨rfl, _⟩ | ⟨_, _, rfl, _⟩ <;> cases hj
    · exact h.lt j hj)
  have hch := lendR0 (P := Try.prog) (fs := fsT tbl) (fuel := fuel) (n := d + 8) (N := M.add (.row false (opR o ra))) tf36 rfl fz_Op hS' wA (fun a' h M => chcheck_run (d := d) h hl hf M)
  have hck := fun M => @opcheck_run fuel (d + 2) o ra hR ho (by omega) M
  unfold chfB at k
  unfold chfE at k
  refine call_0 tf72 rfl (by simp [a72]) fun b' ht hx => ?_
  have h0 := hx 0 _ rfl
  have h1 := hx 1 _ rfl
  clear hx
  simp only [a72, c72] at ht ⊢
  by_cases q0 : chainE l = 0
  · rw [q0] at hch
    simp only [q0, if_true] at k
    cases hm : o.may with
    | false =>
      rw [hm] at hck k
      simp (maxSteps := 2000000) (disch := first | omega | assumption | (simp only [DS, Nat.reduceAdd, *]; done) | (simp only [DZ]; omega)) only [RUN, RU, footA, feetIn, resultsA, tupOf, frzL, slot, lay, icyL, fillA, repCells, kR, reduceIte, Nat.reduceEqDiff, Nat.reduceBEq, Nat.reduceLT, Nat.reduceAdd, Nat.reduceLeDiff, Nat.reduceSub, Nat.reduceMul, Int.reduceLT, Int.reduceLE, Int.reduceEq, Int.reduceAdd, Int.reduceSub, Int.reduceMul, h0, h1, hR.fz.rows, hR.fz.one, hR.fz.cells, hR.fz.icy, hR.fz.frz, wf, hch, hck, err_f, z00, z80]
      exact k _ ((Kept.refl wf).add _)
    | true =>
      have hfi := lendR1 (P := Try.prog) (fs := fsT tbl) (fuel := fuel) (n := d + 8) (N := M.add (.row false (opR o ra))) (y := .agg (opR o ra)) tf44 rfl fz_Op hS' wA (op_icy hR.fz) (fun a' h M => fits_run (d := d + 1) h hl hf hR ho hm M)
      rw [hm] at hck k
      simp (maxSteps := 2000000) (disch := first | omega | assumption | (simp only [DS, Nat.reduceAdd, *]; done) | (simp only [DZ]; omega)) only [RUN, RU, footA, feetIn, resultsA, tupOf, frzL, slot, lay, icyL, fillA, repCells, kR, reduceIte, Nat.reduceEqDiff, Nat.reduceBEq, Nat.reduceLT, Nat.reduceAdd, Nat.reduceLeDiff, Nat.reduceSub, Nat.reduceMul, Int.reduceLT, Int.reduceLE, Int.reduceEq, Int.reduceAdd, Int.reduceSub, Int.reduceMul, h0, h1, hR.fz.rows, hR.fz.one, hR.fz.cells, hR.fz.icy, hR.fz.frz, wf, hch, hck, err_t, z00, hfi]
      exact k _ ((Kept.refl wf).add _)
  · have q1 : decide (chainE l = 0) = false := decide_eq_false q0
    simp only [q0, if_false, decide_false, Bool.false_and] at k
    simp (maxSteps := 2000000) (disch := first | omega | assumption | (simp only [DS, Nat.reduceAdd, *]; done) | (simp only [DZ]; omega)) only [RUN, RU, footA, feetIn, resultsA, tupOf, frzL, slot, lay, icyL, fillA, repCells, kR, reduceIte, Nat.reduceEqDiff, Nat.reduceBEq, Nat.reduceLT, Nat.reduceAdd, Nat.reduceLeDiff, Nat.reduceSub, Nat.reduceMul, Int.reduceLT, Int.reduceLE, Int.reduceEq, Int.reduceAdd, Int.reduceSub, Int.reduceMul, h0, h1, hR.fz.rows, hR.fz.one, hR.fz.cells, hR.fz.icy, hR.fz.frz, wf, hch, q1]
    exact k _ ((Kept.refl wf).add _)
def askE (l : List Op) (x : Eid) (v : Lb) : Int := if chainE l = 0 then err (x.may && v.may) else chainE l
theorem asked_run (hS : Sl 17 isOp a l) (hl : l.length ≤ 40000) (hf : l.length + 200 < fuel) (M : Mem) : callN Try.prog (fsT tbl) fuel (d + 10) (.fn 26) [a, idA x, lbA v] M = some (I64 (askE l x v), M) := by
  have hch := fun M => chcheck_run (fuel := fuel) (d := d) hS hl hf M
  have hc := fun M => @cid_run fuel (d + 6) x M
  have hv := fun M => @lcheck_run fuel (d + 8) v M
  apply w3_eq
  refine call_gc tf26 rfl (by simp only [icyL, fun M => hS.icy M 12 (by omega), fz_icyA (fz_idR x) (show 1 < 12 by omega), fz_icyA (fz_lbR v) (show 1 < 12 by omega)]) (by simp [a26]) fun b' ht hx => ?_
  have h0 := hx 0 _ rfl
  have h1 := hx 1 _ rfl
  have h2 := hx 2 _ rfl
  clear hx
  simp only [a26, c26] at ht ⊢
  unfold askE
  by_cases q0 : chainE l = 0
  · rw [q0] at hch
    rw [if_pos q0]
    cases h5 : x.may <;> cases h6 : v.may <;> rw [h5] at hc <;> rw [h6] at hv
    all_goals simp (maxSteps := 2000000) (disch := first | omega | assumption | (simp only [DS, Nat.reduceAdd, *]; done) | (simp only [DZ]; omega)) only [RUN, RU, footA, feetIn, resultsA, tupOf, frzL, slot, lay, icyL, fillA, repCells, kR, reduceIte, Nat.reduceEqDiff, Nat.reduceBEq, Nat.reduceLT, Nat.reduceAdd, Nat.reduceLeDiff, Nat.reduceSub, Nat.reduceMul, Int.reduceLT, Int.reduceLE, Int.reduceEq, Int.reduceAdd, Int.reduceSub, Int.reduceMul, h0, h1, h2, hS.fz.rows, hS.fz.one, hS.fz.cells, hS.fz.icy, hS.fz.frz, hch, hc, hv, z00, err_t, err_f, pB_max2, pB_min2, pB_max3, BMM]
    all_goals rfl
  · have q1 : decide (chainE l = 0) = false := decide_eq_false q0
    rw [if_neg q0]
    simp (maxSteps := 2000000) (disch := first | omega | assumption | (simp only [DS, Nat.reduceAdd, *]; done) | (simp only [DZ]; omega)) only [RUN, RU, footA, feetIn, resultsA, tupOf, frzL, slot, lay, icyL, fillA, repCells, kR, reduceIte, Nat.reduceEqDiff, Nat.reduceBEq, Nat.reduceLT, Nat.reduceAdd, Nat.reduceLeDiff, Nat.reduceSub, Nat.reduceMul, Int.reduceLT, Int.reduceLE, Int.reduceEq, Int.reduceAdd, Int.reduceSub, Int.reduceMul, h0, h1, h2, hS.fz.rows, hS.fz.one, hS.fz.cells, hS.fz.icy, hS.fz.frz, hch, q1]
def shownB (l : List Op) (x : Eid) (v : Lb) : Bool := decide (askE l x v = 0) && !((made l x v).any fun to => !to.leq v)
theorem shown1_0 {to : Lb} {y : Nat} (wf : Wf M) (hy : M.get y = some (.row false (lbR v))) (k : ∀ N, Kept M N → Q (BL (!to.leq v)) N) : W3 (callN Try.prog (fsT tbl) fuel (d + 2) (.fn 27) [lbA to, .ptr y 0] M) Q := by
  have ly := Mem.get_lt hy
  have hl := fun M => @leq_run fuel d to v M
  refine call_0 tf27 rfl (by simp [a27]) fun b' ht hx => ?_
  have h0 := hx 0 _ rfl
  have h1 := hx 1 _ rfl
  clear hx
  simp only [a27, c27] at ht ⊢
  simp (maxSteps := 2000000) (disch := first | omega | assumption | (simp only [DS, Nat.reduceAdd, *]; done) | (simp only [DZ]; omega)) only [RUN, RU, footA, feetIn, resultsA, tupOf, frzL, slot, lay, icyL, fillA, repCells, kR, reduceIte, Nat.reduceEqDiff, Nat.reduceBEq, Nat.reduceLT, Nat.reduceAdd, Nat.reduceLeDiff, Nat.reduceSub, Nat.reduceMul, Int.reduceLT, Int.reduceLE, Int.reduceEq, Int.reduceAdd, Int.reduceSub, Int.reduceMul, h0, h1, wf, hy, hl]
  exact k _ ((Kept.refl wf).add _)
set_option maxHeartbeats 4000000 in
theorem shown_run (hS : Sl 17 isOp a l) (hl : l.length ≤ 40000) (hf : l.length + 200 < fuel) (hx : x.ok) (M : Mem) : callN Try.prog (fsT tbl) fuel (d + 11) (.fn 14) [a, idA x, lbA v] M = some (.tup [BL (shownB l x v), I64 (askE l x v)], M) := by
  have has := fun M => asked_run (fuel := fuel) (d := d) (x := x) (v := v) hS hl hf M
  apply w3_eq
  refine call_gc tf14 rfl (by simp only [icyL, fun M => hS.icy M 12 (by omega), fz_icyA (fz_idR x) (show 1 < 12 by omega), fz_icyA (fz_lbR v) (show 1 < 12 by omega)]) (by simp [a14]) fun b' ht hx => ?_
  have h0 := hx 0 _ rfl
  have h1 := hx 1 _ rfl
  have h2 := hx 2 _ rfl
  clear hx
  simp only [a14, c14] at ht ⊢
  unfold shownB
  by_cases q0 : askE l x v = 0
  · rw [q0] at has
    obtain ⟨r, hr, hm⟩ := made_run (fuel := fuel) (d := d + 3) (x := x) (v := v) hS hl (by omega) hx
    rw [q0]
    simp (maxSteps := 2000000) (disch := first | omega | assumption | (simp only [DS, Nat.reduceAdd, *]; done) | (simp only [DZ]; omega)) only [RUN, RU, footA, feetIn, resultsA, tupOf, frzL, slot, lay, icyL, fillA, repCells, kR, reduceIte, Nat.reduceEqDiff, Nat.reduceBEq, Nat.reduceLT, Nat.reduceAdd, Nat.reduceLeDiff, Nat.reduceSub, Nat.reduceMul, Int.reduceLT, Int.reduceLE, Int.reduceEq, Int.reduceAdd, Int.reduceSub, Int.reduceMul, h0, h1, h2, hS.fz.rows, hS.fz.one, hS.fz.cells, hS.fz.icy, hS.fz.frz, hr.fz.rows, hr.fz.one, hr.fz.cells, hr.fz.icy, hr.fz.frz, has, z00, hm]
    have hml := made_len l x v
    refine has_0 (st := 2) (ag := true) (n := d + 8) (first := []) (cap := [.ptr 1 0]) tf28 tf38 (by simp) fz_Lb hr (by omega) (by omega) (p := fun to => !to.leq v) (by simp (maxSteps := 2000000) (disch := first | omega | assumption | (simp only [DS, Nat.reduceAdd, *]; done) | (simp only [DZ]; omega)) only [RUN, RU, footA, feetIn, resultsA, tupOf, frzL, slot, lay, icyL, fillA, repCells, kR, reduceIte, Nat.reduceEqDiff, Nat.reduceBEq, Nat.reduceLT, Nat.reduceAdd, Nat.reduceLeDiff, Nat.reduceSub, Nat.reduceMul, Int.reduceLT, Int.reduceLE, Int.reduceEq, Int.reduceAdd, Int.reduceSub, Int.reduceMul]) (fun n hn => by simp only [add_size, mem0_size] at hn; simp (maxSteps := 2000000) (disch := first | omega | assumption | (simp only [DS, Nat.reduceAdd, *]; done) | (simp only [DZ]; omega)) only [RUN, RU, footA, feetIn, resultsA, tupOf, frzL, slot, lay, icyL, fillA, repCells, kR, reduceIte, Nat.reduceEqDiff, Nat.reduceBEq, Nat.reduceLT, Nat.reduceAdd, Nat.reduceLeDiff, Nat.reduceSub, Nat.reduceMul, Int.reduceLT, Int.reduceLE, Int.reduceEq, Int.reduceAdd, Int.reduceSub, Int.reduceMul]) (fun r to hr _ N Q' hk hQ => ?_) fun N hk => ?_
    · obtain ⟨rfl, _⟩ := hr
      refine shown1_0 (d := d + 6) hk.wf ?_ (fun N' hk' => hQ N' (hk.trans hk'))
      rw [hk.get 1 (by simp (maxSteps := 2000000) (disch := first | omega | assumption | (simp only [DS, Nat.reduceAdd, *]; done) | (simp only [DZ]; omega)) only [RUN, RU, footA, feetIn, resultsA, tupOf, frzL, slot, lay, icyL, fillA, repCells, kR, reduceIte, Nat.reduceEqDiff, Nat.reduceBEq, Nat.reduceLT, Nat.reduceAdd, Nat.reduceLeDiff, Nat.reduceSub, Nat.reduceMul, Int.reduceLT, Int.reduceLE, Int.reduceEq, Int.reduceAdd, Int.reduceSub, Int.reduceMul])]
      simp (maxSteps := 2000000) (disch := first | omega | assumption | (simp only [DS, Nat.reduceAdd, *]; done) | (simp only [DZ]; omega)) only [RUN, RU, footA, feetIn, resultsA, tupOf, frzL, slot, lay, icyL, fillA, repCells, kR, reduceIte, Nat.reduceEqDiff, Nat.reduceBEq, Nat.reduceLT, Nat.reduceAdd, Nat.reduceLeDiff, Nat.reduceSub, Nat.reduceMul, Int.reduceLT, Int.reduceLE, Int.reduceEq, Int.reduceAdd, Int.reduceSub, Int.reduceMul]
    · simp (maxSteps := 2000000) (disch := first | omega | assumption | (simp only [DS, Nat.reduceAdd, *]; done) | (simp only [DZ]; omega)) only [RUN, RU, footA, feetIn, resultsA, tupOf, frzL, slot, lay, icyL, fillA, repCells, kR, reduceIte, Nat.reduceEqDiff, Nat.reduceBEq, Nat.reduceLT, Nat.reduceAdd, Nat.reduceLeDiff, Nat.reduceSub, Nat.reduceMul, Int.reduceLT, Int.reduceLE, Int.reduceEq, Int.reduceAdd, Int.reduceSub, Int.reduceMul, h0, h1, h2]
  · have q1 : decide (askE l x v = 0) = false := decide_eq_false q0
    simp (maxSteps := 2000000) (disch := first | omega | assumption | (simp only [DS, Nat.reduceAdd, *]; done) | (simp only [DZ]; omega)) only [RUN, RU, footA, feetIn, resultsA, tupOf, frzL, slot, lay, icyL, fillA, repCells, kR, reduceIte, Nat.reduceEqDiff, Nat.reduceBEq, Nat.reduceLT, Nat.reduceAdd, Nat.reduceLeDiff, Nat.reduceSub, Nat.reduceMul, Int.reduceLT, Int.reduceLE, Int.reduceEq, Int.reduceAdd, Int.reduceSub, Int.reduceMul, h0, h1, h2, hS.fz.rows, hS.fz.one, hS.fz.cells, hS.fz.icy, hS.fz.frz, has, q1, Bool.false_and]
end Go.Proofs.Ytggbpfdbcibifaa
