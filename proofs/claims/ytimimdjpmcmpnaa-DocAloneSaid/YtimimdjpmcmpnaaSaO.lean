/-
  Chains: Fits.
-/
import Derived.Test.YtimimdjpmcmpnaaSaN
import Derived.Test.YtimimdjpmcmpnaaEf
set_option linter.unusedSimpArgs false
set_option linter.unusedVariables false
set_option maxRecDepth 100000
namespace Go.Proofs.Ytimimdjpmcmpnaa
open Go Go.Ax
variable {fuel : Nat} {M : Mem} {Q : AV → Mem → Prop} {d : Nat} {a : AV} {x : Eid} {v : Lb} {l : List Op}

def chfE (l : List Op) (o : Op) : Int := if chainE l = 0 then err o.may else chainE l
def chfB (l : List Op) (o : Op) : Bool := decide (chfE l o = 0) && rightly l o
theorem rl_of {n : Nat} {a : AV} (h : RL n a) {m : Nat} (k : n ≤ m) : ((rowsOf a).all fun i => Nat.blt i m) = true := rows_lt h k
set_option maxHeartbeats 4000000 in
theorem chfits_0 {o : Op} {ra : AV} (hS : Rd M 17 isOp a l) (hl : l.length ≤ 40000) (hf : l.length + 200 < fuel) (hR : Sl 1 isI32 ra o.rs) (ho : o.ok) (wf : Wf M) (k : ∀ N, Kept M N → Q (.tup [BL (chfB l o), I64 (chfE l o)]) N) :
    W3 (callN Try.prog (fsT tbl) fuel (d + 10) (.fn 63) [a, .agg (opR o ra)] M) Q := by
  have ora := hR.one
  have wA := wf.add (.row false (opR o ra))
  have hS' : Rd (M.add (.row false (opR o ra))) 17 isOp a l := hS.keep fun j hj => get_add wf _ _ (by
    rcases hS with h | h
    · rcases h with ⟨rfl, _⟩ | ⟨_, _, rfl, _⟩ <;> cases hj
    · exact h.lt j hj)
  have hch := lendR0 (P := Try.prog) (fs := fsT tbl) (fuel := fuel) (n := d + 8) (N := M.add (.row false (opR o ra))) tf82 rfl fz_Op hS' wA (fun a' h M => chcheck_run (d := d) h hl hf M)
  have hck := fun M => @opcheck_run fuel (d + 2) o ra hR ho (by omega) M
  unfold chfB at k
  unfold chfE at k
  refine call_0 tf63 rfl (by simp [a63]) fun b' ht hx => ?_
  have h0 := hx 0 _ rfl
  have h1 := hx 1 _ rfl
  clear hx
  simp only [a63, c63] at ht ⊢
  by_cases q0 : chainE l = 0
  · rw [q0] at hch
    simp only [q0, if_true] at k
    cases hm : o.may with
    | false =>
      rw [hm] at hck k
      simp (maxSteps := 2000000) (disch := first | omega | assumption | (simp only [DS, Nat.reduceAdd, *]; done) | (simp only [DZ]; omega)) only [RUN, RU, footA, feetIn, resultsA, tupOf, frzL, slot, lay, icyL, fillA, repCells, kR, reduceIte, Nat.reduceEqDiff, Nat.reduceBEq, Nat.reduceLT, Nat.reduceAdd, Nat.reduceLeDiff, Nat.reduceSub, Nat.reduceMul, Int.reduceLT, Int.reduceLE, Int.reduceEq, Int.reduceAdd, Int.reduceSub, Int.reduceMul, h0, h1, hR.fz.rows, hR.fz.one, hR.fz.cells, hR.fz.icy, hR.fz.frz, wf, hch, hck, err_f, z00, z80]
      exact k _ ((Kept.refl wf).add _)
    | true =>
      have hfi := lendR1 (P := Try.prog) (fs := fsT tbl) (fuel := fuel) (n := d + 8) (N := M.add (.row false (opR o ra))) (y := .agg (opR o ra)) tf83 rfl fz_Op hS' wA (op_icy hR.fz) (fun a' h M => fits_run (d := d + 1) h hl hf hR ho hm M)
      rw [hm] at hck k
      simp (maxSteps := 2000000) (disch := first | omega | assumption | (simp only [DS, Nat.reduceAdd, *]; done) | (simp only [DZ]; omega)) only [RUN, RU, footA, feetIn, resultsA, tupOf, frzL, slot, lay, icyL, fillA, repCells, kR, reduceIte, Nat.reduceEqDiff, Nat.reduceBEq, Nat.reduceLT, Nat.reduceAdd, Nat.reduceLeDiff, Nat.reduceSub, Nat.reduceMul, Int.reduceLT, Int.reduceLE, Int.reduceEq, Int.reduceAdd, Int.reduceSub, Int.reduceMul, h0, h1, hR.fz.rows, hR.fz.one, hR.fz.cells, hR.fz.icy, hR.fz.frz, wf, hch, hck, err_t, z00, hfi]
      exact k _ ((Kept.refl wf).add _)
  · have q1 : decide (chainE l = 0) = false := decide_eq_false q0
    simp only [q0, if_false, decide_false, Bool.false_and] at k
    simp (maxSteps := 2000000) (disch := first | omega | assumption | (simp only [DS, Nat.reduceAdd, *]; done) | (simp only [DZ]; omega)) only [RUN, RU, footA, feetIn, resultsA, tupOf, frzL, slot, lay, icyL, fillA, repCells, kR, reduceIte, Nat.reduceEqDiff, Nat.reduceBEq, Nat.reduceLT, Nat.reduceAdd, Nat.reduceLeDiff, Nat.reduceSub, Nat.reduceMul, Int.reduceLT, Int.reduceLE, Int.reduceEq, Int.reduceAdd, Int.reduceSub, Int.reduceMul, h0, h1, hR.fz.rows, hR.fz.one, hR.fz.cells, hR.fz.icy, hR.fz.frz, wf, hch, q1]
    exact k _ ((Kept.refl wf).add _)
end Go.Proofs.Ytimimdjpmcmpnaa
