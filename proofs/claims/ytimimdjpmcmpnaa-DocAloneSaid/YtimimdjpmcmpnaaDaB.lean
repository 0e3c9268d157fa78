/-
  doc.Fits; DocAlone.
-/
import Derived.Test.YtimimdjpmcmpnaaSaV
import Derived.Test.YtimimdjpmcmpnaaSwQ
import Derived.Test.YtimimdjpmcmpnaaSwG
import Derived.Test.YtimimdjpmcmpnaaSwV
import Derived.Test.YtimimdjpmcmpnaaDaA
import Derived.Test.YtimimdjpmcmpnaaEf
set_option linter.unusedSimpArgs false
set_option linter.unusedVariables false
set_option maxRecDepth 100000
namespace Go.Proofs.Ytimimdjpmcmpnaa
open Go Go.Ax
variable {fuel : Nat} {M : Mem} {Q : AV → Mem → Prop} {d : Nat} {l : List Op} {a ra : AV} {v : Lb} {o : Op}

def docfE (l : List Op) (o : Op) : Int := if histF [] l = true then (if o.may = true then fitE l o else 8) else 8
set_option maxHeartbeats 4000000 in
theorem docfits_run (hS : Sl 17 isOp a l) (hl : l.length ≤ 10000) (hf : l.length + 400 < fuel) (hR : Sl 1 isI32 ra o.rs) (ho : o.ok) (M : Mem) : callN Try.prog (fsT tbl) fuel (d + 14) (.fn 9) [a, .agg (opR o ra)] M = some (I64 (docfE l o), M) := by
  have ora := hR.one
  have hck := fun M => @opcheck_run fuel (d + 6) o ra hR ho (by omega) M
  apply w3_eq
  refine call_gc tf9 rfl (by simp only [icyL, fun M => hS.icy M 12 (by omega), op_icy hR.fz]) (by simp [a9]) fun b' ht hx => ?_
  have h0 := hx 0 _ rfl
  have h1 := hx 1 _ rfl
  clear hx
  simp only [a9, c9] at ht ⊢
  unfold docfE
  simp (maxSteps := 2000000) (disch := first | omega | assumption | (simp only [DS, Nat.reduceAdd, *]; done) | (simp only [DZ]; omega)) only [RUN, RU, footA, feetIn, resultsA, tupOf, frzL, slot, lay, icyL, fillA, repCells, kR, reduceIte, Nat.reduceEqDiff, Nat.reduceBEq, Nat.reduceLT, Nat.reduceAdd, Nat.reduceLeDiff, Nat.reduceSub, Nat.reduceMul, Int.reduceLT, Int.reduceLE, Int.reduceEq, Int.reduceAdd, Int.reduceSub, Int.reduceMul, h0, h1, hS.fz.rows, hS.fz.one, hS.fz.cells, hS.fz.icy, hS.fz.frz, hR.fz.rows, hR.fz.one, hR.fz.cells, hR.fz.icy, hR.fz.frz]
  refine of_0 (d := d) hS hl hf (Wf.mem0.add _) (Nat.zero_le _) (fun N w s k hh => ?_) (fun N ops w s wm k hh hH htl => ?_)
  · rw [if_neg (by rw [hh]; decide)]
    simp (maxSteps := 2000000) (disch := first | omega | assumption | (simp only [DS, Nat.reduceAdd, *]; done) | (simp only [DZ]; omega)) only [RUN, RU, footA, feetIn, resultsA, tupOf, frzL, slot, lay, icyL, fillA, repCells, kR, reduceIte, Nat.reduceEqDiff, Nat.reduceBEq, Nat.reduceLT, Nat.reduceAdd, Nat.reduceLeDiff, Nat.reduceSub, Nat.reduceMul, Int.reduceLT, Int.reduceLE, Int.reduceEq, Int.reduceAdd, Int.reduceSub, Int.reduceMul, h0, h1]
  · rw [if_pos hh]
    have g0 : N.get 0 = some (.row false (opR o ra)) := by rw [k 0 (by simp (maxSteps := 2000000) (disch := first | omega | assumption | (simp only [DS, Nat.reduceAdd, *]; done) | (simp only [DZ]; omega)) only [RUN, RU, footA, feetIn, resultsA, tupOf, frzL, slot, lay, icyL, fillA, repCells, kR, reduceIte, Nat.reduceEqDiff, Nat.reduceBEq, Nat.reduceLT, Nat.reduceAdd, Nat.reduceLeDiff, Nat.reduceSub, Nat.reduceMul, Int.reduceLT, Int.reduceLE, Int.reduceEq, Int.reduceAdd, Int.reduceSub, Int.reduceMul])]; simp (maxSteps := 2000000) (disch := first | omega | assumption | (simp only [DS, Nat.reduceAdd, *]; done) | (simp only [DZ]; omega)) only [RUN, RU, footA, feetIn, resultsA, tupOf, frzL, slot, lay, icyL, fillA, repCells, kR, reduceIte, Nat.reduceEqDiff, Nat.reduceBEq, Nat.reduceLT, Nat.reduceAdd, Nat.reduceLeDiff, Nat.reduceSub, Nat.reduceMul, Int.reduceLT, Int.reduceLE, Int.reduceEq, Int.reduceAdd, Int.reduceSub, Int.reduceMul]
    have l0 := Mem.get_lt g0
    cases hm : o.may with
    | false =>
      rw [hm] at hck
      simp (maxSteps := 2000000) (disch := first | omega | assumption | (simp only [DS, Nat.reduceAdd, *]; done) | (simp only [DZ]; omega)) only [RUN, RU, footA, feetIn, resultsA, tupOf, frzL, slot, lay, icyL, fillA, repCells, kR, reduceIte, Nat.reduceEqDiff, Nat.reduceBEq, Nat.reduceLT, Nat.reduceAdd, Nat.reduceLeDiff, Nat.reduceSub, Nat.reduceMul, Int.reduceLT, Int.reduceLE, Int.reduceEq, Int.reduceAdd, Int.reduceSub, Int.reduceMul, h0, h1, g0, hR.fz.rows, hR.fz.one, hR.fz.cells, hR.fz.icy, hR.fz.frz, hck, err_f, z80, Bool.false_eq_true, if_false]
    | true =>
      rw [hm] at hck
      simp (maxSteps := 2000000) (disch := first | omega | assumption | (simp only [DS, Nat.reduceAdd, *]; done) | (simp only [DZ]; omega)) only [RUN, RU, footA, feetIn, resultsA, tupOf, frzL, slot, lay, icyL, fillA, repCells, kR, reduceIte, Nat.reduceEqDiff, Nat.reduceBEq, Nat.reduceLT, Nat.reduceAdd, Nat.reduceLeDiff, Nat.reduceSub, Nat.reduceMul, Int.reduceLT, Int.reduceLE, Int.reduceEq, Int.reduceAdd, Int.reduceSub, Int.reduceMul, h0, h1, g0, hR.fz.rows, hR.fz.one, hR.fz.cells, hR.fz.icy, hR.fz.frz, hck, err_t, z00, if_true]
      refine fits_0 (d := d + 1) hH (by omega) (by omega) hR ho hm (by omega) w (by rw [wm]; exact Nat.zero_le _) fun N2 hN2 => ?_
      simp (maxSteps := 2000000) (disch := first | omega | assumption | (simp only [DS, Nat.reduceAdd, *]; done) | (simp only [DZ]; omega)) only [RUN, RU, footA, feetIn, resultsA, tupOf, frzL, slot, lay, icyL, fillA, repCells, kR, reduceIte, Nat.reduceEqDiff, Nat.reduceBEq, Nat.reduceLT, Nat.reduceAdd, Nat.reduceLeDiff, Nat.reduceSub, Nat.reduceMul, Int.reduceLT, Int.reduceLE, Int.reduceEq, Int.reduceAdd, Int.reduceSub, Int.reduceMul, h0, h1]
theorem there_len : ∀ {l : List Op}, (∀ o ∈ l, o.may = true) → (thereL l).length ≤ 64 * l.length
  | [], _ => Nat.le_refl _
  | o :: l, h => by
    have h1 := there_len (l := l) fun p hp => h p (List.mem_cons_of_mem _ hp)
    have hb := Spn.may_le (may_sp (h o (by simp)))
    have e : (thereL (o :: l)).length = (if o.kd = 1 then o.sp.ids else []).length + (thereL l).length := by
      unfold thereL
      rw [List.flatMap_cons, List.length_append]
    have h2 : (if o.kd = 1 then o.sp.ids else []).length ≤ 64 := by
      split
      · rw [ids_len]; omega
      · simp
    rw [e, List.length_cons]
    omega
theorem docf_low (hl : l.length ≤ 25) (h : histF [] l = true) (ho : o.hd.lb.leq v = true) : docfE (lowL l v) o = docfE l o := by
  unfold docfE
  rw [if_pos h, if_pos (hist_low0 v h)]
  by_cases hm : o.may = true
  · rw [if_pos hm, if_pos hm]
    have ht := there_len (hist_may h)
    have hb := Spn.may_le (may_sp hm)
    exact fit_low_eq (hist_may h) ho hm (hist_chain h) (hist_chain (hist_low0 v h)) (fun _ => by omega) (by omega)
  · rw [if_neg hm, if_neg hm]
set_option maxHeartbeats 8000000 in
theorem alone_run (hS : Sl 17 isOp a l) (hR : Sl 1 isI32 ra o.rs) (ho : o.ok) (M : Mem) : callN Try.prog (fsT tbl) 100000 41 (.fn 3) [a, .agg (opR o ra), lbA v] M = some (BL true, M) := by
  have ll := hS.len
  have ora := hR.one
  have lra := hR.len
  have hal := alive_run
  have hgr := fun M => great_run (fuel := 100000) (d := 39) (many := 25) hS (by omega) M
  apply w3_eq
  refine call_gc tf3 rfl (by simp only [icyL, fun M => hS.icy M 12 (by omega), op_icy hR.fz, fz_icyA (fz_lbR v) (show 1 < 12 by omega)]) (by simp [a3]) fun b' ht hx => ?_
  have h0 := hx 0 _ rfl
  have h1 := hx 1 _ rfl
  have h2 := hx 2 _ rfl
  clear hx
  simp only [a3, c3] at ht ⊢
  cases q1 : greatB l 25 with
  | true =>
    rw [q1] at hgr
    simp (maxSteps := 2000000) (disch := first | omega | assumption | (simp only [DS, Nat.reduceAdd, *]; done) | (simp only [DZ]; omega)) only [RUN, RU, footA, feetIn, resultsA, tupOf, frzL, slot, lay, icyL, fillA, repCells, kR, reduceIte, Nat.reduceEqDiff, Nat.reduceBEq, Nat.reduceLT, Nat.reduceAdd, Nat.reduceLeDiff, Nat.reduceSub, Nat.reduceMul, Int.reduceLT, Int.reduceLE, Int.reduceEq, Int.reduceAdd, Int.reduceSub, Int.reduceMul, h0, h1, h2, hS.fz.rows, hS.fz.one, hS.fz.cells, hS.fz.icy, hS.fz.frz, hR.fz.rows, hR.fz.one, hR.fz.cells, hR.fz.icy, hR.fz.frz, hal, hgr]
  | false =>
    rw [q1] at hgr
    obtain ⟨hl25, hrs⟩ := great_small (by omega) q1
    have hrs2 : ∀ o ∈ l, o.rs.length ≤ 1000000000 := fun o ho => by have := hrs o ho; omega
    by_cases q2 : 300 < o.rs.length
    · have q2' : decide ((300 : Int) < o.rs.length) = true := decide_eq_true (by omega)
      simp (maxSteps := 2000000) (disch := first | omega | assumption | (simp only [DS, Nat.reduceAdd, *]; done) | (simp only [DZ]; omega)) only [RUN, RU, footA, feetIn, resultsA, tupOf, frzL, slot, lay, icyL, fillA, repCells, kR, reduceIte, Nat.reduceEqDiff, Nat.reduceBEq, Nat.reduceLT, Nat.reduceAdd, Nat.reduceLeDiff, Nat.reduceSub, Nat.reduceMul, Int.reduceLT, Int.reduceLE, Int.reduceEq, Int.reduceAdd, Int.reduceSub, Int.reduceMul, h0, h1, h2, hS.fz.rows, hS.fz.one, hS.fz.cells, hS.fz.icy, hS.fz.frz, hR.fz.rows, hR.fz.one, hR.fz.cells, hR.fz.icy, hR.fz.frz, hal, hgr, lra, q2']
    · have q2' : decide ((300 : Int) < o.rs.length) = false := decide_eq_false (by omega)
      obtain ⟨r1, ⟨r2, rfl, hr2⟩, hon⟩ := only_run (fuel := 100000) (d := 25) (v := v) hS (by omega) (by omega) hrs2
      by_cases q3 : onlyE l v = 0
      · rw [q3] at hon hr2
        simp only [if_true] at hr2
        have hlow := low_len l v
        have hh := only_ok q3
        have hh2 := hist_low0 v hh
        have hck := fun M => doccheck_run (fuel := 100000) (d := 26) hr2 (by omega) (by omega) M
        rw [hh2] at hck
        have hle := fun M => @leq_run 100000 39 o.hd.lb v M
        have hf1 := fun M => docfits_run (fuel := 100000) (d := 26) hS (by omega) (by omega) hR ho M
        have hf2 := fun M => docfits_run (fuel := 100000) (d := 26) hr2 (by omega) (by omega) hR ho M
        cases q4 : o.hd.lb.leq v with
        | false =>
          rw [q4] at hle
          simp (maxSteps := 2000000) (disch := first | omega | assumption | (simp only [DS, Nat.reduceAdd, *]; done) | (simp only [DZ]; omega)) only [RUN, RU, footA, feetIn, resultsA, tupOf, frzL, slot, lay, icyL, fillA, repCells, kR, reduceIte, Nat.reduceEqDiff, Nat.reduceBEq, Nat.reduceLT, Nat.reduceAdd, Nat.reduceLeDiff, Nat.reduceSub, Nat.reduceMul, Int.reduceLT, Int.reduceLE, Int.reduceEq, Int.reduceAdd, Int.reduceSub, Int.reduceMul, h0, h1, h2, hS.fz.rows, hS.fz.one, hS.fz.cells, hS.fz.icy, hS.fz.frz, hR.fz.rows, hR.fz.one, hR.fz.cells, hR.fz.icy, hR.fz.frz, hr2.fz.rows, hr2.fz.one, hr2.fz.cells, hr2.fz.icy, hr2.fz.frz, hal, hgr, lra, q2', hon, z00, hck, err_t, hle]
        | true =>
          rw [q4] at hle
          rw [docf_low (by omega) hh q4] at hf2
          have tt : decide (docfE l o = docfE l o) = true := decide_eq_true rfl
          simp (maxSteps := 2000000) (disch := first | omega | assumption | (simp only [DS, Nat.reduceAdd, *]; done) | (simp only [DZ]; omega)) only [RUN, RU, footA, feetIn, resultsA, tupOf, frzL, slot, lay, icyL, fillA, repCells, kR, reduceIte, Nat.reduceEqDiff, Nat.reduceBEq, Nat.reduceLT, Nat.reduceAdd, Nat.reduceLeDiff, Nat.reduceSub, Nat.reduceMul, Int.reduceLT, Int.reduceLE, Int.reduceEq, Int.reduceAdd, Int.reduceSub, Int.reduceMul, h0, h1, h2, hS.fz.rows, hS.fz.one, hS.fz.cells, hS.fz.icy, hS.fz.frz, hR.fz.rows, hR.fz.one, hR.fz.cells, hR.fz.icy, hR.fz.frz, hr2.fz.rows, hr2.fz.one, hr2.fz.cells, hr2.fz.icy, hr2.fz.frz, hal, hgr, lra, q2', hon, z00, hck, err_t, hle, hf1, hf2, tt]
      · have q3' := decide_eq_false q3
        rw [if_neg q3] at hr2
        have lr2 := hr2.len
        simp (maxSteps := 2000000) (disch := first | omega | assumption | (simp only [DS, Nat.reduceAdd, *]; done) | (simp only [DZ]; omega)) only [RUN, RU, footA, feetIn, resultsA, tupOf, frzL, slot, lay, icyL, fillA, repCells, kR, reduceIte, Nat.reduceEqDiff, Nat.reduceBEq, Nat.reduceLT, Nat.reduceAdd, Nat.reduceLeDiff, Nat.reduceSub, Nat.reduceMul, Int.reduceLT, Int.reduceLE, Int.reduceEq, Int.reduceAdd, Int.reduceSub, Int.reduceMul, h0, h1, h2, hS.fz.rows, hS.fz.one, hS.fz.cells, hS.fz.icy, hS.fz.frz, hR.fz.rows, hR.fz.one, hR.fz.cells, hR.fz.icy, hR.fz.frz, hr2.fz.rows, hr2.fz.one, hr2.fz.cells, hr2.fz.icy, hr2.fz.frz, hal, hgr, lra, q2', hon, q3', lr2, List.length_nil]
        rfl
namespace docAlone
theorem run_args (a0 a1 a2 : AV) (h0 : IsA (.sl gOp) a0) (h1 : IsA gOp a1) (h2 : IsA gLb a2) :
    callN Try.prog (fsT tbl) 100000 41 (.fn 3) [a0, a1, a2] mem0 = some (BL true, mem0) := by
  obtain ⟨a, l, ha, hl⟩ := Is.slice of_op h0
  obtain rfl : a0 = a := by simpa using ha
  obtain ⟨c1, rfl, h1⟩ := h1
  obtain ⟨o, ra, rfl, hR, ho⟩ := of_op c1 h1
  obtain ⟨c2, rfl, h2⟩ := h2
  obtain ⟨v, rfl, _⟩ := of_lb c2 h2
  exact alone_run hl hR ho mem0
end docAlone
end Go.Proofs.Ytimimdjpmcmpnaa
