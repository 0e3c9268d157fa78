/-
  An element's chain: fits.
-/
import Derived.Test.YtimimdjpmcmpnaaSaL
import Derived.Test.YtimimdjpmcmpnaaEf
set_option linter.unusedSimpArgs false
set_option linter.unusedVariables false
set_option maxRecDepth 100000
namespace Go.Proofs.Ytimimdjpmcmpnaa
open Go Go.Ax
variable {fuel : Nat} {M : Mem} {Q : AV → Mem → Prop} {d : Nat} {a : AV} {x : Eid} {v : Lb} {l : List Op}

def contL (ls : List Lb) (b : Lb) : Bool := ls.any fun y => decide (b = y)
def rightly (pre : List Op) (o : Op) : Bool := if o.kd = 3 then o.hd.lb.leq o.to && (o.sp.ids.all fun id => contL (made pre id o.hd.lb) o.hd.lb) else true
theorem may_sp {o : Op} (h : o.may = true) : o.sp.may = true := by
  unfold Op.may at h
  simp only [Bool.and_eq_true] at h
  exact h.1.2
theorem made_len (l : List Op) (x : Eid) (v : Lb) : (made l x v).length ≤ l.length + 1 := by
  have h1 := fold_len (raisesL l x v) [x.hd.lb]
  have h2 := raises_len l x v
  unfold made
  simp only [List.length_singleton] at h1
  omega
theorem ids_len (s : Spn) : s.ids.length = s.n.toNat := (List.length_map _).trans List.length_range
theorem ids_get (s : Spn) (i : Nat) (h : i < s.ids.length) : s.ids[i] = s.at i := (List.getElem_map _).trans (by rw [List.getElem_range])
set_option maxHeartbeats 8000000 in
theorem fits_run {o : Op} {ra : AV} (hS : Sl 17 isOp a l) (hl : l.length ≤ 40000) (hf : l.length + 200 < fuel) (hR : Sl 1 isI32 ra o.rs) (ho : o.ok) (hm : o.may = true) (M : Mem) : callN Try.prog (fsT tbl) fuel (d + 8) (.fn 83) [a, .agg (opR o ra)] M = some (BL (rightly l o), M) := by
  have ora := hR.one
  have hsm := may_sp hm
  have hb := Spn.may_le hsm
  obtain ⟨m, hmn⟩ : ∃ m : Nat, o.sp.n = m := ⟨o.sp.n.toNat, by omega⟩
  have il : o.sp.ids.length = m := by rw [ids_len, hmn]; rfl
  have hat := fun n M => @ids_at fuel (d + 2) o.sp n M
  simp only [hsm, if_true] at hat
  have hle := fun M => @leq_run fuel (d + 6) o.hd.lb o.to M
  apply w3_eq
  refine call_g2 tf83 rfl (by simp only [icyL, fun M => hS.icy M 12 (by omega), op_icy hR.fz]) (by simp [a83]) fun b' ht hx => ?_
  have h0 := hx 0 _ rfl
  have h1 := hx 1 _ rfl
  clear hx
  simp only [a83, c83] at ht ⊢
  unfold rightly
  by_cases q3 : o.kd = 3
  · have k3 : decide (o.kd = 3) = true := decide_eq_true q3
    rw [if_pos q3]
    simp (maxSteps := 2000000) (disch := first | omega | assumption | (simp only [DS, Nat.reduceAdd, *]; done) | (simp only [DZ]; omega)) only [RUN, RU, footA, feetIn, resultsA, tupOf, frzL, slot, lay, icyL, fillA, repCells, kR, reduceIte, Nat.reduceEqDiff, Nat.reduceBEq, Nat.reduceLT, Nat.reduceAdd, Nat.reduceLeDiff, Nat.reduceSub, Nat.reduceMul, Int.reduceLT, Int.reduceLE, Int.reduceEq, Int.reduceAdd, Int.reduceSub, Int.reduceMul, h0, h1, hS.fz.rows, hS.fz.one, hS.fz.cells, hS.fz.icy, hS.fz.frz, hR.fz.rows, hR.fz.one, hR.fz.cells, hR.fz.icy, hR.fz.frz, k3, hle, hmn, sc_ex]
    refine w_loop (I := fun n t N => ∃ (i : Nat), n = m - i ∧ i ≤ m ∧ nth undefA t 0 = a ∧ nth undefA t 3 = .ptr 0 0 ∧ nth undefA t 5 = BL (o.hd.lb.leq o.to && (o.sp.ids.take i).all fun id => contL (made l id o.hd.lb) o.hd.lb) ∧ nth undefA t 20 = I64 m ∧ nth undefA t 21 = I64 i ∧ Wf N ∧ N.get 0 = some (.row false (opR o ra))) (n := m) (by omega) ?_ ?_
    · refine ⟨0, rfl, Nat.zero_le _, ?_, ?_, ?_, ?_, ?_, Wf.mem0.add _, by simp (maxSteps := 2000000) (disch := first | omega | assumption | (simp only [DS, Nat.reduceAdd, *]; done) | (simp only [DZ]; omega)) only [RUN, RU, footA, feetIn, resultsA, tupOf, frzL, slot, lay, icyL, fillA, repCells, kR, reduceIte, Nat.reduceEqDiff, Nat.reduceBEq, Nat.reduceLT, Nat.reduceAdd, Nat.reduceLeDiff, Nat.reduceSub, Nat.reduceMul, Int.reduceLT, Int.reduceLE, Int.reduceEq, Int.reduceAdd, Int.reduceSub, Int.reduceMul]⟩ <;> simp (maxSteps := 2000000) (disch := first | omega | assumption | (simp only [DS, Nat.reduceAdd, *]; done) | (simp only [DZ]; omega)) only [RUN, RU, footA, feetIn, resultsA, tupOf, frzL, slot, lay, icyL, fillA, repCells, kR, reduceIte, Nat.reduceEqDiff, Nat.reduceBEq, Nat.reduceLT, Nat.reduceAdd, Nat.reduceLeDiff, Nat.reduceSub, Nat.reduceMul, Int.reduceLT, Int.reduceLE, Int.reduceEq, Int.reduceAdd, Int.reduceSub, Int.reduceMul, h0, h1, hmn, Bool.and_true]
      all_goals first | rfl | assumption | done
    · rintro n t N hlt ⟨i, rfl, hi, g0, g3, g5, g20, g21, w, g⟩
      simp only [ht] at hlt ⊢
      by_cases hc : i < m
      · have q1 : decide ((i : Int) < m) = true := decide_eq_true (by omega)
        have hi' : ¬((i : Int) < 0 ∨ o.sp.n ≤ i) := by omega
        have hat := fun M => hat i M
        simp only [hi', if_false] at hat
        have ok := ids_ok ho.2.2.2.1 hsm i (by omega)
        have lN := Mem.get_lt g
        have w1 : IntKind.i64.wrap ((i : Int) + 1) = ((i + 1 : Nat) : Int) := by rw [wrap_i64] <;> omega
        obtain ⟨r, hr, hmade⟩ := made_run (fuel := fuel) (d := d) (x := o.sp.at i) (v := o.hd.lb) hS hl (by omega) ok
        have hml := made_len l (o.sp.at i) o.hd.lb
        have hcn : ∀ M, callN Try.prog (fsT tbl) fuel (d + 7) (.fn 91) [r, lbA o.hd.lb] M = some (BL (contL (made l (o.sp.at i) o.hd.lb) o.hd.lb), M) := fun M => hasV_g2 (P := Try.prog) (fs := fsT tbl) (fuel := fuel) (n := d + 5) (v := lbR o.hd.lb) tf91 tf94 fz_Lb hr (by omega) (by omega) (by omega) (fz_lbR o.hd.lb) rfl @pLbE (p := fun y => decide (o.hd.lb = y)) (fun dd r y hy _ => by rw [hy.1]; exact peLbE_val dd o.hd.lb.lv o.hd.lb.cats y.lv y.cats) M
        have hsn : (o.sp.ids.take (i + 1)).all (fun id => contL (made l id o.hd.lb) o.hd.lb) = ((o.sp.ids.take i).all (fun id => contL (made l id o.hd.lb) o.hd.lb) && contL (made l (o.sp.at i) o.hd.lb) o.hd.lb) := by
          rw [take_snoc _ i (by omega), List.all_append, ids_get]; simp
        have hall : ∀ b, b = (o.hd.lb.leq o.to && (o.sp.ids.take (i + 1)).all fun id => contL (made l id o.hd.lb) o.hd.lb) → b = false → (o.hd.lb.leq o.to && o.sp.ids.all fun id => contL (made l id o.hd.lb) o.hd.lb) = false := by
          intro b hb1 hb2
          rw [hb2] at hb1
          rw [← List.take_append_drop (i + 1) o.sp.ids, List.all_append, ← Bool.and_assoc, ← hb1, Bool.false_and]
        have orr := hr.one
        cases hb : (o.hd.lb.leq o.to && (o.sp.ids.take i).all fun id => contL (made l id o.hd.lb) o.hd.lb) with
        | false =>
          rw [hb] at g5
          have hal := hall _ rfl (by rw [hsn, ← Bool.and_assoc, hb, Bool.false_and])
          simp (maxSteps := 2000000) (disch := first | omega | assumption | (simp only [DS, Nat.reduceAdd, *]; done) | (simp only [DZ]; omega)) only [RUN, RU, footA, feetIn, resultsA, tupOf, frzL, slot, lay, icyL, fillA, repCells, kR, reduceIte, Nat.reduceEqDiff, Nat.reduceBEq, Nat.reduceLT, Nat.reduceAdd, Nat.reduceLeDiff, Nat.reduceSub, Nat.reduceMul, Int.reduceLT, Int.reduceLE, Int.reduceEq, Int.reduceAdd, Int.reduceSub, Int.reduceMul, g0, g3, g5, g20, g21, hS.fz.rows, hS.fz.one, hS.fz.cells, hS.fz.icy, hS.fz.frz, q1, w, g, hat, sc_ex]
          rw [hal]
        | true =>
          rw [hb] at g5
          cases hcc : contL (made l (o.sp.at i) o.hd.lb) o.hd.lb with
          | false =>
            rw [hcc] at hcn
            have hal := hall _ rfl (by rw [hsn, hcc, Bool.and_false, Bool.and_false])
            simp (maxSteps := 2000000) (disch := first | omega | assumption | (simp only [DS, Nat.reduceAdd, *]; done) | (simp only [DZ]; omega)) only [RUN, RU, footA, feetIn, resultsA, tupOf, frzL, slot, lay, icyL, fillA, repCells, kR, reduceIte, Nat.reduceEqDiff, Nat.reduceBEq, Nat.reduceLT, Nat.reduceAdd, Nat.reduceLeDiff, Nat.reduceSub, Nat.reduceMul, Int.reduceLT, Int.reduceLE, Int.reduceEq, Int.reduceAdd, Int.reduceSub, Int.reduceMul, g0, g3, g5, g20, g21, hS.fz.rows, hS.fz.one, hS.fz.cells, hS.fz.icy, hS.fz.frz, hr.fz.rows, hr.fz.one, hr.fz.cells, hr.fz.icy, hr.fz.frz, q1, w, g, hat, hmade, hcn, sc_ex]
            rw [hal]
          | true =>
            rw [hcc] at hcn
            have hal : (o.hd.lb.leq o.to && (o.sp.ids.take (i + 1)).all fun id => contL (made l id o.hd.lb) o.hd.lb) = true := by rw [hsn, hcc, Bool.and_true]; exact hb
            simp (maxSteps := 2000000) (disch := first | omega | assumption | (simp only [DS, Nat.reduceAdd, *]; done) | (simp only [DZ]; omega)) only [RUN, RU, footA, feetIn, resultsA, tupOf, frzL, slot, lay, icyL, fillA, repCells, kR, reduceIte, Nat.reduceEqDiff, Nat.reduceBEq, Nat.reduceLT, Nat.reduceAdd, Nat.reduceLeDiff, Nat.reduceSub, Nat.reduceMul, Int.reduceLT, Int.reduceLE, Int.reduceEq, Int.reduceAdd, Int.reduceSub, Int.reduceMul, g0, g3, g5, g20, g21, hS.fz.rows, hS.fz.one, hS.fz.cells, hS.fz.icy, hS.fz.frz, hr.fz.rows, hr.fz.one, hr.fz.cells, hr.fz.icy, hr.fz.frz, q1, w, g, hat, hmade, hcn, w1]
            exact ⟨hlt, m - (i + 1), by omega, i + 1, rfl, by omega, by rw [hal], rfl⟩
      · obtain rfl : i = m := by omega
        have q1 : decide ((i : Int) < i) = false := decide_eq_false (by omega)
        have et : o.sp.ids.take i = o.sp.ids := List.take_of_length_le (by omega)
        rw [et] at g5
        simp (maxSteps := 2000000) (disch := first | omega | assumption | (simp only [DS, Nat.reduceAdd, *]; done) | (simp only [DZ]; omega)) only [RUN, RU, footA, feetIn, resultsA, tupOf, frzL, slot, lay, icyL, fillA, repCells, kR, reduceIte, Nat.reduceEqDiff, Nat.reduceBEq, Nat.reduceLT, Nat.reduceAdd, Nat.reduceLeDiff, Nat.reduceSub, Nat.reduceMul, Int.reduceLT, Int.reduceLE, Int.reduceEq, Int.reduceAdd, Int.reduceSub, Int.reduceMul, g0, g3, g5, g20, g21, q1, sc_ex]
  · have k3 : decide (o.kd = 3) = false := decide_eq_false q3
    rw [if_neg q3]
    simp (maxSteps := 2000000) (disch := first | omega | assumption | (simp only [DS, Nat.reduceAdd, *]; done) | (simp only [DZ]; omega)) only [RUN, RU, footA, feetIn, resultsA, tupOf, frzL, slot, lay, icyL, fillA, repCells, kR, reduceIte, Nat.reduceEqDiff, Nat.reduceBEq, Nat.reduceLT, Nat.reduceAdd, Nat.reduceLeDiff, Nat.reduceSub, Nat.reduceMul, Int.reduceLT, Int.reduceLE, Int.reduceEq, Int.reduceAdd, Int.reduceSub, Int.reduceMul, h0, h1, hS.fz.rows, hS.fz.one, hS.fz.cells, hS.fz.icy, hS.fz.frz, hR.fz.rows, hR.fz.one, hR.fz.cells, hR.fz.icy, hR.fz.frz, k3, sc_ex]
end Go.Proofs.Ytimimdjpmcmpnaa
