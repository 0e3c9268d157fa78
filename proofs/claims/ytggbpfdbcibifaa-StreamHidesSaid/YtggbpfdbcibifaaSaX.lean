/-
  stream.Page (frozen).
-/
import Derived.Test.YtggbpfdbcibifaaSaY
import Derived.Test.YtggbpfdbcibifaaEe
set_option linter.unusedSimpArgs false
set_option linter.unusedVariables false
set_option maxRecDepth 100000
namespace Go.Proofs.Ytggbpfdbcibifaa
open Go Go.Ax
variable {fuel : Nat} {M : Mem} {Q : AV → Mem → Prop} {d : Nat} {x : Eid} {l : List Op} {o : Op} {ra ops a : AV} {B id m : Nat} {v : Lb} {from_ : Int}

set_option maxHeartbeats 8000000 in
theorem page_run (hS : Sl 17 isOp a l) (hl : l.length ≤ 10000) (hf : l.length + 500 < fuel) (hd : ∀ o ∈ l, o.rs.length ≤ 1000000000) : ∃ r, pageK l v from_ r ∧ ∀ M, callN Try.prog (fsT tbl) fuel (d + 16) (.fn 5) [a, lbA v, I64 from_] M = some (r, M) := by
  have ll := hS.len
  obtain ⟨ro, ⟨r1, rfl, hr1⟩, hon⟩ := only_run (fuel := fuel) (d := d) (v := v) hS hl (by omega) hd
  have oa := hS.one
  have hlow := low_len l v
  refine gc_ex tf5 rfl (fun M => by simp only [icyL, fun M => hS.icy M 12 (by omega), fz_icyA (fz_lbR v) (show 1 < 12 by omega), icy12]) ?_
  refine call_gc tf5 rfl (by simp only [icyL, fun M => hS.icy M 12 (by omega), fz_icyA (fz_lbR v) (show 1 < 12 by omega), icy12]) (by simp [a5]) fun b' ht hx => ?_
  have h0 := hx 0 _ rfl
  have h1 := hx 1 _ rfl
  have h2 := hx 2 _ rfl
  clear hx
  simp only [a5, c5] at ht ⊢
  unfold pageK pageT pageL pageE
  by_cases q0 : onlyE l v = 0
  · rw [q0] at hon hr1
    simp only [q0, if_true] at hr1 ⊢
    have hrl := hr1.len
    by_cases q1 : from_ < 0
    · have q1' := decide_eq_true q1
      simp (maxSteps := 2000000) (disch := first | omega | assumption | (simp only [DS, Nat.reduceAdd, *]; done) | (simp only [DZ]; omega)) only [RUN, RU, footA, feetIn, resultsA, tupOf, frzL, slot, lay, icyL, fillA, repCells, kR, reduceIte, Nat.reduceEqDiff, Nat.reduceBEq, Nat.reduceLT, Nat.reduceAdd, Nat.reduceLeDiff, Nat.reduceSub, Nat.reduceMul, Int.reduceLT, Int.reduceLE, Int.reduceEq, Int.reduceAdd, Int.reduceSub, Int.reduceMul, h0, h1, h2, hS.fz.rows, hS.fz.one, hS.fz.cells, hS.fz.icy, hS.fz.frz, hr1.fz.rows, hr1.fz.one, hr1.fz.cells, hr1.fz.icy, hr1.fz.frz, hon, z00, hrl, q1', q1, true_or, if_true]
      exact ⟨_, ⟨NIL, rfl, .inl ⟨rfl, rfl⟩⟩, rfl⟩
    · have q1' := decide_eq_false q1
      by_cases q2 : ((lowL l v).length : Int) < from_
      · have q2' := decide_eq_true q2
        simp (maxSteps := 2000000) (disch := first | omega | assumption | (simp only [DS, Nat.reduceAdd, *]; done) | (simp only [DZ]; omega)) only [RUN, RU, footA, feetIn, resultsA, tupOf, frzL, slot, lay, icyL, fillA, repCells, kR, reduceIte, Nat.reduceEqDiff, Nat.reduceBEq, Nat.reduceLT, Nat.reduceAdd, Nat.reduceLeDiff, Nat.reduceSub, Nat.reduceMul, Int.reduceLT, Int.reduceLE, Int.reduceEq, Int.reduceAdd, Int.reduceSub, Int.reduceMul, h0, h1, h2, hS.fz.rows, hS.fz.one, hS.fz.cells, hS.fz.icy, hS.fz.frz, hr1.fz.rows, hr1.fz.one, hr1.fz.cells, hr1.fz.icy, hr1.fz.frz, hon, z00, hrl, q1', q1, q2', q2, or_true, if_true]
        exact ⟨_, ⟨NIL, rfl, .inl ⟨rfl, rfl⟩⟩, rfl⟩
      · have q2' := decide_eq_false q2
        simp only [q1, q2, or_self, if_false, if_true]
        obtain ⟨fn, hfn⟩ : ∃ n : Nat, from_ = n := ⟨from_.toNat, by omega⟩
        subst hfn
        have w1 : IntKind.i64.wrap ((fn : Int) + 3) = (fn : Int) + 3 := wrap_i64 (by omega) (by omega)
        have mn : (if ((lowL l v).length : Int) < (fn : Int) + 3 then ((lowL l v).length : Int) else (fn : Int) + 3) = ((min (fn + 3) (lowL l v).length : Nat) : Int) := by split <;> omega
        obtain ⟨r2, hs2, hr2⟩ := sl_3 hr1 (i := fn) (j := min (fn + 3) (lowL l v).length) (by omega) (by omega)
        have hrl2 := hr2.len
        simp (maxSteps := 2000000) (disch := first | omega | assumption | (simp only [DS, Nat.reduceAdd, *]; done) | (simp only [DZ]; omega)) only [RUN, RU, footA, feetIn, resultsA, tupOf, frzL, slot, lay, icyL, fillA, repCells, kR, reduceIte, Nat.reduceEqDiff, Nat.reduceBEq, Nat.reduceLT, Nat.reduceAdd, Nat.reduceLeDiff, Nat.reduceSub, Nat.reduceMul, Int.reduceLT, Int.reduceLE, Int.reduceEq, Int.reduceAdd, Int.reduceSub, Int.reduceMul, h0, h1, h2, hS.fz.rows, hS.fz.one, hS.fz.cells, hS.fz.icy, hS.fz.frz, hr1.fz.rows, hr1.fz.one, hr1.fz.cells, hr1.fz.icy, hr1.fz.frz, hon, z00, hrl, q1', q2', w1, pB_max2, pB_min2, pB_max3, BMM, mn, hs2, hr2.fz.rows, hr2.fz.one, hr2.fz.cells, hr2.fz.icy, hr2.fz.frz, hrl2]
        generalize hpg : ((lowL l v).drop fn).take (min (fn + 3) (lowL l v).length - fn) = pg at *
        have e3 : ((lowL l v).drop (fn : Int).toNat).take 3 = pg := by
          rw [← hpg, Int.toNat_natCast]
          exact List.take_eq_take_iff.2 (by rw [List.length_drop]; omega)
        rw [e3]
        have hpl : pg.length ≤ 3 := by rw [← hpg, List.length_take]; omega
        have hpm : ∀ o ∈ pg, o ∈ l := fun o ho => by rw [← hpg] at ho; exact (List.mem_filter.1 (List.mem_of_mem_drop (List.mem_of_mem_take ho))).1
        have hmay := hist_may (only_ok q0)
        refine w_loop (I := fun n t N => ∃ (i : Nat) (out : AV), n = pg.length - i ∧ i ≤ pg.length ∧ nth undefA t 0 = a ∧ nth undefA t 4 = .ptr 0 0 ∧ nth undefA t 6 = out ∧ nth undefA t 7 = I64 (lowL l v).length ∧ nth undefA t 39 = r2 ∧ nth undefA t 40 = I64 pg.length ∧ nth undefA t 41 = I64 i ∧ Wf N ∧ N.get 0 = some (.row false (lbR v)) ∧ N.wm = 0 ∧ opK.NN N 1 out ((pg.take i).map (hideO l v))) (n := pg.length) (by omega) ?_ ?_
        · refine ⟨0, NIL, rfl, Nat.zero_le _, ?_, ?_, ?_, ?_, ?_, ?_, ?_, Wf.mem0.add _, by simp (maxSteps := 2000000) (disch := first | omega | assumption | (simp only [DS, Nat.reduceAdd, *]; done) | (simp only [DZ]; omega)) only [RUN, RU, footA, feetIn, resultsA, tupOf, frzL, slot, lay, icyL, fillA, repCells, kR, reduceIte, Nat.reduceEqDiff, Nat.reduceBEq, Nat.reduceLT, Nat.reduceAdd, Nat.reduceLeDiff, Nat.reduceSub, Nat.reduceMul, Int.reduceLT, Int.reduceLE, Int.reduceEq, Int.reduceAdd, Int.reduceSub, Int.reduceMul], rfl, NK.NN.nil _ _⟩ <;> simp (maxSteps := 2000000) (disch := first | omega | assumption | (simp only [DS, Nat.reduceAdd, *]; done) | (simp only [DZ]; omega)) only [RUN, RU, footA, feetIn, resultsA, tupOf, frzL, slot, lay, icyL, fillA, repCells, kR, reduceIte, Nat.reduceEqDiff, Nat.reduceBEq, Nat.reduceLT, Nat.reduceAdd, Nat.reduceLeDiff, Nat.reduceSub, Nat.reduceMul, Int.reduceLT, Int.reduceLE, Int.reduceEq, Int.reduceAdd, Int.reduceSub, Int.reduceMul, h0, h1, h2]
          all_goals first | rfl | assumption | done
        · rintro n t N hlt ⟨i, out, rfl, hi, g0, g4, g6, g7, g39, g40, g41, w, g, wm, hN⟩
          simp only [ht] at hlt ⊢
          have oo := hN.one
          have oc := hN.cells
          by_cases hc : i < pg.length
          · have q3 : decide ((i : Int) < pg.length) = true := decide_eq_true (by omega)
            have w1 : IntKind.i64.wrap ((i : Int) + 1) = ((i + 1 : Nat) : Int) := by rw [wrap_i64] <;> omega
            obtain ⟨r, hiad, hr, hrl⟩ := hr2.iad i hc
            have hsn : (pg.take (i + 1)).map (hideO l v) = (pg.take i).map (hideO l v) ++ [hideO l v pg[i]] := by rw [take_snoc pg i hc, List.map_append]; rfl
            have hil := hpm pg[i] (List.getElem_mem hc)
            have hlo := hd _ hil
            have hm := hmay _ hil
            generalize pg[i] = e at *
            obtain ⟨ra, rfl, hra, hok⟩ := hr
            have ora := hra.one
            have hb := Spn.may_le (may_sp hm)
            have hml := may_len hm
            have lN := Mem.get_lt g
            have kX := ((Kept.refl w).add (.row false (opR ⟨0, Hd.z, 0, ⟨Eid.z, 0⟩, Eid.z, Lb.z, []⟩ NIL))).upd (by omega) (Nat.le_refl _) (.row false (opR e ra))
            simp (maxSteps := 2000000) (disch := first | omega | assumption | (simp only [DS, Nat.reduceAdd, *]; done) | (simp only [DZ]; omega)) only [RUN, RU, footA, feetIn, resultsA, tupOf, frzL, slot, lay, icyL, fillA, repCells, kR, reduceIte, Nat.reduceEqDiff, Nat.reduceBEq, Nat.reduceLT, Nat.reduceAdd, Nat.reduceLeDiff, Nat.reduceSub, Nat.reduceMul, Int.reduceLT, Int.reduceLE, Int.reduceEq, Int.reduceAdd, Int.reduceSub, Int.reduceMul, g0, g4, g6, g7, g39, g40, g41, hS.fz.rows, hS.fz.one, hS.fz.cells, hS.fz.icy, hS.fz.frz, q3, hiad, hra.fz.rows, hra.fz.one, hra.fz.cells, hra.fz.icy, hra.fz.frz, w, g, oo, oc]
            refine hide_0 (d := d + 2) hS (by omega) hra hok ⟨by omega, by omega⟩ (by omega) (by omega) kX.wf (by rw [kX.wm]; omega) fun a' N2 w2 le2 kp2 sm2 nw2 wm2 => ?_
            simp only [upd_size, add_size] at le2 kp2 nw2
            have k2 : ∀ j, j < N.size → N2.get j = N.get j := fun j hj => by
              rw [kp2 j (by omega)]; exact kX.get j hj
            have oa2 := sm2.one
            have ca2 := sm2.cells
            have rl2 := rows_lt sm2.rl (Nat.le_refl N2.size)
            have rr2 := hN.rows (show N.size ≤ N2.size + 1 by omega)
            simp (maxSteps := 2000000) (disch := first | omega | assumption | (simp only [DS, Nat.reduceAdd, *]; done) | (simp only [DZ]; omega)) only [RUN, RU, footA, feetIn, resultsA, tupOf, frzL, slot, lay, icyL, fillA, repCells, kR, reduceIte, Nat.reduceEqDiff, Nat.reduceBEq, Nat.reduceLT, Nat.reduceAdd, Nat.reduceLeDiff, Nat.reduceSub, Nat.reduceMul, Int.reduceLT, Int.reduceLE, Int.reduceEq, Int.reduceAdd, Int.reduceSub, Int.reduceMul, g0, g4, g6, g7, g39, g40, g41, w2, oa2, ca2, oo, oc, rl2, rr2]
            refine NK.NN.app (K := opK) (B := 1) (l := (pg.take i).map (hideO l v)) (x := hideO l v e) (ra := a') w2 (hN.keep fun j a b => k2 j b) ⟨rfl, oa2, ca2⟩ ⟨sm2, fun j hj => by have := nw2 j hj; omega, hideO_ok hok⟩ (fun j hj hj2 => by have h1 := hN.lt j hj; have h2 := nw2 j hj2; omega) (by simp; omega) (by simp; omega) (by omega) fun o' M' hN' w' le' kp' nw' wm' => ?_
            simp (maxSteps := 2000000) (disch := first | omega | assumption | (simp only [DS, Nat.reduceAdd, *]; done) | (simp only [DZ]; omega)) only [RUN, RU, footA, feetIn, resultsA, tupOf, frzL, slot, lay, icyL, fillA, repCells, kR, reduceIte, Nat.reduceEqDiff, Nat.reduceBEq, Nat.reduceLT, Nat.reduceAdd, Nat.reduceLeDiff, Nat.reduceSub, Nat.reduceMul, Int.reduceLT, Int.reduceLE, Int.reduceEq, Int.reduceAdd, Int.reduceSub, Int.reduceMul, g0, g4, g6, g7, g39, g40, g41, w1]
            refine ⟨hlt, pg.length - (i + 1), by omega, i + 1, o', rfl, by omega, rfl, rfl, w', ?_, ?_, by rw [hsn]; exact hN'⟩
            · rw [kp' 0 (by omega) (fun h => by have := hN.lt 0 h; omega), k2 0 lN]; exact g
            · rw [wm', wm2]; exact wm
          · obtain rfl : i = pg.length := by omega
            have q3 : decide ((pg.length : Int) < pg.length) = false := decide_eq_false (by omega)
            rw [List.take_length] at hN
            obtain ⟨o', hz, hs⟩ := hN.frz (k := 11) (by omega)
            have hz := hz N (fun _ _ => rfl)
            simp (maxSteps := 2000000) (disch := first | omega | assumption | (simp only [DS, Nat.reduceAdd, *]; done) | (simp only [DZ]; omega)) only [RUN, RU, footA, feetIn, resultsA, tupOf, frzL, slot, lay, icyL, fillA, repCells, kR, reduceIte, Nat.reduceEqDiff, Nat.reduceBEq, Nat.reduceLT, Nat.reduceAdd, Nat.reduceLeDiff, Nat.reduceSub, Nat.reduceMul, Int.reduceLT, Int.reduceLE, Int.reduceEq, Int.reduceAdd, Int.reduceSub, Int.reduceMul, g0, g4, g6, g7, g39, g40, g41, q3, hz]
            exact ⟨_, ⟨o', rfl, opK_sl hs⟩, rfl⟩
  · have q1' : decide (onlyE l v = 0) = false := decide_eq_false q0
    simp only [q0, if_false]
    simp (maxSteps := 2000000) (disch := first | omega | assumption | (simp only [DS, Nat.reduceAdd, *]; done) | (simp only [DZ]; omega)) only [RUN, RU, footA, feetIn, resultsA, tupOf, frzL, slot, lay, icyL, fillA, repCells, kR, reduceIte, Nat.reduceEqDiff, Nat.reduceBEq, Nat.reduceLT, Nat.reduceAdd, Nat.reduceLeDiff, Nat.reduceSub, Nat.reduceMul, Int.reduceLT, Int.reduceLE, Int.reduceEq, Int.reduceAdd, Int.reduceSub, Int.reduceMul, h0, h1, h2, hS.fz.rows, hS.fz.one, hS.fz.cells, hS.fz.icy, hS.fz.frz, hon, q1']
    exact ⟨_, ⟨NIL, rfl, .inl ⟨rfl, rfl⟩⟩, rfl⟩
end Go.Proofs.Ytggbpfdbcibifaa
