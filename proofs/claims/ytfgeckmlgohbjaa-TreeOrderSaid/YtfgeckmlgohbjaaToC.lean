/-
  tree: in whatever order runs are put, one text: the law's run.
-/
import Derived.Test.YtfgeckmlgohbjaaToD
import Derived.Test.YtfgeckmlgohbjaaToB
import Derived.Test.YtfgeckmlgohbjaaTrM
import Derived.Test.YtfgeckmlgohbjaaTpF
import Derived.Test.YtfgeckmlgohbjaaEf
set_option linter.unusedSimpArgs false
set_option linter.unusedVariables false
set_option maxRecDepth 100000
namespace Go.Proofs.Ytfgeckmlgohbjaa
open Go Go.Ax
variable {M : Mem} {Q : AV → Mem → Prop}

def isB (r : List AV) (b : Bool) : Prop := r = [BL b]
theorem phase1_len (l : List Rn) : (phase1 l).1.length ≤ 3 * l.length ∧ (phase1 l).2.length ≤ l.length := by
  refine snoc_ind (P := fun l => (phase1 l).1.length ≤ 3 * l.length ∧ (phase1 l).2.length ≤ l.length) ⟨Nat.le_refl _, Nat.le_refl _⟩ (fun l r ih => ?_) l
  rw [phase1_snoc]
  unfold stepA
  have := insL_len (phase1 l).1 r
  split
  · simp only [List.length_append, List.length_singleton]; omega
  · simp only [List.length_append, List.length_singleton]; omega
theorem rep_b (n : Nat) : repCells (.bool false) n = (List.replicate n [BL false]).flatten := by
  induction n with
  | zero => rfl
  | succ n ih => rw [repCells, ih, List.replicate_succ, List.flatten_cons]; rfl
theorem rep_b2 (n : Nat) : All2 isB (List.replicate n [BL false]) (List.replicate n false) := by
  induction n with
  | zero => exact .nil
  | succ n ih => rw [List.replicate_succ, List.replicate_succ]; exact .cons rfl ih
def cntF (D : List Bool) : Nat := (D.filter fun b => !b).length
theorem cntF_rep (n : Nat) : cntF (List.replicate n false) = n := by
  unfold cntF
  rw [List.filter_replicate_of_pos (by rfl), List.length_replicate]
theorem cntF_set : ∀ {D : List Bool} {i : Nat}, D[i]? = some false → cntF (D.set i true) + 1 = cntF D
  | [], _, h => by simp at h
  | b :: D, 0, h => by
    simp at h
    subst h
    simp [cntF]
  | b :: D, i + 1, h => by
    have ih := cntF_set (D := D) (i := i) (by simpa using h)
    unfold cntF at *
    cases b <;> simp [List.filter_cons] <;> omega
set_option maxHeartbeats 16000000 in
theorem order_run {a : AV} {l : List Rn} (hS : Sl 10 isRn a l) (M : Mem) : callN Try.prog (fsT tbl) 4000000 61 (.fn 3) [a] M = some (BL true, M) := by
  have oa := hS.one
  have ll := hS.len
  have hal := alive_run
  have hgr := fun M => @greatT_run 4000000 59 l a hS (by omega) M
  apply w3_eq
  refine call_gc tf3 rfl (by simp only [icyL, fun M => hS.icy M 12 (by omega)]) (by simp [a3]) fun b' ht hx => ?_
  have h0 := hx 0 _ rfl
  clear hx
  simp only [a3, c3] at ht ⊢
  cases hg : greatT l with
  | true =>
    rw [hg] at hgr
    simp (maxSteps := 2000000) (disch := first | omega | assumption | (simp only [DS, Nat.reduceAdd, *]; done) | (simp only [DZ]; omega)) only [RUN, RU, footA, feetIn, resultsA, tupOf, frzL, slot, lay, icyL, fillA, repCells, kR, reduceIte, Nat.reduceEqDiff, Nat.reduceBEq, Nat.reduceLT, Nat.reduceAdd, Nat.reduceLeDiff, Nat.reduceSub, Nat.reduceMul, Int.reduceLT, Int.reduceLE, Int.reduceEq, Int.reduceAdd, Int.reduceSub, Int.reduceMul, h0, hS.fz.rows, hS.fz.one, hS.fz.cells, hS.fz.icy, hS.fz.frz, hal, hgr]
  | false =>
    rw [hg] at hgr
    have hl := greatT_small hg
    simp (maxSteps := 2000000) (disch := first | omega | assumption | (simp only [DS, Nat.reduceAdd, *]; done) | (simp only [DZ]; omega)) only [RUN, RU, footA, feetIn, resultsA, tupOf, frzL, slot, lay, icyL, fillA, repCells, kR, reduceIte, Nat.reduceEqDiff, Nat.reduceBEq, Nat.reduceLT, Nat.reduceAdd, Nat.reduceLeDiff, Nat.reduceSub, Nat.reduceMul, Int.reduceLT, Int.reduceLE, Int.reduceEq, Int.reduceAdd, Int.reduceSub, Int.reduceMul, h0, ll, hS.fz.rows, hS.fz.one, hS.fz.cells, hS.fz.icy, hS.fz.frz, hal, hgr]
    refine w_loop (I := fun n t N => ∃ (i : Nat) (r : AV) (o : AV), n = l.length - i ∧ i ≤ l.length ∧ nth undefA t 0 = a ∧ nth undefA t 3 = BL true ∧ nth undefA t 4 = r ∧ nth undefA t 5 = o ∧ nth undefA t 6 = I64 i ∧ Wf N ∧ Sl 10 isRn r (phase1 (l.take i)).1 ∧ SlM N 10 isRn o (phase1 (l.take i)).2) (n := l.length) (by omega) ?_ ?_
    · refine ⟨0, NIL, NIL, rfl, Nat.zero_le _, ?_, ?_, ?_, ?_, ?_, Wf.mem0, .inl ⟨rfl, rfl⟩, SlM.nil⟩ <;> simp (maxSteps := 2000000) (disch := first | omega | assumption | (simp only [DS, Nat.reduceAdd, *]; done) | (simp only [DZ]; omega)) only [RUN, RU, footA, feetIn, resultsA, tupOf, frzL, slot, lay, icyL, fillA, repCells, kR, reduceIte, Nat.reduceEqDiff, Nat.reduceBEq, Nat.reduceLT, Nat.reduceAdd, Nat.reduceLeDiff, Nat.reduceSub, Nat.reduceMul, Int.reduceLT, Int.reduceLE, Int.reduceEq, Int.reduceAdd, Int.reduceSub, Int.reduceMul, h0, ll]
      all_goals first | rfl | assumption | done
    · rintro n t N hlt ⟨i, r, o, rfl, hi, g0, g3, g4, g5, g6, w, hA, hK⟩
      simp only [ht] at hlt ⊢
      have or' := hA.one
      have oo := hK.one
      have oc := hK.cells
      by_cases hc : i < l.length
      · have q1 : decide ((i : Int) < l.length) = true := decide_eq_true (by omega)
        have w1 : IntKind.i64.wrap ((i : Int) + 1) = ((i + 1 : Nat) : Int) := by rw [wrap_i64] <;> omega
        obtain ⟨rr, hiad, hr, hrl⟩ := hS.iad i hc
        have hts := phase1_snoc (l.take i) l[i]
        rw [← take_snocT l i hc] at hts
        have hpl := phase1_len (l.take i)
        rw [List.length_take] at hpl
        generalize l[i] = e at *
        obtain ⟨ra, rfl, hra, hok⟩ := hr
        have ora := hra.one
        obtain ⟨r2, hr2, hins⟩ := insert_run (fuel := 4000000) (d := 49) hA hra hok (by omega) (by omega)
        have or2 := hr2.one
        have rlo := rows_lt hK.rl (Nat.le_refl N.size)
        have rlo1 := rows_lt hK.rl (Nat.le_succ N.size)
        by_cases he : insE (phase1 (l.take i)).1 e = 0
        · have q2 : decide (insE (phase1 (l.take i)).1 e = 0) = true := decide_eq_true he
          unfold stepA at hts
          rw [if_pos he] at hts
          unfold insR at hr2
          rw [if_pos he] at hr2
          simp (maxSteps := 2000000) (disch := first | omega | assumption | (simp only [DS, Nat.reduceAdd, *]; done) | (simp only [DZ]; omega)) only [RUN, RU, footA, feetIn, resultsA, tupOf, frzL, slot, lay, icyL, fillA, repCells, kR, reduceIte, Nat.reduceEqDiff, Nat.reduceBEq, Nat.reduceLT, Nat.reduceAdd, Nat.reduceLeDiff, Nat.reduceSub, Nat.reduceMul, Int.reduceLT, Int.reduceLE, Int.reduceEq, Int.reduceAdd, Int.reduceSub, Int.reduceMul, g0, g3, g4, g5, g6, hS.fz.rows, hS.fz.one, hS.fz.cells, hS.fz.icy, hS.fz.frz, hA.fz.rows, hA.fz.one, hA.fz.cells, hA.fz.icy, hA.fz.frz, q1, hiad, hra.fz.rows, hra.fz.one, hra.fz.cells, hra.fz.icy, hra.fz.frz, hins, hr2.fz.rows, hr2.fz.one, hr2.fz.cells, hr2.fz.icy, hr2.fz.frz, q2, w, oo, oc, rlo, rlo1, ll]
          refine app1 (bytes := 80) (x := e) w hK fz_Rn ⟨ra, rfl, hra, hok⟩ rfl (by omega) (by omega) (by omega) fun o' M' sm' w' le' kp nw wm' rl on oc' => ?_
          simp (maxSteps := 2000000) (disch := first | omega | assumption | (simp only [DS, Nat.reduceAdd, *]; done) | (simp only [DZ]; omega)) only [RUN, RU, footA, feetIn, resultsA, tupOf, frzL, slot, lay, icyL, fillA, repCells, kR, reduceIte, Nat.reduceEqDiff, Nat.reduceBEq, Nat.reduceLT, Nat.reduceAdd, Nat.reduceLeDiff, Nat.reduceSub, Nat.reduceMul, Int.reduceLT, Int.reduceLE, Int.reduceEq, Int.reduceAdd, Int.reduceSub, Int.reduceMul, g0, g3, g4, g5, g6, w1, on, oc', rl, w']
          exact ⟨hlt, l.length - (i + 1), by omega, i + 1, r2, o', rfl, by omega, rfl, rfl, rfl, by rw [hts]; exact hr2, by rw [hts]; exact sm'⟩
        · have q2 : decide (insE (phase1 (l.take i)).1 e = 0) = false := decide_eq_false he
          unfold stepA at hts
          rw [if_neg he] at hts
          simp (maxSteps := 2000000) (disch := first | omega | assumption | (simp only [DS, Nat.reduceAdd, *]; done) | (simp only [DZ]; omega)) only [RUN, RU, footA, feetIn, resultsA, tupOf, frzL, slot, lay, icyL, fillA, repCells, kR, reduceIte, Nat.reduceEqDiff, Nat.reduceBEq, Nat.reduceLT, Nat.reduceAdd, Nat.reduceLeDiff, Nat.reduceSub, Nat.reduceMul, Int.reduceLT, Int.reduceLE, Int.reduceEq, Int.reduceAdd, Int.reduceSub, Int.reduceMul, g0, g3, g4, g5, g6, hS.fz.rows, hS.fz.one, hS.fz.cells, hS.fz.icy, hS.fz.frz, hA.fz.rows, hA.fz.one, hA.fz.cells, hA.fz.icy, hA.fz.frz, q1, hiad, hra.fz.rows, hra.fz.one, hra.fz.cells, hra.fz.icy, hra.fz.frz, hins, hr2.fz.rows, hr2.fz.one, hr2.fz.cells, hr2.fz.icy, hr2.fz.frz, q2, w, oo, oc, rlo, ll, w1]
          exact ⟨hlt, l.length - (i + 1), by omega, i + 1, r, o, rfl, by omega, rfl, rfl, rfl, by rw [hts]; exact hA, by rw [hts]; exact hK⟩
      · obtain rfl : i = l.length := by omega
        have q1 : decide ((l.length : Int) < l.length) = false := decide_eq_false (by omega)
        rw [List.take_length] at hA hK
        have hpl := phase1_len l
        have hkp := phase1_kpt l
        generalize (phase1 l).1 = A at *
        generalize (phase1 l).2 = K at *
        have kl := hK.len
        have hmk := fun n => @mksl_ok N w 1 1 n n (.bool false) (Nat.le_refl n)
        have hmk := hmk K.length (by omega) (by omega)
        simp (maxSteps := 2000000) (disch := first | omega | assumption | (simp only [DS, Nat.reduceAdd, *]; done) | (simp only [DZ]; omega)) only [RUN, RU, footA, feetIn, resultsA, tupOf, frzL, slot, lay, icyL, fillA, repCells, kR, reduceIte, Nat.reduceEqDiff, Nat.reduceBEq, Nat.reduceLT, Nat.reduceAdd, Nat.reduceLeDiff, Nat.reduceSub, Nat.reduceMul, Int.reduceLT, Int.reduceLE, Int.reduceEq, Int.reduceAdd, Int.reduceSub, Int.reduceMul, g0, g3, g4, g5, g6, ll, hA.fz.rows, hA.fz.one, hA.fz.cells, hA.fz.icy, hA.fz.frz, q1, kl, oo, x_mksl, hmk]
        generalize hdv : AV.sl N.size 0 K.length (some K.length) 1 = dv
        have rdv : rowOf dv = some N.size := by rw [← hdv]; rfl
        have odv : oneA dv = true := by rw [← hdv]; rfl
        have hD0 : SlM (N.add (.row false (repCells (.bool false) K.length))) 1 isB dv (List.replicate K.length false) := by
          rw [← hdv, rep_b]
          exact .inr ⟨N.size, List.replicate K.length [BL false], some K.length, by rw [List.length_replicate], .inr (by rw [List.length_replicate]), get_add_new w _ _ (Nat.le_refl _) (Nat.lt_succ_self _), rep_b2 _, fun r hr => by rw [(List.mem_replicate.1 hr).2]; rfl⟩
        have hK0 : SlM (N.add (.row false (repCells (.bool false) K.length))) 10 isRn o K := hK.keep fun j hj => get_add w _ _ (hK.lt j hj)
        have nro : ∀ j, rowOf o = some j → j ≠ N.size := fun j hj => by have := hK.lt j hj; omega
        have wZ := w.add (.row false (repCells (.bool false) K.length))
        have hagn := agn_nil K
        have hcf := cntF_rep K.length
        generalize (N.add (.row false (repCells (.bool false) K.length))) = Z at *
        clear hdv hmk
        refine w_loop (I := fun n2 t2 N2 => ∃ (i2 : Nat) (rb : AV) (B : List Rn) (D : List Bool), n2 = K.length - i2 ∧ i2 ≤ K.length ∧ nth undefA t2 3 = BL true ∧ nth undefA t2 4 = r ∧ nth undefA t2 5 = o ∧ nth undefA t2 9 = rb ∧ nth undefA t2 10 = dv ∧ nth undefA t2 11 = I64 i2 ∧ Wf N2 ∧ Sl 10 isRn rb B ∧ SlM N2 10 isRn o K ∧ SlM N2 1 isB dv D ∧ Agn K B D ∧ B.length + 3 * cntF D ≤ 3 * K.length ∧ (∀ j, j < i2 → D[j]? = some true)) (n := K.length) (by omega) ?_ ?_
        · refine ⟨0, NIL, [], List.replicate K.length false, rfl, Nat.zero_le _, ?_, ?_, ?_, ?_, ?_, ?_, wZ, .inl ⟨rfl, rfl⟩, hK0, hD0, hagn, by rw [hcf]; simp, (fun _ h => absurd h (by omega))⟩ <;> simp (maxSteps := 2000000) (disch := first | omega | assumption | (simp only [DS, Nat.reduceAdd, *]; done) | (simp only [DZ]; omega)) only [RUN, RU, footA, feetIn, resultsA, tupOf, frzL, slot, lay, icyL, fillA, repCells, kR, reduceIte, Nat.reduceEqDiff, Nat.reduceBEq, Nat.reduceLT, Nat.reduceAdd, Nat.reduceLeDiff, Nat.reduceSub, Nat.reduceMul, Int.reduceLT, Int.reduceLE, Int.reduceEq, Int.reduceAdd, Int.reduceSub, Int.reduceMul, g3, g4, g5]
          all_goals first | rfl | assumption | done
        · rintro n2 t2 N2 hlt2 ⟨i2, rb, B, D, rfl, hi2, g23, g24, g25, g29, g210, g211, w2, hB, hK2, hD2, ag, bl, pr⟩
          simp only [hlt] at hlt2 ⊢
          have kl2 := hK2.len
          have orb := hB.one
          by_cases hc2 : i2 < K.length
          · have q2 : decide ((i2 : Int) < K.length) = true := decide_eq_true (by omega)
            have v2 : IntKind.i64.wrap ((i2 : Int) + 1) = ((i2 + 1 : Nat) : Int) := by rw [wrap_i64] <;> omega
            have v1 : IntKind.i64.wrap ((K.length : Int) - 1) = (K.length : Int) - 1 - (0 : Nat) := by rw [wrap_i64] <;> omega
            simp (maxSteps := 2000000) (disch := first | omega | assumption | (simp only [DS, Nat.reduceAdd, *]; done) | (simp only [DZ]; omega)) only [RUN, RU, footA, feetIn, resultsA, tupOf, frzL, slot, lay, icyL, fillA, repCells, kR, reduceIte, Nat.reduceEqDiff, Nat.reduceBEq, Nat.reduceLT, Nat.reduceAdd, Nat.reduceLeDiff, Nat.reduceSub, Nat.reduceMul, Int.reduceLT, Int.reduceLE, Int.reduceEq, Int.reduceAdd, Int.reduceSub, Int.reduceMul, g23, g24, g25, g29, g210, g211, q2, kl2, v1, oo]
            refine w_loop (I := fun n3 t3 N3 => ∃ (i3 : Nat) (rb3 : AV) (B3 : List Rn) (D3 : List Bool), n3 = K.length - i3 ∧ i3 ≤ K.length ∧ nth undefA t3 3 = BL true ∧ nth undefA t3 4 = r ∧ nth undefA t3 5 = o ∧ nth undefA t3 9 = rb3 ∧ nth undefA t3 10 = dv ∧ nth undefA t3 11 = I64 i2 ∧ nth undefA t3 12 = I64 ((K.length : Int) - 1 - (i3 : Nat)) ∧ Wf N3 ∧ Sl 10 isRn rb3 B3 ∧ SlM N3 10 isRn o K ∧ SlM N3 1 isB dv D3 ∧ Agn K B3 D3 ∧ B3.length + 3 * cntF D3 ≤ 3 * K.length ∧ (∀ j, j < i2 → D3[j]? = some true) ∧ ((K.length : Int) - 1 - (i3 : Nat) < i2 → D3[i2]? = some true)) (n := K.length) (by omega) ?_ ?_
            · refine ⟨0, rb, B, D, rfl, Nat.zero_le _, ?_, ?_, ?_, ?_, ?_, ?_, ?_, w2, hB, hK2, hD2, ag, bl, pr, (fun h => absurd h (by omega))⟩ <;> simp (maxSteps := 2000000) (disch := first | omega | assumption | (simp only [DS, Nat.reduceAdd, *]; done) | (simp only [DZ]; omega)) only [RUN, RU, footA, feetIn, resultsA, tupOf, frzL, slot, lay, icyL, fillA, repCells, kR, reduceIte, Nat.reduceEqDiff, Nat.reduceBEq, Nat.reduceLT, Nat.reduceAdd, Nat.reduceLeDiff, Nat.reduceSub, Nat.reduceMul, Int.reduceLT, Int.reduceLE, Int.reduceEq, Int.reduceAdd, Int.reduceSub, Int.reduceMul, g23, g24, g25, g29, g210, g211]
              all_goals first | rfl | assumption | done
            · rintro n3 t3 N3 hlt3 ⟨i3, rb3, B3, D3, rfl, hi3, g33, g34, g35, g39, g310, g311, g312, w3, hB3, hK3, hD3, ag3, bl3, pr3, pt⟩
              simp only [hlt2] at hlt3 ⊢
              have orb3 := hB3.one
              by_cases hc3 : i3 < K.length
              · have q3 : decide ((0 : Int) ≤ (K.length : Int) - 1 - (i3 : Nat)) = true := decide_eq_true (by omega)
                obtain ⟨kk, hkk⟩ : ∃ kk : Nat, (K.length : Int) - 1 - (i3 : Nat) = kk := ⟨K.length - 1 - i3, by omega⟩
                have hkl : kk < K.length := by omega
                have hdl : kk < D3.length := by rw [ag3.dl]; exact hkl
                have v3 : IntKind.i64.wrap ((kk : Int) - 1) = (K.length : Int) - 1 - (i3 + 1 : Nat) := by rw [wrap_i64] <;> omega
                rw [hkk] at g312 pt q3
                obtain ⟨id, cs, rr, hrow, lid, hgo, _, hoad, hrr, hrl, hpp, _⟩ := hK3.atS hkl
                obtain ⟨id2, cs2, r2, hrow2, lid2, hgd, hcl2, hdad, hrd, hrl2, _, _, hpd, hset⟩ := hD3.atS hdl
                rw [rdv] at hrow2
                injection hrow2 with hrow2
                subst hrow2
                have hpd := hpd 0 1 false (by omega)
                obtain rfl : r2 = [BL D3[kk]] := hrd
                have hpd1 : Ax.part [BL D3[kk]] 0 1 false = some (BL D3[kk]) := rfl
                rw [hpd1] at hpd
                simp only [Nat.mul_one, Nat.add_zero] at hpd hdad hset hcl2
                have hdg : D3[kk]? = some D3[kk] := List.getElem?_eq_getElem hdl
                have hadd := fun hd he => ag3.add (i := kk) hkl hd he
                have hfit := fun hd hp => ag3.fits (i := kk) hkp hkl hd hp
                have hneo := nro _ hrow
                generalize D3[kk] = dk at *
                generalize K[kk] = e at *
                obtain ⟨ra, rfl, hra, hok⟩ := hrr
                have ora := hra.one
                obtain ⟨r4, hr4, hins⟩ := insert_run (fuel := 4000000) (d := 49) hB3 hra hok (by omega) (by omega)
                have or4 := hr4.one
                cases dk with
                | true =>
                  simp (maxSteps := 2000000) (disch := first | omega | assumption | (simp only [DS, Nat.reduceAdd, *]; done) | (simp only [DZ]; omega)) only [RUN, RU, footA, feetIn, resultsA, tupOf, frzL, slot, lay, icyL, fillA, repCells, kR, reduceIte, Nat.reduceEqDiff, Nat.reduceBEq, Nat.reduceLT, Nat.reduceAdd, Nat.reduceLeDiff, Nat.reduceSub, Nat.reduceMul, Int.reduceLT, Int.reduceLE, Int.reduceEq, Int.reduceAdd, Int.reduceSub, Int.reduceMul, g33, g34, g35, g39, g310, g311, g312, q3, hoad, hgo, hpp, hra.fz.rows, hra.fz.one, hra.fz.cells, hra.fz.icy, hra.fz.frz, hins, hr4.fz.rows, hr4.fz.one, hr4.fz.cells, hr4.fz.icy, hr4.fz.frz, hB3.fz.rows, hB3.fz.one, hB3.fz.cells, hB3.fz.icy, hB3.fz.frz, w3, oo, odv, hdad, hgd, hpd, v3]
                  refine ⟨hlt3, K.length - (i3 + 1), by omega, i3 + 1, rb3, B3, D3, rfl, by omega, rfl, rfl, hB3, hK3, hD3, ag3, bl3, pr3, fun h => ?_⟩
                  by_cases hk2 : kk = i2
                  · rw [← hk2]; exact hdg
                  · exact pt (by omega)
                | false =>
                  by_cases he : insE B3 e = 0
                  · have q5 : decide (insE B3 e = 0) = true := decide_eq_true he
                    unfold insR at hr4
                    rw [if_pos he] at hr4
                    simp (maxSteps := 2000000) (disch := first | omega | assumption | (simp only [DS, Nat.reduceAdd, *]; done) | (simp only [DZ]; omega)) only [RUN, RU, footA, feetIn, resultsA, tupOf, frzL, slot, lay, icyL, fillA, repCells, kR, reduceIte, Nat.reduceEqDiff, Nat.reduceBEq, Nat.reduceLT, Nat.reduceAdd, Nat.reduceLeDiff, Nat.reduceSub, Nat.reduceMul, Int.reduceLT, Int.reduceLE, Int.reduceEq, Int.reduceAdd, Int.reduceSub, Int.reduceMul, g33, g34, g35, g39, g310, g311, g312, q3, hoad, hgo, hpp, hra.fz.rows, hra.fz.one, hra.fz.cells, hra.fz.icy, hra.fz.frz, hins, hr4.fz.rows, hr4.fz.one, hr4.fz.cells, hr4.fz.icy, hr4.fz.frz, hB3.fz.rows, hB3.fz.one, hB3.fz.cells, hB3.fz.icy, hB3.fz.frz, w3, oo, odv, hdad, hgd, hpd, v3, q5]
                    have hcf3 := cntF_set hdg
                    have hil := insL_len B3 e
                    refine ⟨hlt3, K.length - (i3 + 1), by omega, i3 + 1, r4, insL B3 e, D3.set kk true, rfl, by omega, rfl, rfl, hr4, hK3.keep fun j hj => get_upd_ne w3 _ _ _ (fun e => nro j hj e.symm), ?_, hadd hdg he, by omega, fun j hj => ?_, fun h => ?_⟩
                    · exact hset [BL true] true rfl rfl _ (get_upd_eq w3 _ _ lid2)
                    · rw [List.getElem?_set]
                      split
                      · rfl
                      · exact pr3 j hj
                    · rw [List.getElem?_set]
                      split
                      · rfl
                      · exact pt (by omega)
                  · have q5 : decide (insE B3 e = 0) = false := decide_eq_false he
                    simp (maxSteps := 2000000) (disch := first | omega | assumption | (simp only [DS, Nat.reduceAdd, *]; done) | (simp only [DZ]; omega)) only [RUN, RU, footA, feetIn, resultsA, tupOf, frzL, slot, lay, icyL, fillA, repCells, kR, reduceIte, Nat.reduceEqDiff, Nat.reduceBEq, Nat.reduceLT, Nat.reduceAdd, Nat.reduceLeDiff, Nat.reduceSub, Nat.reduceMul, Int.reduceLT, Int.reduceLE, Int.reduceEq, Int.reduceAdd, Int.reduceSub, Int.reduceMul, g33, g34, g35, g39, g310, g311, g312, q3, hoad, hgo, hpp, hra.fz.rows, hra.fz.one, hra.fz.cells, hra.fz.icy, hra.fz.frz, hins, hr4.fz.rows, hr4.fz.one, hr4.fz.cells, hr4.fz.icy, hr4.fz.frz, hB3.fz.rows, hB3.fz.one, hB3.fz.cells, hB3.fz.icy, hB3.fz.frz, w3, oo, odv, hdad, hgd, hpd, v3, q5]
                    refine ⟨hlt3, K.length - (i3 + 1), by omega, i3 + 1, rb3, B3, D3, rfl, by omega, rfl, rfl, hB3, hK3, hD3, ag3, bl3, pr3, fun h => ?_⟩
                    by_cases hk2 : kk = i2
                    · exact absurd (hfit hdg (fun j hj => pr3 j (by omega))) he
                    · exact pt (by omega)
              · obtain rfl : i3 = K.length := by omega
                have q3 : decide ((0 : Int) ≤ (K.length : Int) - 1 - (K.length : Nat)) = false := decide_eq_false (by omega)
                have hpt := pt (by omega)
                simp (maxSteps := 2000000) (disch := first | omega | assumption | (simp only [DS, Nat.reduceAdd, *]; done) | (simp only [DZ]; omega)) only [RUN, RU, footA, feetIn, resultsA, tupOf, frzL, slot, lay, icyL, fillA, repCells, kR, reduceIte, Nat.reduceEqDiff, Nat.reduceBEq, Nat.reduceLT, Nat.reduceAdd, Nat.reduceLeDiff, Nat.reduceSub, Nat.reduceMul, Int.reduceLT, Int.reduceLE, Int.reduceEq, Int.reduceAdd, Int.reduceSub, Int.reduceMul, g33, g34, g35, g39, g310, g311, g312, q3, v2]
                refine ⟨hlt3, K.length - (i2 + 1), by omega, i2 + 1, rb3, B3, D3, rfl, by omega, rfl, rfl, w3, hB3, hK3, hD3, ag3, bl3, fun j hj => ?_⟩
                rcases Nat.lt_succ_iff_lt_or_eq.1 hj with h | rfl
                · exact pr3 j h
                · exact hpt
          · obtain rfl : i2 = K.length := by omega
            have q2 : decide ((K.length : Int) < K.length) = false := decide_eq_false (by omega)
            have hAB := ag.all hkp pr
            subst hAB
            simp (maxSteps := 2000000) (disch := first | omega | assumption | (simp only [DS, Nat.reduceAdd, *]; done) | (simp only [DZ]; omega)) only [RUN, RU, footA, feetIn, resultsA, tupOf, frzL, slot, lay, icyL, fillA, repCells, kR, reduceIte, Nat.reduceEqDiff, Nat.reduceBEq, Nat.reduceLT, Nat.reduceAdd, Nat.reduceLeDiff, Nat.reduceSub, Nat.reduceMul, Int.reduceLT, Int.reduceLE, Int.reduceEq, Int.reduceAdd, Int.reduceSub, Int.reduceMul, g23, g24, g25, g29, g210, g211, q2, kl2, oo]
            refine w_loop (I := fun n4 t4 N4 => ∃ (i4 : Nat), n4 = K.length - i4 ∧ i4 ≤ K.length ∧ nth undefA t4 3 = BL true ∧ nth undefA t4 4 = r ∧ nth undefA t4 5 = o ∧ nth undefA t4 9 = rb ∧ nth undefA t4 10 = dv ∧ nth undefA t4 15 = I64 i4 ∧ Wf N4 ∧ SlM N4 10 isRn o K ∧ SlM N4 1 isB dv D) (n := K.length) (by omega) ?_ ?_
            · refine ⟨0, rfl, Nat.zero_le _, ?_, ?_, ?_, ?_, ?_, ?_, w2, hK2, hD2⟩ <;> simp (maxSteps := 2000000) (disch := first | omega | assumption | (simp only [DS, Nat.reduceAdd, *]; done) | (simp only [DZ]; omega)) only [RUN, RU, footA, feetIn, resultsA, tupOf, frzL, slot, lay, icyL, fillA, repCells, kR, reduceIte, Nat.reduceEqDiff, Nat.reduceBEq, Nat.reduceLT, Nat.reduceAdd, Nat.reduceLeDiff, Nat.reduceSub, Nat.reduceMul, Int.reduceLT, Int.reduceLE, Int.reduceEq, Int.reduceAdd, Int.reduceSub, Int.reduceMul, g23, g24, g25, g29, g210]
              all_goals first | rfl | assumption | done
            · rintro n4 t4 N4 hlt4 ⟨i4, rfl, hi4, g43, g44, g45, g49, g410, g415, w4, hK4, hD4⟩
              simp only [hlt2] at hlt4 ⊢
              have kl4 := hK4.len
              by_cases hc4 : i4 < K.length
              · have q4 : decide ((i4 : Int) < K.length) = true := decide_eq_true (by omega)
                have v4 : IntKind.i64.wrap ((i4 : Int) + 1) = ((i4 + 1 : Nat) : Int) := by rw [wrap_i64] <;> omega
                have hdl : i4 < D.length := by rw [ag.dl]; exact hc4
                obtain ⟨id2, cs2, r2, hrow2, lid2, hgd, hcl2, hdad, hrd, hrl2, _, _, hpd, _⟩ := hD4.atS hdl
                have hpd := hpd 0 1 false (by omega)
                obtain rfl : r2 = [BL D[i4]] := hrd
                have hdt := pr i4 hc4
                rw [List.getElem?_eq_getElem hdl] at hdt
                injection hdt with hdt
                rw [hdt] at hpd
                have hpd1 : Ax.part [BL true] 0 1 false = some (BL true) := rfl
                rw [hpd1] at hpd
                simp only [Nat.mul_one, Nat.add_zero] at hpd hdad
                simp (maxSteps := 2000000) (disch := first | omega | assumption | (simp only [DS, Nat.reduceAdd, *]; done) | (simp only [DZ]; omega)) only [RUN, RU, footA, feetIn, resultsA, tupOf, frzL, slot, lay, icyL, fillA, repCells, kR, reduceIte, Nat.reduceEqDiff, Nat.reduceBEq, Nat.reduceLT, Nat.reduceAdd, Nat.reduceLeDiff, Nat.reduceSub, Nat.reduceMul, Int.reduceLT, Int.reduceLE, Int.reduceEq, Int.reduceAdd, Int.reduceSub, Int.reduceMul, g43, g44, g45, g49, g410, g415, q4, kl4, oo, odv, hdad, hgd, hpd, w4, v4]
                exact ⟨hlt4, K.length - (i4 + 1), by omega, i4 + 1, rfl, by omega, rfl, hK4, hD4⟩
              · obtain rfl : i4 = K.length := by omega
                have q4 : decide ((K.length : Int) < K.length) = false := decide_eq_false (by omega)
                have hAm := hkp.ok.1
                have hA64 := may_rs hAm
                have hsm := fun M => @tsame_run 4000000 56 r rb A A hA hB (by omega) (fun e he => ⟨by have := hA64 e he; omega, by have := hA64 e he; omega⟩) (by omega) M
                rw [sameT_iff.2 rfl] at hsm
                have hck := fun M => @check_run 4000000 50 r A hA (by omega) (by omega) M
                rw [textB_t hkp.ok] at hck
                simp (maxSteps := 2000000) (disch := first | omega | assumption | (simp only [DS, Nat.reduceAdd, *]; done) | (simp only [DZ]; omega)) only [RUN, RU, footA, feetIn, resultsA, tupOf, frzL, slot, lay, icyL, fillA, repCells, kR, reduceIte, Nat.reduceEqDiff, Nat.reduceBEq, Nat.reduceLT, Nat.reduceAdd, Nat.reduceLeDiff, Nat.reduceSub, Nat.reduceMul, Int.reduceLT, Int.reduceLE, Int.reduceEq, Int.reduceAdd, Int.reduceSub, Int.reduceMul, g43, g44, g45, g49, g410, g415, q4, kl4, oo, hA.fz.rows, hA.fz.one, hA.fz.cells, hA.fz.icy, hA.fz.frz, hB.fz.rows, hB.fz.one, hB.fz.cells, hB.fz.icy, hB.fz.frz, hsm, hck, err_t, z00]
end Go.Proofs.Ytfgeckmlgohbjaa
