/-
  Texts: parted.
-/
import Derived.Test.YtbomjpdheibmfaaTrJ
import Derived.Test.YtbomjpdheibmfaaEf
set_option linter.unusedSimpArgs false
set_option linter.unusedVariables false
set_option maxRecDepth 100000
namespace Go.Proofs.Ytbomjpdheibmfaa
open Go Go.Ax
variable {fuel : Nat} {M : Mem} {Q : AV → Mem → Prop} {d : Nat}
set_option maxHeartbeats 16000000 in
theorem part_run' {a : AV} {l : List Rn} {x : Eid} (hS : Sl 10 isRn a l) (hm : ∀ r ∈ l, r.may = true) (hx : x = Eid.z ∨ whereL l x ≠ none) (hl : l.length ≤ 9000) (hf : l.length + 100 < fuel) :
    ∃ r, Sl 10 isRn r (partL l x).1 ∧ ∀ M, callN Try.prog (fsT tbl) fuel (d + 8) (.fn 19) [a, idA x] M = some (.tup [r, I64 (partL l x).2], M) := by
  have oa := hS.one
  have la := hS.len
  have hw := fun M => @where_run fuel (d + 1) a l x hS (by omega) (by omega) M
  refine gc_ex tf19 rfl (fun M => by simp only [zH, fun M => hS.icy M 12 (by omega), fz_icyA (fz_idR x) (show 1 < 12 by omega)]) ?_
  refine call_gc tf19 rfl (by simp only [zH, fun M => hS.icy M 12 (by omega), fz_icyA (fz_idR x) (show 1 < 12 by omega)]) (by simp [a19]) fun b' ht hx => ?_
  have h0 := hx 0 _ rfl
  have h1 := hx 1 _ rfl
  clear hx
  simp only [a19, c19] at ht ⊢
  by_cases hz : x = Eid.z
  · have q : decide (x = Eid.z) = true := decide_eq_true hz
    have hpl : partL l x = (l, 0) := by unfold partL; rw [if_pos hz]
    rw [hpl]
    simp (maxSteps := 2000000) (disch := first | omega | assumption | (simp only [DS, Nat.reduceAdd, *]; done) | (simp only [DZ]; omega)) only [RUN, RU, zD, zC, zB, zE, zG, slot, lay, zH, zF, zA, kR, reduceIte, Nat.reduceEqDiff, Nat.reduceBEq, Nat.reduceLT, Nat.reduceAdd, Nat.reduceLeDiff, Nat.reduceSub, Nat.reduceMul, Int.reduceLT, Int.reduceLE, Int.reduceEq, Int.reduceAdd, Int.reduceSub, Int.reduceMul, h0, h1, hS.fz.rows, hS.fz.one, hS.fz.cells, hS.fz.icy, hS.fz.frz, ↓pIdE, peIdE_val, ↓pIdN, peIdN_val, ↓pHdE, peHdE_val, ↓pHdN, peHdN_val, ↓pLbE, peLbE_val, ↓pLbN, peLbN_val, ↓pSpE, peSpE_val, ↓pSpN, peSpN_val, ETA, q]
    exact ⟨_, hS, rfl⟩
  · have q : decide (x = Eid.z) = false := decide_eq_false hz
    rcases hx with hx | hx
    · exact absurd hx hz
    cases hwl : whereL l x with
    | none => exact absurd hwl hx
    | some p =>
      obtain ⟨n, k⟩ := p
      obtain ⟨L1, o, L2, hle, hln, h1', h2', h3', h4'⟩ := where_some hwl
      rw [hwl] at hw
      simp only [wN, wK] at hw
      have hnl : n < l.length := by rw [hle, List.length_append, List.length_cons]; omega
      obtain ⟨r, hiad, hr, hrl⟩ := hS.iad n hnl
      have hgo : l.getD n Rn.z = l[n] := by rw [List.getD_eq_getElem?_getD, List.getElem?_eq_getElem hnl]; rfl
      have hpl : partL l x = if (l.getD n Rn.z).cutE (k + 1) = 0 then (l.take n ++ [(l.getD n Rn.z).fst (k + 1), (l.getD n Rn.z).snd (k + 1)] ++ l.drop (n + 1), n + 1) else (l, n + 1) := by unfold partL; rw [if_neg hz]; simp only [hwl]
      rw [hpl, hgo]
      clear hpl
      have hom := hm l[n] (List.getElem_mem hnl)
      have hro := rn_ok hS l[n] (List.getElem_mem hnl)
      have hon : o = l[n] := by simp [hle, ← hln]
      have hln' := hon ▸ h3'
      generalize l[n] = e at *
      obtain ⟨ra, rfl, hra, _⟩ := hr
      have ora := hra.one
      have hb := Spn.may_le (Rn.may_sp hom)
      have w1 : IntKind.i64.wrap (k + 1) = k + 1 := by rw [wrap_i64] <;> omega
      have w2 : IntKind.i64.wrap ((n : Int) + 1) = ((n + 1 : Nat) : Int) := by rw [wrap_i64] <;> omega
      obtain ⟨v, ⟨ca, cb, rfl, hca, hcb⟩, hcut⟩ := runcut_run (fuel := fuel) (d := d) (n := k + 1) hra (by omega)
      have oca := hca.one
      have ocb := hcb.one
      by_cases hc : e.cutE (k + 1) = 0
      · have q2 : decide (e.cutE (k + 1) = 0) = true := decide_eq_true hc
        rw [if_pos hc]
        obtain ⟨r1, s1, b1⟩ := sl_to hS (j := n) (by omega)
        obtain ⟨r2, s2, b2⟩ := sl_from hS (i := n + 1) (by omega)
        have ob1 := b1.one
        have ob2 := b2.one
        have eA : e.cutA (k + 1) = e.fst (k + 1) := by unfold Rn.cutA; rw [if_pos hc]
        have eB : e.cutB (k + 1) = e.snd (k + 1) := by unfold Rn.cutB; rw [if_pos hc]
        have okA := fst_ok hro hc
        have okB := snd_ok hro hc
        rw [eA] at hca hcut
        rw [eB] at hcb hcut
        generalize e.fst (k + 1) = eF at *
        generalize e.snd (k + 1) = eS at *
        have oca := hca.one
        have ocb := hcb.one
        simp (maxSteps := 2000000) (disch := first | omega | assumption | (simp only [DS, Nat.reduceAdd, *]; done) | (simp only [DZ]; omega)) only [RUN, RU, zD, zC, zB, zE, zG, slot, lay, zH, zF, zA, kR, reduceIte, Nat.reduceEqDiff, Nat.reduceBEq, Nat.reduceLT, Nat.reduceAdd, Nat.reduceLeDiff, Nat.reduceSub, Nat.reduceMul, Int.reduceLT, Int.reduceLE, Int.reduceEq, Int.reduceAdd, Int.reduceSub, Int.reduceMul, h0, h1, hS.fz.rows, hS.fz.one, hS.fz.cells, hS.fz.icy, hS.fz.frz, ↓pIdE, peIdE_val, ↓pIdN, peIdN_val, ↓pHdE, peHdE_val, ↓pHdN, peHdN_val, ↓pLbE, peLbE_val, ↓pLbN, peLbN_val, ↓pSpE, peSpE_val, ↓pSpN, peSpN_val, ETA, q, hw, hiad, hra.fz.rows, hra.fz.one, hra.fz.cells, hra.fz.icy, hra.fz.frz, w1, w2, hcut, hca.fz.rows, hca.fz.one, hca.fz.cells, hca.fz.icy, hca.fz.frz, hcb.fz.rows, hcb.fz.one, hcb.fz.cells, hcb.fz.icy, hcb.fz.frz, q2, s1, s2, b1.fz.rows, b1.fz.one, b1.fz.cells, b1.fz.icy, b1.fz.frz, b2.fz.rows, b2.fz.one, b2.fz.cells, b2.fz.icy, b2.fz.frz, apart2_pu]
        refine concat3_0 (d := d + 5) (id := 4) (a0 := r1) (a1 := .sl 3 0 2 (some 2) 10) (a2 := r2) (l1 := [eF, eS]) (by simp (maxSteps := 2000000) (disch := first | omega | assumption | (simp only [DS, Nat.reduceAdd, *]; done) | (simp only [DZ]; omega)) only [RUN, RU, zD, zC, zB, zE, zG, slot, lay, zH, zF, zA, kR, reduceIte, Nat.reduceEqDiff, Nat.reduceBEq, Nat.reduceLT, Nat.reduceAdd, Nat.reduceLeDiff, Nat.reduceSub, Nat.reduceMul, Int.reduceLT, Int.reduceLE, Int.reduceEq, Int.reduceAdd, Int.reduceSub, Int.reduceMul]) ?_ b1 (slm_lit (isRn_lit hca hcb okA okB) (by simp) rfl (.inr rfl) ?_) b2 (by simp) (by rw [List.length_take]; omega) (by simp) (by rw [List.length_drop]; omega) (by omega) (Nat.le_refl _) fun o' N sm kN nr on oc rl => ?_
        · simp (maxSteps := 2000000) (disch := first | omega | assumption | (simp only [DS, Nat.reduceAdd, *]; done) | (simp only [DZ]; omega)) only [RUN, RU, zD, zC, zB, zE, zG, slot, lay, zH, zF, zA, kR, reduceIte, Nat.reduceEqDiff, Nat.reduceBEq, Nat.reduceLT, Nat.reduceAdd, Nat.reduceLeDiff, Nat.reduceSub, Nat.reduceMul, Int.reduceLT, Int.reduceLE, Int.reduceEq, Int.reduceAdd, Int.reduceSub, Int.reduceMul]
        · simp (maxSteps := 2000000) (disch := first | omega | assumption | (simp only [DS, Nat.reduceAdd, *]; done) | (simp only [DZ]; omega)) only [RUN, RU, zD, zC, zB, zE, zG, slot, lay, zH, zF, zA, kR, reduceIte, Nat.reduceEqDiff, Nat.reduceBEq, Nat.reduceLT, Nat.reduceAdd, Nat.reduceLeDiff, Nat.reduceSub, Nat.reduceMul, Int.reduceLT, Int.reduceLE, Int.reduceEq, Int.reduceAdd, Int.reduceSub, Int.reduceMul]
          rfl
        · have wN := kN.wf
          have dN : N.dirty = false := kN.di
          simp (maxSteps := 2000000) (disch := first | omega | assumption | (simp only [DS, Nat.reduceAdd, *]; done) | (simp only [DZ]; omega)) only [RUN, RU, zD, zC, zB, zE, zG, slot, lay, zH, zF, zA, kR, reduceIte, Nat.reduceEqDiff, Nat.reduceBEq, Nat.reduceLT, Nat.reduceAdd, Nat.reduceLeDiff, Nat.reduceSub, Nat.reduceMul, Int.reduceLT, Int.reduceLE, Int.reduceEq, Int.reduceAdd, Int.reduceSub, Int.reduceMul, wN, dN, on, oc, rl]
          obtain ⟨ro, hro2, hfr⟩ := slm_frz2 sm fz_Rn.cel 12 (by omega)
          rw [hfr _ (fun id h => by simp (maxSteps := 2000000) (disch := first | omega | assumption | (simp only [DS, Nat.reduceAdd, *]; done) | (simp only [DZ]; omega)) only [RUN, RU, zD, zC, zB, zE, zG, slot, lay, zH, zF, zA, kR, reduceIte, Nat.reduceEqDiff, Nat.reduceBEq, Nat.reduceLT, Nat.reduceAdd, Nat.reduceLeDiff, Nat.reduceSub, Nat.reduceMul, Int.reduceLT, Int.reduceLE, Int.reduceEq, Int.reduceAdd, Int.reduceSub, Int.reduceMul, wN])]
          exact ⟨ro, hro2, by rw [w2]⟩
      · have q2 : decide (e.cutE (k + 1) = 0) = false := decide_eq_false hc
        rw [if_neg hc]
        simp (maxSteps := 2000000) (disch := first | omega | assumption | (simp only [DS, Nat.reduceAdd, *]; done) | (simp only [DZ]; omega)) only [RUN, RU, zD, zC, zB, zE, zG, slot, lay, zH, zF, zA, kR, reduceIte, Nat.reduceEqDiff, Nat.reduceBEq, Nat.reduceLT, Nat.reduceAdd, Nat.reduceLeDiff, Nat.reduceSub, Nat.reduceMul, Int.reduceLT, Int.reduceLE, Int.reduceEq, Int.reduceAdd, Int.reduceSub, Int.reduceMul, h0, h1, hS.fz.rows, hS.fz.one, hS.fz.cells, hS.fz.icy, hS.fz.frz, ↓pIdE, peIdE_val, ↓pIdN, peIdN_val, ↓pHdE, peHdE_val, ↓pHdN, peHdN_val, ↓pLbE, peLbE_val, ↓pLbN, peLbN_val, ↓pSpE, peSpE_val, ↓pSpN, peSpN_val, ETA, q, hw, hiad, hra.fz.rows, hra.fz.one, hra.fz.cells, hra.fz.icy, hra.fz.frz, w1, w2, hcut, hca.fz.rows, hca.fz.one, hca.fz.cells, hca.fz.icy, hca.fz.frz, hcb.fz.rows, hcb.fz.one, hcb.fz.cells, hcb.fz.icy, hcb.fz.frz, q2]
        exact ⟨_, hS, rfl⟩
end Go.Proofs.Ytbomjpdheibmfaa
