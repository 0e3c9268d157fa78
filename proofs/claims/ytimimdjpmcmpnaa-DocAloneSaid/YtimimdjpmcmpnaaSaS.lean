/-
  Histories: insert.
-/
import Derived.Test.YtimimdjpmcmpnaaSaR
import Derived.Test.YtimimdjpmcmpnaaEf
set_option linter.unusedSimpArgs false
set_option linter.unusedVariables false
set_option maxRecDepth 100000
namespace Go.Proofs.Ytimimdjpmcmpnaa
open Go Go.Ax
variable {fuel : Nat} {M : Mem} {Q : AV → Mem → Prop} {d : Nat} {x : Eid} {l : List Op} {o : Op} {ra ops : AV} {B id m : Nat}

theorem ins1_0 {bh : Nat} (hH : IsHist M B id m ops l) (wf : Wf M) (hb : M.get bh = some (.row false [.ptr id 0])) (k : ∀ N, Kept M N → Q (BL (decide (x ∈ thereL l))) N) :
    W3 (callN Try.prog (fsT tbl) fuel (d + 1) (.fn 61) [idA x, .ptr bh 0] M) Q := by
  have lb := Mem.get_lt hb
  have hg := hH.hg
  have li := Mem.get_lt hg
  obtain ⟨obj, mg, hset⟩ := hH.mg
  have lm := Mem.get_lt mg
  have mg2 : (M.add (.row false (idR x))).get m = some obj := by
    rw [get_add wf _ _ lm]; exact mg
  have hlk := lk_set idKey (z := .bool false) mg2 hset x
  rw [ite_BL] at hlk
  have one_mp : oneA (.mp m) = true := rfl
  refine call_0 tf61 rfl (by simp [a61]) fun b' ht hx => ?_
  have h0 := hx 0 _ rfl
  have h1 := hx 1 _ rfl
  clear hx
  simp only [a61, c61] at ht ⊢
  simp (maxSteps := 2000000) (disch := first | omega | assumption | (simp only [DS, Nat.reduceAdd, *]; done) | (simp only [DZ]; omega)) only [RUN, RU, footA, feetIn, resultsA, tupOf, frzL, slot, lay, icyL, fillA, repCells, kR, reduceIte, Nat.reduceEqDiff, Nat.reduceBEq, Nat.reduceLT, Nat.reduceAdd, Nat.reduceLeDiff, Nat.reduceSub, Nat.reduceMul, Int.reduceLT, Int.reduceLE, Int.reduceEq, Int.reduceAdd, Int.reduceSub, Int.reduceMul, h0, h1, wf, hb, hg, x_lk, hlk]
  exact k _ ((Kept.refl wf).add _)
def insE (l : List Op) (o : Op) : Int :=
  if o.af ≠ Eid.z ∧ seesB l o o.af = false then 6
  else if rofE o ≠ 0 ∨ (o.sp.ids.any fun x => decide (x ∈ thereL l)) = true then 2
  else if 8192 < ((thereL l).length : Int) + o.sp.n then 4 else 0
theorem rofK_form {o : Op} {r : AV} (h : rofK o r) : ∃ rn ra, r = .tup [.agg (rnR rn ra), I64 (rofE o)] ∧ oneA ra = true ∧ cellsA ra = [ra] := by
  unfold rofK at h
  split at h
  · rename_i h0
    obtain ⟨ra, rfl, hr⟩ := h
    exact ⟨_, ra, by rw [h0], hr.one, hr.cells⟩
  · exact ⟨⟨⟨Eid.z, 0⟩, Eid.z, []⟩, NIL, h, rfl, rfl⟩
set_option maxHeartbeats 8000000 in
theorem insert_0 (hH : IsHist M B id m ops l) (htl : (thereL l).length ≤ 1000000) (hR : Sl 1 isI32 ra o.rs) (ho : o.ok) (hm : o.may = true) (hf : 300 < fuel) (wf : Wf M) (hw : M.wm ≤ M.size) (k : ∀ N, Kept M N → Q (I64 (insE l o)) N) :
    W3 (callN Try.prog (fsT tbl) fuel (d + 9) (.fn 29) [.ptr id 0, .agg (opR o ra)] M) Q := by
  have ora := hR.one
  have li := Mem.get_lt hH.hg
  have hb := Spn.may_le (may_sp hm)
  obtain ⟨r, hr, hn⟩ := names_run (fuel := fuel) (d := d + 2) ho.2.2.2.1 (may_sp hm) (by omega)
  obtain ⟨rr, hk, hof⟩ := runof_run (fuel := fuel) (d := d) hR ho (by omega)
  obtain ⟨rn, r2, rfl, o2, c2⟩ := rofK_form hk
  have il := ids_len o.sp
  have kA := ((Kept.refl wf).add (.row false [.ptr id 0])).add (.row false (opR o ra))
  have wA := kA.wf
  have gA : ((M.add (.row false [.ptr id 0])).add (.row false (opR o ra))).get M.size = some (.row false [.ptr id 0]) := by simp (maxSteps := 2000000) (disch := first | omega | assumption | (simp only [DS, Nat.reduceAdd, *]; done) | (simp only [DZ]; omega)) only [RUN, RU, footA, feetIn, resultsA, tupOf, frzL, slot, lay, icyL, fillA, repCells, kR, reduceIte, Nat.reduceEqDiff, Nat.reduceBEq, Nat.reduceLT, Nat.reduceAdd, Nat.reduceLeDiff, Nat.reduceSub, Nat.reduceMul, Int.reduceLT, Int.reduceLE, Int.reduceEq, Int.reduceAdd, Int.reduceSub, Int.reduceMul, wf]
  have gB : ((M.add (.row false [.ptr id 0])).add (.row false (opR o ra))).get (M.size + 1) = some (.row false (opR o ra)) := by simp (maxSteps := 2000000) (disch := first | omega | assumption | (simp only [DS, Nat.reduceAdd, *]; done) | (simp only [DZ]; omega)) only [RUN, RU, footA, feetIn, resultsA, tupOf, frzL, slot, lay, icyL, fillA, repCells, kR, reduceIte, Nat.reduceEqDiff, Nat.reduceBEq, Nat.reduceLT, Nat.reduceAdd, Nat.reduceLeDiff, Nat.reduceSub, Nat.reduceMul, Int.reduceLT, Int.reduceLE, Int.reduceEq, Int.reduceAdd, Int.reduceSub, Int.reduceMul, wf]
  have sA : ((M.add (.row false [.ptr id 0])).add (.row false (opR o ra))).size = M.size + 2 := rfl
  unfold insE at k
  refine call_0 tf29 rfl (by simp [a29]) fun b' ht hx => ?_
  have h0 := hx 0 _ rfl
  have h1 := hx 1 _ rfl
  clear hx
  simp only [a29, c29] at ht ⊢
  cases qz : decide (o.af = Eid.z) with
  | false =>
    simp (maxSteps := 2000000) (disch := first | omega | assumption | (simp only [DS, Nat.reduceAdd, *]; done) | (simp only [DZ]; omega)) only [RUN, RU, footA, feetIn, resultsA, tupOf, frzL, slot, lay, icyL, fillA, repCells, kR, reduceIte, Nat.reduceEqDiff, Nat.reduceBEq, Nat.reduceLT, Nat.reduceAdd, Nat.reduceLeDiff, Nat.reduceSub, Nat.reduceMul, Int.reduceLT, Int.reduceLE, Int.reduceEq, Int.reduceAdd, Int.reduceSub, Int.reduceMul, h0, h1, hR.fz.rows, hR.fz.one, hR.fz.cells, hR.fz.icy, hR.fz.frz, wf, ↓pIdE, peIdE_val, ↓pIdN, peIdN_val, ↓pHdE, peHdE_val, ↓pHdN, peHdN_val, ↓pLbE, peLbE_val, ↓pLbN, peLbN_val, ↓pSpE, peSpE_val, ↓pSpN, peSpN_val, ETA, qz]
    generalize (M.add (.row false [.ptr id 0])).add (.row false (opR o ra)) = X at *
    refine sees_0 (d := d + 6) (B := B) (m := m) (ops := ops) (hH.keep fun j hj => kA.get j hj) hR wA (by rw [kA.wm]; omega) fun N hN => ?_
    cases qs : seesB l o o.af with
    | false =>
      rw [if_pos ⟨of_decide_eq_false qz, qs⟩] at k
      simp (maxSteps := 2000000) (disch := first | omega | assumption | (simp only [DS, Nat.reduceAdd, *]; done) | (simp only [DZ]; omega)) only [RUN, RU, footA, feetIn, resultsA, tupOf, frzL, slot, lay, icyL, fillA, repCells, kR, reduceIte, Nat.reduceEqDiff, Nat.reduceBEq, Nat.reduceLT, Nat.reduceAdd, Nat.reduceLeDiff, Nat.reduceSub, Nat.reduceMul, Int.reduceLT, Int.reduceLE, Int.reduceEq, Int.reduceAdd, Int.reduceSub, Int.reduceMul, h0, h1, qs]
      exact k _ (kA.trans hN)
    | true =>
      rw [if_neg (by simp [qs])] at k
      have wN := hN.wf
      have g0 := (hN.get M.size (by omega)).trans gA
      have g1 := (hN.get (M.size + 1) (by omega)).trans gB
      have kN := kA.trans hN
      have l0 := Mem.get_lt g0
      have l1 := Mem.get_lt g1
      simp (maxSteps := 2000000) (disch := first | omega | assumption | (simp only [DS, Nat.reduceAdd, *]; done) | (simp only [DZ]; omega)) only [RUN, RU, footA, feetIn, resultsA, tupOf, frzL, slot, lay, icyL, fillA, repCells, kR, reduceIte, Nat.reduceEqDiff, Nat.reduceBEq, Nat.reduceLT, Nat.reduceAdd, Nat.reduceLeDiff, Nat.reduceSub, Nat.reduceMul, Int.reduceLT, Int.reduceLE, Int.reduceEq, Int.reduceAdd, Int.reduceSub, Int.reduceMul, h0, h1, qs, g0, g1, hof, hR.fz.rows, hR.fz.one, hR.fz.cells, hR.fz.icy, hR.fz.frz, o2, c2]
      by_cases q1 : rofE o = 0
      · have k2 := (kN.add (.row false (rnR ⟨⟨Eid.z, 0⟩, Eid.z, []⟩ NIL))).upd hw kN.le (.row false (rnR rn r2))
        have z0 : ((N.add (.row false (rnR ⟨⟨Eid.z, 0⟩, Eid.z, []⟩ NIL))).upd N.size (.row false (rnR rn r2))).get M.size = some (.row false [.ptr id 0]) := by
          rw [get_upd_ne (wN.add _) _ _ _ (by omega), get_add wN _ _ l0]; exact g0
        have z1 : ((N.add (.row false (rnR ⟨⟨Eid.z, 0⟩, Eid.z, []⟩ NIL))).upd N.size (.row false (rnR rn r2))).get (M.size + 1) = some (.row false (opR o ra)) := by
          rw [get_upd_ne (wN.add _) _ _ _ (by omega), get_add wN _ _ l1]; exact g1
        have q1' : decide (rofE o = 0) = true := decide_eq_true q1
        simp (maxSteps := 2000000) (disch := first | omega | assumption | (simp only [DS, Nat.reduceAdd, *]; done) | (simp only [DZ]; omega)) only [RUN, RU, footA, feetIn, resultsA, tupOf, frzL, slot, lay, icyL, fillA, repCells, kR, reduceIte, Nat.reduceEqDiff, Nat.reduceBEq, Nat.reduceLT, Nat.reduceAdd, Nat.reduceLeDiff, Nat.reduceSub, Nat.reduceMul, Int.reduceLT, Int.reduceLE, Int.reduceEq, Int.reduceAdd, Int.reduceSub, Int.reduceMul, h0, h1, qs, g0, g1, hof, hR.fz.rows, hR.fz.one, hR.fz.cells, hR.fz.icy, hR.fz.frz, hr.fz.rows, hr.fz.one, hr.fz.cells, hr.fz.icy, hr.fz.frz, o2, c2, q1', hn]
        generalize ((N.add (.row false (rnR ⟨⟨Eid.z, 0⟩, Eid.z, []⟩ NIL))).upd N.size (.row false (rnR rn r2))) = X2 at *
        have w2 := k2.wf
        have s2 := k2.le
        have hH2 : IsHist X2 B id m ops l := hH.keep fun j hj => k2.get j hj
        have m0 := Mem.get_lt z0
        refine has_0 (st := 4) (ag := true) (n := d + 6) (first := []) (cap := [.ptr M.size 0]) tf60 tf80 (by simp) fz_Eid hr (by omega) (by omega) (p := fun x => decide (x ∈ thereL l)) w2 (fun n hn => by simp (maxSteps := 2000000) (disch := first | omega | assumption | (simp only [DS, Nat.reduceAdd, *]; done) | (simp only [DZ]; omega)) only [RUN, RU, footA, feetIn, resultsA, tupOf, frzL, slot, lay, icyL, fillA, repCells, kR, reduceIte, Nat.reduceEqDiff, Nat.reduceBEq, Nat.reduceLT, Nat.reduceAdd, Nat.reduceLeDiff, Nat.reduceSub, Nat.reduceMul, Int.reduceLT, Int.reduceLE, Int.reduceEq, Int.reduceAdd, Int.reduceSub, Int.reduceMul]) (fun r x hr _ N Q' hk hQ => ?_) fun N3 h3 => ?_
        · obtain ⟨rfl, _⟩ := hr
          refine ins1_0 (d := d + 5) (B := B) (m := m) (ops := ops) (hH2.keep fun j hj => hk.get j hj) hk.wf ((hk.get _ m0).trans z0) fun N' hk' => hQ N' (hk.trans hk')
        · have k3 := k2.trans h3
          have y0 := (h3.get _ m0).trans z0
          have y1 := (h3.get _ (Mem.get_lt z1)).trans z1
          have w3 := h3.wf
          have hH3 : IsHist N3 B id m ops l := hH.keep fun j hj => k3.get j hj
          have hg3 := hH3.hg
          have li3 := Mem.get_lt hg3
          have n0 := Mem.get_lt y0
          have n1 := Mem.get_lt y1
          obtain ⟨obj, mg, hset⟩ := hH3.mg
          have lm := Mem.get_lt mg
          have hml := ml_set mg hset
          cases q2 : o.sp.ids.any fun x => decide (x ∈ thereL l) with
          | true =>
            rw [if_pos (.inr q2)] at k
            simp (maxSteps := 2000000) (disch := first | omega | assumption | (simp only [DS, Nat.reduceAdd, *]; done) | (simp only [DZ]; omega)) only [RUN, RU, footA, feetIn, resultsA, tupOf, frzL, slot, lay, icyL, fillA, repCells, kR, reduceIte, Nat.reduceEqDiff, Nat.reduceBEq, Nat.reduceLT, Nat.reduceAdd, Nat.reduceLeDiff, Nat.reduceSub, Nat.reduceMul, Int.reduceLT, Int.reduceLE, Int.reduceEq, Int.reduceAdd, Int.reduceSub, Int.reduceMul, h0, h1]
            exact k _ k3
          | false =>
            rw [if_neg (by simp [q1, q2])] at k
            have w1 : IntKind.i64.wrap (((thereL l).length : Int) + o.sp.n) = ((thereL l).length : Int) + o.sp.n := wrap_i64 (by omega) (by omega)
            by_cases q3 : 8192 < ((thereL l).length : Int) + o.sp.n
            · rw [if_pos q3] at k
              have q3' := decide_eq_true q3
              simp (maxSteps := 2000000) (disch := first | omega | assumption | (simp only [DS, Nat.reduceAdd, *]; done) | (simp only [DZ]; omega)) only [RUN, RU, footA, feetIn, resultsA, tupOf, frzL, slot, lay, icyL, fillA, repCells, kR, reduceIte, Nat.reduceEqDiff, Nat.reduceBEq, Nat.reduceLT, Nat.reduceAdd, Nat.reduceLeDiff, Nat.reduceSub, Nat.reduceMul, Int.reduceLT, Int.reduceLE, Int.reduceEq, Int.reduceAdd, Int.reduceSub, Int.reduceMul, h0, h1, y0, y1, hg3, x_ml, hml, w1, q3']
              exact k _ k3
            · rw [if_neg q3] at k
              have q3' := decide_eq_false q3
              simp (maxSteps := 2000000) (disch := first | omega | assumption | (simp only [DS, Nat.reduceAdd, *]; done) | (simp only [DZ]; omega)) only [RUN, RU, footA, feetIn, resultsA, tupOf, frzL, slot, lay, icyL, fillA, repCells, kR, reduceIte, Nat.reduceEqDiff, Nat.reduceBEq, Nat.reduceLT, Nat.reduceAdd, Nat.reduceLeDiff, Nat.reduceSub, Nat.reduceMul, Int.reduceLT, Int.reduceLE, Int.reduceEq, Int.reduceAdd, Int.reduceSub, Int.reduceMul, h0, h1, y0, y1, hg3, x_ml, hml, w1, q3']
              exact k _ k3
      · have q1' : decide (rofE o = 0) = false := decide_eq_false q1
        rw [if_pos (.inl q1)] at k
        simp (maxSteps := 2000000) (disch := first | omega | assumption | (simp only [DS, Nat.reduceAdd, *]; done) | (simp only [DZ]; omega)) only [RUN, RU, footA, feetIn, resultsA, tupOf, frzL, slot, lay, icyL, fillA, repCells, kR, reduceIte, Nat.reduceEqDiff, Nat.reduceBEq, Nat.reduceLT, Nat.reduceAdd, Nat.reduceLeDiff, Nat.reduceSub, Nat.reduceMul, Int.reduceLT, Int.reduceLE, Int.reduceEq, Int.reduceAdd, Int.reduceSub, Int.reduceMul, h0, h1, qs, g0, g1, hof, hR.fz.rows, hR.fz.one, hR.fz.cells, hR.fz.icy, hR.fz.frz, o2, c2, q1']
        exact k _ ((kN.add _).upd hw kN.le _)
  | true =>
    rw [if_neg (fun h => h.1 (of_decide_eq_true qz))] at k
    simp (maxSteps := 2000000) (disch := first | omega | assumption | (simp only [DS, Nat.reduceAdd, *]; done) | (simp only [DZ]; omega)) only [RUN, RU, footA, feetIn, resultsA, tupOf, frzL, slot, lay, icyL, fillA, repCells, kR, reduceIte, Nat.reduceEqDiff, Nat.reduceBEq, Nat.reduceLT, Nat.reduceAdd, Nat.reduceLeDiff, Nat.reduceSub, Nat.reduceMul, Int.reduceLT, Int.reduceLE, Int.reduceEq, Int.reduceAdd, Int.reduceSub, Int.reduceMul, h0, h1, hR.fz.rows, hR.fz.one, hR.fz.cells, hR.fz.icy, hR.fz.frz, wf, ↓pIdE, peIdE_val, ↓pIdN, peIdN_val, ↓pHdE, peHdE_val, ↓pHdN, peHdN_val, ↓pLbE, peLbE_val, ↓pLbN, peLbN_val, ↓pSpE, peSpE_val, ↓pSpN, peSpN_val, ETA, qz]
    generalize (M.add (.row false [.ptr id 0])).add (.row false (opR o ra)) = N at *
    have wN := wA
    have g0 := gA
    have g1 := gB
    have kN := kA
    have qs := qz
    have l0 := Mem.get_lt g0
    have l1 := Mem.get_lt g1
    simp (maxSteps := 2000000) (disch := first | omega | assumption | (simp only [DS, Nat.reduceAdd, *]; done) | (simp only [DZ]; omega)) only [RUN, RU, footA, feetIn, resultsA, tupOf, frzL, slot, lay, icyL, fillA, repCells, kR, reduceIte, Nat.reduceEqDiff, Nat.reduceBEq, Nat.reduceLT, Nat.reduceAdd, Nat.reduceLeDiff, Nat.reduceSub, Nat.reduceMul, Int.reduceLT, Int.reduceLE, Int.reduceEq, Int.reduceAdd, Int.reduceSub, Int.reduceMul, h0, h1, qs, g0, g1, hof, hR.fz.rows, hR.fz.one, hR.fz.cells, hR.fz.icy, hR.fz.frz, o2, c2]
    by_cases q1 : rofE o = 0
    · have k2 := (kN.add (.row false (rnR ⟨⟨Eid.z, 0⟩, Eid.z, []⟩ NIL))).upd hw kN.le (.row false (rnR rn r2))
      have z0 : ((N.add (.row false (rnR ⟨⟨Eid.z, 0⟩, Eid.z, []⟩ NIL))).upd N.size (.row false (rnR rn r2))).get M.size = some (.row false [.ptr id 0]) := by
        rw [get_upd_ne (wN.add _) _ _ _ (by omega), get_add wN _ _ l0]; exact g0
      have z1 : ((N.add (.row false (rnR ⟨⟨Eid.z, 0⟩, Eid.z, []⟩ NIL))).upd N.size (.row false (rnR rn r2))).get (M.size + 1) = some (.row false (opR o ra)) := by
        rw [get_upd_ne (wN.add _) _ _ _ (by omega), get_add wN _ _ l1]; exact g1
      have q1' : decide (rofE o = 0) = true := decide_eq_true q1
      simp (maxSteps := 2000000) (disch := first | omega | assumption | (simp only [DS, Nat.reduceAdd, *]; done) | (simp only [DZ]; omega)) only [RUN, RU, footA, feetIn, resultsA, tupOf, frzL, slot, lay, icyL, fillA, repCells, kR, reduceIte, Nat.reduceEqDiff, Nat.reduceBEq, Nat.reduceLT, Nat.reduceAdd, Nat.reduceLeDiff, Nat.reduceSub, Nat.reduceMul, Int.reduceLT, Int.reduceLE, Int.reduceEq, Int.reduceAdd, Int.reduceSub, Int.reduceMul, h0, h1, qs, g0, g1, hof, hR.fz.rows, hR.fz.one, hR.fz.cells, hR.fz.icy, hR.fz.frz, hr.fz.rows, hr.fz.one, hr.fz.cells, hr.fz.icy, hr.fz.frz, o2, c2, q1', hn]
      generalize ((N.add (.row false (rnR ⟨⟨Eid.z, 0⟩, Eid.z, []⟩ NIL))).upd N.size (.row false (rnR rn r2))) = X2 at *
      have w2 := k2.wf
      have s2 := k2.le
      have hH2 : IsHist X2 B id m ops l := hH.keep fun j hj => k2.get j hj
      have m0 := Mem.get_lt z0
      refine has_0 (st := 4) (ag := true) (n := d + 6) (first := []) (cap := [.ptr M.size 0]) tf60 tf80 (by simp) fz_Eid hr (by omega) (by omega) (p := fun x => decide (x ∈ thereL l)) w2 (fun n hn => by simp (maxSteps := 2000000) (disch := first | omega | assumption | (simp only [DS, Nat.reduceAdd, *]; done) | (simp only [DZ]; omega)) only [RUN, RU, footA, feetIn, resultsA, tupOf, frzL, slot, lay, icyL, fillA, repCells, kR, reduceIte, Nat.reduceEqDiff, Nat.reduceBEq, Nat.reduceLT, Nat.reduceAdd, Nat.reduceLeDiff, Nat.reduceSub, Nat.reduceMul, Int.reduceLT, Int.reduceLE, Int.reduceEq, Int.reduceAdd, Int.reduceSub, Int.reduceMul]) (fun r x hr _ N Q' hk hQ => ?_) fun N3 h3 => ?_
      · obtain ⟨rfl, _⟩ := hr
        refine ins1_0 (d := d + 5) (B := B) (m := m) (ops := ops) (hH2.keep fun j hj => hk.get j hj) hk.wf ((hk.get _ m0).trans z0) fun N' hk' => hQ N' (hk.trans hk')
      · have k3 := k2.trans h3
        have y0 := (h3.get _ m0).trans z0
        have y1 := (h3.get _ (Mem.get_lt z1)).trans z1
        have w3 := h3.wf
        have hH3 : IsHist N3 B id m ops l := hH.keep fun j hj => k3.get j hj
        have hg3 := hH3.hg
        have li3 := Mem.get_lt hg3
        have n0 := Mem.get_lt y0
        have n1 := Mem.get_lt y1
        obtain ⟨obj, mg, hset⟩ := hH3.mg
        have lm := Mem.get_lt mg
        have hml := ml_set mg hset
        cases q2 : o.sp.ids.any fun x => decide (x ∈ thereL l) with
        | true =>
          rw [if_pos (.inr q2)] at k
          simp (maxSteps := 2000000) (disch := first | omega | assumption | (simp only [DS, Nat.reduceAdd, *]; done) | (simp only [DZ]; omega)) only [RUN, RU, footA, feetIn, resultsA, tupOf, frzL, slot, lay, icyL, fillA, repCells, kR, reduceIte, Nat.reduceEqDiff, Nat.reduceBEq, Nat.reduceLT, Nat.reduceAdd, Nat.reduceLeDiff, Nat.reduceSub, Nat.reduceMul, Int.reduceLT, Int.reduceLE, Int.reduceEq, Int.reduceAdd, Int.reduceSub, Int.reduceMul, h0, h1]
          exact k _ k3
        | false =>
          rw [if_neg (by simp [q1, q2])] at k
          have w1 : IntKind.i64.wrap (((thereL l).length : Int) + o.sp.n) = ((thereL l).length : Int) + o.sp.n := wrap_i64 (by omega) (by omega)
          by_cases q3 : 8192 < ((thereL l).length : Int) + o.sp.n
          · rw [if_pos q3] at k
            have q3' := decide_eq_true q3
            simp (maxSteps := 2000000) (disch := first | omega | assumption | (simp only [DS, Nat.reduceAdd, *]; done) | (simp only [DZ]; omega)) only [RUN, RU, footA, feetIn, resultsA, tupOf, frzL, slot, lay, icyL, fillA, repCells, kR, reduceIte, Nat.reduceEqDiff, Nat.reduceBEq, Nat.reduceLT, Nat.reduceAdd, Nat.reduceLeDiff, Nat.reduceSub, Nat.reduceMul, Int.reduceLT, Int.reduceLE, Int.reduceEq, Int.reduceAdd, Int.reduceSub, Int.reduceMul, h0, h1, y0, y1, hg3, x_ml, hml, w1, q3']
            exact k _ k3
          · rw [if_neg q3] at k
            have q3' := decide_eq_false q3
            simp (maxSteps := 2000000) (disch := first | omega | assumption | (simp only [DS, Nat.reduceAdd, *]; done) | (simp only [DZ]; omega)) only [RUN, RU, footA, feetIn, resultsA, tupOf, frzL, slot, lay, icyL, fillA, repCells, kR, reduceIte, Nat.reduceEqDiff, Nat.reduceBEq, Nat.reduceLT, Nat.reduceAdd, Nat.reduceLeDiff, Nat.reduceSub, Nat.reduceMul, Int.reduceLT, Int.reduceLE, Int.reduceEq, Int.reduceAdd, Int.reduceSub, Int.reduceMul, h0, h1, y0, y1, hg3, x_ml, hml, w1, q3']
            exact k _ k3
    · have q1' : decide (rofE o = 0) = false := decide_eq_false q1
      rw [if_pos (.inl q1)] at k
      simp (maxSteps := 2000000) (disch := first | omega | assumption | (simp only [DS, Nat.reduceAdd, *]; done) | (simp only [DZ]; omega)) only [RUN, RU, footA, feetIn, resultsA, tupOf, frzL, slot, lay, icyL, fillA, repCells, kR, reduceIte, Nat.reduceEqDiff, Nat.reduceBEq, Nat.reduceLT, Nat.reduceAdd, Nat.reduceLeDiff, Nat.reduceSub, Nat.reduceMul, Int.reduceLT, Int.reduceLE, Int.reduceEq, Int.reduceAdd, Int.reduceSub, Int.reduceMul, h0, h1, qs, g0, g1, hof, hR.fz.rows, hR.fz.one, hR.fz.cells, hR.fz.icy, hR.fz.frz, o2, c2, q1']
      exact k _ ((kN.add _).upd hw kN.le _)
end Go.Proofs.Ytimimdjpmcmpnaa
