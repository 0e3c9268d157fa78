/-
  Histories: of.
-/
import Derived.Test.YtimimdjpmcmpnaaSaT
import Derived.Test.YtimimdjpmcmpnaaEf
set_option linter.unusedSimpArgs false
set_option linter.unusedVariables false
set_option maxRecDepth 100000
namespace Go.Proofs.Ytimimdjpmcmpnaa
open Go Go.Ax
variable {fuel : Nat} {M : Mem} {Q : AV → Mem → Prop} {d : Nat} {x : Eid} {l : List Op} {o : Op} {ra ops a : AV} {B id m : Nat}

def histF : List Op → List Op → Bool
  | _, [] => true
  | pre, o :: l => o.may && decide (fitE pre o = 0) && histF (pre ++ [o]) l
theorem ids_nodup (s : Spn) : s.ids.Nodup := by
  unfold Spn.ids
  rw [List.nodup_iff_pairwise_ne, List.pairwise_map]
  refine List.Pairwise.imp ?_ (List.nodup_iff_pairwise_ne.1 List.nodup_range)
  intro i j hij h
  have := congrArg Eid.c h
  simp only [Spn.at] at this
  exact hij (by omega)
theorem fit_fresh {pre : List Op} {o : Op} (h : fitE pre o = 0) (hk : o.kd = 1) : ∀ x ∈ o.sp.ids, x ∉ thereL pre := by
  have h1 : kindE pre o = 0 := by
    unfold fitE at h
    split at h
    · assumption
    · exact h
  unfold kindE at h1
  rw [if_pos hk] at h1
  unfold insE at h1
  intro x hx hin
  split at h1
  · cases h1
  · split at h1
    · cases h1
    · rename_i h2
      exact h2 (.inr (List.any_eq_true.2 ⟨x, hx, decide_eq_true hin⟩))
theorem there_snoc (l : List Op) (o : Op) : thereL (l ++ [o]) = thereL l ++ (if o.kd = 1 then o.sp.ids else []) := by
  unfold thereL
  rw [List.flatMap_append]
  simp
/-- A history in memory, and what is there. -/
structure HS (N : Mem) (B id m : Nat) (ops : AV) (l : List Op) (S : List Eid) : Prop where
  hg : N.get id = some (.row false [ops, .mp m])
  sm : SlM N 17 isOp ops l
  mg : ∃ obj, N.get m = some obj ∧ IsSet idA (BL true) obj S
  ib : B ≤ id
  mb : B ≤ m
  ob : ∀ j, rowOf ops = some j → B ≤ j
  ne : id ≠ m
  n1 : rowOf ops ≠ some id
  n2 : rowOf ops ≠ some m
theorem HS.keep {N : Mem} {S : List Eid} (h : HS M B id m ops l S) (k : ∀ j, j < M.size → N.get j = M.get j) : HS N B id m ops l S := by
  obtain ⟨obj, h1, h2⟩ := h.mg
  exact ⟨(k _ (Mem.get_lt h.hg)).trans h.hg, h.sm.keep fun j hj => k j (h.sm.lt j hj), ⟨obj, (k _ (Mem.get_lt h1)).trans h1, h2⟩, h.ib, h.mb, h.ob, h.ne, h.n1, h.n2⟩
theorem HS.of (h : IsHist M B id m ops l) : HS M B id m ops l (thereL l) := ⟨h.hg, h.sm, h.mg, h.ib, h.mb, h.ob, h.ne, h.n1, h.n2⟩
theorem HS.to {S : List Eid} (h : HS M B id m ops l S) (e : S = thereL l) : IsHist M B id m ops l := by
  subst e; exact ⟨h.hg, h.sm, h.mg, h.ib, h.mb, h.ob, h.ne, h.n1, h.n2⟩
def cOf : Prop := True
set_option maxHeartbeats 8000000 in
theorem of_0 (hS : Sl 17 isOp a l) (hl : l.length ≤ 10000) (hf : l.length + 400 < fuel) (wf : Wf M) (hw : M.wm ≤ M.size)
    (kf : ∀ N, Wf N → M.size ≤ N.size → (∀ j, j < M.size → N.get j = M.get j) → histF [] l = false → Q (.tup [.sc (.pointer none), BL false]) N)
    (kt : ∀ N ops, Wf N → M.size + 2 ≤ N.size → N.wm = M.wm → (∀ j, j < M.size → N.get j = M.get j) → histF [] l = true → IsHist N M.size (M.size + 1) M.size ops l → (thereL l).length ≤ 64 * l.length → Q (.tup [.ptr (M.size + 1) 0, BL true]) N) :
    W3 (callN Try.prog (fsT tbl) fuel (d + 13) (.fn 17) [a] M) Q := by
  have ll := hS.len
  have one_mp : oneA (.mp M.size) = true := rfl
  have cmp : cellsA (.mp M.size) = [.mp M.size] := rfl
  refine call_0 tf17 rfl (by simp [a17]) fun b' ht hx => ?_
  have h0 := hx 0 _ rfl
  clear hx
  simp only [a17, c17] at ht ⊢
  have hH0 : IsHist ((M.add (.map [] 0)).add (.row false [NIL, .mp M.size])) M.size (M.size + 1) M.size NIL [] := ⟨by simp (maxSteps := 2000000) (disch := first | omega | assumption | (simp only [DS, Nat.reduceAdd, *]; done) | (simp only [DZ]; omega)) only [RUN, RU, footA, feetIn, resultsA, tupOf, frzL, slot, lay, icyL, fillA, repCells, kR, reduceIte, Nat.reduceEqDiff, Nat.reduceBEq, Nat.reduceLT, Nat.reduceAdd, Nat.reduceLeDiff, Nat.reduceSub, Nat.reduceMul, Int.reduceLT, Int.reduceLE, Int.reduceEq, Int.reduceAdd, Int.reduceSub, Int.reduceMul, wf], SlM.nil, ⟨.map [] 0, by simp (maxSteps := 2000000) (disch := first | omega | assumption | (simp only [DS, Nat.reduceAdd, *]; done) | (simp only [DZ]; omega)) only [RUN, RU, footA, feetIn, resultsA, tupOf, frzL, slot, lay, icyL, fillA, repCells, kR, reduceIte, Nat.reduceEqDiff, Nat.reduceBEq, Nat.reduceLT, Nat.reduceAdd, Nat.reduceLeDiff, Nat.reduceSub, Nat.reduceMul, Int.reduceLT, Int.reduceLE, Int.reduceEq, Int.reduceAdd, Int.reduceSub, Int.reduceMul, wf], IsSet.nil _ _⟩, by omega, by omega, fun j hj => (by cases hj), by omega, fun hj => (by cases hj), fun hj => (by cases hj)⟩
  simp (maxSteps := 2000000) (disch := first | omega | assumption | (simp only [DS, Nat.reduceAdd, *]; done) | (simp only [DZ]; omega)) only [RUN, RU, footA, feetIn, resultsA, tupOf, frzL, slot, lay, icyL, fillA, repCells, kR, reduceIte, Nat.reduceEqDiff, Nat.reduceBEq, Nat.reduceLT, Nat.reduceAdd, Nat.reduceLeDiff, Nat.reduceSub, Nat.reduceMul, Int.reduceLT, Int.reduceLE, Int.reduceEq, Int.reduceAdd, Int.reduceSub, Int.reduceMul, h0, ll, hS.fz.rows, hS.fz.one, hS.fz.cells, hS.fz.icy, hS.fz.frz, wf, x_mkmap, cmp]
  refine w_loop (I := fun n t N => ∃ (i : Nat) (ops : AV), n = l.length - i ∧ i ≤ l.length ∧ nth undefA t 4 = .ptr (M.size + 1) 0 ∧ nth undefA t 12 = a ∧ nth undefA t 13 = I64 l.length ∧ nth undefA t 14 = I64 i ∧ Wf N ∧ M.size + 2 ≤ N.size ∧ N.wm = M.wm ∧ (∀ j, j < M.size → N.get j = M.get j) ∧ IsHist N M.size (M.size + 1) M.size ops (l.take i) ∧ histF [] l = histF (l.take i) (l.drop i) ∧ (thereL (l.take i)).length ≤ 64 * i) (n := l.length) (by omega) ?_ ?_
  · refine ⟨0, NIL, rfl, Nat.zero_le _, ?_, ?_, ?_, ?_, (wf.add _).add _, by simp only [add_size]; omega, rfl, fun j hj => by rw [get_add (wf.add _) _ _ (by rw [add_size]; omega), get_add wf _ _ hj], hH0, rfl, Nat.le_refl 0⟩ <;> simp (maxSteps := 2000000) (disch := first | omega | assumption | (simp only [DS, Nat.reduceAdd, *]; done) | (simp only [DZ]; omega)) only [RUN, RU, footA, feetIn, resultsA, tupOf, frzL, slot, lay, icyL, fillA, repCells, kR, reduceIte, Nat.reduceEqDiff, Nat.reduceBEq, Nat.reduceLT, Nat.reduceAdd, Nat.reduceLeDiff, Nat.reduceSub, Nat.reduceMul, Int.reduceLT, Int.reduceLE, Int.reduceEq, Int.reduceAdd, Int.reduceSub, Int.reduceMul, h0, ll, wf]
    all_goals first | rfl | assumption | done
  · rintro n t N hlt ⟨i, ops, rfl, hi, g4, g12, g13, g14, w, sz, wm, kp, hH, inv, tl⟩
    simp only [ht] at hlt ⊢
    by_cases hc : i < l.length
    · have q2 : decide ((i : Int) < l.length) = true := decide_eq_true (by omega)
      have w1 : IntKind.i64.wrap ((i : Int) + 1) = ((i + 1 : Nat) : Int) := by rw [wrap_i64] <;> omega
      obtain ⟨r, hiad, hr, hrl⟩ := hS.iad i hc
      rw [drop_step l i hc, histF, ← take_snoc l i hc] at inv
      have hts := there_snoc (l.take i) l[i]
      have hsn := take_snoc l i hc
      rw [← hsn] at hts
      generalize l[i] = e at *
      obtain ⟨ra, rfl, hra, hok⟩ := hr
      have ora := hra.one
      have hck := fun M => @opcheck_run fuel (d + 5) e ra hra hok (by omega) M
      cases hm : e.may with
      | false =>
        rw [hm] at hck
        simp only [hm, Bool.false_and] at inv
        simp (maxSteps := 2000000) (disch := first | omega | assumption | (simp only [DS, Nat.reduceAdd, *]; done) | (simp only [DZ]; omega)) only [RUN, RU, footA, feetIn, resultsA, tupOf, frzL, slot, lay, icyL, fillA, repCells, kR, reduceIte, Nat.reduceEqDiff, Nat.reduceBEq, Nat.reduceLT, Nat.reduceAdd, Nat.reduceLeDiff, Nat.reduceSub, Nat.reduceMul, Int.reduceLT, Int.reduceLE, Int.reduceEq, Int.reduceAdd, Int.reduceSub, Int.reduceMul, g4, g12, g13, g14, hS.fz.rows, hS.fz.one, hS.fz.cells, hS.fz.icy, hS.fz.frz, q2, hiad, hra.fz.rows, hra.fz.one, hra.fz.cells, hra.fz.icy, hra.fz.frz, w, hck, err_f, z80]
        exact kf _ ((w.add _).upd _ _) (by simp only [upd_size, add_size]; omega) (fun j hj => by rw [get_upd_ne (w.add _) _ _ _ (by omega), get_add w _ _ (by omega)]; exact kp j hj) inv
      | true =>
        rw [hm] at hck
        simp (maxSteps := 2000000) (disch := first | omega | assumption | (simp only [DS, Nat.reduceAdd, *]; done) | (simp only [DZ]; omega)) only [RUN, RU, footA, feetIn, resultsA, tupOf, frzL, slot, lay, icyL, fillA, repCells, kR, reduceIte, Nat.reduceEqDiff, Nat.reduceBEq, Nat.reduceLT, Nat.reduceAdd, Nat.reduceLeDiff, Nat.reduceSub, Nat.reduceMul, Int.reduceLT, Int.reduceLE, Int.reduceEq, Int.reduceAdd, Int.reduceSub, Int.reduceMul, g4, g12, g13, g14, hS.fz.rows, hS.fz.one, hS.fz.cells, hS.fz.icy, hS.fz.frz, q2, hiad, hra.fz.rows, hra.fz.one, hra.fz.cells, hra.fz.icy, hra.fz.frz, w, hck, err_t, z00]
        have hwN : N.wm ≤ N.size := by omega
        have kX := ((Kept.refl w).add (.row false (opR ⟨0, Hd.z, 0, ⟨Eid.z, 0⟩, Eid.z, Lb.z, []⟩ NIL))).upd hwN (Nat.le_refl _) (.row false (opR e ra))
        have hli : (l.take i).length = i := by rw [List.length_take]; omega
        refine fits_0 (d := d) (B := M.size) (m := M.size) (ops := ops) (l := l.take i) (hH.keep kX.get) (by omega) (by omega) hra hok hm (by omega) kX.wf (kX.wml hwN) fun N2 hN2 => ?_
        have kN := kX.trans hN2
        have gE : N2.get N.size = some (.row false (opR e ra)) := by
          rw [hN2.get _ (by rw [upd_size, add_size]; omega)]
          exact get_upd_eq (w.add _) _ _ (by rw [add_size]; omega)
        have lE := Mem.get_lt gE
        have w2 := kN.wf
        have hH2 := hH.keep kN.get
        have hg2 := hH2.hg
        have lg2 := Mem.get_lt hg2
        have sm2 := hH2.sm
        have oo2 := sm2.one
        have oc2 := sm2.cells
        have rl2 := sm2.rl
        have le2 := kN.le
        by_cases q3 : fitE (l.take i) e = 0
        · have q3' : decide (fitE (l.take i) e = 0) = true := decide_eq_true q3
          simp only [hm, q3', Bool.true_and] at inv
          simp (maxSteps := 2000000) (disch := first | omega | assumption | (simp only [DS, Nat.reduceAdd, *]; done) | (simp only [DZ]; omega)) only [RUN, RU, footA, feetIn, resultsA, tupOf, frzL, slot, lay, icyL, fillA, repCells, kR, reduceIte, Nat.reduceEqDiff, Nat.reduceBEq, Nat.reduceLT, Nat.reduceAdd, Nat.reduceLeDiff, Nat.reduceSub, Nat.reduceMul, Int.reduceLT, Int.reduceLE, Int.reduceEq, Int.reduceAdd, Int.reduceSub, Int.reduceMul, g4, g12, g13, g14, q3', gE, hg2, oo2, oc2, hra.fz.rows, hra.fz.one, hra.fz.cells, hra.fz.icy, hra.fz.frz, w2]
          refine ⟨rows_lt rl2 (by omega), ?_⟩
          refine app1 w2 sm2 fz_Op (x := e) ⟨ra, rfl, hra, hok⟩ rfl (by omega) (by omega) (by omega) fun ops' M3 m3 w3 le3 kp3 nw3 wm3 rl3 on3 oc3 => ?_
          have gH3 : M3.get (M.size + 1) = some (.row false [ops, .mp M.size]) := (kp3 _ lg2 hH2.n1).trans hg2
          have gE3 : M3.get N.size = some (.row false (opR e ra)) := (kp3 _ lE (fun h => by have := hH.sm.lt _ h; omega)).trans gE
          have l3 := Mem.get_lt gH3
          have lE3 := Mem.get_lt gE3
          simp (maxSteps := 2000000) (disch := first | omega | assumption | (simp only [DS, Nat.reduceAdd, *]; done) | (simp only [DZ]; omega)) only [RUN, RU, footA, feetIn, resultsA, tupOf, frzL, slot, lay, icyL, fillA, repCells, kR, reduceIte, Nat.reduceEqDiff, Nat.reduceBEq, Nat.reduceLT, Nat.reduceAdd, Nat.reduceLeDiff, Nat.reduceSub, Nat.reduceMul, Int.reduceLT, Int.reduceLE, Int.reduceEq, Int.reduceAdd, Int.reduceSub, Int.reduceMul, g4, g12, g13, g14, gH3, gE3, on3, oc3, w3]
          have ob' : ∀ j, rowOf ops' = some j → j ≠ M.size + 1 ∧ j ≠ M.size ∧ M.size ≤ j := fun j hj => by
            rcases nw3 j hj with h | h
            · exact ⟨fun e => hH.n1 (e ▸ h), fun e => hH.n2 (e ▸ h), hH.ob j h⟩
            · omega
          have hS4 : HS (M3.upd (M.size + 1) (.row false [ops', .mp M.size])) M.size (M.size + 1) M.size ops' (l.take (i + 1)) (thereL (l.take i)) := by
            obtain ⟨obj, mg, hset⟩ := hH2.mg
            refine ⟨get_upd_eq w3 _ _ l3, ?_, ⟨obj, ?_, hset⟩, by omega, by omega, fun j hj => (ob' j hj).2.2, by omega, fun hj => (ob' _ hj).1 rfl, fun hj => (ob' _ hj).2.1 rfl⟩
            · rw [hsn]
              exact m3.keep fun j hj => get_upd_ne w3 _ _ _ (fun e => (ob' j hj).1 e.symm)
            · rw [get_upd_ne w3 _ _ _ (by omega), kp3 _ (Mem.get_lt mg) hH2.n2]; exact mg
          have kp4 : ∀ j, j < M.size → (M3.upd (M.size + 1) (.row false [ops', .mp M.size])).get j = M.get j := fun j hj => by
            rw [get_upd_ne w3 _ _ _ (by omega), kp3 j (by omega) (fun h => by have := hH.ob j h; omega), kN.get j (by omega)]; exact kp j hj
          have w4 := w3.upd (M.size + 1) (.row false [ops', .mp M.size])
          have wm4 : (M3.upd (M.size + 1) (.row false [ops', .mp M.size])).wm = M.wm := by
            show M3.wm = M.wm
            rw [wm3, kN.wm, wm]
          have gE4 : (M3.upd (M.size + 1) (.row false [ops', .mp M.size])).get N.size = some (.row false (opR e ra)) := by rw [get_upd_ne w3 _ _ _ (by omega)]; exact gE3
          have sz4 : M.size + 2 ≤ (M3.upd (M.size + 1) (.row false [ops', .mp M.size])).size := by rw [upd_size]; omega
          have lE4 : N.size < (M3.upd (M.size + 1) (.row false [ops', .mp M.size])).size := by rw [upd_size]; exact lE3
          generalize M3.upd (M.size + 1) (.row false [ops', .mp M.size]) = X4 at *
          by_cases q4 : e.kd = 1
          · have q4' : decide (e.kd = 1) = true := decide_eq_true q4
            rw [if_pos q4] at hts
            obtain ⟨r, hr, hn⟩ := names_run (fuel := fuel) (d := d + 6) hok.2.2.2.1 (may_sp hm) (by omega)
            have hbn := Spn.may_le (may_sp hm)
            have il := ids_len e.sp
            have rlen := hr.len
            simp (maxSteps := 2000000) (disch := first | omega | assumption | (simp only [DS, Nat.reduceAdd, *]; done) | (simp only [DZ]; omega)) only [RUN, RU, footA, feetIn, resultsA, tupOf, frzL, slot, lay, icyL, fillA, repCells, kR, reduceIte, Nat.reduceEqDiff, Nat.reduceBEq, Nat.reduceLT, Nat.reduceAdd, Nat.reduceLeDiff, Nat.reduceSub, Nat.reduceMul, Int.reduceLT, Int.reduceLE, Int.reduceEq, Int.reduceAdd, Int.reduceSub, Int.reduceMul, g4, g12, g13, g14, q4', gE4, hn, hr.fz.rows, hr.fz.one, hr.fz.cells, hr.fz.icy, hr.fz.frz, rlen]
            refine w_loop (I := fun nk tk Nk => ∃ (ik : Nat), nk = e.sp.ids.length - ik ∧ ik ≤ e.sp.ids.length ∧ nth undefA tk 4 = .ptr (M.size + 1) 0 ∧ nth undefA tk 12 = a ∧ nth undefA tk 13 = I64 l.length ∧ nth undefA tk 14 = I64 i ∧ nth undefA tk 42 = r ∧ nth undefA tk 43 = I64 e.sp.ids.length ∧ nth undefA tk 44 = I64 ik ∧ Wf Nk ∧ M.size + 2 ≤ Nk.size ∧ Nk.wm = M.wm ∧ (∀ j, j < M.size → Nk.get j = M.get j) ∧ HS Nk M.size (M.size + 1) M.size ops' (l.take (i + 1)) (thereL (l.take i) ++ e.sp.ids.take ik)) (n := e.sp.ids.length) (by omega) ?_ ?_
            · refine ⟨0, rfl, Nat.zero_le _, ?_, ?_, ?_, ?_, ?_, ?_, ?_, w4, sz4, wm4, kp4, (by rw [List.take_zero, List.append_nil]; exact hS4)⟩ <;> simp (maxSteps := 2000000) (disch := first | omega | assumption | (simp only [DS, Nat.reduceAdd, *]; done) | (simp only [DZ]; omega)) only [RUN, RU, footA, feetIn, resultsA, tupOf, frzL, slot, lay, icyL, fillA, repCells, kR, reduceIte, Nat.reduceEqDiff, Nat.reduceBEq, Nat.reduceLT, Nat.reduceAdd, Nat.reduceLeDiff, Nat.reduceSub, Nat.reduceMul, Int.reduceLT, Int.reduceLE, Int.reduceEq, Int.reduceAdd, Int.reduceSub, Int.reduceMul, g4, g12, g13, g14]
              all_goals first | rfl | assumption | done
            · rintro nk tk Nk hltk ⟨ik, rfl, hik, gk4, gk12, gk13, gk14, gk42, gk43, gk44, wk, szk, wmk, kpk, hSk⟩
              simp only [hlt] at hltk ⊢
              by_cases hck : ik < e.sp.ids.length
              · have q5 : decide ((ik : Int) < e.sp.ids.length) = true := decide_eq_true (by omega)
                have w1k : IntKind.i64.wrap ((ik : Int) + 1) = ((ik + 1 : Nat) : Int) := by rw [wrap_i64] <;> omega
                obtain ⟨rx, hiadx, hrx, hrlx⟩ := hr.iad ik hck
                have fr : e.sp.ids[ik] ∉ thereL (l.take i) ++ e.sp.ids.take ik := by
                  intro hin
                  rcases List.mem_append.1 hin with h | h
                  · exact fit_fresh q3 q4 _ (List.getElem_mem hck) h
                  · obtain ⟨j, hj, he⟩ := List.getElem_of_mem h
                    rw [List.getElem_take] at he
                    rw [List.length_take] at hj
                    rw [ids_get, ids_get] at he
                    have := congrArg Eid.c he
                    simp only [Spn.at] at this
                    omega
                have sn := take_snoc e.sp.ids ik hck
                generalize e.sp.ids[ik] = x at *
                obtain ⟨rfl, hxo⟩ := hrx
                have gk := hSk.hg
                obtain ⟨obj, mgk, hset⟩ := hSk.mg
                have lk := Mem.get_lt gk
                have lmk := Mem.get_lt mgk
                simp (maxSteps := 2000000) (disch := first | omega | assumption | (simp only [DS, Nat.reduceAdd, *]; done) | (simp only [DZ]; omega)) only [RUN, RU, footA, feetIn, resultsA, tupOf, frzL, slot, lay, icyL, fillA, repCells, kR, reduceIte, Nat.reduceEqDiff, Nat.reduceBEq, Nat.reduceLT, Nat.reduceAdd, Nat.reduceLeDiff, Nat.reduceSub, Nat.reduceMul, Int.reduceLT, Int.reduceLE, Int.reduceEq, Int.reduceAdd, Int.reduceSub, Int.reduceMul, gk4, gk12, gk13, gk14, gk42, gk43, gk44, q5, hiadx, wk, gk, x_mu]
                have wk2 := (wk.add (.row false (idR ⟨⟨⟨0, 0⟩, 0⟩, 0⟩))).upd Nk.size (.row false (idR x))
                have keep2 : ∀ j, j < Nk.size → ((Nk.add (.row false (idR ⟨⟨⟨0, 0⟩, 0⟩, 0⟩))).upd Nk.size (.row false (idR x))).get j = Nk.get j := fun j hj => by
                  rw [get_upd_ne (wk.add _) _ _ _ (by omega), get_add wk _ _ hj]
                refine mu_set idKey (l := thereL (l.take i) ++ e.sp.ids.take ik) wk2 (by simp only [upd_size, add_size]; omega) ((keep2 _ lmk).trans mgk) hset x fun o' hs' => ?_
                rw [if_neg fr] at hs'
                have hS5 : HS (((Nk.add (.row false (idR ⟨⟨⟨0, 0⟩, 0⟩, 0⟩))).upd Nk.size (.row false (idR x))).upd M.size o') M.size (M.size + 1) M.size ops' (l.take (i + 1)) (thereL (l.take i) ++ e.sp.ids.take (ik + 1)) := by
                  have u : ∀ j, j < Nk.size → j ≠ M.size → (((Nk.add (.row false (idR ⟨⟨⟨0, 0⟩, 0⟩, 0⟩))).upd Nk.size (.row false (idR x))).upd M.size o').get j = Nk.get j := fun j hj hne => by
                    rw [get_upd_ne wk2 _ _ _ (fun e => hne e.symm), keep2 j hj]
                  refine ⟨(u _ lk (by omega)).trans gk, hSk.sm.keep fun j hj => u j (hSk.sm.lt j hj) (fun e => hSk.n2 (e ▸ hj)), ⟨o', get_upd_eq wk2 _ _ (by simp only [upd_size, add_size]; omega), ?_⟩, hSk.ib, hSk.mb, hSk.ob, hSk.ne, hSk.n1, hSk.n2⟩
                  rw [sn, ← List.append_assoc]
                  exact hs'
                have wm5 : (((Nk.add (.row false (idR ⟨⟨⟨0, 0⟩, 0⟩, 0⟩))).upd Nk.size (.row false (idR x))).upd M.size o').wm = M.wm := wmk
                have kp5 : ∀ j, j < M.size → (((Nk.add (.row false (idR ⟨⟨⟨0, 0⟩, 0⟩, 0⟩))).upd Nk.size (.row false (idR x))).upd M.size o').get j = M.get j := fun j hj => by
                  rw [get_upd_ne wk2 _ _ _ (by omega), keep2 j (by omega)]; exact kpk j hj
                have wk5 := wk2.upd M.size o'
                have sz5 : M.size + 2 ≤ (((Nk.add (.row false (idR ⟨⟨⟨0, 0⟩, 0⟩, 0⟩))).upd Nk.size (.row false (idR x))).upd M.size o').size := by simp only [upd_size, add_size]; omega
                simp (maxSteps := 2000000) (disch := first | omega | assumption | (simp only [DS, Nat.reduceAdd, *]; done) | (simp only [DZ]; omega)) only [RUN, RU, footA, feetIn, resultsA, tupOf, frzL, slot, lay, icyL, fillA, repCells, kR, reduceIte, Nat.reduceEqDiff, Nat.reduceBEq, Nat.reduceLT, Nat.reduceAdd, Nat.reduceLeDiff, Nat.reduceSub, Nat.reduceMul, Int.reduceLT, Int.reduceLE, Int.reduceEq, Int.reduceAdd, Int.reduceSub, Int.reduceMul, gk4, gk12, gk13, gk14, gk42, gk43, gk44, w1k]
                exact ⟨hltk, e.sp.ids.length - (ik + 1), by omega, ik + 1, rfl, by omega, rfl, wk, by omega, wm5, kp5, hS5⟩
              · obtain rfl : ik = e.sp.ids.length := by omega
                have q5 : decide ((e.sp.ids.length : Int) < e.sp.ids.length) = false := decide_eq_false (by omega)
                rw [List.take_length] at hSk
                simp (maxSteps := 2000000) (disch := first | omega | assumption | (simp only [DS, Nat.reduceAdd, *]; done) | (simp only [DZ]; omega)) only [RUN, RU, footA, feetIn, resultsA, tupOf, frzL, slot, lay, icyL, fillA, repCells, kR, reduceIte, Nat.reduceEqDiff, Nat.reduceBEq, Nat.reduceLT, Nat.reduceAdd, Nat.reduceLeDiff, Nat.reduceSub, Nat.reduceMul, Int.reduceLT, Int.reduceLE, Int.reduceEq, Int.reduceAdd, Int.reduceSub, Int.reduceMul, gk4, gk12, gk13, gk14, gk42, gk43, gk44, q5, w1]
                exact ⟨hltk, l.length - (i + 1), by omega, i + 1, ops', rfl, by omega, rfl, wk, szk, wmk, kpk, hSk.to hts.symm, inv, by rw [hts, List.length_append]; omega⟩
          · have q4' : decide (e.kd = 1) = false := decide_eq_false q4
            rw [if_neg q4, List.append_nil] at hts
            simp (maxSteps := 2000000) (disch := first | omega | assumption | (simp only [DS, Nat.reduceAdd, *]; done) | (simp only [DZ]; omega)) only [RUN, RU, footA, feetIn, resultsA, tupOf, frzL, slot, lay, icyL, fillA, repCells, kR, reduceIte, Nat.reduceEqDiff, Nat.reduceBEq, Nat.reduceLT, Nat.reduceAdd, Nat.reduceLeDiff, Nat.reduceSub, Nat.reduceMul, Int.reduceLT, Int.reduceLE, Int.reduceEq, Int.reduceAdd, Int.reduceSub, Int.reduceMul, g4, g12, g13, g14, q4', w1]
            exact ⟨hlt, l.length - (i + 1), by omega, i + 1, ops', rfl, by omega, rfl, w4, sz4, wm4, kp4, hS4.to hts.symm, inv, by rw [hts]; omega⟩
        · have q3' : decide (fitE (l.take i) e = 0) = false := decide_eq_false q3
          simp only [hm, q3', Bool.false_and, Bool.and_false] at inv
          simp (maxSteps := 2000000) (disch := first | omega | assumption | (simp only [DS, Nat.reduceAdd, *]; done) | (simp only [DZ]; omega)) only [RUN, RU, footA, feetIn, resultsA, tupOf, frzL, slot, lay, icyL, fillA, repCells, kR, reduceIte, Nat.reduceEqDiff, Nat.reduceBEq, Nat.reduceLT, Nat.reduceAdd, Nat.reduceLeDiff, Nat.reduceSub, Nat.reduceMul, Int.reduceLT, Int.reduceLE, Int.reduceEq, Int.reduceAdd, Int.reduceSub, Int.reduceMul, g4, g12, g13, g14, q3']
          exact kf _ w2 (by omega) (fun j hj => (kN.get j (by omega)).trans (kp j hj)) inv
    · obtain rfl : i = l.length := by omega
      have q1 : decide ((l.length : Int) < l.length) = false := decide_eq_false (by omega)
      rw [List.drop_length, histF] at inv
      rw [List.take_length] at hH tl
      simp (maxSteps := 2000000) (disch := first | omega | assumption | (simp only [DS, Nat.reduceAdd, *]; done) | (simp only [DZ]; omega)) only [RUN, RU, footA, feetIn, resultsA, tupOf, frzL, slot, lay, icyL, fillA, repCells, kR, reduceIte, Nat.reduceEqDiff, Nat.reduceBEq, Nat.reduceLT, Nat.reduceAdd, Nat.reduceLeDiff, Nat.reduceSub, Nat.reduceMul, Int.reduceLT, Int.reduceLE, Int.reduceEq, Int.reduceAdd, Int.reduceSub, Int.reduceMul, g4, g13, g14, q1]
      exact kt _ _ w sz wm kp inv hH tl
end Go.Proofs.Ytimimdjpmcmpnaa
