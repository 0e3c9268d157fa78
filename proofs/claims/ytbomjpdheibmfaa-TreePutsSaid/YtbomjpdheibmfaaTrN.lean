/-
  Texts: Ids.
-/
import Derived.Test.YtbomjpdheibmfaaTrI
import Derived.Test.YtbomjpdheibmfaaEf
set_option linter.unusedSimpArgs false
set_option linter.unusedVariables false
set_option maxRecDepth 100000
namespace Go.Proofs.Ytbomjpdheibmfaa
open Go Go.Ax
variable {fuel : Nat} {M : Mem} {Q : AV → Mem → Prop} {d : Nat}
def cI1 : ACode := (.region [⟨some 5, .alloc 29 (.agg #[(.int .u8 0), (.int .u32 0), (.int .u8 0), (.int .i64 0)]), none, []⟩, ⟨none, .store 4 (.tmp 5) (.tmp 13), none, []⟩] false)
def cI2 : ACode := (.block 1 (.region [⟨some 15, .load 1 false (.tmp 2), none, [1, 2]⟩, ⟨some 16, .load 4 true (.tmp 5), none, [0]⟩, ⟨some 17, .bsl 29 4 (.agg #[(.int .u8 0), (.int .u32 0), (.int .u8 0), (.int .i64 0)]) 1 [(0, 4, (.tmp 16))], none, [0]⟩, ⟨some 18, .app 29 4 24 (.agg #[(.int .u8 0), (.int .u32 0), (.int .u8 0), (.int .i64 0)]) (.tmp 15) (.tmp 17), none, []⟩, ⟨none, .store 1 (.tmp 2) (.tmp 18), none, []⟩] false))
structure II (tm : List AV) (pre : List (Eid × Eid)) (O : Nat → Prop) (N : Mem) : Prop where
  wf : Wf N
  sz : 4 ≤ N.size
  g0 : ∃ o, N.get 0 = some (.row false [o]) ∧ SlM N 4 isEid o (pre.map (·.1)) ∧ ∀ j, rowOf o = some j → O j ∧ 4 ≤ j
  g2 : N.get 2 = some (.dfr false)
  g3 : N.get 3 = some (.loop .ready none tm [13, 14] cI1 cI2 2)
  o0 : O 0
  o3 : O 3
  ol : ∀ j, O j → j < N.size ∧ (j = 0 ∨ 3 ≤ j)
theorem II.keep {tm : List AV} {pre : List (Eid × Eid)} {O : Nat → Prop} {N N' : Mem} (h : II tm pre O N) (wf : Wf N') (hs : N.size ≤ N'.size) (k : ∀ j, j < N.size → N'.get j = N.get j) : II tm pre O N' := by
  have := h.sz
  obtain ⟨o, h1, h2, h3⟩ := h.g0
  exact ⟨wf, by omega, ⟨o, (k 0 (by omega)).trans h1, h2.keep fun j hj => k j (h2.lt j hj), h3⟩, (k 2 (by omega)).trans h.g2, (k 3 (by omega)).trans h.g3, h.o0, h.o3, fun j hj => ⟨by have := (h.ol j hj).1; omega, (h.ol j hj).2⟩⟩
set_option maxHeartbeats 8000000 in
theorem iyield {B : Nat} {tm : List AV} {pre : List (Eid × Eid)} {O : Nat → Prop} {x : Eid × Eid} (h : II tm pre O M) (h2 : nth undefA tm 2 = .ptr 0 0) (hlen : tm.length = 20) (hx : x.1.ok) (hn : pre.length ≤ 100000) :
    W3 (callN Try.prog (fsT tbl) fuel (d + 7) (.yl 3) [idA x.1, idA x.2] M) (fun v N' => (v = BL true ∧ Yl (II tm) (pre ++ [x]) O B M N') ∨ (v = BL false ∧ False)) := by
  obtain ⟨o, g0, sm, ro⟩ := h.g0
  have wf := h.wf
  have sz := h.sz
  have g3 := h.g3
  have oo := sm.one
  have l0 := Mem.get_lt g0
  refine call_yl g3 rfl ?_
  have e1 : setAll tm [13, 14] [idA x.1, idA x.2] = St tm [(14, idA x.2), (13, idA x.1)] := rfl
  rw [e1]
  unfold cI1 cI2
  simp (maxSteps := 2000000) (disch := first | omega | assumption | (simp only [DS, Nat.reduceAdd, *]; done) | (simp only [DZ]; omega)) only [RUN, RU, zD, zC, zB, zE, zG, slot, lay, zH, zF, zA, kR, reduceIte, Nat.reduceEqDiff, Nat.reduceBEq, Nat.reduceLT, Nat.reduceAdd, Nat.reduceLeDiff, Nat.reduceSub, Nat.reduceMul, Int.reduceLT, Int.reduceLE, Int.reduceEq, Int.reduceAdd, Int.reduceSub, Int.reduceMul, h2, wf]
  refine ⟨tm, [13, 14], _, _, 2, g3, ?_⟩
  generalize hX : ((M.add _).upd M.size _).upd 3 _ = X
  have wX : Wf X := by rw [← hX]; exact ((wf.add _).upd _ _).upd _ _
  have sX : X.size = M.size + 1 := by rw [← hX]; rfl
  have gX : ∀ j, j < M.size → j ≠ 3 → X.get j = M.get j := fun j a b => by
    rw [← hX, get_upd_ne ((wf.add _).upd _ _) _ _ _ (fun e => b e.symm), get_upd_ne (wf.add _) _ _ _ (by omega), get_add wf _ _ a]
  have x3 : X.get 3 = some (.loop .busy none tm [13, 14] cI1 cI2 2) := by
    rw [← hX, get_upd_eq ((wf.add _).upd _ _) _ _ (by rw [upd_size, add_size]; omega)]
  have xM : X.get M.size = some (.row false (idR x.1)) := by
    rw [← hX, get_upd_ne ((wf.add _).upd _ _) _ _ _ (by omega), get_upd_eq (wf.add _) _ _ (by rw [add_size]; omega)]
  have x0 := (gX 0 l0 (by omega)).trans g0
  have lM : M.size < X.size := by omega
  have l0' : 0 < X.size := by omega
  have smX : SlM X 4 isEid o (pre.map (·.1)) := sm.keep fun j hj => gX j (sm.lt j hj) (by have := ro j hj; have := h.ol j this.1; omega)
  clear hX
  simp (maxSteps := 2000000) (disch := first | omega | assumption | (simp only [DS, Nat.reduceAdd, *]; done) | (simp only [DZ]; omega)) only [RUN, RU, zD, zC, zB, zE, zG, slot, lay, zH, zF, zA, kR, reduceIte, Nat.reduceEqDiff, Nat.reduceBEq, Nat.reduceLT, Nat.reduceAdd, Nat.reduceLeDiff, Nat.reduceSub, Nat.reduceMul, Int.reduceLT, Int.reduceLE, Int.reduceEq, Int.reduceAdd, Int.reduceSub, Int.reduceMul, h2, g0, x0, xM, oo, wX]
  refine ⟨rows_lt smX.rl (by omega), ?_⟩
  refine app1 wX smX isEid_fz (x := x.1) ⟨rfl, hx⟩ rfl (by omega) (by rw [List.length_map]; omega) (by rw [List.length_map]; omega) fun o2 M2 m2 w2 le2 kp2 nw2 wm2 rl2 on2 oc2 => ?_
  have ro2 : ∀ j, rowOf o2 = some j → 4 ≤ j ∧ (O j ∨ M.size ≤ j) := fun j hj => by
    rcases nw2 j hj with e | e
    · exact ⟨(ro j e).2, .inl (ro j e).1⟩
    · exact ⟨by omega, .inr (by omega)⟩
  have z0 : M2.get 0 = some (.row false [o]) := (kp2 0 (by omega) (fun e => by have := (ro 0 e).2; omega)).trans x0
  have z3 := (kp2 3 (by omega) (fun e => by have := (ro 3 e).2; omega)).trans x3
  have l2 : 0 < M2.size := by omega
  simp (maxSteps := 2000000) (disch := first | omega | assumption | (simp only [DS, Nat.reduceAdd, *]; done) | (simp only [DZ]; omega)) only [RUN, RU, zD, zC, zB, zE, zG, slot, lay, zH, zF, zA, kR, reduceIte, Nat.reduceEqDiff, Nat.reduceBEq, Nat.reduceLT, Nat.reduceAdd, Nat.reduceLeDiff, Nat.reduceSub, Nat.reduceMul, Int.reduceLT, Int.reduceLE, Int.reduceEq, Int.reduceAdd, Int.reduceSub, Int.reduceMul, h2, z0, z3, w2, on2, oc2]
  have wZ := w2.upd 0 (.row false [o2])
  have zk : ∀ j, j ≠ 0 → j ≠ 3 → ((M2.upd 0 (.row false [o2])).upd 3 (.loop .ready none tm [13, 14] cI1 cI2 2)).get j = M2.get j := fun j a b => by
    rw [get_upd_ne wZ _ _ _ (fun e => b e.symm), get_upd_ne w2 _ _ _ (fun e => a e.symm)]
  have k2 : ∀ j, j < M.size → j ≠ 3 → rowOf o ≠ some j → M2.get j = M.get j := fun j a b c => (kp2 j (by omega) c).trans (gX j a b)
  refine ⟨_, _, _, _, _, _, _, rfl, .inl ⟨⟨fun j => O j ∨ rowOf o2 = some j, ⟨wZ.upd _ _, by simp only [upd_size]; omega, ⟨o2, ?_, ?_, fun j hj => ⟨.inr hj, (ro2 j hj).1⟩⟩, ?_, ?_, .inl h.o0, .inl h.o3, ?_⟩, ?_⟩, wZ.upd _ _, by simp only [upd_size]; omega, ?_⟩⟩
  · rw [get_upd_ne wZ _ _ _ (by omega)]; exact get_upd_eq w2 _ _ l2
  · rw [List.map_append]
    exact m2.keep fun j hj => zk j (by have := (ro2 j hj).1; omega) (by have := (ro2 j hj).1; omega)
  · rw [zk 2 (by omega) (by omega), k2 2 (by omega) (by omega) (fun e => by have := (ro 2 e).2; omega)]; exact h.g2
  · exact get_upd_eq wZ _ _ (by simp only [upd_size]; omega)
  · intro j hj
    simp only [upd_size]
    rcases hj with hj | hj
    · exact ⟨by have := (h.ol j hj).1; omega, (h.ol j hj).2⟩
    · exact ⟨m2.lt j hj, .inr (by have := (ro2 j hj).1; omega)⟩
  · rintro j (hj | hj)
    · exact .inl hj
    · exact (ro2 j hj).2
  · intro j hj hO
    have h0 : j ≠ 0 := fun e => hO (e ▸ h.o0)
    have h3 : j ≠ 3 := fun e => hO (e ▸ h.o3)
    rw [zk j h0 h3]
    exact k2 j hj h3 fun e => hO (ro j e).1
theorem els1_atI {X : Mem} {tm : List AV} {a : AV} {l : List Rn} (hS : Sl 10 isRn a l) (hl : l.length ≤ 1000) (hm : ∀ r ∈ l, r.may = true) (hf : 64 * l.length + 1000 < fuel) (w : Wf X) (h2 : nth undefA tm 2 = .ptr 0 0) (hlen : tm.length = 20) (hX : X.size = 2) (g0 : X.get 0 = some (.row false [NIL])) (g1 : X.get 1 = some (.row false [a]))
    (kt : ∀ u O N, II tm (elsL l) O N → Q u N) :
    W3 (callN Try.prog (fsT tbl) fuel (d + 8) (.fn 42) ([] ++ [.yl (X.size + 1)] ++ [.ptr 1 0]) ((X.add (.dfr false)).add (.loop .ready none tm [13, 14] cI1 cI2 X.size))) Q := by
  have w1 := w.add (.dfr false)
  have hel := els_length hm
  have heo := els_ok (rn_ok hS) hm
  have e : X.size + 1 = 3 := by omega
  have u : ∀ j, j < 2 → ((X.add (.dfr false)).add (.loop .ready none tm [13, 14] cI1 cI2 X.size)).get j = X.get j := fun j hj => by
    rw [get_add w1 _ _ (by rw [add_size]; omega), get_add w _ _ (by omega)]
  have hJ0 : II tm [] (fun j => j = 0 ∨ j = 3) ((X.add (.dfr false)).add (.loop .ready none tm [13, 14] cI1 cI2 X.size)) := by
    refine ⟨w1.add _, by simp only [add_size]; omega, ⟨NIL, (u 0 (by omega)).trans g0, SlM.nil, fun j hj => by cases hj⟩, ?_, ?_, .inl rfl, .inr rfl, ?_⟩
    · rw [get_add w1 _ _ (by rw [add_size]; omega), ← hX]
      exact get_add_new w _ _ (Nat.le_refl _) (Nat.lt_succ_self _)
    · have := get_add_new w1 (.loop .ready none tm [13, 14] cI1 cI2 X.size) 3 (by rw [add_size]; omega) (by rw [add_size]; omega)
      rw [hX] at this ⊢
      exact this
    · intro j hj
      simp only [add_size]
      rcases hj with rfl | rfl <;> omega
  have key := els1_run (d := d) (fuel := fuel) (Q := Q) (J := II tm) (S := fun N => False) (id := 3) (p := 1) hS (by omega) hm (by omega) (w1.add _) ((u 1 (by omega)).trans g1) hJ0 (fun pre O N N' h wf le k => h.keep wf le k) (fun pre O N h j hj => (h.ol j hj).1) (fun pre x post O N he h wf le => ?_) (fun u N O h _ _ => kt u O N h) (fun u N h => h.elim)
  · rw [← e] at key
    exact key
  · have hxm : x ∈ elsL l := by rw [he]; simp
    have hpl : pre.length ≤ (elsL l).length := by rw [he]; simp
    exact iyield h h2 hlen (heo x hxm) (by omega)
noncomputable def idsR (l : List Rn) : List Eid := if textB l = true then (elsL l).map (·.1) else []
set_option maxHeartbeats 4000000 in
theorem ids_run {a : AV} {l : List Rn} (hS : Sl 10 isRn a l) (hl : l.length ≤ 1000) (hf : 64 * l.length + 3001000 < fuel) : ∃ r, Sl 4 isEid r (idsR l) ∧ ∀ M, callN Try.prog (fsT tbl) fuel (d + 11) (.fn 7) [a] M = some (.tup [r, I64 (err (textB l))], M) := by
  have oa := hS.one
  have hck := fun M => @check_run fuel d a l hS hl hf M
  refine gc_ex tf7 rfl (fun M => by simp only [zH, fun M => hS.icy M 12 (by omega)]) ?_
  refine call_gc tf7 rfl (by simp only [zH, fun M => hS.icy M 12 (by omega)]) (by simp [a7]) fun b' ht hx => ?_
  have h0 := hx 0 _ rfl
  clear hx
  simp only [a7, c7] at ht ⊢
  unfold idsR
  cases ht' : textB l with
  | false =>
    rw [ht'] at hck
    simp only [Bool.false_eq_true, if_false]
    simp (maxSteps := 2000000) (disch := first | omega | assumption | (simp only [DS, Nat.reduceAdd, *]; done) | (simp only [DZ]; omega)) only [RUN, RU, zD, zC, zB, zE, zG, slot, lay, zH, zF, zA, kR, reduceIte, Nat.reduceEqDiff, Nat.reduceBEq, Nat.reduceLT, Nat.reduceAdd, Nat.reduceLeDiff, Nat.reduceSub, Nat.reduceMul, Int.reduceLT, Int.reduceLE, Int.reduceEq, Int.reduceAdd, Int.reduceSub, Int.reduceMul, h0, hS.fz.rows, hS.fz.one, hS.fz.cells, hS.fz.icy, hS.fz.frz, hck, err_f, z80]
    exact ⟨_, .inl ⟨rfl, rfl⟩, rfl⟩
  | true =>
    rw [ht'] at hck
    have hok := textB_iff.1 ht'
    simp only [if_true]
    simp (maxSteps := 2000000) (disch := first | omega | assumption | (simp only [DS, Nat.reduceAdd, *]; done) | (simp only [DZ]; omega)) only [RUN, RU, zD, zC, zB, zE, zG, slot, lay, zH, zF, zA, kR, reduceIte, Nat.reduceEqDiff, Nat.reduceBEq, Nat.reduceLT, Nat.reduceAdd, Nat.reduceLeDiff, Nat.reduceSub, Nat.reduceMul, Int.reduceLT, Int.reduceLE, Int.reduceEq, Int.reduceAdd, Int.reduceSub, Int.reduceMul, h0, hS.fz.rows, hS.fz.one, hS.fz.cells, hS.fz.icy, hS.fz.frz, hck, err_t, z00]
    refine elements_0 hS (by simp (maxSteps := 2000000) (disch := first | omega | assumption | (simp only [DS, Nat.reduceAdd, *]; done) | (simp only [DZ]; omega)) only [RUN, RU, zD, zC, zB, zE, zG, slot, lay, zH, zF, zA, kR, reduceIte, Nat.reduceEqDiff, Nat.reduceBEq, Nat.reduceLT, Nat.reduceAdd, Nat.reduceLeDiff, Nat.reduceSub, Nat.reduceMul, Int.reduceLT, Int.reduceLE, Int.reduceEq, Int.reduceAdd, Int.reduceSub, Int.reduceMul]) ?_
    simp (maxSteps := 2000000) (disch := first | omega | assumption | (simp only [DS, Nat.reduceAdd, *]; done) | (simp only [DZ]; omega)) only [RUN, RU, zD, zC, zB, zE, zG, slot, lay, zH, zF, zA, kR, reduceIte, Nat.reduceEqDiff, Nat.reduceBEq, Nat.reduceLT, Nat.reduceAdd, Nat.reduceLeDiff, Nat.reduceSub, Nat.reduceMul, Int.reduceLT, Int.reduceLE, Int.reduceEq, Int.reduceAdd, Int.reduceSub, Int.reduceMul, h0, hS.fz.rows, hS.fz.one, hS.fz.cells, hS.fz.icy, hS.fz.frz]
    refine w_range (g := 42) (first := []) (cap := [.ptr 1 0]) (by simp (maxSteps := 2000000) (disch := first | omega | assumption | (simp only [DS, Nat.reduceAdd, *]; done) | (simp only [DZ]; omega)) only [RUN, RU, zD, zC, zB, zE, zG, slot, lay, zH, zF, zA, kR, reduceIte, Nat.reduceEqDiff, Nat.reduceBEq, Nat.reduceLT, Nat.reduceAdd, Nat.reduceLeDiff, Nat.reduceSub, Nat.reduceMul, Int.reduceLT, Int.reduceLE, Int.reduceEq, Int.reduceAdd, Int.reduceSub, Int.reduceMul]) (by simp (maxSteps := 2000000) (disch := first | omega | assumption | (simp only [DS, Nat.reduceAdd, *]; done) | (simp only [DZ]; omega)) only [RUN, RU, zD, zC, zB, zE, zG, slot, lay, zH, zF, zA, kR, reduceIte, Nat.reduceEqDiff, Nat.reduceBEq, Nat.reduceLT, Nat.reduceAdd, Nat.reduceLeDiff, Nat.reduceSub, Nat.reduceMul, Int.reduceLT, Int.reduceLE, Int.reduceEq, Int.reduceAdd, Int.reduceSub, Int.reduceMul]) ?_
    refine els1_atI (d := d + 2) hS hl hok.1 (by omega) ?_ ?_ ?_ ?_ ?_ ?_ (fun u O N h => ?_)
    · simp (maxSteps := 2000000) (disch := first | omega | assumption | (simp only [DS, Nat.reduceAdd, *]; done) | (simp only [DZ]; omega)) only [RUN, RU, zD, zC, zB, zE, zG, slot, lay, zH, zF, zA, kR, reduceIte, Nat.reduceEqDiff, Nat.reduceBEq, Nat.reduceLT, Nat.reduceAdd, Nat.reduceLeDiff, Nat.reduceSub, Nat.reduceMul, Int.reduceLT, Int.reduceLE, Int.reduceEq, Int.reduceAdd, Int.reduceSub, Int.reduceMul]
    · simp (maxSteps := 2000000) (disch := first | omega | assumption | (simp only [DS, Nat.reduceAdd, *]; done) | (simp only [DZ]; omega)) only [RUN, RU, zD, zC, zB, zE, zG, slot, lay, zH, zF, zA, kR, reduceIte, Nat.reduceEqDiff, Nat.reduceBEq, Nat.reduceLT, Nat.reduceAdd, Nat.reduceLeDiff, Nat.reduceSub, Nat.reduceMul, Int.reduceLT, Int.reduceLE, Int.reduceEq, Int.reduceAdd, Int.reduceSub, Int.reduceMul]
    · rw [St_len]; exact ht
    · simp (maxSteps := 2000000) (disch := first | omega | assumption | (simp only [DS, Nat.reduceAdd, *]; done) | (simp only [DZ]; omega)) only [RUN, RU, zD, zC, zB, zE, zG, slot, lay, zH, zF, zA, kR, reduceIte, Nat.reduceEqDiff, Nat.reduceBEq, Nat.reduceLT, Nat.reduceAdd, Nat.reduceLeDiff, Nat.reduceSub, Nat.reduceMul, Int.reduceLT, Int.reduceLE, Int.reduceEq, Int.reduceAdd, Int.reduceSub, Int.reduceMul]
    · simp (maxSteps := 2000000) (disch := first | omega | assumption | (simp only [DS, Nat.reduceAdd, *]; done) | (simp only [DZ]; omega)) only [RUN, RU, zD, zC, zB, zE, zG, slot, lay, zH, zF, zA, kR, reduceIte, Nat.reduceEqDiff, Nat.reduceBEq, Nat.reduceLT, Nat.reduceAdd, Nat.reduceLeDiff, Nat.reduceSub, Nat.reduceMul, Int.reduceLT, Int.reduceLE, Int.reduceEq, Int.reduceAdd, Int.reduceSub, Int.reduceMul]
    · simp (maxSteps := 2000000) (disch := first | omega | assumption | (simp only [DS, Nat.reduceAdd, *]; done) | (simp only [DZ]; omega)) only [RUN, RU, zD, zC, zB, zE, zG, slot, lay, zH, zF, zA, kR, reduceIte, Nat.reduceEqDiff, Nat.reduceBEq, Nat.reduceLT, Nat.reduceAdd, Nat.reduceLeDiff, Nat.reduceSub, Nat.reduceMul, Int.reduceLT, Int.reduceLE, Int.reduceEq, Int.reduceAdd, Int.reduceSub, Int.reduceMul]
    · have wf := h.wf
      have sz := h.sz
      obtain ⟨o, n0, sm, ro⟩ := h.g0
      have l0 := Mem.get_lt n0
      have oo := sm.one
      refine ⟨wf, by simp only [add_size, mem0_size]; omega, _, _, _, _, _, h.g3, ?_⟩
      generalize hX : N.upd _ _ = X
      have wX : Wf X := by rw [← hX]; exact wf.upd _ _
      have gX : ∀ j, j ≠ 3 → X.get j = N.get j := fun j hj => by rw [← hX]; exact get_upd_ne wf _ _ _ (fun e => hj e.symm)
      have x0 := (gX 0 (by omega)).trans n0
      have x2 := (gX 2 (by omega)).trans h.g2
      have smX : SlM X 4 isEid o ((elsL l).map (·.1)) := sm.keep fun j hj => gX j (by have := ro j hj; omega)
      have l0x := Mem.get_lt x0
      have oc := sm.cells
      have rlo := rows_lt smX.rl (Nat.le_refl X.size)
      simp (maxSteps := 2000000) (disch := first | omega | assumption | (simp only [DS, Nat.reduceAdd, *]; done) | (simp only [DZ]; omega)) only [RUN, RU, zD, zC, zB, zE, zG, slot, lay, zH, zF, zA, kR, reduceIte, Nat.reduceEqDiff, Nat.reduceBEq, Nat.reduceLT, Nat.reduceAdd, Nat.reduceLeDiff, Nat.reduceSub, Nat.reduceMul, Int.reduceLT, Int.reduceLE, Int.reduceEq, Int.reduceAdd, Int.reduceSub, Int.reduceMul, x0, oo, oc, rlo, wX]
      refine fin_mark (by simp (maxSteps := 2000000) (disch := first | omega | assumption | (simp only [DS, Nat.reduceAdd, *]; done) | (simp only [DZ]; omega)) only [RUN, RU, zD, zC, zB, zE, zG, slot, lay, zH, zF, zA, kR, reduceIte, Nat.reduceEqDiff, Nat.reduceBEq, Nat.reduceLT, Nat.reduceAdd, Nat.reduceLeDiff, Nat.reduceSub, Nat.reduceMul, Int.reduceLT, Int.reduceLE, Int.reduceEq, Int.reduceAdd, Int.reduceSub, Int.reduceMul, wX]) (by simp (maxSteps := 2000000) (disch := first | omega | assumption | (simp only [DS, Nat.reduceAdd, *]; done) | (simp only [DZ]; omega)) only [RUN, RU, zD, zC, zB, zE, zG, slot, lay, zH, zF, zA, kR, reduceIte, Nat.reduceEqDiff, Nat.reduceBEq, Nat.reduceLT, Nat.reduceAdd, Nat.reduceLeDiff, Nat.reduceSub, Nat.reduceMul, Int.reduceLT, Int.reduceLE, Int.reduceEq, Int.reduceAdd, Int.reduceSub, Int.reduceMul, wX, x2]) ?_
      obtain ⟨rr, hz, hr⟩ := (smX.keep fun j hj => by have := ro j hj; rw [get_upd_ne (wX.upd _ _) _ _ _ (by omega), get_upd_ne wX _ _ _ (by omega)] : SlM ((X.upd 0 (.row false [o])).upd 2 (.dfr true)) 4 isEid o _).frz isEid_fz.cel (k := 12) (by omega)
      simp (maxSteps := 2000000) (disch := first | omega | assumption | (simp only [DS, Nat.reduceAdd, *]; done) | (simp only [DZ]; omega)) only [RUN, RU, zD, zC, zB, zE, zG, slot, lay, zH, zF, zA, kR, reduceIte, Nat.reduceEqDiff, Nat.reduceBEq, Nat.reduceLT, Nat.reduceAdd, Nat.reduceLeDiff, Nat.reduceSub, Nat.reduceMul, Int.reduceLT, Int.reduceLE, Int.reduceEq, Int.reduceAdd, Int.reduceSub, Int.reduceMul, x0, wX, hz]
      exact ⟨rr, hr, rfl⟩
end Go.Proofs.Ytbomjpdheibmfaa
