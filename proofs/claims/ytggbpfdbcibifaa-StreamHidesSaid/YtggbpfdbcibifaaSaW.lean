/-
  stream.hide.
-/
import Derived.Test.YtggbpfdbcibifaaSaV
import Derived.Test.YtggbpfdbcibifaaEe
set_option linter.unusedSimpArgs false
set_option linter.unusedVariables false
set_option maxRecDepth 100000
namespace Go.Proofs.Ytggbpfdbcibifaa
open Go Go.Ax
variable {fuel : Nat} {M : Mem} {Q : AV → Mem → Prop} {d : Nat} {x : Eid} {l : List Op} {o : Op} {ra ops a : AV} {B id m : Nat} {v : Lb}

/-- A rune, hidden or not. -/
def hid1 (l : List Op) (o : Op) (v : Lb) (n : Nat) (c : Int) : Int := if shownB l (o.sp.at n) v then c else -1
def hideL (l : List Op) (o : Op) (v : Lb) : List Int := o.rs.mapIdx fun n c => hid1 l o v n c
set_option maxHeartbeats 8000000 in
theorem hide1_0 {rs : List Int} {n bo bl bv : Nat} (hS : Sl 17 isOp a l) (hl : l.length ≤ 40000) (hf : l.length + 200 < fuel) (ho : o.ok) (hc : 0 ≤ o.sp.f.c ∧ o.sp.f.c ≤ 2000000000000) (wf : Wf M) (hn : n < rs.length) (hn2 : n ≤ 100000) (hR : SlM M 1 isI32 ra rs) (g1 : M.get bo = some (.row false (opR o ra))) (g2 : M.get bl = some (.row false [a])) (g3 : M.get bv = some (.row false (lbR v)))
    (k : ∀ u N, Wf N → M.size ≤ N.size → (∀ j, j < M.size → rowOf ra ≠ some j → N.get j = M.get j) → SlM N 1 isI32 ra (rs.set n (hid1 l o v n (rs.getD n 0))) → N.wm = M.wm → Q u N) :
    W3 (callN Try.prog (fsT tbl) fuel (d + 12) (.fn 31) [I64 n, .ptr bo 0, .ptr bl 0, .ptr bv 0] M) Q := by
  have l1 := Mem.get_lt g1
  have l2 := Mem.get_lt g2
  have l3 := Mem.get_lt g3
  have oa := hS.one
  have w1 : IntKind.i64.wrap (o.sp.f.c + n) = o.sp.f.c + n := wrap_i64 (by omega) (by omega)
  have hx : (o.sp.at n).ok := ⟨ho.2.2.2.1.1.1, by show -9223372036854775808 ≤ o.sp.f.c + n; omega, by show o.sp.f.c + n ≤ _; omega⟩
  have hsh := fun M => shown_run (fuel := fuel) (d := d) (x := o.sp.at n) (v := v) hS hl hf hx M
  replace hsh : ∀ M, callN Try.prog (fsT tbl) fuel (d + 11) (.fn 14) [a, .agg [U8 o.sp.f.hd.lb.lv, U32 o.sp.f.hd.lb.cats, U8 o.sp.f.hd.num, I64 (o.sp.f.c + n)], lbA v] M = some (.tup [BL (shownB l (o.sp.at n) v), I64 (askE l (o.sp.at n) v)], M) := hsh
  obtain ⟨id, cs, hrow, lid, hg, hcs, hiad, hset⟩ := hR.at1 hn
  have hgd : rs.getD n 0 = rs[n] := by rw [List.getD_eq_getElem?_getD, List.getElem?_eq_getElem hn]; rfl
  rw [hgd] at k
  unfold hid1 at k
  refine call_0 tf31 rfl (by simp [a31]) fun b' ht hx => ?_
  have h0 := hx 0 _ rfl
  have h1 := hx 1 _ rfl
  have h2 := hx 2 _ rfl
  have h3 := hx 3 _ rfl
  clear hx
  simp only [a31, c31] at ht ⊢
  cases q : shownB l (o.sp.at n) v with
  | true =>
    rw [q] at hsh k
    rw [if_pos rfl] at k
    simp (maxSteps := 2000000) (disch := first | omega | assumption | (simp only [DS, Nat.reduceAdd, *]; done) | (simp only [DZ]; omega)) only [RUN, RU, footA, feetIn, resultsA, tupOf, frzL, slot, lay, icyL, fillA, repCells, kR, reduceIte, Nat.reduceEqDiff, Nat.reduceBEq, Nat.reduceLT, Nat.reduceAdd, Nat.reduceLeDiff, Nat.reduceSub, Nat.reduceMul, Int.reduceLT, Int.reduceLE, Int.reduceEq, Int.reduceAdd, Int.reduceSub, Int.reduceMul, h0, h1, h2, h3, hS.fz.rows, hS.fz.one, hS.fz.cells, hS.fz.icy, hS.fz.frz, wf, g1, g2, g3, w1, hsh]
    rw [List.set_getElem_self] at k
    refine k _ _ ((wf.add _).upd _ _) (by simp only [upd_size, add_size]; omega) (fun j hj _ => ?_) (hR.keep fun j hj => ?_) rfl
    · rw [get_upd_ne (wf.add _) _ _ _ (by omega), get_add wf _ _ hj]
    · have := hR.lt j hj
      rw [get_upd_ne (wf.add _) _ _ _ (by omega), get_add wf _ _ this]
  | false =>
    rw [q] at hsh k
    rw [if_neg (by decide)] at k
    simp (maxSteps := 2000000) (disch := first | omega | assumption | (simp only [DS, Nat.reduceAdd, *]; done) | (simp only [DZ]; omega)) only [RUN, RU, footA, feetIn, resultsA, tupOf, frzL, slot, lay, icyL, fillA, repCells, kR, reduceIte, Nat.reduceEqDiff, Nat.reduceBEq, Nat.reduceLT, Nat.reduceAdd, Nat.reduceLeDiff, Nat.reduceSub, Nat.reduceMul, Int.reduceLT, Int.reduceLE, Int.reduceEq, Int.reduceAdd, Int.reduceSub, Int.reduceMul, h0, h1, h2, h3, hS.fz.rows, hS.fz.one, hS.fz.cells, hS.fz.icy, hS.fz.frz, wf, g1, g2, g3, w1, hsh, hiad, hg]
    have wA : ∀ p q, Wf ((M.add p).upd M.size q) := fun p q => (wf.add p).upd _ _
    refine k _ _ ((wA _ _).upd _ _) (by simp only [upd_size, add_size]; omega) (fun j hj hne => ?_) (hset (I32 (-1)) (-1) rfl _ ?_) rfl
    · rw [get_upd_ne (wA _ _) _ _ _ (fun e => hne (by rw [hrow, e])), get_upd_ne (wf.add _) _ _ _ (by omega), get_add wf _ _ hj]
    · exact get_upd_eq (wA _ _) _ _ (by simp only [upd_size, add_size]; omega)
def curL (l : List Op) (o : Op) (v : Lb) (i : Nat) : List Int := (hideL l o v).take i ++ o.rs.drop i
theorem hide_len (l : List Op) (o : Op) (v : Lb) : (hideL l o v).length = o.rs.length := by unfold hideL; exact List.length_mapIdx
theorem cur_len (l : List Op) (o : Op) (v : Lb) (i : Nat) (h : i ≤ o.rs.length) : (curL l o v i).length = o.rs.length := by
  unfold curL
  rw [List.length_append, List.length_take, List.length_drop, hide_len]
  omega
theorem cur_step (l : List Op) (o : Op) (v : Lb) (i : Nat) (h : i < o.rs.length) : (curL l o v i).set i (hid1 l o v i ((curL l o v i).getD i 0)) = curL l o v (i + 1) := by
  have hl := hide_len l o v
  have e1 : (curL l o v i).getD i 0 = o.rs[i] := by
    unfold curL
    rw [List.getD_eq_getElem?_getD, List.getElem?_append_right (by rw [List.length_take]; omega), List.length_take, show i - min i (hideL l o v).length = 0 by omega, List.getElem?_drop, Nat.add_zero, List.getElem?_eq_getElem h]
    rfl
  have e2 : (hideL l o v)[i]'(by omega) = hid1 l o v i o.rs[i] := by
    unfold hideL
    rw [List.getElem_mapIdx]
  rw [e1, ← e2]
  unfold curL
  rw [List.set_append_right _ _ (by rw [List.length_take]; omega), List.length_take, show i - min i (hideL l o v).length = 0 by omega, List.drop_eq_getElem_cons h, List.set_cons_zero, take_snoc _ i (by omega), List.append_assoc]
  rfl
set_option maxHeartbeats 8000000 in
theorem hide_0 (hS : Sl 17 isOp a l) (hl : l.length ≤ 40000) (hR : Sl 1 isI32 ra o.rs) (ho : o.ok) (hc : 0 ≤ o.sp.f.c ∧ o.sp.f.c ≤ 2000000000000) (hrl : o.rs.length ≤ 100000) (hf : l.length + o.rs.length + 300 < fuel) (wf : Wf M) (hw : M.wm ≤ M.size)
    (k : ∀ a' N, Wf N → M.size ≤ N.size → (∀ j, j < M.size → N.get j = M.get j) → SlM N 1 isI32 a' (hideL l o v) → (∀ id, rowOf a' = some id → M.size ≤ id) → N.wm = M.wm → Q (.agg (opR o a')) N) :
    W3 (callN Try.prog (fsT tbl) fuel (d + 13) (.fn 16) [a, .agg (opR o ra), lbA v] M) Q := by
  have oa := hS.one
  have ora := hR.one
  have z := opR ⟨0, Hd.z, 0, ⟨Eid.z, 0⟩, Eid.z, Lb.z, []⟩ NIL
  have kA := ((((Kept.refl wf).add (.row false [a])).add (.row false (opR o ra))).add (.row false (lbR v))).add (.row false (opR ⟨0, Hd.z, 0, ⟨Eid.z, 0⟩, Eid.z, Lb.z, []⟩ NIL))
  have wA := kA.wf
  have sA : ((((M.add (.row false [a])).add (.row false (opR o ra))).add (.row false (lbR v))).add (.row false (opR ⟨0, Hd.z, 0, ⟨Eid.z, 0⟩, Eid.z, Lb.z, []⟩ NIL))).size = M.size + 4 := rfl
  have y0 : ((((M.add (.row false [a])).add (.row false (opR o ra))).add (.row false (lbR v))).add (.row false (opR ⟨0, Hd.z, 0, ⟨Eid.z, 0⟩, Eid.z, Lb.z, []⟩ NIL))).get M.size = some (.row false [a]) := by simp (maxSteps := 2000000) (disch := first | omega | assumption | (simp only [DS, Nat.reduceAdd, *]; done) | (simp only [DZ]; omega)) only [RUN, RU, footA, feetIn, resultsA, tupOf, frzL, slot, lay, icyL, fillA, repCells, kR, reduceIte, Nat.reduceEqDiff, Nat.reduceBEq, Nat.reduceLT, Nat.reduceAdd, Nat.reduceLeDiff, Nat.reduceSub, Nat.reduceMul, Int.reduceLT, Int.reduceLE, Int.reduceEq, Int.reduceAdd, Int.reduceSub, Int.reduceMul, wf]
  have y1 : ((((M.add (.row false [a])).add (.row false (opR o ra))).add (.row false (lbR v))).add (.row false (opR ⟨0, Hd.z, 0, ⟨Eid.z, 0⟩, Eid.z, Lb.z, []⟩ NIL))).get (M.size + 1) = some (.row false (opR o ra)) := by simp (maxSteps := 2000000) (disch := first | omega | assumption | (simp only [DS, Nat.reduceAdd, *]; done) | (simp only [DZ]; omega)) only [RUN, RU, footA, feetIn, resultsA, tupOf, frzL, slot, lay, icyL, fillA, repCells, kR, reduceIte, Nat.reduceEqDiff, Nat.reduceBEq, Nat.reduceLT, Nat.reduceAdd, Nat.reduceLeDiff, Nat.reduceSub, Nat.reduceMul, Int.reduceLT, Int.reduceLE, Int.reduceEq, Int.reduceAdd, Int.reduceSub, Int.reduceMul, wf]
  have y2 : ((((M.add (.row false [a])).add (.row false (opR o ra))).add (.row false (lbR v))).add (.row false (opR ⟨0, Hd.z, 0, ⟨Eid.z, 0⟩, Eid.z, Lb.z, []⟩ NIL))).get (M.size + 1 + 1) = some (.row false (lbR v)) := by simp (maxSteps := 2000000) (disch := first | omega | assumption | (simp only [DS, Nat.reduceAdd, *]; done) | (simp only [DZ]; omega)) only [RUN, RU, footA, feetIn, resultsA, tupOf, frzL, slot, lay, icyL, fillA, repCells, kR, reduceIte, Nat.reduceEqDiff, Nat.reduceBEq, Nat.reduceLT, Nat.reduceAdd, Nat.reduceLeDiff, Nat.reduceSub, Nat.reduceMul, Int.reduceLT, Int.reduceLE, Int.reduceEq, Int.reduceAdd, Int.reduceSub, Int.reduceMul, wf]
  have y3 : ((((M.add (.row false [a])).add (.row false (opR o ra))).add (.row false (lbR v))).add (.row false (opR ⟨0, Hd.z, 0, ⟨Eid.z, 0⟩, Eid.z, Lb.z, []⟩ NIL))).get (M.size + 1 + 1 + 1) = some (.row false (opR ⟨0, Hd.z, 0, ⟨Eid.z, 0⟩, Eid.z, Lb.z, []⟩ NIL)) := by simp (maxSteps := 2000000) (disch := first | omega | assumption | (simp only [DS, Nat.reduceAdd, *]; done) | (simp only [DZ]; omega)) only [RUN, RU, footA, feetIn, resultsA, tupOf, frzL, slot, lay, icyL, fillA, repCells, kR, reduceIte, Nat.reduceEqDiff, Nat.reduceBEq, Nat.reduceLT, Nat.reduceAdd, Nat.reduceLeDiff, Nat.reduceSub, Nat.reduceMul, Int.reduceLT, Int.reduceLE, Int.reduceEq, Int.reduceAdd, Int.reduceSub, Int.reduceMul, wf]
  refine call_0 tf16 rfl (by simp [a16]) fun b' ht hx => ?_
  have h0 := hx 0 _ rfl
  have h1 := hx 1 _ rfl
  have h2 := hx 2 _ rfl
  clear hx
  simp only [a16, c16] at ht ⊢
  simp (maxSteps := 2000000) (disch := first | omega | assumption | (simp only [DS, Nat.reduceAdd, *]; done) | (simp only [DZ]; omega)) only [RUN, RU, footA, feetIn, resultsA, tupOf, frzL, slot, lay, icyL, fillA, repCells, kR, reduceIte, Nat.reduceEqDiff, Nat.reduceBEq, Nat.reduceLT, Nat.reduceAdd, Nat.reduceLeDiff, Nat.reduceSub, Nat.reduceMul, Int.reduceLT, Int.reduceLE, Int.reduceEq, Int.reduceAdd, Int.reduceSub, Int.reduceMul, h0, h1, h2, hS.fz.rows, hS.fz.one, hS.fz.cells, hS.fz.icy, hS.fz.frz, hR.fz.rows, hR.fz.one, hR.fz.cells, hR.fz.icy, hR.fz.frz, wf]
  refine optwin_0 (d := d + 10) hR (by omega) (by simp (maxSteps := 2000000) (disch := first | omega | assumption | (simp only [DS, Nat.reduceAdd, *]; done) | (simp only [DZ]; omega)) only [RUN, RU, footA, feetIn, resultsA, tupOf, frzL, slot, lay, icyL, fillA, repCells, kR, reduceIte, Nat.reduceEqDiff, Nat.reduceBEq, Nat.reduceLT, Nat.reduceAdd, Nat.reduceLeDiff, Nat.reduceSub, Nat.reduceMul, Int.reduceLT, Int.reduceLE, Int.reduceEq, Int.reduceAdd, Int.reduceSub, Int.reduceMul, wf]) (by simp only [add_size]; show M.wm ≤ _; omega) fun a' N hN sm nw => ?_
  have hN' : Kept ((((M.add (.row false [a])).add (.row false (opR o ra))).add (.row false (lbR v))).add (.row false (opR ⟨0, Hd.z, 0, ⟨Eid.z, 0⟩, Eid.z, Lb.z, []⟩ NIL))) N := hN
  replace nw : ∀ id, rowOf a' = some id → M.size + 4 ≤ id := nw
  clear hN
  have hN := hN'
  clear hN'
  generalize (((M.add (.row false [a])).add (.row false (opR o ra))).add (.row false (lbR v))).add (.row false (opR ⟨0, Hd.z, 0, ⟨Eid.z, 0⟩, Eid.z, Lb.z, []⟩ NIL)) = X at *
  have kN := kA.trans hN
  have x0 := (hN.get _ (Mem.get_lt y0)).trans y0
  have x1 := (hN.get _ (Mem.get_lt y1)).trans y1
  have x2 := (hN.get _ (Mem.get_lt y2)).trans y2
  have x3 := (hN.get _ (Mem.get_lt y3)).trans y3
  have l1 := Mem.get_lt x1
  have wN := hN.wf
  have oa' := sm.one
  have ca' := sm.cells
  have hln := sm.len
  simp (maxSteps := 2000000) (disch := first | omega | assumption | (simp only [DS, Nat.reduceAdd, *]; done) | (simp only [DZ]; omega)) only [RUN, RU, footA, feetIn, resultsA, tupOf, frzL, slot, lay, icyL, fillA, repCells, kR, reduceIte, Nat.reduceEqDiff, Nat.reduceBEq, Nat.reduceLT, Nat.reduceAdd, Nat.reduceLeDiff, Nat.reduceSub, Nat.reduceMul, Int.reduceLT, Int.reduceLE, Int.reduceEq, Int.reduceAdd, Int.reduceSub, Int.reduceMul, h0, h1, h2, wN, x1, oa', ca', hln]
  have r1 : ∀ j, rowOf a' = some j → M.size + 4 ≤ j := nw
  have eN : ∀ j, j ≠ M.size + 1 → (N.upd (M.size + 1) (.row false (opR o a'))).get j = N.get j := fun j hj => get_upd_ne wN _ _ _ (fun e => hj e.symm)
  have wY := wN.upd (M.size + 1) (.row false (opR o a'))
  have sY : M.size + 4 ≤ (N.upd (M.size + 1) (.row false (opR o a'))).size := by rw [upd_size]; have := hN.le; omega
  have z0 := (eN M.size (by omega)).trans x0
  have z1 : (N.upd (M.size + 1) (.row false (opR o a'))).get (M.size + 1) = some (.row false (opR o a')) := get_upd_eq wN _ _ l1
  have z2 := (eN (M.size + 1 + 1) (by omega)).trans x2
  have z3 := (eN (M.size + 1 + 1 + 1) (by omega)).trans x3
  have zm : SlM (N.upd (M.size + 1) (.row false (opR o a'))) 1 isI32 a' o.rs := sm.keep fun j hj => eN j (by have := r1 j hj; omega)
  have zw : (N.upd (M.size + 1) (.row false (opR o a'))).wm = M.wm := kN.wm
  have zk : ∀ j, j < M.size → (N.upd (M.size + 1) (.row false (opR o a'))).get j = M.get j := fun j hj => (eN j (by omega)).trans (kN.get j hj)
  generalize N.upd (M.size + 1) (.row false (opR o a')) = Y at *
  have c0 : curL l o v 0 = o.rs := by unfold curL; simp
  refine w_loop (I := fun nq tq Nq => ∃ (iq : Nat), nq = o.rs.length - iq ∧ iq ≤ o.rs.length ∧ nth undefA tq 4 = .ptr (M.size + 1) 0 ∧ nth undefA tq 6 = .ptr (M.size + 1 + 1 + 1) 0 ∧ nth undefA tq 7 = .fn 31 [] [.ptr (M.size + 1) 0, .ptr M.size 0, .ptr (M.size + 1 + 1) 0] ∧ nth undefA tq 14 = I64 o.rs.length ∧ nth undefA tq 15 = I64 iq ∧ Wf Nq ∧ M.size + 4 ≤ Nq.size ∧ (∀ j, j < M.size → Nq.get j = M.get j) ∧ Nq.get M.size = some (.row false [a]) ∧ Nq.get (M.size + 1) = some (.row false (opR o a')) ∧ Nq.get (M.size + 1 + 1) = some (.row false (lbR v)) ∧ Nq.get (M.size + 1 + 1 + 1) = some (.row false (opR ⟨0, Hd.z, 0, ⟨Eid.z, 0⟩, Eid.z, Lb.z, []⟩ NIL)) ∧ SlM Nq 1 isI32 a' (curL l o v iq) ∧ Nq.wm = M.wm) (n := o.rs.length) (by omega) ?_ ?_
  · refine ⟨0, rfl, Nat.zero_le _, ?_, ?_, ?_, ?_, ?_, wY, sY, zk, z0, z1, z2, z3, (by rw [c0]; exact zm), zw⟩ <;> simp (maxSteps := 2000000) (disch := first | omega | assumption | (simp only [DS, Nat.reduceAdd, *]; done) | (simp only [DZ]; omega)) only [RUN, RU, footA, feetIn, resultsA, tupOf, frzL, slot, lay, icyL, fillA, repCells, kR, reduceIte, Nat.reduceEqDiff, Nat.reduceBEq, Nat.reduceLT, Nat.reduceAdd, Nat.reduceLeDiff, Nat.reduceSub, Nat.reduceMul, Int.reduceLT, Int.reduceLE, Int.reduceEq, Int.reduceAdd, Int.reduceSub, Int.reduceMul, h0, h1, h2]
    all_goals first | rfl | assumption | done
  · rintro nq tq Nq hltq ⟨iq, rfl, hiq, gq4, gq6, gq7, gq14, gq15, w, sz, kp, p0, p1, p2, p3, sm2, wm⟩
    simp only [ht] at hltq ⊢
    have oa2 := sm2.one
    have ca2 := sm2.cells
    have lp1 := Mem.get_lt p1
    have lp3 := Mem.get_lt p3
    by_cases hcc : iq < o.rs.length
    · have q1 : decide ((iq : Int) < o.rs.length) = true := decide_eq_true (by omega)
      have w1 : IntKind.i64.wrap ((iq : Int) + 1) = ((iq + 1 : Nat) : Int) := by rw [wrap_i64] <;> omega
      simp (maxSteps := 2000000) (disch := first | omega | assumption | (simp only [DS, Nat.reduceAdd, *]; done) | (simp only [DZ]; omega)) only [RUN, RU, footA, feetIn, resultsA, tupOf, frzL, slot, lay, icyL, fillA, repCells, kR, reduceIte, Nat.reduceEqDiff, Nat.reduceBEq, Nat.reduceLT, Nat.reduceAdd, Nat.reduceLeDiff, Nat.reduceSub, Nat.reduceMul, Int.reduceLT, Int.reduceLE, Int.reduceEq, Int.reduceAdd, Int.reduceSub, Int.reduceMul, gq4, gq6, gq7, gq14, gq15, q1]
      refine hide1_0 (d := d) (n := iq) hS hl (by omega) ho hc w (by rw [cur_len _ _ _ _ (by omega)]; exact hcc) (by omega) sm2 p1 p0 p2 fun u N' w' le' kp' sm' wm' => ?_
      rw [cur_step _ _ _ _ hcc] at sm'
      have nr : ∀ j, j < M.size + 4 → rowOf a' ≠ some j := fun j hj e => by have := r1 j e; omega
      simp (maxSteps := 2000000) (disch := first | omega | assumption | (simp only [DS, Nat.reduceAdd, *]; done) | (simp only [DZ]; omega)) only [RUN, RU, footA, feetIn, resultsA, tupOf, frzL, slot, lay, icyL, fillA, repCells, kR, reduceIte, Nat.reduceEqDiff, Nat.reduceBEq, Nat.reduceLT, Nat.reduceAdd, Nat.reduceLeDiff, Nat.reduceSub, Nat.reduceMul, Int.reduceLT, Int.reduceLE, Int.reduceEq, Int.reduceAdd, Int.reduceSub, Int.reduceMul, gq4, gq6, gq7, gq14, gq15, w1]
      exact ⟨hltq, o.rs.length - (iq + 1), by omega, iq + 1, rfl, by omega, rfl, w', by omega, fun j hj => (kp' j (by omega) (nr j (by omega))).trans (kp j hj), (kp' _ (by omega) (nr _ (by omega))).trans p0, (kp' _ (by omega) (nr _ (by omega))).trans p1, (kp' _ (by omega) (nr _ (by omega))).trans p2, (kp' _ (by omega) (nr _ (by omega))).trans p3, sm', wm'.trans wm⟩
    · obtain rfl : iq = o.rs.length := by omega
      have q1 : decide ((o.rs.length : Int) < o.rs.length) = false := decide_eq_false (by omega)
      have cl : curL l o v o.rs.length = hideL l o v := by unfold curL; rw [List.drop_length, List.append_nil, List.take_of_length_le (by rw [hide_len]; exact Nat.le_refl _)]
      rw [cl] at sm2
      simp (maxSteps := 2000000) (disch := first | omega | assumption | (simp only [DS, Nat.reduceAdd, *]; done) | (simp only [DZ]; omega)) only [RUN, RU, footA, feetIn, resultsA, tupOf, frzL, slot, lay, icyL, fillA, repCells, kR, reduceIte, Nat.reduceEqDiff, Nat.reduceBEq, Nat.reduceLT, Nat.reduceAdd, Nat.reduceLeDiff, Nat.reduceSub, Nat.reduceMul, Int.reduceLT, Int.reduceLE, Int.reduceEq, Int.reduceAdd, Int.reduceSub, Int.reduceMul, gq4, gq6, gq7, gq14, gq15, q1, p1, p3, w, oa2, ca2]
      refine k a' _ (w.upd _ _) (by rw [upd_size]; omega) (fun j hj => ?_) (sm2.keep fun j hj => ?_) (fun j hj => by have := r1 j hj; omega) wm
      · rw [get_upd_ne w _ _ _ (by omega)]; exact kp j hj
      · rw [get_upd_ne w _ _ _ (by have := r1 j hj; omega)]
end Go.Proofs.Ytggbpfdbcibifaa
