/-
  link: acked.
-/
import Derived.Test.YtbemomagabjbnaaLoG
set_option linter.unusedSimpArgs false
set_option linter.unusedVariables false
set_option maxRecDepth 100000
namespace Go.Proofs.Ytbemomagabjbnaa
open Go Go.Ax
variable {fuel : Nat} {M : Mem} {Q : AV → Mem → Prop} {d : Nat}

/-- An end in memory of its own whose items are read no more but in the end. -/
structure OwnF (M : Mem) (u K : Nat) (e : End) : Prop where
  wf : Wf M
  le : K ≤ M.size
  ex : ∃ o, M.get u = some (.row false [I64 e.ep, I64 e.nx, o, I64 e.want, I64 e.since, BL e.owe]) ∧ Fz M o e.out ∧ ∀ id, rowOf o = some id → K ≤ id ∧ id ≠ u
def End.acked (e : End) (ack : Int) : End := if ack < e.nx ∧ 0 ≤ gonePos ack e.out then { e with out := leftOf ack e.out, since := 0 } else e

set_option maxHeartbeats 8000000 in
theorem acked_run {u K : Nat} {e : End} (h : Own M u K e) (hn : e.out.length ≤ 1000) (ack : Int) (hf : 3000 < fuel)
    (k : ∀ N, OwnF N u K (e.acked ack) → M.size ≤ N.size → (∀ j, j < K → j ≠ u → N.get j = M.get j) → Q (.tup []) N) :
    W3 (callN Try.prog (fsT tbl) fuel (d + 4) (.fn 43) [.ptr u 0, I64 ack] M) Q := by
  obtain ⟨wf, hK, o, hu, hS, hoK⟩ := h
  have lu := Mem.get_lt hu
  have wX : Wf (M.add (.row false [I64 ack])) := wf.add _
  have sX : (M.add (.row false [I64 ack])).size = M.size + 1 := add_size _ _
  have gc : (M.add (.row false [I64 ack])).get M.size = some (.row false [I64 ack]) := get_add_new wf _ _ (Nat.le_refl _) (by omega)
  have kX : ∀ j, j < M.size → (M.add (.row false [I64 ack])).get j = M.get j := fun j hj => get_add wf _ _ hj
  have guX : (M.add (.row false [I64 ack])).get u = some (.row false [I64 e.ep, I64 e.nx, o, I64 e.want, I64 e.since, BL e.owe]) := by rw [kX u lu]; exact hu
  have hSX : SlM (M.add (.row false [I64 ack])) 2 isItem o e.out := hS.keep fun id h => kX id (hS.lt id h)
  have luX : u.blt (M.size + 1) = true := blt_t (by omega)
  have lcX : M.size.blt (M.size + 1) = true := blt_t (by omega)
  refine call_0 tf43 rfl (by simp [a43]) fun b ht hx => ?_
  have h0 := hx 0 _ rfl
  have h1 := hx 1 _ rfl
  clear hx
  simp only [a43, c43] at ht ⊢
  have o1 := hS.one
  by_cases hnx : ack < e.nx
  · have qn : decide (ack < e.nx) = true := decide_eq_true hnx
    have lim := fun id h => hS.lt id h
    by_cases hpos : 0 ≤ gonePos ack e.out
    · have qp : decide (0 ≤ gonePos ack e.out) = true := decide_eq_true hpos
      have he : e.acked ack = { e with out := leftOf ack e.out, since := 0 } := by unfold End.acked; rw [if_pos ⟨hnx, hpos⟩]
      rw [he] at k
      rcases hS with ⟨rfl, hnil⟩ | ⟨id, rows, cap, rfl, hcap, hg, hA, hr⟩
      · rw [hnil] at hpos; exact absurd hpos (by simp [gonePos])
      have hid := lim id rfl
      have hidu := (hoK id rfl).2
      have hidK := (hoK id rfl).1
      have hgX : (M.add (.row false [I64 ack])).get id = some (.row false rows.flatten) := by rw [kX id hid]; exact hg
      simp (maxSteps := 2000000) (disch := first | omega | assumption | (simp only [DS, Nat.reduceAdd, *]; done) | (simp only [DZ]; omega)) only [RUN, RU, footA, feetIn, resultsA, tupOf, frzL, slot, lay, icyL, fillA, repCells, kR, reduceIte, Nat.reduceEqDiff, Nat.reduceBEq, Nat.reduceLT, Nat.reduceAdd, Nat.reduceLeDiff, Nat.reduceSub, Nat.reduceMul, Int.reduceLT, Int.reduceLE, Int.reduceEq, Int.reduceAdd, Int.reduceSub, Int.reduceMul, h0, h1, gc, guX, luX, lcX, qn]
      generalize M.add (.row false [I64 ack]) = X at *
      refine contains_run (d := d) (hSX.keep fun _ _ => rfl) hn (by omega) (by rw [lo_wf]; exact wX) (by rw [lo_get]; exact gc) fun N wfN leN kN => ?_
      rw [lo_size, sX] at leN
      have gu2 : (X.bk N).get u = some (.row false [I64 e.ep, I64 e.nx, .sl id 0 rows.length cap 2, I64 e.want, I64 e.since, BL e.owe]) := by rw [bk_get, kN u (by rw [lo_size]; omega), lo_get]; exact guX
      have guN : N.get u = some (.row false [I64 e.ep, I64 e.nx, .sl id 0 rows.length cap 2, I64 e.want, I64 e.since, BL e.owe]) := by rw [← bk_get X N]; exact gu2
      have luN : u.blt N.size = true := blt_t (by omega)
      simp (maxSteps := 2000000) (disch := first | omega | assumption | (simp only [DS, Nat.reduceAdd, *]; done) | (simp only [DZ]; omega)) only [RUN, RU, footA, feetIn, resultsA, tupOf, frzL, slot, lay, icyL, fillA, repCells, kR, reduceIte, Nat.reduceEqDiff, Nat.reduceBEq, Nat.reduceLT, Nat.reduceAdd, Nat.reduceLeDiff, Nat.reduceSub, Nat.reduceMul, Int.reduceLT, Int.reduceLE, Int.reduceEq, Int.reduceAdd, Int.reduceSub, Int.reduceMul, h0, h1, qp, gu2, guN, luN]
      refine delete_run (d := d) (M := X.bk N) (rows := rows) (out := e.out) (by rw [bk_get, kN id (by rw [lo_size]; omega), lo_get]; exact hgX) hA hr rfl hcap hn (by omega) (by rw [bk_wf]; exact wfN) (by rw [bk_get, kN _ (by rw [lo_size]; omega), lo_get]; exact gc) (by omega) hpos fun o2 N2 hF hro wf2 le2 k2 => ?_
      rw [bk_size] at le2 k2
      have kM : ∀ j, j < M.size → j ≠ id → N2.get j = M.get j := fun j hj hji => by
        rw [k2 j (by omega) hji, bk_get, kN j (by rw [lo_size]; omega), lo_get]; exact kX j hj
      have gu3 : N2.get u = some (.row false [I64 e.ep, I64 e.nx, .sl id 0 rows.length cap 2, I64 e.want, I64 e.since, BL e.owe]) := by rw [kM u lu (fun h => hidu h.symm)]; exact hu
      have lu3 : u < N2.size := Mem.get_lt gu3
      have lu3b : u.blt N2.size = true := blt_t lu3
      have o21 := hF.1
      have hq := k ((N2.upd u (.row false [I64 e.ep, I64 e.nx, o2, I64 e.want, I64 e.since, BL e.owe])).upd u (.row false [I64 e.ep, I64 e.nx, o2, I64 e.want, I64 0, BL e.owe])) ⟨(wf2.upd _ _).upd _ _, by rw [upd_size, upd_size]; omega, o2, get_upd_eq (wf2.upd _ _) _ _ (by rw [upd_size]; exact lu3), ⟨hF.1, hF.2.1, fun N' hN' => hF.2.2 N' fun j hj => by
        have := hro j hj
        rw [hN' j hj, get_upd_ne (wf2.upd _ _) _ _ _ (by omega), get_upd_ne wf2 _ _ _ (by omega)]⟩, fun j hj => by rw [hro j hj]; exact ⟨hidK, hidu⟩⟩ (by rw [upd_size, upd_size]; omega) (fun j hj hju => by
        rw [get_upd_ne (wf2.upd _ _) _ _ _ (fun e => hju e.symm), get_upd_ne wf2 _ _ _ (fun e => hju e.symm)]
        exact kM j (by omega) (by omega))
      simp (maxSteps := 2000000) (disch := first | omega | assumption | (simp only [DS, Nat.reduceAdd, *]; done) | (simp only [DZ]; omega)) only [RUN, RU, footA, feetIn, resultsA, tupOf, frzL, slot, lay, icyL, fillA, repCells, kR, reduceIte, Nat.reduceEqDiff, Nat.reduceBEq, Nat.reduceLT, Nat.reduceAdd, Nat.reduceLeDiff, Nat.reduceSub, Nat.reduceMul, Int.reduceLT, Int.reduceLE, Int.reduceEq, Int.reduceAdd, Int.reduceSub, Int.reduceMul, h0, h1, gu3, lu3, lu3b, wf2, o21, hF.2.1, hq]
    · have qp : decide (0 ≤ gonePos ack e.out) = false := decide_eq_false hpos
      have he : e.acked ack = e := by unfold End.acked; rw [if_neg (fun h => hpos h.2)]
      rw [he] at k
      simp (maxSteps := 2000000) (disch := first | omega | assumption | (simp only [DS, Nat.reduceAdd, *]; done) | (simp only [DZ]; omega)) only [RUN, RU, footA, feetIn, resultsA, tupOf, frzL, slot, lay, icyL, fillA, repCells, kR, reduceIte, Nat.reduceEqDiff, Nat.reduceBEq, Nat.reduceLT, Nat.reduceAdd, Nat.reduceLeDiff, Nat.reduceSub, Nat.reduceMul, Int.reduceLT, Int.reduceLE, Int.reduceEq, Int.reduceAdd, Int.reduceSub, Int.reduceMul, h0, h1, gc, guX, luX, lcX, qn]
      generalize M.add (.row false [I64 ack]) = X at *
      refine contains_run (d := d) (hSX.keep fun _ _ => rfl) hn (by omega) (by rw [lo_wf]; exact wX) (by rw [lo_get]; exact gc) fun N wfN leN kN => ?_
      rw [lo_size, sX] at leN
      have kM : ∀ j, j < M.size → (X.bk N).get j = M.get j := fun j hj => by rw [bk_get, kN j (by rw [lo_size]; omega), lo_get]; exact kX j hj
      have hq := k (X.bk N) ⟨by rw [bk_wf]; exact wfN, by rw [bk_size]; omega, o, by rw [kM u lu]; exact hu, slm_fz (hS.keep fun id h => kM id (hS.lt id h)), hoK⟩ (by rw [bk_size]; omega) (fun j hj _ => kM j (by omega))
      simp (maxSteps := 2000000) (disch := first | omega | assumption | (simp only [DS, Nat.reduceAdd, *]; done) | (simp only [DZ]; omega)) only [RUN, RU, footA, feetIn, resultsA, tupOf, frzL, slot, lay, icyL, fillA, repCells, kR, reduceIte, Nat.reduceEqDiff, Nat.reduceBEq, Nat.reduceLT, Nat.reduceAdd, Nat.reduceLeDiff, Nat.reduceSub, Nat.reduceMul, Int.reduceLT, Int.reduceLE, Int.reduceEq, Int.reduceAdd, Int.reduceSub, Int.reduceMul, h0, h1, qp, hq]
  · have qn : decide (ack < e.nx) = false := decide_eq_false hnx
    have he : e.acked ack = e := by unfold End.acked; rw [if_neg (fun h => hnx h.1)]
    have hq := k (M.add (.row false [I64 ack])) (by rw [he]; exact ⟨wX, by omega, o, guX, slm_fz hSX, hoK⟩) (by omega) (fun j hj _ => kX j (by omega))
    simp (maxSteps := 2000000) (disch := first | omega | assumption | (simp only [DS, Nat.reduceAdd, *]; done) | (simp only [DZ]; omega)) only [RUN, RU, footA, feetIn, resultsA, tupOf, frzL, slot, lay, icyL, fillA, repCells, kR, reduceIte, Nat.reduceEqDiff, Nat.reduceBEq, Nat.reduceLT, Nat.reduceAdd, Nat.reduceLeDiff, Nat.reduceSub, Nat.reduceMul, Int.reduceLT, Int.reduceLE, Int.reduceEq, Int.reduceAdd, Int.reduceSub, Int.reduceMul, h0, h1, gc, guX, luX, lcX, qn, hq]
end Go.Proofs.Ytbemomagabjbnaa
