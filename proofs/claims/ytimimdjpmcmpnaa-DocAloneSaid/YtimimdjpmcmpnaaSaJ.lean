/-
  An element's chain: what a raise that is handed on does; the raises.
-/
import Derived.Test.YtimimdjpmcmpnaaSaI
import Derived.Test.YtimimdjpmcmpnaaEf
set_option linter.unusedSimpArgs false
set_option linter.unusedVariables false
set_option maxRecDepth 100000
namespace Go.Proofs.Ytimimdjpmcmpnaa
open Go Go.Ax
variable {fuel : Nat} {M : Mem} {Q : AV → Mem → Prop} {d : Nat}

def cM1 : ACode := (.region [⟨some 8, .alloc 25 (.agg #[(.int .u8 0), (.int .u32 0)]), none, []⟩, ⟨none, .store 2 (.tmp 8) (.tmp 17), none, []⟩] false)
def cM2 : ACode := (.block 1 (.seq (.region [⟨some 18, .load 1 false (.tmp 7), none, [1]⟩, ⟨some 19, .load 2 true (.tmp 8), none, [0]⟩, ⟨some 20, .call (.func 91) [(.tmp 18), (.tmp 19)], none, []⟩, ⟨some 21, .pur (mkO (.unOp .not 4 (.tmp 20)) 4), none, []⟩] false) (.cond (.tmp 21) (.region [⟨some 22, .load 1 false (.tmp 7), none, [1, 2]⟩, ⟨some 23, .load 2 true (.tmp 8), none, [0]⟩, ⟨some 24, .bsl 25 2 (.agg #[(.int .u8 0), (.int .u32 0)]) 1 [(0, 2, (.tmp 23))], none, [0]⟩, ⟨some 25, .app 25 2 8 (.agg #[(.int .u8 0), (.int .u32 0)]) (.tmp 22) (.tmp 24), none, []⟩, ⟨none, .store 1 (.tmp 7) (.tmp 25), none, []⟩] false) .skip)))
def addL (out : List Lb) (x : Lb) : List Lb := if out.any (fun y => decide (x = y)) then out else out ++ [x]
/-- Memory while the raises are handed on. -/
structure MI (M : Mem) (tm : List AV) (a : AV) (x : Eid) (v : Lb) (o : AV) (out : List Lb) : Prop where
  wf : Wf M
  sz : 9 ≤ M.size
  g3 : M.get 3 = some (.row false [o])
  g4 : M.get 4 = some (.row false [a])
  g5 : M.get 5 = some (.row false (idR x))
  g6 : M.get 6 = some (.row false (lbR v))
  g7 : M.get 7 = some (.dfr false)
  g8 : M.get 8 = some (.loop .ready none tm [17] cM1 cM2 7)
  sm : SlM M 2 isLb o out
  ro : ∀ j, rowOf o = some j → j = 2 ∨ 9 ≤ j
variable {tm : List AV} {a o : AV} {x : Eid} {v : Lb} {out : List Lb}
theorem MI.keep {N : Mem} (h : MI M tm a x v o out) (wf : Wf N) (hs : M.size ≤ N.size) (k : ∀ j, j < M.size → N.get j = M.get j) : MI N tm a x v o out := by
  have := h.sz
  exact ⟨wf, by omega, (k 3 (by omega)).trans h.g3, (k 4 (by omega)).trans h.g4, (k 5 (by omega)).trans h.g5, (k 6 (by omega)).trans h.g6, (k 7 (by omega)).trans h.g7, (k 8 (by omega)).trans h.g8, h.sm.keep fun j hj => k j (h.sm.lt j hj), h.ro⟩
theorem MI.back {X : Mem} {o' : AV} {out' : List Lb} (h : MI M tm a x v o out) (wX : Wf X) (hs : M.size ≤ X.size) (x3 : X.get 3 = some (.row false [o'])) (gX : ∀ j, j < 9 → j ≠ 2 → j ≠ 3 → j ≠ 8 → X.get j = M.get j) (sm : SlM X 2 isLb o' out') (ro : ∀ j, rowOf o' = some j → j = 2 ∨ 9 ≤ j) : MI (X.upd 8 (.loop .ready none tm [17] cM1 cM2 7)) tm a x v o' out' := by
  have := h.sz
  have u : ∀ j, j ≠ 8 → (X.upd 8 (.loop .ready none tm [17] cM1 cM2 7)).get j = X.get j := fun j hj => get_upd_ne wX _ _ _ (fun e => hj e.symm)
  exact ⟨wX.upd _ _, by rw [upd_size]; omega, (u 3 (by omega)).trans x3, ((u 4 (by omega)).trans (gX 4 (by omega) (by omega) (by omega) (by omega))).trans h.g4, ((u 5 (by omega)).trans (gX 5 (by omega) (by omega) (by omega) (by omega))).trans h.g5, ((u 6 (by omega)).trans (gX 6 (by omega) (by omega) (by omega) (by omega))).trans h.g6, ((u 7 (by omega)).trans (gX 7 (by omega) (by omega) (by omega) (by omega))).trans h.g7, get_upd_eq wX _ _ (by omega), sm.keep fun j hj => u j (by have := ro j hj; omega), ro⟩
set_option maxHeartbeats 8000000 in
theorem myield {to : Lb} (h : MI M tm a x v o out) (h7 : nth undefA tm 7 = .ptr 3 0) (hlen : tm.length = 27) (ht : to.ok) (hn : out.length ≤ 100000) (hf : out.length < fuel)
    (k : ∀ o' N, MI N tm a x v o' (addL out to) → M.size ≤ N.size → Q (BL true) N) :
    W3 (callN Try.prog (fsT tbl) fuel (d + 3) (.yl 8) [lbA to] M) Q := by
  have l3 := Mem.get_lt h.g3
  have g3 := h.g3
  have g8 := h.g8
  have wf := h.wf
  have sz := h.sz
  have sm := h.sm
  have ro := h.ro
  have oo := sm.one
  have oc := sm.cells
  refine call_yl h.g8 rfl ?_
  have e1 : setAll tm [17] [lbA to] = St tm [(17, lbA to)] := rfl
  rw [e1]
  unfold cM1 cM2
  simp (maxSteps := 2000000) (disch := first | omega | assumption | (simp only [DS, Nat.reduceAdd, *]; done) | (simp only [DZ]; omega)) only [RUN, RU, footA, feetIn, resultsA, tupOf, frzL, slot, lay, icyL, fillA, repCells, kR, reduceIte, Nat.reduceEqDiff, Nat.reduceBEq, Nat.reduceLT, Nat.reduceAdd, Nat.reduceLeDiff, Nat.reduceSub, Nat.reduceMul, Int.reduceLT, Int.reduceLE, Int.reduceEq, Int.reduceAdd, Int.reduceSub, Int.reduceMul, h7, wf]
  refine ⟨tm, [17], _, _, 7, g8, ?_⟩
  generalize hX : ((M.add _).upd M.size _).upd 8 _ = X
  have wX : Wf X := by rw [← hX]; exact ((wf.add _).upd _ _).upd _ _
  have sX : X.size = M.size + 1 := by rw [← hX]; rfl
  have gX : ∀ j, j < M.size → j ≠ 8 → X.get j = M.get j := fun j a b => by
    rw [← hX, get_upd_ne ((wf.add _).upd _ _) _ _ _ (fun e => b e.symm), get_upd_ne (wf.add _) _ _ _ (by omega), get_add wf _ _ a]
  have x8 : X.get 8 = some (.loop .busy none tm [17] cM1 cM2 7) := by
    rw [← hX, get_upd_eq ((wf.add _).upd _ _) _ _ (by rw [upd_size, add_size]; omega)]
  have xM : X.get M.size = some (.row false (lbR to)) := by
    rw [← hX, get_upd_ne ((wf.add _).upd _ _) _ _ _ (by omega), get_upd_eq (wf.add _) _ _ (by rw [add_size]; omega)]
  have lM : M.size < X.size := by omega
  have l3' : 3 < X.size := by omega
  have x3 : X.get 3 = some (.row false [o]) := (gX 3 l3 (by omega)).trans g3
  have smX : SlM X 2 isLb o out := sm.keep fun j hj => gX j (sm.lt j hj) (by have := ro j hj; omega)
  have hcn := hasV_own (P := Try.prog) (fs := fsT tbl) (fuel := fuel) (n := d) (v := lbR to) tf91 tf94 fz_Lb smX wX (by omega) (by omega) (by omega) (fz_lbR to) rfl @pLbE (p := fun y => decide (to = y)) (fun dd r y hy _ => by rw [hy.1]; exact peLbE_val dd to.lv to.cats y.lv y.cats)
  unfold addL at k
  cases hb : out.any (fun y => decide (to = y)) with
  | true =>
    rw [hb] at hcn k
    simp (maxSteps := 2000000) (disch := first | omega | assumption | (simp only [DS, Nat.reduceAdd, *]; done) | (simp only [DZ]; omega)) only [RUN, RU, footA, feetIn, resultsA, tupOf, frzL, slot, lay, icyL, fillA, repCells, kR, reduceIte, Nat.reduceEqDiff, Nat.reduceBEq, Nat.reduceLT, Nat.reduceAdd, Nat.reduceLeDiff, Nat.reduceSub, Nat.reduceMul, Int.reduceLT, Int.reduceLE, Int.reduceEq, Int.reduceAdd, Int.reduceSub, Int.reduceMul, h7, g3, x3, xM, oo, oc, hcn]
    rw [if_pos rfl] at k
    exact ⟨wX, _, _, _, _, _, _, _, x8, k o _ (h.back wX (by omega) x3 (fun j a b c e => gX j (by omega) e) smX ro) (by rw [upd_size]; omega)⟩
  | false =>
    rw [hb] at hcn k
    rw [if_neg (by decide)] at k
    simp (maxSteps := 2000000) (disch := first | omega | assumption | (simp only [DS, Nat.reduceAdd, *]; done) | (simp only [DZ]; omega)) only [RUN, RU, footA, feetIn, resultsA, tupOf, frzL, slot, lay, icyL, fillA, repCells, kR, reduceIte, Nat.reduceEqDiff, Nat.reduceBEq, Nat.reduceLT, Nat.reduceAdd, Nat.reduceLeDiff, Nat.reduceSub, Nat.reduceMul, Int.reduceLT, Int.reduceLE, Int.reduceEq, Int.reduceAdd, Int.reduceSub, Int.reduceMul, h7, g3, x3, xM, oo, oc, hcn, wX]
    refine ⟨rows_lt smX.rl (by omega), ?_⟩
    refine app1 wX smX fz_Lb (x := to) ⟨rfl, ht⟩ rfl (by omega) (by omega) (by omega) fun o' M' m' w' le' kp' nw' wm' rl' on' oc' => ?_
    have ro' : ∀ j, rowOf o' = some j → j = 2 ∨ 9 ≤ j := fun j hj => by
      rcases nw' j hj with h | h
      · exact ro j h
      · omega
    have z3 : M'.get 3 = some (.row false [o]) := (kp' 3 (by omega) (fun e => by have := ro 3 e; omega)).trans x3
    have z8 := (kp' 8 (by omega) (fun e => by have := ro 8 e; omega)).trans x8
    have l3 : 3 < M'.size := by omega
    simp (maxSteps := 2000000) (disch := first | omega | assumption | (simp only [DS, Nat.reduceAdd, *]; done) | (simp only [DZ]; omega)) only [RUN, RU, footA, feetIn, resultsA, tupOf, frzL, slot, lay, icyL, fillA, repCells, kR, reduceIte, Nat.reduceEqDiff, Nat.reduceBEq, Nat.reduceLT, Nat.reduceAdd, Nat.reduceLeDiff, Nat.reduceSub, Nat.reduceMul, Int.reduceLT, Int.reduceLE, Int.reduceEq, Int.reduceAdd, Int.reduceSub, Int.reduceMul, h7, z3, z8, w', on', oc']
    refine ⟨_, _, _, _, _, _, _, rfl, k o' _ (h.back (w'.upd _ _) (by rw [upd_size]; omega) (get_upd_eq w' _ _ (by omega)) (fun j a b c e => ?_) (m'.keep fun j hj => get_upd_ne w' _ _ _ (by have := ro' j hj; omega)) ro') (by simp only [upd_size]; omega)⟩
    rw [get_upd_ne w' _ _ _ (fun e => c e.symm), kp' j (by omega) (fun e => by have := ro j e; omega)]
    exact gX j (by omega) e
end Go.Proofs.Ytimimdjpmcmpnaa

