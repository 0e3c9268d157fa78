/-
  purge: events whose lists are rows of ours; Clone, twin, Twin in the caller's memory.
-/
import Derived.Test.YtjbninmklbkklaaDoorPuI
import Derived.Test.YtjbninmklbkklaaDoorEe
set_option linter.unusedSimpArgs false
set_option linter.unusedVariables false
set_option maxRecDepth 100000
namespace Go.Proofs.YtjbninmklbkklaaDoor
open Go Go.Ax
variable {fuel : Nat} {M : Mem} {Q : AV → Mem → Prop} {d : Nat}

/-- An event with its two lists, wherever they lie. -/
structure EvR where
  e : Ev
  da : AV
  ca : AV
def isEvR (r : List AV) (x : EvR) : Prop := r = evRow x.e x.da x.ca ∧ oneA x.da = true ∧ oneA x.ca = true ∧ cellsA x.da = [x.da] ∧ cellsA x.ca = [x.ca]
/-- The lists lie in rows of ours, from B on, and in none of these. -/
def InR (M : Mem) (B : Nat) (x : EvR) : Prop := SlM M 1 isU8 x.da x.e.data ∧ SlM M 1 isInt x.ca x.e.crash ∧ (∀ j, rowOf x.da = some j → B ≤ j) ∧ (∀ j, rowOf x.ca = some j → B ≤ j)
theorem InR.keep {N : Mem} {B : Nat} {x : EvR} (h : InR M B x) (k : ∀ j, (rowOf x.da = some j ∨ rowOf x.ca = some j) → N.get j = M.get j) : InR N B x :=
  ⟨h.1.keep fun j hj => k j (.inl hj), h.2.1.keep fun j hj => k j (.inr hj), h.2.2.1, h.2.2.2⟩
theorem InR.lt {B : Nat} {x : EvR} (h : InR M B x) : ∀ j, (rowOf x.da = some j ∨ rowOf x.ca = some j) → j < M.size := fun j hj => hj.elim (h.1.lt j) (h.2.1.lt j)
theorem isEvR_one {rows : List (List AV)} {l : List EvR} (h : All2 isEvR rows l) : rows.flatten.all oneA = true := by
  rw [List.all_eq_true]
  induction h with
  | nil => simp
  | cons a _ ih =>
    intro y hy
    obtain ⟨rfl, h1, h2, _⟩ := a
    rw [List.flatten_cons, List.mem_append] at hy
    rcases hy with hy | hy
    · simp only [evRow, List.mem_cons, List.not_mem_nil, or_false] at hy
      rcases hy with rfl | rfl | rfl | rfl | rfl | rfl | rfl | rfl | rfl | rfl | rfl | rfl | rfl | rfl | rfl | rfl | rfl
      all_goals first | rfl | assumption
    · exact ih y hy
/-- One event, appended to a slice of ours. -/
theorem w3_ev {N : Mem} {o : AV} {l : List EvR} {x : EvR} {Q : AV → Mem → Prop} (wf : Wf N) (h : SlM N 17 isEvR o l) (hx : isEvR (evRow x.e x.da x.ca) x) (hb : l.length + 1 ≤ 1000000)
    (kk : ∀ a' M', SlM M' 17 isEvR a' (l ++ [x]) → Wf M' → N.size ≤ M'.size → (∀ j, j < N.size → rowOf o ≠ some j → M'.get j = N.get j) → (∀ id, rowOf a' = some id → rowOf o = some id ∨ N.size ≤ id) → ((rowsOf a').all fun i => Nat.blt i M'.size) = true → oneA a' = true → cellsA a' = [a'] → Q a' M') : W3 (appO (N.add (.row false (evRow x.e x.da x.ca))) 17 144 o (.sl N.size 0 1 (some 1) 17)) Q := by
  have g := get_add_new wf (.row false (evRow x.e x.da x.ca)) N.size (Nat.le_refl _) (Nat.lt_succ_self _)
  have hA : All2 isEvR [evRow x.e x.da x.ca] [x] := .cons hx .nil
  have h' : SlM (N.add (.row false (evRow x.e x.da x.ca))) 17 isEvR o l := h.keep fun j hj => get_add wf _ _ (h.lt j hj)
  obtain ⟨o', M', e, m, w, le, le2, kp, nw, wm⟩ := h'.appO (wf.add _) (y := .sl N.size 0 1 (some 1) 17) (l' := [x]) (new := [evRow x.e x.da x.ca]) (bytes := 144) (by rw [cells_lit g rfl]; simp) rfl hA (by simp [evRow]) (isEvR_one hA) (by omega) (by simp; omega) (by simp; omega)
  rw [add_size] at le kp nw
  exact ⟨o', M', e, kk o' M' m w (by omega) (fun j hj hj2 => by rw [kp j (by omega) hj2, get_add wf _ _ hj]) (fun id hid => (nw id hid).imp (fun h => h) (fun h => by omega)) (rows_lt m.rl (Nat.le_refl _)) m.one m.cells⟩
theorem bclone0 {a : AV} {l : List UInt8} (hS : Bs a l) (hl : l.length ≤ 140737488355328) (wf : Wf M)
    (k : ∀ a' M', Wf M' → M.size ≤ M'.size → (∀ j, j < M.size → M'.get j = M.get j) → SlM M' 1 isU8 a' l → (∀ id, rowOf a' = some id → M.size ≤ id) → M'.wm = M.wm → M'.dirty = M.dirty → Q a' M') : W3 (callN Tryd.prog (fsT tbl) fuel (d + 1) (.fn 47) [a] M) Q :=
  clone_0 cel_U8 tf47 Tryd.underlying37 hS (by omega) (by omega) wf k
theorem iclone0 {a : AV} {l : List Int} (hS : Sl 1 isInt a l) (hl : l.length ≤ 17592186044416) (wf : Wf M)
    (k : ∀ a' M', Wf M' → M.size ≤ M'.size → (∀ j, j < M.size → M'.get j = M.get j) → SlM M' 1 isInt a' l → (∀ id, rowOf a' = some id → M.size ≤ id) → M'.wm = M.wm → M'.dirty = M.dirty → Q a' M') : W3 (callN Tryd.prog (fsT tbl) fuel (d + 1) (.fn 48) [a] M) Q :=
  clone_0 cel_Int tf48 Tryd.underlying42 hS (by omega) (by omega) wf k
set_option maxHeartbeats 8000000 in
theorem twin0 {e : Ev} {r : List AV} (hr : isEv r e) (hd : e.data.length ≤ 140737488355328) (hc : e.crash.length ≤ 17592186044416) (wf : Wf M)
    (k : ∀ (x : EvR) N, Wf N → M.size ≤ N.size → (∀ j, j < M.size → N.get j = M.get j) → x.e = e → isEvR (evRow x.e x.da x.ca) x → InR N M.size x → Q (.agg (evRow x.e x.da x.ca)) N) :
    W3 (callN Tryd.prog (fsT tbl) fuel (d + 2) (.fn 32) [.agg r] M) Q := by
  obtain ⟨da, ca, rfl, h1, h2⟩ := hr
  have rd := h1.rows mem0
  have rc := h2.rows mem0
  have od := h1.one
  have oc := h2.one
  have cd := h1.cells
  have cc := h2.cells
  refine call_0 tf32 rfl (by simp [a32]) fun b' ht hx => ?_
  have h0 := hx 0 _ rfl
  clear hx
  simp only [a32, c32] at ht ⊢
  unfold evRow at h0
  simp (maxSteps := 2000000) (disch := first | omega | assumption | (simp only [DS, Nat.reduceAdd, *]; done) | (simp only [DZ]; omega)) only [RUN, RU, footA, feetIn, resultsA, tupOf, frzL, slot, lay, icyL, fillA, repCells, kR, reduceIte, Nat.reduceEqDiff, Nat.reduceBEq, Nat.reduceLT, Nat.reduceAdd, Nat.reduceLeDiff, Nat.reduceSub, Nat.reduceMul, Int.reduceLT, Int.reduceLE, Int.reduceEq, Int.reduceAdd, Int.reduceSub, Int.reduceMul, h0, rd, rc, od, oc, cd, cc, wf]
  refine bclone0 h1 hd (by simp (maxSteps := 2000000) (disch := first | omega | assumption | (simp only [DS, Nat.reduceAdd, *]; done) | (simp only [DZ]; omega)) only [RUN, RU, footA, feetIn, resultsA, tupOf, frzL, slot, lay, icyL, fillA, repCells, kR, reduceIte, Nat.reduceEqDiff, Nat.reduceBEq, Nat.reduceLT, Nat.reduceAdd, Nat.reduceLeDiff, Nat.reduceSub, Nat.reduceMul, Int.reduceLT, Int.reduceLE, Int.reduceEq, Int.reduceAdd, Int.reduceSub, Int.reduceMul, wf]) fun da' N1 w1 s1 k1 m1 n1 _ dr1 => ?_
  replace dr1 : N1.dirty = false := dr1
  simp only [lo_size, add_size] at s1 k1 n1
  have z1 : M.size < N1.size := by omega
  have g1 := k1 M.size (by omega)
  have g1' := k1 (M.size + 1) (by omega)
  simp (maxSteps := 2000000) (disch := first | omega | assumption | (simp only [DS, Nat.reduceAdd, *]; done) | (simp only [DZ]; omega)) only [RUN, RU, footA, feetIn, resultsA, tupOf, frzL, slot, lay, icyL, fillA, repCells, kR, reduceIte, Nat.reduceEqDiff, Nat.reduceBEq, Nat.reduceLT, Nat.reduceAdd, Nat.reduceLeDiff, Nat.reduceSub, Nat.reduceMul, Int.reduceLT, Int.reduceLE, Int.reduceEq, Int.reduceAdd, Int.reduceSub, Int.reduceMul, wf, lo_get] at g1 g1'
  have rl1 := rows_lt m1.rl (Nat.le_refl N1.size)
  have aq := apart2_q M.size (M.size + 1 + 1) N1.size (by omega)
  simp (maxSteps := 2000000) (disch := first | omega | assumption | (simp only [DS, Nat.reduceAdd, *]; done) | (simp only [DZ]; omega)) only [RUN, RU, footA, feetIn, resultsA, tupOf, frzL, slot, lay, icyL, fillA, repCells, kR, reduceIte, Nat.reduceEqDiff, Nat.reduceBEq, Nat.reduceLT, Nat.reduceAdd, Nat.reduceLeDiff, Nat.reduceSub, Nat.reduceMul, Int.reduceLT, Int.reduceLE, Int.reduceEq, Int.reduceAdd, Int.reduceSub, Int.reduceMul, h0, rd, rc, od, oc, cd, cc, g1, rl1, dr1, fpC, apart2_pu, aq]
  refine iclone0 h2 hc (by exact w1) fun ca' N2 w2 s2 k2 m2 n2 _ dr2 => ?_
  replace dr2 : N2.dirty = false := dr2
  simp only [lo_size, bk_size] at s2 k2 n2
  have g2 := (k2 M.size (by omega)).trans g1
  have g2' := (k2 (M.size + 1) (by omega)).trans g1'
  have z2 : M.size < N2.size := by omega
  have z3 : M.size + 1 < N2.size := by omega
  have od' := m1.one
  have oc' := m2.one
  have cd' := m1.cells
  have cc' := m2.cells
  have m1' : SlM N2 1 isU8 da' e.data := m1.keep fun j hj => k2 j (m1.lt j hj)
  have rl2 := rows_lt m2.rl (Nat.le_refl N2.size)
  have rl3 := rows_lt m1'.rl (Nat.le_refl N2.size)
  have zz : M.size ≠ M.size + 1 := by omega
  simp (maxSteps := 2000000) (disch := first | omega | assumption | (simp only [DS, Nat.reduceAdd, *]; done) | (simp only [DZ]; omega)) only [RUN, RU, footA, feetIn, resultsA, tupOf, frzL, slot, lay, icyL, fillA, repCells, kR, reduceIte, Nat.reduceEqDiff, Nat.reduceBEq, Nat.reduceLT, Nat.reduceAdd, Nat.reduceLeDiff, Nat.reduceSub, Nat.reduceMul, Int.reduceLT, Int.reduceLE, Int.reduceEq, Int.reduceAdd, Int.reduceSub, Int.reduceMul, h0, g2, g2', w2, od', oc', cd', cc', rl2, rl3, zz, dr2, fpC, apart2_pu]
  have wb : ∀ X : Mem, Wf (X.bk N2) := fun _ => w2
  have low : ∀ j, j < M.size → N2.get j = M.get j := fun j hj => by
    rw [k2 j (by omega)]
    show N1.get j = _
    rw [k1 j (by omega), lo_get, get_add (wf.add _) _ _ (by rw [add_size]; omega), get_add wf _ _ hj]
  have up : ∀ (X : Mem) (o1 o2 o3 : AObj) (j : Nat), j ≠ M.size → j ≠ M.size + 1 → ((((X.bk N2).upd M.size o1).upd M.size o2).upd (M.size + 1) o3).get j = N2.get j := fun X o1 o2 o3 j h1 h2 => by
    rw [get_upd_ne (((wb X).upd _ _).upd _ _) _ _ _ (fun e => h2 e.symm), get_upd_ne ((wb X).upd _ _) _ _ _ (fun e => h1 e.symm), get_upd_ne (wb X) _ _ _ (fun e => h1 e.symm)]
    exact bk_get _ _ _
  refine k ⟨e, da', ca'⟩ _ ((((wb _).upd _ _).upd _ _).upd _ _) (by simp only [upd_size, bk_size]; omega) (fun j hj => ?_) rfl ⟨rfl, od', oc', cd', cc'⟩ ⟨m1'.keep fun j hj => ?_, m2.keep fun j hj => ?_, fun j hj => ?_, fun j hj => ?_⟩
  · exact (up _ _ _ _ j (by omega) (by omega)).trans (low j hj)
  · have := n1 j hj
    exact up _ _ _ _ j (by omega) (by omega)
  · have := n2 j hj
    exact up _ _ _ _ j (by omega) (by omega)
  · have := n1 j hj
    omega
  · have := n2 j hj
    omega
end Go.Proofs.YtjbninmklbkklaaDoor
