/-
  runes: Get, whole.
-/
import Derived.Test.YtlccfbaibcdodaaRnJ
set_option linter.unusedSimpArgs false
set_option linter.unusedVariables false
set_option maxRecDepth 100000
namespace Go.Proofs.Ytlccfbaibcdodaa
open Go Go.Ax
variable {fuel : Nat} {M : Mem} {Q : AV → Mem → Prop} {d : Nat}

theorem chunk_run {a : AV} (wf : Wf M) (ha : oneA a = true) (hc : cellsA a = [a]) (hr : rowsOf a = []) : callN Try.prog (fsT tbl) fuel (d + 1) (.fn 26) [a, I64 4] M = some (.fn 37 [] [.ptr M.size 0, .ptr (M.size + 1) 0], (M.add (.row false [a])).add (.row false [I64 4])) := by
  apply w3_eq
  refine call_0 tf26 rfl (by simp [a26]) fun b' ht hx => ?_
  have h0 := hx 0 _ rfl
  have h1 := hx 1 _ rfl
  clear hx
  simp only [a26, c26] at ht ⊢
  simp (maxSteps := 2000000) (disch := first | omega | assumption | (simp only [DS, Nat.reduceAdd, *]; done) | (simp only [DZ]; omega)) only [RUN, RU, footA, feetIn, resultsA, tupOf, frzL, slot, lay, icyL, fillA, repCells, kR, reduceIte, Nat.reduceEqDiff, Nat.reduceBEq, Nat.reduceLT, Nat.reduceAdd, Nat.reduceLeDiff, Nat.reduceSub, Nat.reduceMul, Int.reduceLT, Int.reduceLE, Int.reduceEq, Int.reduceAdd, Int.reduceSub, Int.reduceMul, h0, h1, ha, hc, hr]
set_option maxHeartbeats 8000000 in
theorem chunk1_go {a : AV} {l : List UInt8} {tm : List AV} (hS : Bs a l) (h4 : l.length % 4 = 0) (hl : l.length ≤ 256) (hf : 1000 < fuel) (h2 : nth undefA tm 2 = .ptr 0 0) (hlen : tm.length = 50)
    (k : ∀ u o N, Wf N → 5 ≤ N.size → N.get 0 = some (.row false [o]) → SlM N 1 isI32 o (nums l) → (∀ j, rowOf o = some j → 5 ≤ j) → N.get 3 = some (.dfr false) → N.get 4 = some (.loop .ready none tm [17] cG1 cG2 3) → Q u N) :
    W3 (callN Try.prog (fsT tbl) fuel (d + 2) (.fn 37) [.yl 4, .ptr 1 0, .ptr 2 0] (((((mem0.add (.row false [NIL])).add (.row false [a])).add (.row false [I64 4])).add (.dfr false)).add (.loop .ready none tm [17] cG1 cG2 3))) Q := by
  have n3 : (((((mem0.add (.row false [NIL])).add (.row false [a])).add (.row false [I64 4])).add (.dfr false)).add (.loop .ready none tm [17] cG1 cG2 3)).get 3 = some (.dfr false) := by simp (maxSteps := 2000000) (disch := first | omega | assumption | (simp only [DS, Nat.reduceAdd, *]; done) | (simp only [DZ]; omega)) only [RUN, RU, footA, feetIn, resultsA, tupOf, frzL, slot, lay, icyL, fillA, repCells, kR, reduceIte, Nat.reduceEqDiff, Nat.reduceBEq, Nat.reduceLT, Nat.reduceAdd, Nat.reduceLeDiff, Nat.reduceSub, Nat.reduceMul, Int.reduceLT, Int.reduceLE, Int.reduceEq, Int.reduceAdd, Int.reduceSub, Int.reduceMul]
  refine chunk1_run (d := d) (id := 4) (df := 3) (a := a) hS h4 hl hf (by simp (maxSteps := 2000000) (disch := first | omega | assumption | (simp only [DS, Nat.reduceAdd, *]; done) | (simp only [DZ]; omega)) only [RUN, RU, footA, feetIn, resultsA, tupOf, frzL, slot, lay, icyL, fillA, repCells, kR, reduceIte, Nat.reduceEqDiff, Nat.reduceBEq, Nat.reduceLT, Nat.reduceAdd, Nat.reduceLeDiff, Nat.reduceSub, Nat.reduceMul, Int.reduceLT, Int.reduceLE, Int.reduceEq, Int.reduceAdd, Int.reduceSub, Int.reduceMul]) (by simp (maxSteps := 2000000) (disch := first | omega | assumption | (simp only [DS, Nat.reduceAdd, *]; done) | (simp only [DZ]; omega)) only [RUN, RU, footA, feetIn, resultsA, tupOf, frzL, slot, lay, icyL, fillA, repCells, kR, reduceIte, Nat.reduceEqDiff, Nat.reduceBEq, Nat.reduceLT, Nat.reduceAdd, Nat.reduceLeDiff, Nat.reduceSub, Nat.reduceMul, Int.reduceLT, Int.reduceLE, Int.reduceEq, Int.reduceAdd, Int.reduceSub, Int.reduceMul]) h2 hlen (by simp (maxSteps := 2000000) (disch := first | omega | assumption | (simp only [DS, Nat.reduceAdd, *]; done) | (simp only [DZ]; omega)) only [RUN, RU, footA, feetIn, resultsA, tupOf, frzL, slot, lay, icyL, fillA, repCells, kR, reduceIte, Nat.reduceEqDiff, Nat.reduceBEq, Nat.reduceLT, Nat.reduceAdd, Nat.reduceLeDiff, Nat.reduceSub, Nat.reduceMul, Int.reduceLT, Int.reduceLE, Int.reduceEq, Int.reduceAdd, Int.reduceSub, Int.reduceMul]) (by simp (maxSteps := 2000000) (disch := first | omega | assumption | (simp only [DS, Nat.reduceAdd, *]; done) | (simp only [DZ]; omega)) only [RUN, RU, footA, feetIn, resultsA, tupOf, frzL, slot, lay, icyL, fillA, repCells, kR, reduceIte, Nat.reduceEqDiff, Nat.reduceBEq, Nat.reduceLT, Nat.reduceAdd, Nat.reduceLeDiff, Nat.reduceSub, Nat.reduceMul, Int.reduceLT, Int.reduceLE, Int.reduceEq, Int.reduceAdd, Int.reduceSub, Int.reduceMul]) (by simp (maxSteps := 2000000) (disch := first | omega | assumption | (simp only [DS, Nat.reduceAdd, *]; done) | (simp only [DZ]; omega)) only [RUN, RU, footA, feetIn, resultsA, tupOf, frzL, slot, lay, icyL, fillA, repCells, kR, reduceIte, Nat.reduceEqDiff, Nat.reduceBEq, Nat.reduceLT, Nat.reduceAdd, Nat.reduceLeDiff, Nat.reduceSub, Nat.reduceMul, Int.reduceLT, Int.reduceLE, Int.reduceEq, Int.reduceAdd, Int.reduceSub, Int.reduceMul]) (by omega) (by omega) (by omega) (fun u o N wN lN n1 nm hno ni nk => ?_)
  simp only [add_size, mem0_size, Nat.reduceAdd] at lN hno nk
  exact k u o N wN lN n1 nm hno ((nk 3 (by omega) (by omega) (by omega)).trans n3) ni
theorem celI_I32 : CelI isI32 := fun r x h y hy M k hk => by
  obtain ⟨rfl, _⟩ := h
  simp at hy; subst hy
  exact icy_sc _ hk
set_option maxHeartbeats 8000000 in
theorem tail_get {g : List Int × Int} {l : List Int} {t : List AV} {o : AV} {N : Mem} (hg : g = if chk l ≠ 0 then ([], chk l) else (l, 0)) (hl : l.length ≤ 100000) (hf : 3000 < fuel) (h2 : nth undefA t 2 = .ptr 0 0) (hlen : t.length = 50) (wN : Wf N) (lN : 5 ≤ N.size) (n0 : N.get 0 = some (.row false [o])) (nm : SlM N 1 isI32 o l) (hno : ∀ j, rowOf o = some j → 5 ≤ j) (n3 : N.get 3 = some (.dfr false)) :
    W (execCode Try.prog fuel (callN Try.prog (fsT tbl) fuel (d + 5)) none cGT ⟨t, [3]⟩ N) (fin [.cell 2 1 false, .tmp 3] fun r => ∃ r_1, Sl 1 isI32 r_1 g.1 ∧ r = .tup [r_1, I64 g.2]) := by
  obtain ⟨o', N1, hi1, hS', wf1, sz1, kp1, _, hfz⟩ := nm.hand2 wN celI_I32 cel_I32 (k := 12) (by omega)
  have icm : icyL (icy 12) N [o] = some ([o'], N1) := by simp only [icyL, hi1]
  have icm' : ∀ M, icyL (icy 12) M [o'] = some ([o'], M) := fun M => by simp (maxSteps := 2000000) (disch := first | omega | assumption | (simp only [DS, Nat.reduceAdd, *]; done) | (simp only [DZ]; omega)) only [RUN, RU, footA, feetIn, resultsA, tupOf, frzL, slot, lay, icyL, fillA, repCells, kR, reduceIte, Nat.reduceEqDiff, Nat.reduceBEq, Nat.reduceLT, Nat.reduceAdd, Nat.reduceLeDiff, Nat.reduceSub, Nat.reduceMul, Int.reduceLT, Int.reduceLE, Int.reduceEq, Int.reduceAdd, Int.reduceSub, Int.reduceMul, hS'.icy]
  have hcm := call_own tf8 rfl (check_run (fuel := fuel) (d := d) hS' (by omega) mem0) (icm' mem0) icm
  have ho0 : rowOf o ≠ some 0 := fun h => by have := hno 0 h; omega
  have ho3 : rowOf o ≠ some 3 := fun h => by have := hno 3 h; omega
  have g0 := (kp1 0 ho0).trans n0
  have g3 := (kp1 3 ho3).trans n3
  have oo := nm.one
  have oco := nm.cells
  have orl := rows_lt nm.rl (show N.size ≤ N1.size by omega)
  have orl0 := rows_lt nm.rl (Nat.le_refl N.size)
  have s0 : 0 < N.size := by omega
  have s01 : 0 < N1.size := by omega
  show W (execCode Try.prog fuel _ none cGT ⟨St t [], [3]⟩ N) _
  unfold cGT
  by_cases hc : chk l = 0
  · have q : decide (chk l = 0) = true := decide_eq_true hc
    rw [if_neg (by simpa using hc)] at hg
    subst hg
    simp (maxSteps := 2000000) (disch := first | omega | assumption | (simp only [DS, Nat.reduceAdd, *]; done) | (simp only [DZ]; omega)) only [RUN, RU, footA, feetIn, resultsA, tupOf, frzL, slot, lay, icyL, fillA, repCells, kR, reduceIte, Nat.reduceEqDiff, Nat.reduceBEq, Nat.reduceLT, Nat.reduceAdd, Nat.reduceLeDiff, Nat.reduceSub, Nat.reduceMul, Int.reduceLT, Int.reduceLE, Int.reduceEq, Int.reduceAdd, Int.reduceSub, Int.reduceMul, h2, n0, hcm, q, g0, oo, oco, orl, orl0, wf1]
    refine fin_mark (wf1.upd _ _) (by simp (maxSteps := 2000000) (disch := first | omega | assumption | (simp only [DS, Nat.reduceAdd, *]; done) | (simp only [DZ]; omega)) only [RUN, RU, footA, feetIn, resultsA, tupOf, frzL, slot, lay, icyL, fillA, repCells, kR, reduceIte, Nat.reduceEqDiff, Nat.reduceBEq, Nat.reduceLT, Nat.reduceAdd, Nat.reduceLeDiff, Nat.reduceSub, Nat.reduceMul, Int.reduceLT, Int.reduceLE, Int.reduceEq, Int.reduceAdd, Int.reduceSub, Int.reduceMul, wf1, g3]) ?_
    have hfr : frz ((N1.upd 0 (.row false [o])).upd 3 (.dfr true)) 0 12 o = some o' := hfz _ fun j hj => by
      have := hno j hj
      rw [get_upd_ne (wf1.upd _ _) _ _ _ (by omega), get_upd_ne wf1 _ _ _ (by omega)]
    simp (maxSteps := 2000000) (disch := first | omega | assumption | (simp only [DS, Nat.reduceAdd, *]; done) | (simp only [DZ]; omega)) only [RUN, RU, footA, feetIn, resultsA, tupOf, frzL, slot, lay, icyL, fillA, repCells, kR, reduceIte, Nat.reduceEqDiff, Nat.reduceBEq, Nat.reduceLT, Nat.reduceAdd, Nat.reduceLeDiff, Nat.reduceSub, Nat.reduceMul, Int.reduceLT, Int.reduceLE, Int.reduceEq, Int.reduceAdd, Int.reduceSub, Int.reduceMul, h2, wf1, g0, hfr]
    exact ⟨o', hS', rfl⟩
  · have q : decide (chk l = 0) = false := decide_eq_false hc
    rw [if_pos hc] at hg
    subst hg
    simp (maxSteps := 2000000) (disch := first | omega | assumption | (simp only [DS, Nat.reduceAdd, *]; done) | (simp only [DZ]; omega)) only [RUN, RU, footA, feetIn, resultsA, tupOf, frzL, slot, lay, icyL, fillA, repCells, kR, reduceIte, Nat.reduceEqDiff, Nat.reduceBEq, Nat.reduceLT, Nat.reduceAdd, Nat.reduceLeDiff, Nat.reduceSub, Nat.reduceMul, Int.reduceLT, Int.reduceLE, Int.reduceEq, Int.reduceAdd, Int.reduceSub, Int.reduceMul, h2, n0, hcm, q, g0, oo, oco, orl, orl0, wf1]
    refine fin_mark (wf1.upd _ _) (by simp (maxSteps := 2000000) (disch := first | omega | assumption | (simp only [DS, Nat.reduceAdd, *]; done) | (simp only [DZ]; omega)) only [RUN, RU, footA, feetIn, resultsA, tupOf, frzL, slot, lay, icyL, fillA, repCells, kR, reduceIte, Nat.reduceEqDiff, Nat.reduceBEq, Nat.reduceLT, Nat.reduceAdd, Nat.reduceLeDiff, Nat.reduceSub, Nat.reduceMul, Int.reduceLT, Int.reduceLE, Int.reduceEq, Int.reduceAdd, Int.reduceSub, Int.reduceMul, wf1, g3]) ?_
    simp (maxSteps := 2000000) (disch := first | omega | assumption | (simp only [DS, Nat.reduceAdd, *]; done) | (simp only [DZ]; omega)) only [RUN, RU, footA, feetIn, resultsA, tupOf, frzL, slot, lay, icyL, fillA, repCells, kR, reduceIte, Nat.reduceEqDiff, Nat.reduceBEq, Nat.reduceLT, Nat.reduceAdd, Nat.reduceLeDiff, Nat.reduceSub, Nat.reduceMul, Int.reduceLT, Int.reduceLE, Int.reduceEq, Int.reduceAdd, Int.reduceSub, Int.reduceMul, h2, wf1, g0]
    exact ⟨_, .inl ⟨rfl, rfl⟩, rfl⟩
set_option maxHeartbeats 16000000 in
theorem get_run {a : AV} {l : List UInt8} (hS : Bs a l) (hl : l.length ≤ 100000) (hf : 3000 < fuel) : ∃ r, Sl 1 isI32 r (getF l).1 ∧ ∀ M, callN Try.prog (fsT tbl) fuel (d + 6) (.fn 12) [a] M = some (.tup [r, I64 (getF l).2], M) := by
  have ll := hS.len
  have lr := hS.rows mem0
  have lo := hS.one
  have lc := hS.cells
  have ic : ∀ M, icyL (icy 12) M [a] = some ([a], M) := fun M => by simp (maxSteps := 2000000) (disch := first | omega | assumption | (simp only [DS, Nat.reduceAdd, *]; done) | (simp only [DZ]; omega)) only [RUN, RU, footA, feetIn, resultsA, tupOf, frzL, slot, lay, icyL, fillA, repCells, kR, reduceIte, Nat.reduceEqDiff, Nat.reduceBEq, Nat.reduceLT, Nat.reduceAdd, Nat.reduceLeDiff, Nat.reduceSub, Nat.reduceMul, Int.reduceLT, Int.reduceLE, Int.reduceEq, Int.reduceAdd, Int.reduceSub, Int.reduceMul, hS.icy]
  have hlf := fun M wf => @chunk_run fuel M (d + 4) a wf lo lc lr
  have key : W3 (callN Try.prog (fsT tbl) fuel (d + 6) (.fn 12) [a] mem0) (fun r' _ => ∃ r, Sl 1 isI32 r (getF l).1 ∧ r' = .tup [r, I64 (getF l).2]) := by
    refine call_gc tf12 rfl (ic mem0) (by simp [a12]) fun b' ht hx => ?_
    have h0 := hx 0 _ rfl
    clear hx
    simp only [a12, c12] at ht ⊢
    by_cases h256 : 256 < l.length
    · have q1 : decide ((256 : Int) < l.length) = true := decide_eq_true (by omega)
      have hp : getF l = ([], 4) := by unfold getF; rw [if_pos h256]
      rw [hp]
      simp (maxSteps := 2000000) (disch := first | omega | assumption | (simp only [DS, Nat.reduceAdd, *]; done) | (simp only [DZ]; omega)) only [RUN, RU, footA, feetIn, resultsA, tupOf, frzL, slot, lay, icyL, fillA, repCells, kR, reduceIte, Nat.reduceEqDiff, Nat.reduceBEq, Nat.reduceLT, Nat.reduceAdd, Nat.reduceLeDiff, Nat.reduceSub, Nat.reduceMul, Int.reduceLT, Int.reduceLE, Int.reduceEq, Int.reduceAdd, Int.reduceSub, Int.reduceMul, h0, ll, lr, q1]
      exact ⟨_, .inl ⟨rfl, rfl⟩, rfl⟩
    have q1 : decide ((256 : Int) < l.length) = false := decide_eq_false (by omega)
    have tm : Int.tmod (l.length : Int) 4 = ((l.length % 4 : Nat) : Int) := by rw [Int.tmod_eq_emod_of_nonneg (by omega)]; omega
    by_cases h4 : l.length % 4 = 0
    rotate_left
    · have q2 : decide ((0 : Int) < ((l.length % 4 : Nat) : Int)) = true := decide_eq_true (by omega)
      have hp : getF l = ([], 8) := by unfold getF; rw [if_neg h256, if_pos h4]
      rw [hp]
      simp (maxSteps := 2000000) (disch := first | omega | assumption | (simp only [DS, Nat.reduceAdd, *]; done) | (simp only [DZ]; omega)) only [RUN, RU, footA, feetIn, resultsA, tupOf, frzL, slot, lay, icyL, fillA, repCells, kR, reduceIte, Nat.reduceEqDiff, Nat.reduceBEq, Nat.reduceLT, Nat.reduceAdd, Nat.reduceLeDiff, Nat.reduceSub, Nat.reduceMul, Int.reduceLT, Int.reduceLE, Int.reduceEq, Int.reduceAdd, Int.reduceSub, Int.reduceMul, h0, ll, lr, q1, tm, q2, vRem]
      exact ⟨_, .inl ⟨rfl, rfl⟩, rfl⟩
    have q2 : decide ((0 : Int) < ((l.length % 4 : Nat) : Int)) = false := decide_eq_false (by omega)
    simp (maxSteps := 2000000) (disch := first | omega | assumption | (simp only [DS, Nat.reduceAdd, *]; done) | (simp only [DZ]; omega)) only [RUN, RU, footA, feetIn, resultsA, tupOf, frzL, slot, lay, icyL, fillA, repCells, kR, reduceIte, Nat.reduceEqDiff, Nat.reduceBEq, Nat.reduceLT, Nat.reduceAdd, Nat.reduceLeDiff, Nat.reduceSub, Nat.reduceMul, Int.reduceLT, Int.reduceLE, Int.reduceEq, Int.reduceAdd, Int.reduceSub, Int.reduceMul, h0, ll, lr, q1, tm, q2, vRem, hlf]
    refine w_range (g := 37) (first := []) (cap := [.ptr 1 0, .ptr 2 0]) (by simp (maxSteps := 2000000) (disch := first | omega | assumption | (simp only [DS, Nat.reduceAdd, *]; done) | (simp only [DZ]; omega)) only [RUN, RU, footA, feetIn, resultsA, tupOf, frzL, slot, lay, icyL, fillA, repCells, kR, reduceIte, Nat.reduceEqDiff, Nat.reduceBEq, Nat.reduceLT, Nat.reduceAdd, Nat.reduceLeDiff, Nat.reduceSub, Nat.reduceMul, Int.reduceLT, Int.reduceLE, Int.reduceEq, Int.reduceAdd, Int.reduceSub, Int.reduceMul]) (by simp (maxSteps := 2000000) (disch := first | omega | assumption | (simp only [DS, Nat.reduceAdd, *]; done) | (simp only [DZ]; omega)) only [RUN, RU, footA, feetIn, resultsA, tupOf, frzL, slot, lay, icyL, fillA, repCells, kR, reduceIte, Nat.reduceEqDiff, Nat.reduceBEq, Nat.reduceLT, Nat.reduceAdd, Nat.reduceLeDiff, Nat.reduceSub, Nat.reduceMul, Int.reduceLT, Int.reduceLE, Int.reduceEq, Int.reduceAdd, Int.reduceSub, Int.reduceMul]) ?_
    refine chunk1_go (d := d + 3) (a := a) hS h4 (by omega) (by omega) (by simp (maxSteps := 2000000) (disch := first | omega | assumption | (simp only [DS, Nat.reduceAdd, *]; done) | (simp only [DZ]; omega)) only [RUN, RU, footA, feetIn, resultsA, tupOf, frzL, slot, lay, icyL, fillA, repCells, kR, reduceIte, Nat.reduceEqDiff, Nat.reduceBEq, Nat.reduceLT, Nat.reduceAdd, Nat.reduceLeDiff, Nat.reduceSub, Nat.reduceMul, Int.reduceLT, Int.reduceLE, Int.reduceEq, Int.reduceAdd, Int.reduceSub, Int.reduceMul]) (by rw [St_len]; exact ht) (fun u o N wN lN n1 nm hno n3 n4 => ?_)
    refine ⟨wN, by simp only [add_size, mem0_size]; omega, _, _, _, _, _, n4, ?_⟩
    have hp : getF l = if chk (nums l) ≠ 0 then ([], chk (nums l)) else (nums l, 0) := by unfold getF; rw [if_neg h256, if_neg (by omega)]
    refine tail_get hp (by rw [nums_len]; omega) hf (by simp (maxSteps := 2000000) (disch := first | omega | assumption | (simp only [DS, Nat.reduceAdd, *]; done) | (simp only [DZ]; omega)) only [RUN, RU, footA, feetIn, resultsA, tupOf, frzL, slot, lay, icyL, fillA, repCells, kR, reduceIte, Nat.reduceEqDiff, Nat.reduceBEq, Nat.reduceLT, Nat.reduceAdd, Nat.reduceLeDiff, Nat.reduceSub, Nat.reduceMul, Int.reduceLT, Int.reduceLE, Int.reduceEq, Int.reduceAdd, Int.reduceSub, Int.reduceMul]) (by rw [St_len]; exact ht) (wN.upd _ _) (by rw [upd_size]; exact lN) ?_ (nm.keep fun j hj => ?_) hno ?_
    · rw [get_upd_ne wN _ _ _ (by simp only [add_size, mem0_size]; omega)]; exact n1
    · have := hno j hj
      rw [get_upd_ne wN _ _ _ (by simp only [add_size, mem0_size]; omega)]
    · rw [get_upd_ne wN _ _ _ (by simp only [add_size, mem0_size]; omega)]; exact n3
  obtain ⟨r', N, hk, r, hr, rfl⟩ := key
  exact ⟨r, hr, fun M => call_own tf12 rfl hk (ic mem0) (ic M)⟩
end Go.Proofs.Ytlccfbaibcdodaa
