/-
  The references' Great, TwinOps (in the caller's memory).
-/
import Derived.Test.YtggbpfdbcibifaaSwR
import Derived.Test.YtggbpfdbcibifaaEe
set_option linter.unusedSimpArgs false
set_option linter.unusedVariables false
set_option maxRecDepth 100000
namespace Go.Proofs.Ytggbpfdbcibifaa
open Go Go.Ax
variable {fuel : Nat} {M : Mem} {Q : AV → Mem → Prop} {d : Nat} {l : List Op} {a : AV}

def wO (o : Op) : Int := imax (imin (imax o.sp.n 0) 100) (imin (o.rs.length : Int) 1000)
def sumW (l : List Op) : Int := (l.map wO).sum
def greatB (l : List Op) (many : Int) : Bool := decide (many < l.length) || decide (300 < sumW (l.take 300))
theorem wO_pos (o : Op) : 0 ≤ wO o ∧ wO o ≤ 1000 ∧ ((o.rs.length : Int) ≤ wO o ∨ 1000 ≤ wO o) := by
  unfold wO imax imin
  repeat' split
  all_goals omega
theorem sumW_snoc (l : List Op) (o : Op) : sumW (l ++ [o]) = sumW l + wO o := by unfold sumW; simp
theorem sumW_pos : ∀ (l : List Op), 0 ≤ sumW l ∧ sumW l ≤ 1000 * l.length
  | [] => by simp [sumW]
  | o :: l => by
    have h1 := sumW_pos l
    have h2 := wO_pos o
    unfold sumW at *
    simp only [List.map_cons, List.sum_cons, List.length_cons]
    omega
theorem sumW_mem : ∀ (l : List Op) (o : Op), o ∈ l → wO o ≤ sumW l
  | [], _, h => by cases h
  | p :: l, o, h => by
    have h1 := sumW_pos l
    have h2 := wO_pos p
    rcases List.mem_cons.1 h with rfl | h
    · unfold sumW at *; simp only [List.map_cons, List.sum_cons]; omega
    · have := sumW_mem l o h
      unfold sumW at *; simp only [List.map_cons, List.sum_cons]; omega
theorem great_small {many : Int} (hm : many ≤ 300) (h : greatB l many = false) : (l.length : Int) ≤ many ∧ ∀ o ∈ l, o.rs.length ≤ 300 := by
  unfold greatB at h
  simp only [Bool.or_eq_false_iff, decide_eq_false_iff_not] at h
  refine ⟨by omega, fun o ho => ?_⟩
  have ht : l.take 300 = l := List.take_of_length_le (by omega)
  rw [ht] at h
  have := sumW_mem l o ho
  have := wO_pos o
  omega
set_option maxHeartbeats 4000000 in
theorem great_run {many : Int} (hS : Sl 17 isOp a l) (hf : 400 < fuel) (M : Mem) : callN Try.prog (fsT tbl) fuel (d + 1) (.fn 10) [a, I64 many] M = some (BL (greatB l many), M) := by
  have ll := hS.len
  apply w3_eq
  refine call_gc tf10 rfl (by simp only [icyL, fun M => hS.icy M 12 (by omega), icy12]) (by simp [a10]) fun b' ht hx => ?_
  have h0 := hx 0 _ rfl
  have h1 := hx 1 _ rfl
  clear hx
  simp only [a10, c10] at ht ⊢
  unfold greatB
  simp (maxSteps := 2000000) (disch := first | omega | assumption | (simp only [DS, Nat.reduceAdd, *]; done) | (simp only [DZ]; omega)) only [RUN, RU, footA, feetIn, resultsA, tupOf, frzL, slot, lay, icyL, fillA, repCells, kR, reduceIte, Nat.reduceEqDiff, Nat.reduceBEq, Nat.reduceLT, Nat.reduceAdd, Nat.reduceLeDiff, Nat.reduceSub, Nat.reduceMul, Int.reduceLT, Int.reduceLE, Int.reduceEq, Int.reduceAdd, Int.reduceSub, Int.reduceMul, h0, h1, ll, hS.fz.rows, hS.fz.one, hS.fz.cells, hS.fz.icy, hS.fz.frz]
  refine w_loop (I := fun n t N => ∃ (i : Nat), n = 300 - i ∧ i ≤ 300 ∧ nth undefA t 0 = a ∧ nth undefA t 1 = I64 many ∧ nth undefA t 5 = I64 (sumW (l.take i)) ∧ nth undefA t 6 = I64 i ∧ N = mem0 ∧ i ≤ l.length) (n := 300) (by omega) ?_ ?_
  · refine ⟨0, rfl, Nat.zero_le _, ?_, ?_, ?_, ?_, rfl, Nat.zero_le _⟩ <;> simp (maxSteps := 2000000) (disch := first | omega | assumption | (simp only [DS, Nat.reduceAdd, *]; done) | (simp only [DZ]; omega)) only [RUN, RU, footA, feetIn, resultsA, tupOf, frzL, slot, lay, icyL, fillA, repCells, kR, reduceIte, Nat.reduceEqDiff, Nat.reduceBEq, Nat.reduceLT, Nat.reduceAdd, Nat.reduceLeDiff, Nat.reduceSub, Nat.reduceMul, Int.reduceLT, Int.reduceLE, Int.reduceEq, Int.reduceAdd, Int.reduceSub, Int.reduceMul, h0, h1]
    all_goals first | rfl | assumption | done
  · rintro n t N hlt ⟨i, rfl, hi, g0, g1, g5, g6, hm, hil⟩
    simp only [ht] at hlt ⊢
    subst hm
    by_cases hc : i < l.length
    · have q1 : decide ((i : Int) < l.length) = true := decide_eq_true (by omega)
      by_cases hc3 : i < 300
      · have q2 : decide ((i : Int) < 300) = true := decide_eq_true (by omega)
        have w1 : IntKind.i64.wrap ((i : Int) + 1) = ((i + 1 : Nat) : Int) := by rw [wrap_i64] <;> omega
        obtain ⟨r, hiad, hr, hrl⟩ := hS.iad i hc
        have hsn := sumW_snoc (l.take i) l[i]
        rw [← take_snoc l i hc] at hsn
        have hps := sumW_pos (l.take i)
        rw [List.length_take] at hps
        have hwo := wO_pos l[i]
        generalize l[i] = e at *
        obtain ⟨ra, rfl, hra, hok⟩ := hr
        have lra := hra.len
        have w2 : IntKind.i64.wrap (sumW (l.take i) + wO e) = sumW (l.take (i + 1)) := by rw [hsn]; exact wrap_i64 (by omega) (by omega)
        simp (maxSteps := 2000000) (disch := first | omega | assumption | (simp only [DS, Nat.reduceAdd, *]; done) | (simp only [DZ]; omega)) only [RUN, RU, footA, feetIn, resultsA, tupOf, frzL, slot, lay, icyL, fillA, repCells, kR, reduceIte, Nat.reduceEqDiff, Nat.reduceBEq, Nat.reduceLT, Nat.reduceAdd, Nat.reduceLeDiff, Nat.reduceSub, Nat.reduceMul, Int.reduceLT, Int.reduceLE, Int.reduceEq, Int.reduceAdd, Int.reduceSub, Int.reduceMul, g0, g1, g5, g6, ll, hS.fz.rows, hS.fz.one, hS.fz.cells, hS.fz.icy, hS.fz.frz, q1, q2, w1, hiad, lra, pB_max2, pB_min2, pB_max3, BMM, w2]
        refine ⟨hlt, 300 - (i + 1), by omega, i + 1, rfl, by omega, ?_, rfl, by omega⟩
        show AV.sc (.int .i64 (IntKind.i64.wrap (sumW (l.take i) + wO e))) = I64 _
        rw [w2]
      · have q2 : decide ((i : Int) < 300) = false := decide_eq_false (by omega)
        obtain rfl : i = 300 := by omega
        cases q3 : decide (many < (l.length : Int))
        all_goals simp (maxSteps := 2000000) (disch := first | omega | assumption | (simp only [DS, Nat.reduceAdd, *]; done) | (simp only [DZ]; omega)) only [RUN, RU, footA, feetIn, resultsA, tupOf, frzL, slot, lay, icyL, fillA, repCells, kR, reduceIte, Nat.reduceEqDiff, Nat.reduceBEq, Nat.reduceLT, Nat.reduceAdd, Nat.reduceLeDiff, Nat.reduceSub, Nat.reduceMul, Int.reduceLT, Int.reduceLE, Int.reduceEq, Int.reduceAdd, Int.reduceSub, Int.reduceMul, g0, g1, g5, g6, ll, hS.fz.rows, hS.fz.one, hS.fz.cells, hS.fz.icy, hS.fz.frz, q1, q2, q3, Bool.false_or, Bool.true_or]
    · have q1 : decide ((i : Int) < l.length) = false := decide_eq_false (by omega)
      obtain rfl : i = l.length := by omega
      have et : l.take 300 = l.take l.length := by rw [List.take_of_length_le (Nat.le_refl _), List.take_of_length_le (by omega)]
      rw [et]
      cases q3 : decide (many < (l.length : Int))
      all_goals simp (maxSteps := 2000000) (disch := first | omega | assumption | (simp only [DS, Nat.reduceAdd, *]; done) | (simp only [DZ]; omega)) only [RUN, RU, footA, feetIn, resultsA, tupOf, frzL, slot, lay, icyL, fillA, repCells, kR, reduceIte, Nat.reduceEqDiff, Nat.reduceBEq, Nat.reduceLT, Nat.reduceAdd, Nat.reduceLeDiff, Nat.reduceSub, Nat.reduceMul, Int.reduceLT, Int.reduceLE, Int.reduceEq, Int.reduceAdd, Int.reduceSub, Int.reduceMul, g0, g1, g5, g6, ll, hS.fz.rows, hS.fz.one, hS.fz.cells, hS.fz.icy, hS.fz.frz, q1, q3, Bool.false_or, Bool.true_or]
/-! ### Copies -/
theorem twin9_0 {o : Op} {ra : AV} (hS : Sl 1 isI32 ra o.rs) (hl : o.rs.length ≤ 1000000000) (wf : Wf M) (hw : M.wm ≤ M.size) (k : ∀ a' N, Wf N → M.size ≤ N.size → (∀ j, j < M.size → N.get j = M.get j) → SlM N 1 isI32 a' o.rs → (∀ id, rowOf a' = some id → M.size ≤ id) → N.wm = M.wm → Q (.agg (opR o a')) N) :
    W3 (callN Try.prog (fsT tbl) fuel (d + 1) (.fn 24) [.agg (opR o ra)] M) Q := by
  have ora := hS.one
  have hwf := wf
  refine call_0 tf24 rfl (by simp [a24]) fun b' ht hx => ?_
  have h0 := hx 0 _ rfl
  clear hx
  simp only [a24, c24] at ht ⊢
  simp (maxSteps := 2000000) (disch := first | omega | assumption | (simp only [DS, Nat.reduceAdd, *]; done) | (simp only [DZ]; omega)) only [RUN, RU, footA, feetIn, resultsA, tupOf, frzL, slot, lay, icyL, fillA, repCells, kR, reduceIte, Nat.reduceEqDiff, Nat.reduceBEq, Nat.reduceLT, Nat.reduceAdd, Nat.reduceLeDiff, Nat.reduceSub, Nat.reduceMul, Int.reduceLT, Int.reduceLE, Int.reduceEq, Int.reduceAdd, Int.reduceSub, Int.reduceMul, h0, hS.fz.rows, hS.fz.one, hS.fz.cells, hS.fz.icy, hS.fz.frz, wf]
  refine w3_app (by simp (maxSteps := 2000000) (disch := first | omega | assumption | (simp only [DS, Nat.reduceAdd, *]; done) | (simp only [DZ]; omega)) only [RUN, RU, footA, feetIn, resultsA, tupOf, frzL, slot, lay, icyL, fillA, repCells, kR, reduceIte, Nat.reduceEqDiff, Nat.reduceBEq, Nat.reduceLT, Nat.reduceAdd, Nat.reduceLeDiff, Nat.reduceSub, Nat.reduceMul, Int.reduceLT, Int.reduceLE, Int.reduceEq, Int.reduceAdd, Int.reduceSub, Int.reduceMul, wf]) SlM.nil fz_I32.cel hS (by omega) (by simp; omega) (by simp; omega) fun a' N m' w' le' sz' kp' nw' wm' rl' on' oc' => ?_
  simp only [add_size] at le' kp' nw'
  rw [List.nil_append] at m'
  have g0 : N.get M.size = some (.row false (opR o ra)) := by rw [kp' _ (by omega) (by simp [rowOf])]; simp (maxSteps := 2000000) (disch := first | omega | assumption | (simp only [DS, Nat.reduceAdd, *]; done) | (simp only [DZ]; omega)) only [RUN, RU, footA, feetIn, resultsA, tupOf, frzL, slot, lay, icyL, fillA, repCells, kR, reduceIte, Nat.reduceEqDiff, Nat.reduceBEq, Nat.reduceLT, Nat.reduceAdd, Nat.reduceLeDiff, Nat.reduceSub, Nat.reduceMul, Int.reduceLT, Int.reduceLE, Int.reduceEq, Int.reduceAdd, Int.reduceSub, Int.reduceMul, wf]
  have g1 : N.get (M.size + 1) = some (.row false (opR ⟨0, Hd.z, 0, ⟨Eid.z, 0⟩, Eid.z, Lb.z, []⟩ NIL)) := by rw [kp' _ (by omega) (by simp [rowOf])]; simp (maxSteps := 2000000) (disch := first | omega | assumption | (simp only [DS, Nat.reduceAdd, *]; done) | (simp only [DZ]; omega)) only [RUN, RU, footA, feetIn, resultsA, tupOf, frzL, slot, lay, icyL, fillA, repCells, kR, reduceIte, Nat.reduceEqDiff, Nat.reduceBEq, Nat.reduceLT, Nat.reduceAdd, Nat.reduceLeDiff, Nat.reduceSub, Nat.reduceMul, Int.reduceLT, Int.reduceLE, Int.reduceEq, Int.reduceAdd, Int.reduceSub, Int.reduceMul, wf]
  have nr : ∀ id, rowOf a' = some id → M.size + 2 ≤ id := fun id h => by
    rcases nw' id h with h' | h'
    · cases h'
    · omega
  have z0 : M.size < N.size := by omega
  have z1 : M.size + 1 < N.size := by omega
  simp (maxSteps := 2000000) (disch := first | omega | assumption | (simp only [DS, Nat.reduceAdd, *]; done) | (simp only [DZ]; omega)) only [RUN, RU, footA, feetIn, resultsA, tupOf, frzL, slot, lay, icyL, fillA, repCells, kR, reduceIte, Nat.reduceEqDiff, Nat.reduceBEq, Nat.reduceLT, Nat.reduceAdd, Nat.reduceLeDiff, Nat.reduceSub, Nat.reduceMul, Int.reduceLT, Int.reduceLE, Int.reduceEq, Int.reduceAdd, Int.reduceSub, Int.reduceMul, h0, w', g0, g1, on', oc', z0, z1]
  refine k a' _ ((w'.upd _ _).upd _ _) (by simp only [upd_size]; omega) (fun j hj => ?_) (m'.keep fun j hj => ?_) (fun id h => by have := nr id h; omega) wm'
  · rw [get_upd_ne (w'.upd _ _) _ _ _ (by omega), get_upd_ne w' _ _ _ (by omega), kp' j (by omega) (by simp [rowOf]), get_add (wf.add _) _ _ (by rw [add_size]; omega), get_add wf _ _ hj]
  · have := nr j hj
    rw [get_upd_ne (w'.upd _ _) _ _ _ (by omega), get_upd_ne w' _ _ _ (by omega)]
set_option maxHeartbeats 8000000 in
theorem twinops_0 (hS : Sl 17 isOp a l) (hl : l.length ≤ 100000) (hd : ∀ o ∈ l, o.rs.length ≤ 1000000000) (hf : l.length + 100 < fuel) (wf : Wf M) (hw : M.wm ≤ M.size)
    (k : ∀ out N, Wf N → M.size ≤ N.size → (∀ j, j < M.size → N.get j = M.get j) → opK.ND N M.size out l → N.wm = M.wm → Q out N) :
    W3 (callN Try.prog (fsT tbl) fuel (d + 2) (.fn 13) [a] M) Q := by
  have ll := hS.len
  refine call_0 tf13 rfl (by simp [a13]) fun b' ht hx => ?_
  have h0 := hx 0 _ rfl
  clear hx
  simp only [a13, c13] at ht ⊢
  simp (maxSteps := 2000000) (disch := first | omega | assumption | (simp only [DS, Nat.reduceAdd, *]; done) | (simp only [DZ]; omega)) only [RUN, RU, footA, feetIn, resultsA, tupOf, frzL, slot, lay, icyL, fillA, repCells, kR, reduceIte, Nat.reduceEqDiff, Nat.reduceBEq, Nat.reduceLT, Nat.reduceAdd, Nat.reduceLeDiff, Nat.reduceSub, Nat.reduceMul, Int.reduceLT, Int.reduceLE, Int.reduceEq, Int.reduceAdd, Int.reduceSub, Int.reduceMul, h0, ll, hS.fz.rows, hS.fz.one, hS.fz.cells, hS.fz.icy, hS.fz.frz]
  refine w_loop (I := fun n t N => ∃ (i : Nat) (out : AV), n = l.length - i ∧ i ≤ l.length ∧ nth undefA t 0 = a ∧ nth undefA t 3 = out ∧ nth undefA t 4 = I64 i ∧ Wf N ∧ M.size ≤ N.size ∧ (∀ j, j < M.size → N.get j = M.get j) ∧ N.wm = M.wm ∧ opK.ND N M.size out (l.take i)) (n := l.length) (by omega) ?_ ?_
  · refine ⟨0, NIL, rfl, Nat.zero_le _, ?_, ?_, ?_, wf, Nat.le_refl _, fun _ _ => rfl, rfl, NK.ND.nil _ _⟩ <;> simp (maxSteps := 2000000) (disch := first | omega | assumption | (simp only [DS, Nat.reduceAdd, *]; done) | (simp only [DZ]; omega)) only [RUN, RU, footA, feetIn, resultsA, tupOf, frzL, slot, lay, icyL, fillA, repCells, kR, reduceIte, Nat.reduceEqDiff, Nat.reduceBEq, Nat.reduceLT, Nat.reduceAdd, Nat.reduceLeDiff, Nat.reduceSub, Nat.reduceMul, Int.reduceLT, Int.reduceLE, Int.reduceEq, Int.reduceAdd, Int.reduceSub, Int.reduceMul, h0, ll]
    all_goals first | rfl | assumption | done
  · rintro n t N hlt ⟨i, out, rfl, hi, g0, g3, g4, w, sz, kp, wm, hN⟩
    simp only [ht] at hlt ⊢
    have hNN := hN.nn
    have oo := hNN.one
    have oc := hNN.cells
    by_cases hc : i < l.length
    · have q3 : decide ((i : Int) < l.length) = true := decide_eq_true (by omega)
      have w1 : IntKind.i64.wrap ((i : Int) + 1) = ((i + 1 : Nat) : Int) := by rw [wrap_i64] <;> omega
      obtain ⟨r, hiad, hr, hrl⟩ := hS.iad i hc
      have hsn := take_snoc l i hc
      have hlo := hd l[i] (List.getElem_mem hc)
      generalize l[i] = e at *
      obtain ⟨ra, rfl, hra, hok⟩ := hr
      have ora := hra.one
      simp (maxSteps := 2000000) (disch := first | omega | assumption | (simp only [DS, Nat.reduceAdd, *]; done) | (simp only [DZ]; omega)) only [RUN, RU, footA, feetIn, resultsA, tupOf, frzL, slot, lay, icyL, fillA, repCells, kR, reduceIte, Nat.reduceEqDiff, Nat.reduceBEq, Nat.reduceLT, Nat.reduceAdd, Nat.reduceLeDiff, Nat.reduceSub, Nat.reduceMul, Int.reduceLT, Int.reduceLE, Int.reduceEq, Int.reduceAdd, Int.reduceSub, Int.reduceMul, g0, g3, g4, ll, hS.fz.rows, hS.fz.one, hS.fz.cells, hS.fz.icy, hS.fz.frz, q3, hiad, hra.fz.rows, hra.fz.one, hra.fz.cells, hra.fz.icy, hra.fz.frz, w, oo, oc]
      refine twin9_0 (d := d) hra hlo w (by omega) fun a' N2 w2 le2 kp2 sm2 nw2 wm2 => ?_
      have oa2 := sm2.one
      have ca2 := sm2.cells
      have rl2 := rows_lt sm2.rl (Nat.le_refl N2.size)
      have rr2 := hNN.rows (show N.size ≤ N2.size + 1 by omega)
      have hli : (l.take i).length ≤ i := by rw [List.length_take]; omega
      simp (maxSteps := 2000000) (disch := first | omega | assumption | (simp only [DS, Nat.reduceAdd, *]; done) | (simp only [DZ]; omega)) only [RUN, RU, footA, feetIn, resultsA, tupOf, frzL, slot, lay, icyL, fillA, repCells, kR, reduceIte, Nat.reduceEqDiff, Nat.reduceBEq, Nat.reduceLT, Nat.reduceAdd, Nat.reduceLeDiff, Nat.reduceSub, Nat.reduceMul, Int.reduceLT, Int.reduceLE, Int.reduceEq, Int.reduceAdd, Int.reduceSub, Int.reduceMul, g0, g3, g4, w2, oa2, ca2, oo, oc, rl2, rr2]
      refine NK.ND.app (K := opK) (M := N) (B := M.size) (l := l.take i) (x := e) (ra := a') w2 hN (fun j a b => kp2 j b) le2 ⟨rfl, oa2, ca2⟩ ⟨sm2, fun j hj => by have := nw2 j hj; omega, hok⟩ nw2 (by omega) (by omega) (by omega) fun o' M' hN' w' le' kp' nw' wm' => ?_
      simp (maxSteps := 2000000) (disch := first | omega | assumption | (simp only [DS, Nat.reduceAdd, *]; done) | (simp only [DZ]; omega)) only [RUN, RU, footA, feetIn, resultsA, tupOf, frzL, slot, lay, icyL, fillA, repCells, kR, reduceIte, Nat.reduceEqDiff, Nat.reduceBEq, Nat.reduceLT, Nat.reduceAdd, Nat.reduceLeDiff, Nat.reduceSub, Nat.reduceMul, Int.reduceLT, Int.reduceLE, Int.reduceEq, Int.reduceAdd, Int.reduceSub, Int.reduceMul, g0, g3, g4, w1]
      exact ⟨hlt, l.length - (i + 1), by omega, i + 1, o', rfl, by omega, rfl, rfl, w', by omega, fun j hj => by rw [kp' j (by omega) (fun h => by have := hNN.lt j h; omega), kp2 j (by omega)]; exact kp j hj, by rw [wm', wm2]; exact wm, by rw [hsn]; exact hN'⟩
    · obtain rfl : i = l.length := by omega
      have q3 : decide ((l.length : Int) < l.length) = false := decide_eq_false (by omega)
      rw [List.take_length] at hN
      simp (maxSteps := 2000000) (disch := first | omega | assumption | (simp only [DS, Nat.reduceAdd, *]; done) | (simp only [DZ]; omega)) only [RUN, RU, footA, feetIn, resultsA, tupOf, frzL, slot, lay, icyL, fillA, repCells, kR, reduceIte, Nat.reduceEqDiff, Nat.reduceBEq, Nat.reduceLT, Nat.reduceAdd, Nat.reduceLeDiff, Nat.reduceSub, Nat.reduceMul, Int.reduceLT, Int.reduceLE, Int.reduceEq, Int.reduceAdd, Int.reduceSub, Int.reduceMul, g0, g3, g4, ll, hS.fz.rows, hS.fz.one, hS.fz.cells, hS.fz.icy, hS.fz.frz, q3]
      exact k _ _ w sz kp hN wm
end Go.Proofs.Ytggbpfdbcibifaa
