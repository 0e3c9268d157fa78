/-
  Operations: Twin; a span's ids.
-/
import Derived.Test.YtimimdjpmcmpnaaSaH
import Derived.Test.YtimimdjpmcmpnaaSaC
import Derived.Test.YtimimdjpmcmpnaaEf
set_option linter.unusedSimpArgs false
set_option linter.unusedVariables false
set_option maxRecDepth 100000
namespace Go.Proofs.Ytimimdjpmcmpnaa
open Go Go.Ax
variable {fuel : Nat} {M : Mem} {Q : AV → Mem → Prop} {d : Nat}

theorem optwin_0 {o : Op} {ra : AV} (hS : Sl 1 isI32 ra o.rs) (hl : o.rs.length ≤ 1000000000) (wf : Wf M) (hw : M.wm ≤ M.size) (k : ∀ a' N, Kept M N → SlM N 1 isI32 a' o.rs → (∀ id, rowOf a' = some id → M.size ≤ id) → Q (.agg (opR o a')) N) :
    W3 (callN Try.prog (fsT tbl) fuel (d + 2) (.fn 16) [.agg (opR o ra)] M) Q := by
  refine call_0 tf16 rfl (by simp [a16]) fun b' ht hx => ?_
  have h0 := hx 0 _ rfl
  clear hx
  simp only [a16, c16] at ht ⊢
  simp (maxSteps := 2000000) (disch := first | omega | assumption | (simp only [DS, Nat.reduceAdd, *]; done) | (simp only [DZ]; omega)) only [RUN, RU, footA, feetIn, resultsA, tupOf, frzL, slot, lay, icyL, fillA, repCells, kR, reduceIte, Nat.reduceEqDiff, Nat.reduceBEq, Nat.reduceLT, Nat.reduceAdd, Nat.reduceLeDiff, Nat.reduceSub, Nat.reduceMul, Int.reduceLT, Int.reduceLE, Int.reduceEq, Int.reduceAdd, Int.reduceSub, Int.reduceMul, h0, hS.fz.rows, hS.fz.one, hS.fz.cells, hS.fz.icy, hS.fz.frz, wf]
  refine rclone0 hS hl (by simp (maxSteps := 2000000) (disch := first | omega | assumption | (simp only [DS, Nat.reduceAdd, *]; done) | (simp only [DZ]; omega)) only [RUN, RU, footA, feetIn, resultsA, tupOf, frzL, slot, lay, icyL, fillA, repCells, kR, reduceIte, Nat.reduceEqDiff, Nat.reduceBEq, Nat.reduceLT, Nat.reduceAdd, Nat.reduceLeDiff, Nat.reduceSub, Nat.reduceMul, Int.reduceLT, Int.reduceLE, Int.reduceEq, Int.reduceAdd, Int.reduceSub, Int.reduceMul, wf]) fun a' M' wf' le' kp' sm' new' wm' di' => ?_
  simp only [add_size] at le' kp' new'
  have g0 : M'.get M.size = some (.row false (opR o ra)) := by rw [kp' _ (by omega)]; simp (maxSteps := 2000000) (disch := first | omega | assumption | (simp only [DS, Nat.reduceAdd, *]; done) | (simp only [DZ]; omega)) only [RUN, RU, footA, feetIn, resultsA, tupOf, frzL, slot, lay, icyL, fillA, repCells, kR, reduceIte, Nat.reduceEqDiff, Nat.reduceBEq, Nat.reduceLT, Nat.reduceAdd, Nat.reduceLeDiff, Nat.reduceSub, Nat.reduceMul, Int.reduceLT, Int.reduceLE, Int.reduceEq, Int.reduceAdd, Int.reduceSub, Int.reduceMul, wf]
  have g1 : M'.get (M.size + 1) = some (.row false (opR ⟨0, Hd.z, 0, ⟨Eid.z, 0⟩, Eid.z, Lb.z, []⟩ NIL)) := by rw [kp' _ (by omega)]; simp (maxSteps := 2000000) (disch := first | omega | assumption | (simp only [DS, Nat.reduceAdd, *]; done) | (simp only [DZ]; omega)) only [RUN, RU, footA, feetIn, resultsA, tupOf, frzL, slot, lay, icyL, fillA, repCells, kR, reduceIte, Nat.reduceEqDiff, Nat.reduceBEq, Nat.reduceLT, Nat.reduceAdd, Nat.reduceLeDiff, Nat.reduceSub, Nat.reduceMul, Int.reduceLT, Int.reduceLE, Int.reduceEq, Int.reduceAdd, Int.reduceSub, Int.reduceMul, wf]
  have oa := sm'.one
  have ca := sm'.cells
  have rl := rows_lt sm'.rl (Nat.le_refl M'.size)
  have z0 : M.size < M'.size := by omega
  have z1 : M.size + 1 < M'.size := by omega
  simp (maxSteps := 2000000) (disch := first | omega | assumption | (simp only [DS, Nat.reduceAdd, *]; done) | (simp only [DZ]; omega)) only [RUN, RU, footA, feetIn, resultsA, tupOf, frzL, slot, lay, icyL, fillA, repCells, kR, reduceIte, Nat.reduceEqDiff, Nat.reduceBEq, Nat.reduceLT, Nat.reduceAdd, Nat.reduceLeDiff, Nat.reduceSub, Nat.reduceMul, Int.reduceLT, Int.reduceLE, Int.reduceEq, Int.reduceAdd, Int.reduceSub, Int.reduceMul, h0, wf', g0, g1, oa, ca, z0, z1]
  have kM' : Kept M M' := ⟨wf', by omega, fun j hj => by rw [kp' j (by omega), get_add (wf.add _) _ _ (by rw [add_size]; omega), get_add wf _ _ hj], wm', di'⟩
  refine k a' _ ((kM'.upd hw (Nat.le_refl _) _).upd hw (by omega) _) (sm'.keep fun j hj => ?_) (fun id h => by have := new' id h; omega)
  have := new' j hj
  simp (maxSteps := 2000000) (disch := first | omega | assumption | (simp only [DS, Nat.reduceAdd, *]; done) | (simp only [DZ]; omega)) only [RUN, RU, footA, feetIn, resultsA, tupOf, frzL, slot, lay, icyL, fillA, repCells, kR, reduceIte, Nat.reduceEqDiff, Nat.reduceBEq, Nat.reduceLT, Nat.reduceAdd, Nat.reduceLeDiff, Nat.reduceSub, Nat.reduceMul, Int.reduceLT, Int.reduceLE, Int.reduceEq, Int.reduceAdd, Int.reduceSub, Int.reduceMul, wf']
/-- A span's ids. -/
def Spn.ids (s : Spn) : List Eid := (List.range s.n.toNat).map fun (i : Nat) => s.at i
theorem ids_ok {s : Spn} (hs : s.ok) (hm : s.may = true) (i : Nat) (hi : i < s.n.toNat) : (s.at i).ok := by
  have := Spn.may_le hm
  exact ⟨hs.1.1, by show -9223372036854775808 ≤ s.f.c + i; omega, by show s.f.c + i ≤ _; omega⟩
set_option maxHeartbeats 4000000 in
theorem names_run {s : Spn} (hs : s.ok) (hm : s.may = true) (hf : 100 < fuel) : ∃ r, Sl 4 isEid r s.ids ∧ ∀ M, callN Try.prog (fsT tbl) fuel (d + 6) (.fn 25) [spA s] M = some (r, M) := by
  have hb := Spn.may_le hm
  obtain ⟨m, hmn⟩ : ∃ m : Nat, s.n = m := ⟨s.n.toNat, by omega⟩
  have ei : s.ids = (List.range m).map fun (i : Nat) => s.at i := by unfold Spn.ids; rw [hmn]; rfl
  have hat := fun n M => @ids_at fuel d s n M
  simp only [hm, if_true] at hat
  rw [ei]
  refine gc_ex tf25 rfl (fun M => by simp only [icyL, fz_icyA (fz_spR s) (show 1 < 12 by omega)]) ?_
  refine call_gc tf25 rfl (by simp only [icyL, fz_icyA (fz_spR s) (show 1 < 12 by omega)]) (by simp [a25]) fun b' ht hx => ?_
  have h0 := hx 0 _ rfl
  clear hx
  simp only [a25, c25] at ht ⊢
  simp (maxSteps := 2000000) (disch := first | omega | assumption | (simp only [DS, Nat.reduceAdd, *]; done) | (simp only [DZ]; omega)) only [RUN, RU, footA, feetIn, resultsA, tupOf, frzL, slot, lay, icyL, fillA, repCells, kR, reduceIte, Nat.reduceEqDiff, Nat.reduceBEq, Nat.reduceLT, Nat.reduceAdd, Nat.reduceLeDiff, Nat.reduceSub, Nat.reduceMul, Int.reduceLT, Int.reduceLE, Int.reduceEq, Int.reduceAdd, Int.reduceSub, Int.reduceMul, h0, hmn]
  refine w_loop (I := fun n t N => ∃ (i : Nat) (o : AV), n = m - i ∧ i ≤ m ∧ nth undefA t 1 = .ptr 0 0 ∧ nth undefA t 2 = o ∧ nth undefA t 7 = I64 m ∧ nth undefA t 8 = I64 i ∧ Wf N ∧ N.get 0 = some (.row false (spR s)) ∧ SlM N 4 isEid o ((List.range i).map fun (j : Nat) => s.at j) ∧ (∀ j, rowOf o = some j → 0 < j)) (n := m) (by omega) ?_ ?_
  · refine ⟨0, NIL, rfl, Nat.zero_le _, ?_, ?_, ?_, ?_, Wf.mem0.add _, by simp (maxSteps := 2000000) (disch := first | omega | assumption | (simp only [DS, Nat.reduceAdd, *]; done) | (simp only [DZ]; omega)) only [RUN, RU, footA, feetIn, resultsA, tupOf, frzL, slot, lay, icyL, fillA, repCells, kR, reduceIte, Nat.reduceEqDiff, Nat.reduceBEq, Nat.reduceLT, Nat.reduceAdd, Nat.reduceLeDiff, Nat.reduceSub, Nat.reduceMul, Int.reduceLT, Int.reduceLE, Int.reduceEq, Int.reduceAdd, Int.reduceSub, Int.reduceMul], SlM.nil, (fun _ h => by cases h)⟩ <;> simp (maxSteps := 2000000) (disch := first | omega | assumption | (simp only [DS, Nat.reduceAdd, *]; done) | (simp only [DZ]; omega)) only [RUN, RU, footA, feetIn, resultsA, tupOf, frzL, slot, lay, icyL, fillA, repCells, kR, reduceIte, Nat.reduceEqDiff, Nat.reduceBEq, Nat.reduceLT, Nat.reduceAdd, Nat.reduceLeDiff, Nat.reduceSub, Nat.reduceMul, Int.reduceLT, Int.reduceLE, Int.reduceEq, Int.reduceAdd, Int.reduceSub, Int.reduceMul, h0, hmn]
    all_goals first | rfl | assumption | done
  · rintro n t N hlt ⟨i, o, rfl, hi, g1, g2, g7, g8, w, g, sm, ro⟩
    simp only [ht] at hlt ⊢
    by_cases hc : i < m
    · have q1 : decide ((i : Int) < m) = true := decide_eq_true (by omega)
      have hi' : ¬((i : Int) < 0 ∨ s.n ≤ i) := by omega
      have hat := fun M => hat i M
      simp only [hi', if_false] at hat
      have ok := ids_ok hs hm i (by omega)
      have lN := Mem.get_lt g
      have w1 : IntKind.i64.wrap ((i : Int) + 1) = ((i + 1 : Nat) : Int) := by rw [wrap_i64] <;> omega
      have oo := sm.one
      have co := sm.cells
      simp (maxSteps := 2000000) (disch := first | omega | assumption | (simp only [DS, Nat.reduceAdd, *]; done) | (simp only [DZ]; omega)) only [RUN, RU, footA, feetIn, resultsA, tupOf, frzL, slot, lay, icyL, fillA, repCells, kR, reduceIte, Nat.reduceEqDiff, Nat.reduceBEq, Nat.reduceLT, Nat.reduceAdd, Nat.reduceLeDiff, Nat.reduceSub, Nat.reduceMul, Int.reduceLT, Int.reduceLE, Int.reduceEq, Int.reduceAdd, Int.reduceSub, Int.reduceMul, g1, g2, g7, g8, q1, w, g, hat, oo, co]
      refine ⟨rows_lt sm.rl (by omega), ?_⟩
      refine app1 ((w.add _).upd _ _) (sm.keep fun j hj => ?_) fz_Eid (x := s.at i) ⟨rfl, ok⟩ rfl (by omega) (by simp; omega) (by simp; omega) fun o' M' m' w' le' kp' nw' wm' rl' on' oc' => ?_
      · have := sm.lt j hj
        simp (maxSteps := 2000000) (disch := first | omega | assumption | (simp only [DS, Nat.reduceAdd, *]; done) | (simp only [DZ]; omega)) only [RUN, RU, footA, feetIn, resultsA, tupOf, frzL, slot, lay, icyL, fillA, repCells, kR, reduceIte, Nat.reduceEqDiff, Nat.reduceBEq, Nat.reduceLT, Nat.reduceAdd, Nat.reduceLeDiff, Nat.reduceSub, Nat.reduceMul, Int.reduceLT, Int.reduceLE, Int.reduceEq, Int.reduceAdd, Int.reduceSub, Int.reduceMul, w]
      simp only [upd_size, add_size] at le' kp' nw'
      simp (maxSteps := 2000000) (disch := first | omega | assumption | (simp only [DS, Nat.reduceAdd, *]; done) | (simp only [DZ]; omega)) only [RUN, RU, footA, feetIn, resultsA, tupOf, frzL, slot, lay, icyL, fillA, repCells, kR, reduceIte, Nat.reduceEqDiff, Nat.reduceBEq, Nat.reduceLT, Nat.reduceAdd, Nat.reduceLeDiff, Nat.reduceSub, Nat.reduceMul, Int.reduceLT, Int.reduceLE, Int.reduceEq, Int.reduceAdd, Int.reduceSub, Int.reduceMul, g1, g2, g7, g8, w1]
      refine ⟨hlt, m - (i + 1), by omega, i + 1, o', rfl, by omega, rfl, rfl, w', ?_, ?_, fun j hj => ?_⟩
      · rw [kp' 0 (by omega) (fun e => by have := ro 0 e; omega)]
        simp (maxSteps := 2000000) (disch := first | omega | assumption | (simp only [DS, Nat.reduceAdd, *]; done) | (simp only [DZ]; omega)) only [RUN, RU, footA, feetIn, resultsA, tupOf, frzL, slot, lay, icyL, fillA, repCells, kR, reduceIte, Nat.reduceEqDiff, Nat.reduceBEq, Nat.reduceLT, Nat.reduceAdd, Nat.reduceLeDiff, Nat.reduceSub, Nat.reduceMul, Int.reduceLT, Int.reduceLE, Int.reduceEq, Int.reduceAdd, Int.reduceSub, Int.reduceMul, w, g]
      · rw [List.range_succ, List.map_append]; exact m'
      · rcases nw' j hj with h | h
        · exact ro j h
        · omega
    · obtain rfl : i = m := by omega
      have q1 : decide ((i : Int) < i) = false := decide_eq_false (by omega)
      obtain ⟨rr, hz, hr⟩ := sm.frz fz_Eid.cel (k := 12) (by omega)
      simp (maxSteps := 2000000) (disch := first | omega | assumption | (simp only [DS, Nat.reduceAdd, *]; done) | (simp only [DZ]; omega)) only [RUN, RU, footA, feetIn, resultsA, tupOf, frzL, slot, lay, icyL, fillA, repCells, kR, reduceIte, Nat.reduceEqDiff, Nat.reduceBEq, Nat.reduceLT, Nat.reduceAdd, Nat.reduceLeDiff, Nat.reduceSub, Nat.reduceMul, Int.reduceLT, Int.reduceLE, Int.reduceEq, Int.reduceAdd, Int.reduceSub, Int.reduceMul, g1, g2, g7, g8, q1, hz]
      exact ⟨rr, hr, rfl⟩
end Go.Proofs.Ytimimdjpmcmpnaa
