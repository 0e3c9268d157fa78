/-
  link: which items are acknowledged.
-/
import Derived.Test.YtbemomagabjbnaaLoD
set_option linter.unusedSimpArgs false
set_option linter.unusedVariables false
set_option maxRecDepth 100000
namespace Go.Proofs.Ytbemomagabjbnaa
open Go Go.Ax
variable {fuel : Nat} {M : Mem} {Q : AV → Mem → Prop} {d : Nat}

theorem gone_run {s : Int} {ab : AV} {l : List UInt8} (hb : Bs ab l) {c : Nat} {ack : Int} (wf : Wf M) (hc : M.get c = some (.row false [I64 ack])) : callN Try.prog (fsT tbl) fuel (d + 1) (.fn 59) [.agg [I64 s, ab], .ptr c 0] M = some (BL (decide (s ≤ ack)), M.add (.row false [I64 s, ab])) := by
  have a1 := hb.one
  have ac := hb.cells
  have ra := hb.rows mem0
  have lc := Mem.get_lt hc
  have gc2 : (M.add (.row false [I64 s, ab])).get c = some (.row false [I64 ack]) := by rw [get_add wf _ _ lc]; exact hc
  have gs : (M.add (.row false [I64 s, ab])).get M.size = some (.row false [I64 s, ab]) := get_add_new wf _ _ (Nat.le_refl _) (by omega)
  have lcb : c.blt (M.size + 1) = true := blt_t (by omega)
  have lsb : M.size.blt (M.size + 1) = true := blt_t (by omega)
  apply w3_eq
  refine call_0 tf59 rfl (by simp [a59]) fun b ht hx => ?_
  have h0 := hx 0 _ rfl
  have h1 := hx 1 _ rfl
  clear hx
  simp only [a59, c59] at ht ⊢
  simp (maxSteps := 2000000) (disch := first | omega | assumption | (simp only [DS, Nat.reduceAdd, *]; done) | (simp only [DZ]; omega)) only [RUN, RU, footA, feetIn, resultsA, tupOf, frzL, slot, lay, icyL, fillA, repCells, kR, reduceIte, Nat.reduceEqDiff, Nat.reduceBEq, Nat.reduceLT, Nat.reduceAdd, Nat.reduceLeDiff, Nat.reduceSub, Nat.reduceMul, Int.reduceLT, Int.reduceLE, Int.reduceEq, Int.reduceAdd, Int.reduceSub, Int.reduceMul, h0, h1, a1, ac, ra, gc2, gs, lcb, lsb]

/-- Where the first item is that is acknowledged; -1 where there is none. -/
def gonePos (ack : Int) (out : List Item) : Int := if out.findIdx (fun x => decide (x.seq ≤ ack)) < out.length then ((out.findIdx fun x => decide (x.seq ≤ ack) : Nat) : Int) else -1

set_option maxHeartbeats 8000000 in
theorem index_run {o : AV} {out : List Item} {c : Nat} {ack : Int} (hS : SlM M 2 isItem o out) (hn : out.length ≤ 1000) (hf : 2000 < fuel) (wf : Wf M) (hc : M.get c = some (.row false [I64 ack]))
    (kk : ∀ N, Wf N → M.size ≤ N.size → (∀ j, j < M.size → N.get j = M.get j) → Q (I64 (gonePos ack out)) N) : W3 (callN Try.prog (fsT tbl) fuel (d + 2) (.fn 66) [o, .fn 59 [] [.ptr c 0]] M) Q := by
  have lc := Mem.get_lt hc
  have lo := hS.len
  have RLo : RL M.size o := hS.rl
  refine call_0 tf66 rfl (by simp [a66]) fun b ht hx => ?_
  have h0 := hx 0 _ rfl
  have h1 := hx 1 _ rfl
  clear hx
  simp only [a66, c66] at ht ⊢
  simp (maxSteps := 2000000) (disch := first | omega | assumption | (simp only [DS, Nat.reduceAdd, *]; done) | (simp only [DZ]; omega)) only [RUN, RU, footA, feetIn, resultsA, tupOf, frzL, slot, lay, icyL, fillA, repCells, kR, reduceIte, Nat.reduceEqDiff, Nat.reduceBEq, Nat.reduceLT, Nat.reduceAdd, Nat.reduceLeDiff, Nat.reduceSub, Nat.reduceMul, Int.reduceLT, Int.reduceLE, Int.reduceEq, Int.reduceAdd, Int.reduceSub, Int.reduceMul, h0, h1, lo]
  refine w_loop (I := fun n t N => ∃ i : Nat, i ≤ out.length ∧ n = out.length - i ∧ Wf N ∧ M.size ≤ N.size ∧ (∀ j, j < M.size → N.get j = M.get j) ∧ (∀ j (hj : j < out.length), j < i → ¬ out[j].seq ≤ ack) ∧ nth undefA t 0 = o ∧ nth undefA t 1 = .fn 59 [] [.ptr c 0] ∧ nth undefA t 7 = I64 out.length ∧ nth undefA t 8 = I64 i) (n := out.length) (by omega) ?_ ?_
  · refine ⟨0, by omega, by omega, wf, Nat.le_refl _, fun _ _ => rfl, (fun j hj h => by omega), ?_, ?_, ?_, ?_⟩
    all_goals simp (maxSteps := 2000000) (disch := first | omega | assumption | (simp only [DS, Nat.reduceAdd, *]; done) | (simp only [DZ]; omega)) only [RUN, RU, footA, feetIn, resultsA, tupOf, frzL, slot, lay, icyL, fillA, repCells, kR, reduceIte, Nat.reduceEqDiff, Nat.reduceBEq, Nat.reduceLT, Nat.reduceAdd, Nat.reduceLeDiff, Nat.reduceSub, Nat.reduceMul, Int.reduceLT, Int.reduceLE, Int.reduceEq, Int.reduceAdd, Int.reduceSub, Int.reduceMul, h0, h1]
    all_goals rfl
  · rintro n t N hl' ⟨i, hi, hn', wfN, leN, kN, hno, t0, t1, t7, t8⟩
    simp only [ht] at hl' ⊢
    clear h0 h1 ht b
    by_cases hlt : i < out.length
    · have hc' : decide ((i : Int) < out.length) = true := decide_eq_true (by omega)
      have w1 : IntKind.i64.wrap ((i : Int) + 1) = ((i + 1 : Nat) : Int) := by rw [wrap_i64] <;> omega
      obtain ⟨r, p, hp, ⟨ab, rfl, hab⟩, _, hrp, hld⟩ := Rd.elem (.inr hS) i hlt
      have hld2 := (hld N fun id h => kN id (hS.lt id h)).1
      have RLs := rows_lt RLo leN
      have RLp : ((rowsOf p).all fun i => i.blt N.size) = true := by rw [hrp]; exact RLs
      have hcN : N.get c = some (.row false [I64 ack]) := by rw [kN c lc]; exact hc
      have hgo := gone_run (fuel := fuel) (d := d) (s := out[i].seq) hab wfN hcN
      have wA : Wf (N.add (.row false [I64 out[i].seq, ab])) := wfN.add _
      have kA : ∀ j, j < M.size → (N.add (.row false [I64 out[i].seq, ab])).get j = M.get j := fun j hj => by rw [get_add wfN _ _ (by omega)]; exact kN j hj
      by_cases hg : out[i].seq ≤ ack
      · have qg : decide (out[i].seq ≤ ack) = true := decide_eq_true hg
        have hfi : out.findIdx (fun x => decide (x.seq ≤ ack)) = i := by
          rw [List.findIdx_eq hlt]
          exact ⟨qg, fun j hj => decide_eq_false (hno j (by omega) hj)⟩
        have hq := kk _ wA (by rw [add_size]; omega) kA
        have hpos : gonePos ack out = i := by unfold gonePos; rw [hfi, if_pos hlt]
        rw [hpos] at hq
        rw [qg] at hgo
        simp (maxSteps := 2000000) (disch := first | omega | assumption | (simp only [DS, Nat.reduceAdd, *]; done) | (simp only [DZ]; omega)) only [RUN, RU, footA, feetIn, resultsA, tupOf, frzL, slot, lay, icyL, fillA, repCells, kR, reduceIte, Nat.reduceEqDiff, Nat.reduceBEq, Nat.reduceLT, Nat.reduceAdd, Nat.reduceLeDiff, Nat.reduceSub, Nat.reduceMul, Int.reduceLT, Int.reduceLE, Int.reduceEq, Int.reduceAdd, Int.reduceSub, Int.reduceMul, t0, t1, t7, t8, hc', hp, hld2, RLp, RLs, hgo, hq]
      · have qg : decide (out[i].seq ≤ ack) = false := decide_eq_false hg
        rw [qg] at hgo
        simp (maxSteps := 2000000) (disch := first | omega | assumption | (simp only [DS, Nat.reduceAdd, *]; done) | (simp only [DZ]; omega)) only [RUN, RU, footA, feetIn, resultsA, tupOf, frzL, slot, lay, icyL, fillA, repCells, kR, reduceIte, Nat.reduceEqDiff, Nat.reduceBEq, Nat.reduceLT, Nat.reduceAdd, Nat.reduceLeDiff, Nat.reduceSub, Nat.reduceMul, Int.reduceLT, Int.reduceLE, Int.reduceEq, Int.reduceAdd, Int.reduceSub, Int.reduceMul, t0, t1, t7, t8, hc', hp, hld2, RLp, RLs, hgo, w1]
        refine ⟨hl', out.length - (i + 1), by omega, i + 1, by omega, rfl, wfN, by omega, kA, fun j hj h => ?_, rfl⟩
        by_cases hji : j = i
        · subst hji; exact hg
        · exact hno j hj (by omega)
    · have hc' : decide ((i : Int) < out.length) = false := decide_eq_false (by omega)
      obtain rfl : i = out.length := by omega
      have hfi : ¬ out.findIdx (fun x => decide (x.seq ≤ ack)) < out.length := fun h => by
        have h2 := List.findIdx_getElem (w := h)
        exact hno _ h h (of_decide_eq_true h2)
      have hpos : gonePos ack out = -1 := by unfold gonePos; rw [if_neg hfi]
      have hq := kk N wfN leN kN
      rw [hpos] at hq
      simp (maxSteps := 2000000) (disch := first | omega | assumption | (simp only [DS, Nat.reduceAdd, *]; done) | (simp only [DZ]; omega)) only [RUN, RU, footA, feetIn, resultsA, tupOf, frzL, slot, lay, icyL, fillA, repCells, kR, reduceIte, Nat.reduceEqDiff, Nat.reduceBEq, Nat.reduceLT, Nat.reduceAdd, Nat.reduceLeDiff, Nat.reduceSub, Nat.reduceMul, Int.reduceLT, Int.reduceLE, Int.reduceEq, Int.reduceAdd, Int.reduceSub, Int.reduceMul, t0, t1, t7, t8, hc', hq]

theorem contains_run {o : AV} {out : List Item} {c : Nat} {ack : Int} (hS : SlM M 2 isItem o out) (hn : out.length ≤ 1000) (hf : 2000 < fuel) (wf : Wf M) (hc : M.get c = some (.row false [I64 ack]))
    (kk : ∀ N, Wf N → M.size ≤ N.size → (∀ j, j < M.size → N.get j = M.get j) → Q (BL (decide (0 ≤ gonePos ack out))) N) : W3 (callN Try.prog (fsT tbl) fuel (d + 3) (.fn 60) [o, .fn 59 [] [.ptr c 0]] M) Q := by
  refine call_0 tf60 rfl (by simp [a60]) fun b ht hx => ?_
  have h0 := hx 0 _ rfl
  have h1 := hx 1 _ rfl
  clear hx
  simp only [a60, c60] at ht ⊢
  simp (maxSteps := 2000000) (disch := first | omega | assumption | (simp only [DS, Nat.reduceAdd, *]; done) | (simp only [DZ]; omega)) only [RUN, RU, footA, feetIn, resultsA, tupOf, frzL, slot, lay, icyL, fillA, repCells, kR, reduceIte, Nat.reduceEqDiff, Nat.reduceBEq, Nat.reduceLT, Nat.reduceAdd, Nat.reduceLeDiff, Nat.reduceSub, Nat.reduceMul, Int.reduceLT, Int.reduceLE, Int.reduceEq, Int.reduceAdd, Int.reduceSub, Int.reduceMul, h0, h1]
  refine index_run (d := d) hS hn hf wf hc fun N wfN leN kN => ?_
  have hq := kk N wfN leN kN
  simp (maxSteps := 2000000) (disch := first | omega | assumption | (simp only [DS, Nat.reduceAdd, *]; done) | (simp only [DZ]; omega)) only [RUN, RU, footA, feetIn, resultsA, tupOf, frzL, slot, lay, icyL, fillA, repCells, kR, reduceIte, Nat.reduceEqDiff, Nat.reduceBEq, Nat.reduceLT, Nat.reduceAdd, Nat.reduceLeDiff, Nat.reduceSub, Nat.reduceMul, Int.reduceLT, Int.reduceLE, Int.reduceEq, Int.reduceAdd, Int.reduceSub, Int.reduceMul, h0, h1, hq]
end Go.Proofs.Ytbemomagabjbnaa
