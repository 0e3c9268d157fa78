/-
  link: Tick.
-/
import Derived.Test.YtbemomagabjbnaaLoC
set_option linter.unusedSimpArgs false
set_option linter.unusedVariables false
set_option maxRecDepth 100000
namespace Go.Proofs.Ytbemomagabjbnaa
open Go Go.Ax
variable {fuel : Nat} {M : Mem} {Q : AV → Mem → Prop} {d : Nat}

theorem may_since {e : End} (h : e.may = true) : 0 ≤ e.since ∧ e.since < 3 := by
  rw [may_eq, Bool.and_eq_true] at h
  obtain ⟨h1, _⟩ := h
  simp only [End.plain, Bool.and_eq_true, decide_eq_true_eq, from'] at h1
  omega
def End.late (e : End) : End := { e with since := e.since + 1 }
def End.tick (e : End) : End × List Pk × Int := if e.may then (if e.out.length = 0 then (e, [], 0) else if e.since + 1 < 3 then (e.late, [], 0) else (e.rest, e.sendL, 0)) else (zeroE, [], 8)

set_option maxHeartbeats 8000000 in
theorem etick_run {ae : AV} {e : End} (he : IsEnd ae e) (hf : 1000 < fuel) : ∃ r l, IsEnd r e.tick.1 ∧ Sl 4 isPkR l e.tick.2.1 ∧ ∀ M, callN Try.prog (fsT tbl) fuel (d + 4) (.fn 45) [ae] M = some (.tup [r, l, I64 e.tick.2.2], M) := by
  have ic : ∀ M, icyL (icy 12) M [ae] = some ([ae], M) := fun M => by
    obtain ⟨o, rfl, hS⟩ := he
    simp (maxSteps := 2000000) (disch := first | omega | assumption | (simp only [DS, Nat.reduceAdd, *]; done) | (simp only [DZ]; omega)) only [RUN, RU, footA, feetIn, resultsA, tupOf, frzL, slot, lay, icyL, fillA, repCells, kR, reduceIte, Nat.reduceEqDiff, Nat.reduceBEq, Nat.reduceLT, Nat.reduceAdd, Nat.reduceLeDiff, Nat.reduceSub, Nat.reduceMul, Int.reduceLT, Int.reduceLE, Int.reduceEq, Int.reduceAdd, Int.reduceSub, Int.reduceMul, hS.icy]
  have key : W3 (callN Try.prog (fsT tbl) fuel (d + 4) (.fn 45) [ae] mem0) (fun r' _ => ∃ r l, IsEnd r e.tick.1 ∧ Sl 4 isPkR l e.tick.2.1 ∧ r' = .tup [r, l, I64 e.tick.2.2]) := by
    have he' := he
    obtain ⟨o, rfl, hS⟩ := he
    have o1 := hS.one
    have oc := hS.cells
    have ro := hS.rows mem0
    refine call_gc tf45 rfl (ic mem0) (by simp [a45]) fun b ht hx => ?_
    have h0 := hx 0 _ rfl
    clear hx
    simp only [a45, c45] at ht ⊢
    simp (maxSteps := 2000000) (disch := first | omega | assumption | (simp only [DS, Nat.reduceAdd, *]; done) | (simp only [DZ]; omega)) only [RUN, RU, footA, feetIn, resultsA, tupOf, frzL, slot, lay, icyL, fillA, repCells, kR, reduceIte, Nat.reduceEqDiff, Nat.reduceBEq, Nat.reduceLT, Nat.reduceAdd, Nat.reduceLeDiff, Nat.reduceSub, Nat.reduceMul, Int.reduceLT, Int.reduceLE, Int.reduceEq, Int.reduceAdd, Int.reduceSub, Int.reduceMul, h0, o1, oc, ro]
    have wX : Wf ((mem0.add (.row false [I64 e.ep, I64 e.nx, o, I64 e.want, I64 e.since, BL e.owe])).add (.row false [I64 0, I64 0, NIL, I64 0, I64 0, BL false])) := (Wf.mem0.add _).add _
    have sX : ((mem0.add (.row false [I64 e.ep, I64 e.nx, o, I64 e.want, I64 e.since, BL e.owe])).add (.row false [I64 0, I64 0, NIL, I64 0, I64 0, BL false])).size = 2 := by rw [add_size, add_size, mem0_size]
    have gX1 : ((mem0.add (.row false [I64 e.ep, I64 e.nx, o, I64 e.want, I64 e.since, BL e.owe])).add (.row false [I64 0, I64 0, NIL, I64 0, I64 0, BL false])).get 1 = some (.row false [I64 0, I64 0, NIL, I64 0, I64 0, BL false]) := get_add_new (Wf.mem0.add _) _ _ (by rw [add_size, mem0_size]; omega) (by rw [add_size, mem0_size]; omega)
    generalize (mem0.add (.row false [I64 e.ep, I64 e.nx, o, I64 e.want, I64 e.since, BL e.owe])).add (.row false [I64 0, I64 0, NIL, I64 0, I64 0, BL false]) = X at *
    refine of_run (d := d) e _ he' hf wX (fun hm M' wf' sM' kp => ?_) (fun hm u o' M' wf' sM' kp hu gu hSM hno => ?_)
    · have g1 : M'.get 1 = some (.row false [I64 0, I64 0, NIL, I64 0, I64 0, BL false]) := by rw [kp 1 (by omega)]; exact gX1
      have z1 : 1 < M'.size := by omega
      have q8 : decide ((8 : Int) = 0) = false := rfl
      have hp : e.tick = (zeroE, [], 8) := by unfold End.tick; rw [hm]; rfl
      rw [hp]
      simp (maxSteps := 2000000) (disch := first | omega | assumption | (simp only [DS, Nat.reduceAdd, *]; done) | (simp only [DZ]; omega)) only [RUN, RU, footA, feetIn, resultsA, tupOf, frzL, slot, lay, icyL, fillA, repCells, kR, reduceIte, Nat.reduceEqDiff, Nat.reduceBEq, Nat.reduceLT, Nat.reduceAdd, Nat.reduceLeDiff, Nat.reduceSub, Nat.reduceMul, Int.reduceLT, Int.reduceLE, Int.reduceEq, Int.reduceAdd, Int.reduceSub, Int.reduceMul, h0, o1, oc, ro, g1, z1, q8, wf']
      exact ⟨_, _, isZeroE, .inl ⟨rfl, rfl⟩, rfl⟩
    · have g1 : M'.get 1 = some (.row false [I64 0, I64 0, NIL, I64 0, I64 0, BL false]) := by rw [kp 1 (by omega)]; exact gX1
      have z1 : 1 < M'.size := by omega
      have zu := Mem.get_lt gu
      have q0 : decide ((0 : Int) = 0) = true := rfl
      obtain ⟨hl, hbd, e1, e2, e3, e4, e5, e6⟩ := may_facts hm
      obtain ⟨hs1, hs2⟩ := may_since hm
      have lo := hSM.len
      have o'1 := hSM.one
      have zub : u.blt M'.size = true := blt_t zu
      have hu1 : u ≠ 1 := by omega
      by_cases h00 : e.out.length = 0
      · have hp : e.tick = (e, [], 0) := by unfold End.tick; rw [if_pos hm, if_pos h00]
        have ql : decide ((e.out.length : Int) = 0) = true := decide_eq_true (by omega)
        rw [hp]
        obtain ⟨ro2, hfo, hSr⟩ := (hSM.keep (N := M'.upd 1 (.row false [I64 e.ep, I64 e.nx, o', I64 e.want, I64 e.since, BL e.owe])) fun id h => get_upd_ne wf' _ _ _ (by have := hno id h; omega)).frz cel_Item (k := 11) (by omega)
        simp (maxSteps := 2000000) (disch := first | omega | assumption | (simp only [DS, Nat.reduceAdd, *]; done) | (simp only [DZ]; omega)) only [RUN, RU, footA, feetIn, resultsA, tupOf, frzL, slot, lay, icyL, fillA, repCells, kR, reduceIte, Nat.reduceEqDiff, Nat.reduceBEq, Nat.reduceLT, Nat.reduceAdd, Nat.reduceLeDiff, Nat.reduceSub, Nat.reduceMul, Int.reduceLT, Int.reduceLE, Int.reduceEq, Int.reduceAdd, Int.reduceSub, Int.reduceMul, h0, o1, oc, ro, q0, gu, zub, lo, ql, g1, z1, wf', o'1, hfo]
        exact ⟨_, _, ⟨ro2, rfl, hSr⟩, .inl ⟨rfl, rfl⟩, rfl⟩
      have ql : decide ((e.out.length : Int) = 0) = false := decide_eq_false (by omega)
      have ws : IntKind.i64.wrap (e.since + 1) = e.since + 1 := by rw [wrap_i64] <;> omega
      have wY : Wf (M'.upd u (.row false [I64 e.ep, I64 e.nx, o', I64 e.want, I64 (e.since + 1), BL e.owe])) := wf'.upd _ _
      have guY : (M'.upd u (.row false [I64 e.ep, I64 e.nx, o', I64 e.want, I64 (e.since + 1), BL e.owe])).get u = some (.row false [I64 e.ep, I64 e.nx, o', I64 e.want, I64 (e.since + 1), BL e.owe]) := get_upd_eq wf' _ _ zu
      have g1Y : (M'.upd u (.row false [I64 e.ep, I64 e.nx, o', I64 e.want, I64 (e.since + 1), BL e.owe])).get 1 = some (.row false [I64 0, I64 0, NIL, I64 0, I64 0, BL false]) := by rw [get_upd_ne wf' _ _ _ hu1]; exact g1
      have sY : (M'.upd u (.row false [I64 e.ep, I64 e.nx, o', I64 e.want, I64 (e.since + 1), BL e.owe])).size = M'.size := upd_size _ _ _
      have hSY : SlM (M'.upd u (.row false [I64 e.ep, I64 e.nx, o', I64 e.want, I64 (e.since + 1), BL e.owe])) 2 isItem o' e.out := hSM.keep fun id h => get_upd_ne wf' _ _ _ (by have := (hno id h).2; omega)
      by_cases h3 : e.since + 1 < 3
      · have hp : e.tick = (e.late, [], 0) := by unfold End.tick; rw [if_pos hm, if_neg h00, if_pos h3]
        have qs : decide (e.since + 1 < 3) = true := decide_eq_true h3
        rw [hp]
        obtain ⟨ro2, hfo, hSr⟩ := (hSY.keep (N := (M'.upd u (.row false [I64 e.ep, I64 e.nx, o', I64 e.want, I64 (e.since + 1), BL e.owe])).upd 1 (.row false [I64 e.ep, I64 e.nx, o', I64 e.want, I64 (e.since + 1), BL e.owe])) fun id h => get_upd_ne wY _ _ _ (by have := hno id h; omega)).frz cel_Item (k := 11) (by omega)
        simp (maxSteps := 2000000) (disch := first | omega | assumption | (simp only [DS, Nat.reduceAdd, *]; done) | (simp only [DZ]; omega)) only [RUN, RU, footA, feetIn, resultsA, tupOf, frzL, slot, lay, icyL, fillA, repCells, kR, reduceIte, Nat.reduceEqDiff, Nat.reduceBEq, Nat.reduceLT, Nat.reduceAdd, Nat.reduceLeDiff, Nat.reduceSub, Nat.reduceMul, Int.reduceLT, Int.reduceLE, Int.reduceEq, Int.reduceAdd, Int.reduceSub, Int.reduceMul, h0, o1, oc, ro, q0, gu, zub, zu, lo, ql, ws, qs, g1, z1, wf', hu1, o'1, hfo]
        exact ⟨_, _, ⟨ro2, rfl, hSr⟩, .inl ⟨rfl, rfl⟩, rfl⟩
      have hp : e.tick = (e.rest, e.sendL, 0) := by unfold End.tick; rw [if_pos hm, if_neg h00, if_neg h3]
      have qs : decide (e.since + 1 < 3) = false := decide_eq_false h3
      rw [hp]
      simp (maxSteps := 2000000) (disch := first | omega | assumption | (simp only [DS, Nat.reduceAdd, *]; done) | (simp only [DZ]; omega)) only [RUN, RU, footA, feetIn, resultsA, tupOf, frzL, slot, lay, icyL, fillA, repCells, kR, reduceIte, Nat.reduceEqDiff, Nat.reduceBEq, Nat.reduceLT, Nat.reduceAdd, Nat.reduceLeDiff, Nat.reduceSub, Nat.reduceMul, Int.reduceLT, Int.reduceLE, Int.reduceEq, Int.reduceAdd, Int.reduceSub, Int.reduceMul, h0, o1, oc, ro, q0, gu, zub, zu, lo, ql, ws, qs, g1, z1, wf', hu1, o'1]
      refine send_run (K := X.size) (e := e.late) ⟨wY, by rw [sY]; exact sM', o', guY, hSY, hno⟩ (by show e.out.length ≤ 1000; omega) (fun x hx => by have := hbd x hx; omega) (by show -1000000000 ≤ e.want; omega) (by show e.want ≤ 1000000000; omega) hf fun a N hA hrA hO sN kN => ?_
      obtain ⟨wf2, le2, o2, gu2, hS2, hno2⟩ := hO
      simp only [End.late] at gu2 hS2
      rw [sY] at sN hrA
      have g12 : N.get 1 = some (.row false [I64 0, I64 0, NIL, I64 0, I64 0, BL false]) := by rw [kN 1 (by omega) (by omega)]; exact g1Y
      have z12 : 1 < N.size := by omega
      have zu2 := Mem.get_lt gu2
      have o21 := hS2.one
      have a1 := hA.one
      have hsl : e.late.sendL = e.sendL := rfl
      rw [hsl] at hA
      obtain ⟨ro2, hfo, hSr⟩ := (hS2.keep (N := N.upd 1 (.row false [I64 e.ep, I64 e.nx, o2, I64 e.want, I64 0, BL false])) fun id h => get_upd_ne wf2 _ _ _ (by have := hno2 id h; omega)).frz cel_Item (k := 11) (by omega)
      obtain ⟨ra, hfa, hAr⟩ := (hA.keep (N := N.upd 1 (.row false [I64 e.ep, I64 e.nx, o2, I64 e.want, I64 0, BL false])) fun id h => get_upd_ne wf2 _ _ _ (by have := hrA id h; omega)).frz cel_Pk (k := 12) (by omega)
      simp (maxSteps := 2000000) (disch := first | omega | assumption | (simp only [DS, Nat.reduceAdd, *]; done) | (simp only [DZ]; omega)) only [RUN, RU, footA, feetIn, resultsA, tupOf, frzL, slot, lay, icyL, fillA, repCells, kR, reduceIte, Nat.reduceEqDiff, Nat.reduceBEq, Nat.reduceLT, Nat.reduceAdd, Nat.reduceLeDiff, Nat.reduceSub, Nat.reduceMul, Int.reduceLT, Int.reduceLE, Int.reduceEq, Int.reduceAdd, Int.reduceSub, Int.reduceMul, h0, o1, oc, ro, g12, z12, q0, wf2, gu2, zu2, o21, a1, hfo, hfa]
      exact ⟨_, _, ⟨ro2, rfl, hSr⟩, hAr, rfl⟩
  obtain ⟨r', N, hk, r, l, hr, hl, rfl⟩ := key
  exact ⟨r, l, hr, hl, fun M => call_own tf45 rfl hk (ic mem0) (ic M)⟩
end Go.Proofs.Ytbemomagabjbnaa
