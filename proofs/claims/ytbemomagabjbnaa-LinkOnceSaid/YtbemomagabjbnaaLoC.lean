/-
  link: Send.
-/
import Derived.Test.YtbemomagabjbnaaLoB
set_option linter.unusedSimpArgs false
set_option linter.unusedVariables false
set_option maxRecDepth 100000
namespace Go.Proofs.Ytbemomagabjbnaa
open Go Go.Ax
variable {fuel : Nat} {M : Mem} {Q : AV → Mem → Prop} {d : Nat}

theorem cel_Pk : Cel isPkR := fun r x h y hy => by
  obtain ⟨a, rfl, hb⟩ := h
  simp only [List.mem_cons, List.not_mem_nil, or_false] at hy
  rcases hy with rfl | rfl | rfl | rfl
  · exact ⟨rfl, fun M k hk => frz_sc _ hk⟩
  · exact ⟨rfl, fun M k hk => frz_sc _ hk⟩
  · exact ⟨rfl, fun M k hk => frz_sc _ hk⟩
  · exact ⟨hb.one, fun M k hk => hb.frz M 0 k hk⟩
def End.rest (e : End) : End := { e with since := 0, owe := false }
def End.sent (e : End) : End × List Pk × Int := if e.may then (e.rest, e.sendL, 0) else (zeroE, [], 8)

set_option maxHeartbeats 8000000 in
theorem esend_run {ae : AV} {e : End} (he : IsEnd ae e) (hf : 1000 < fuel) : ∃ r l, IsEnd r e.sent.1 ∧ Sl 4 isPkR l e.sent.2.1 ∧ ∀ M, callN Try.prog (fsT tbl) fuel (d + 4) (.fn 24) [ae] M = some (.tup [r, l, I64 e.sent.2.2], M) := by
  have ic : ∀ M, icyL (icy 12) M [ae] = some ([ae], M) := fun M => by
    obtain ⟨o, rfl, hS⟩ := he
    simp (maxSteps := 2000000) (disch := first | omega | assumption | (simp only [DS, Nat.reduceAdd, *]; done) | (simp only [DZ]; omega)) only [RUN, RU, footA, feetIn, resultsA, tupOf, frzL, slot, lay, icyL, fillA, repCells, kR, reduceIte, Nat.reduceEqDiff, Nat.reduceBEq, Nat.reduceLT, Nat.reduceAdd, Nat.reduceLeDiff, Nat.reduceSub, Nat.reduceMul, Int.reduceLT, Int.reduceLE, Int.reduceEq, Int.reduceAdd, Int.reduceSub, Int.reduceMul, hS.icy]
  have key : W3 (callN Try.prog (fsT tbl) fuel (d + 4) (.fn 24) [ae] mem0) (fun r' _ => ∃ r l, IsEnd r e.sent.1 ∧ Sl 4 isPkR l e.sent.2.1 ∧ r' = .tup [r, l, I64 e.sent.2.2]) := by
    have he' := he
    obtain ⟨o, rfl, hS⟩ := he
    have o1 := hS.one
    have oc := hS.cells
    have ro := hS.rows mem0
    refine call_gc tf24 rfl (ic mem0) (by simp [a24]) fun b ht hx => ?_
    have h0 := hx 0 _ rfl
    clear hx
    simp only [a24, c24] at ht ⊢
    simp (maxSteps := 2000000) (disch := first | omega | assumption | (simp only [DS, Nat.reduceAdd, *]; done) | (simp only [DZ]; omega)) only [RUN, RU, footA, feetIn, resultsA, tupOf, frzL, slot, lay, icyL, fillA, repCells, kR, reduceIte, Nat.reduceEqDiff, Nat.reduceBEq, Nat.reduceLT, Nat.reduceAdd, Nat.reduceLeDiff, Nat.reduceSub, Nat.reduceMul, Int.reduceLT, Int.reduceLE, Int.reduceEq, Int.reduceAdd, Int.reduceSub, Int.reduceMul, h0, o1, oc, ro]
    have wX : Wf ((mem0.add (.row false [I64 e.ep, I64 e.nx, o, I64 e.want, I64 e.since, BL e.owe])).add (.row false [I64 0, I64 0, NIL, I64 0, I64 0, BL false])) := (Wf.mem0.add _).add _
    have sX : ((mem0.add (.row false [I64 e.ep, I64 e.nx, o, I64 e.want, I64 e.since, BL e.owe])).add (.row false [I64 0, I64 0, NIL, I64 0, I64 0, BL false])).size = 2 := by rw [add_size, add_size, mem0_size]
    have gX1 : ((mem0.add (.row false [I64 e.ep, I64 e.nx, o, I64 e.want, I64 e.since, BL e.owe])).add (.row false [I64 0, I64 0, NIL, I64 0, I64 0, BL false])).get 1 = some (.row false [I64 0, I64 0, NIL, I64 0, I64 0, BL false]) := get_add_new (Wf.mem0.add _) _ _ (by rw [add_size, mem0_size]; omega) (by rw [add_size, mem0_size]; omega)
    generalize (mem0.add (.row false [I64 e.ep, I64 e.nx, o, I64 e.want, I64 e.since, BL e.owe])).add (.row false [I64 0, I64 0, NIL, I64 0, I64 0, BL false]) = X at *
    refine of_run (d := d) e _ he' hf wX (fun hm M' wf' sM' kp => ?_) (fun hm u o' M' wf' sM' kp hu gu hSM hno => ?_)
    · have g1 : M'.get 1 = some (.row false [I64 0, I64 0, NIL, I64 0, I64 0, BL false]) := by rw [kp 1 (by omega)]; exact gX1
      have z1 : 1 < M'.size := by omega
      have q8 : decide ((8 : Int) = 0) = false := rfl
      have hp : e.sent = (zeroE, [], 8) := by unfold End.sent; rw [hm]; rfl
      rw [hp]
      simp (maxSteps := 2000000) (disch := first | omega | assumption | (simp only [DS, Nat.reduceAdd, *]; done) | (simp only [DZ]; omega)) only [RUN, RU, footA, feetIn, resultsA, tupOf, frzL, slot, lay, icyL, fillA, repCells, kR, reduceIte, Nat.reduceEqDiff, Nat.reduceBEq, Nat.reduceLT, Nat.reduceAdd, Nat.reduceLeDiff, Nat.reduceSub, Nat.reduceMul, Int.reduceLT, Int.reduceLE, Int.reduceEq, Int.reduceAdd, Int.reduceSub, Int.reduceMul, h0, o1, oc, ro, g1, z1, q8, wf']
      exact ⟨_, _, isZeroE, .inl ⟨rfl, rfl⟩, rfl⟩
    · have g1 : M'.get 1 = some (.row false [I64 0, I64 0, NIL, I64 0, I64 0, BL false]) := by rw [kp 1 (by omega)]; exact gX1
      have z1 : 1 < M'.size := by omega
      have zu := Mem.get_lt gu
      have q0 : decide ((0 : Int) = 0) = true := rfl
      obtain ⟨hl, hbd, e1, e2, e3, e4, e5, e6⟩ := may_facts hm
      have hp : e.sent = (e.rest, e.sendL, 0) := by unfold End.sent; rw [hm]; rfl
      rw [hp]
      simp (maxSteps := 2000000) (disch := first | omega | assumption | (simp only [DS, Nat.reduceAdd, *]; done) | (simp only [DZ]; omega)) only [RUN, RU, footA, feetIn, resultsA, tupOf, frzL, slot, lay, icyL, fillA, repCells, kR, reduceIte, Nat.reduceEqDiff, Nat.reduceBEq, Nat.reduceLT, Nat.reduceAdd, Nat.reduceLeDiff, Nat.reduceSub, Nat.reduceMul, Int.reduceLT, Int.reduceLE, Int.reduceEq, Int.reduceAdd, Int.reduceSub, Int.reduceMul, h0, o1, oc, ro, q0]
      refine send_run (K := X.size) ⟨wf', sM', o', gu, hSM, hno⟩ (by omega) (fun x hx => by have := hbd x hx; omega) (by omega) (by omega) hf fun a N hA hrA hO sN kN => ?_
      obtain ⟨wf2, le2, o2, gu2, hS2, hno2⟩ := hO
      simp only at gu2 hS2
      have g12 : N.get 1 = some (.row false [I64 0, I64 0, NIL, I64 0, I64 0, BL false]) := by rw [kN 1 (by omega) (by omega)]; exact g1
      have z12 : 1 < N.size := by omega
      have zu2 := Mem.get_lt gu2
      have o21 := hS2.one
      have a1 := hA.one
      obtain ⟨ro2, hfo, hSr⟩ := (hS2.keep (N := N.upd 1 (.row false [I64 e.ep, I64 e.nx, o2, I64 e.want, I64 0, BL false])) fun id h => get_upd_ne wf2 _ _ _ (by have := hno2 id h; omega)).frz cel_Item (k := 11) (by omega)
      obtain ⟨ra, hfa, hAr⟩ := (hA.keep (N := N.upd 1 (.row false [I64 e.ep, I64 e.nx, o2, I64 e.want, I64 0, BL false])) fun id h => get_upd_ne wf2 _ _ _ (by have := hrA id h; omega)).frz cel_Pk (k := 12) (by omega)
      simp (maxSteps := 2000000) (disch := first | omega | assumption | (simp only [DS, Nat.reduceAdd, *]; done) | (simp only [DZ]; omega)) only [RUN, RU, footA, feetIn, resultsA, tupOf, frzL, slot, lay, icyL, fillA, repCells, kR, reduceIte, Nat.reduceEqDiff, Nat.reduceBEq, Nat.reduceLT, Nat.reduceAdd, Nat.reduceLeDiff, Nat.reduceSub, Nat.reduceMul, Int.reduceLT, Int.reduceLE, Int.reduceEq, Int.reduceAdd, Int.reduceSub, Int.reduceMul, h0, o1, oc, ro, g12, z12, q0, wf2, gu2, zu2, o21, a1, hfo, hfa]
      exact ⟨_, _, ⟨ro2, rfl, hSr⟩, hAr, rfl⟩
  obtain ⟨r', N, hk, r, l, hr, hl, rfl⟩ := key
  exact ⟨r, l, hr, hl, fun M => call_own tf24 rfl hk (ic mem0) (ic M)⟩
end Go.Proofs.Ytbemomagabjbnaa
