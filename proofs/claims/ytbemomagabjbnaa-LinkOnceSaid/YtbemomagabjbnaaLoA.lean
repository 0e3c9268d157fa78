/-
  link: Put, from outside.
-/
import Derived.Test.YtbemomagabjbnaaLkF
set_option linter.unusedSimpArgs false
set_option linter.unusedVariables false
set_option maxRecDepth 100000
namespace Go.Proofs.Ytbemomagabjbnaa
open Go Go.Ax
variable {fuel : Nat} {M : Mem} {Q : AV → Mem → Prop} {d : Nat}

def zeroE : End := ⟨0, 0, [], 0, 0, false⟩
theorem isZeroE : IsEnd (.agg [I64 0, I64 0, NIL, I64 0, I64 0, BL false]) zeroE := ⟨NIL, rfl, .inl ⟨rfl, rfl⟩⟩
def End.put (e : End) (body : List UInt8) : End × Int :=
  if e.may then (if 900 < body.length then (zeroE, 4) else if 32 ≤ e.out.length ∨ 16777216 ≤ e.nx + 1 then (zeroE, 9) else ({ e with nx := e.nx + 1, out := e.out ++ [⟨e.nx, body⟩] }, 0)) else (zeroE, 8)
set_option maxHeartbeats 8000000 in
theorem eput_run {ae ab : AV} {e : End} {body : List UInt8} (he : IsEnd ae e) (hb : Bs ab body) (hf : 1000 < fuel) : ∃ r, IsEnd r (e.put body).1 ∧ ∀ M, callN Try.prog (fsT tbl) fuel (d + 4) (.fn 23) [ae, ab] M = some (.tup [r, I64 (e.put body).2], M) := by
  have ic : ∀ M, icyL (icy 12) M [ae, ab] = some ([ae, ab], M) := fun M => by
    obtain ⟨o, rfl, hS⟩ := he
    simp (maxSteps := 2000000) (disch := first | omega | assumption | (simp only [DS, Nat.reduceAdd, *]; done) | (simp only [DZ]; omega)) only [RUN, RU, footA, feetIn, resultsA, tupOf, frzL, slot, lay, icyL, fillA, repCells, kR, reduceIte, Nat.reduceEqDiff, Nat.reduceBEq, Nat.reduceLT, Nat.reduceAdd, Nat.reduceLeDiff, Nat.reduceSub, Nat.reduceMul, Int.reduceLT, Int.reduceLE, Int.reduceEq, Int.reduceAdd, Int.reduceSub, Int.reduceMul, hS.icy, hb.icy]
  have rb := hb.rows mem0
  have key : W3 (callN Try.prog (fsT tbl) fuel (d + 4) (.fn 23) [ae, ab] mem0) (fun r' _ => ∃ r, IsEnd r (e.put body).1 ∧ r' = .tup [r, I64 (e.put body).2]) := by
    have he' := he
    obtain ⟨o, rfl, hS⟩ := he
    have o1 := hS.one
    have oc := hS.cells
    have ro := hS.rows mem0
    refine call_gc tf23 rfl (ic mem0) (by simp [a23]) fun b ht hx => ?_
    have h0 := hx 0 _ rfl
    have h1 := hx 1 _ rfl
    clear hx
    simp only [a23, c23] at ht ⊢
    simp (maxSteps := 2000000) (disch := first | omega | assumption | (simp only [DS, Nat.reduceAdd, *]; done) | (simp only [DZ]; omega)) only [RUN, RU, footA, feetIn, resultsA, tupOf, frzL, slot, lay, icyL, fillA, repCells, kR, reduceIte, Nat.reduceEqDiff, Nat.reduceBEq, Nat.reduceLT, Nat.reduceAdd, Nat.reduceLeDiff, Nat.reduceSub, Nat.reduceMul, Int.reduceLT, Int.reduceLE, Int.reduceEq, Int.reduceAdd, Int.reduceSub, Int.reduceMul, h0, h1, o1, oc, ro]
    have wX : Wf ((mem0.add (.row false [I64 e.ep, I64 e.nx, o, I64 e.want, I64 e.since, BL e.owe])).add (.row false [I64 0, I64 0, NIL, I64 0, I64 0, BL false])) := (Wf.mem0.add _).add _
    have sX : ((mem0.add (.row false [I64 e.ep, I64 e.nx, o, I64 e.want, I64 e.since, BL e.owe])).add (.row false [I64 0, I64 0, NIL, I64 0, I64 0, BL false])).size = 2 := by rw [add_size, add_size, mem0_size]
    have gX1 : ((mem0.add (.row false [I64 e.ep, I64 e.nx, o, I64 e.want, I64 e.since, BL e.owe])).add (.row false [I64 0, I64 0, NIL, I64 0, I64 0, BL false])).get 1 = some (.row false [I64 0, I64 0, NIL, I64 0, I64 0, BL false]) := get_add_new (Wf.mem0.add _) _ _ (by rw [add_size, mem0_size]; omega) (by rw [add_size, mem0_size]; omega)
    generalize (mem0.add (.row false [I64 e.ep, I64 e.nx, o, I64 e.want, I64 e.since, BL e.owe])).add (.row false [I64 0, I64 0, NIL, I64 0, I64 0, BL false]) = X at *
    refine of_run (d := d) e _ he' hf wX (fun hm M' wf' sM' kp => ?_) (fun hm u o' M' wf' sM' kp hu gu hSM hno => ?_)
    · have g1 : M'.get 1 = some (.row false [I64 0, I64 0, NIL, I64 0, I64 0, BL false]) := by rw [kp 1 (by omega)]; exact gX1
      have z1 : 1 < M'.size := by omega
      have q8 : decide ((8 : Int) = 0) = false := rfl
      have hp : e.put body = (zeroE, 8) := by unfold End.put; rw [hm]; rfl
      rw [hp]
      simp (maxSteps := 2000000) (disch := first | omega | assumption | (simp only [DS, Nat.reduceAdd, *]; done) | (simp only [DZ]; omega)) only [RUN, RU, footA, feetIn, resultsA, tupOf, frzL, slot, lay, icyL, fillA, repCells, kR, reduceIte, Nat.reduceEqDiff, Nat.reduceBEq, Nat.reduceLT, Nat.reduceAdd, Nat.reduceLeDiff, Nat.reduceSub, Nat.reduceMul, Int.reduceLT, Int.reduceLE, Int.reduceEq, Int.reduceAdd, Int.reduceSub, Int.reduceMul, h0, h1, o1, oc, ro, g1, z1, q8, wf']
      exact ⟨_, isZeroE, rfl⟩
    · have g1 : M'.get 1 = some (.row false [I64 0, I64 0, NIL, I64 0, I64 0, BL false]) := by rw [kp 1 (by omega)]; exact gX1
      have z1 : 1 < M'.size := by omega
      have zu := Mem.get_lt gu
      have q0 : decide ((0 : Int) = 0) = true := rfl
      have q4 : decide ((4 : Int) = 0) = false := rfl
      have q9 : decide ((9 : Int) = 0) = false := rfl
      obtain ⟨hl, hbd, e1, e2, e3, e4, e5, e6⟩ := may_facts hm
      simp (maxSteps := 2000000) (disch := first | omega | assumption | (simp only [DS, Nat.reduceAdd, *]; done) | (simp only [DZ]; omega)) only [RUN, RU, footA, feetIn, resultsA, tupOf, frzL, slot, lay, icyL, fillA, repCells, kR, reduceIte, Nat.reduceEqDiff, Nat.reduceBEq, Nat.reduceLT, Nat.reduceAdd, Nat.reduceLeDiff, Nat.reduceSub, Nat.reduceMul, Int.reduceLT, Int.reduceLE, Int.reduceEq, Int.reduceAdd, Int.reduceSub, Int.reduceMul, h0, h1, o1, oc, ro, q0, rb]
      refine put_run (K := X.size) ⟨wf', sM', o', gu, hSM, hno⟩ hb (by omega) (by omega) (by omega) (fun h9 => ?_) (fun h9 h3 => ?_) (fun h9 h3 h4 M2 hO sM2 kp2 => ?_)
      · have hp : e.put body = (zeroE, 4) := by unfold End.put; rw [if_pos hm, if_pos h9]
        rw [hp]
        simp (maxSteps := 2000000) (disch := first | omega | assumption | (simp only [DS, Nat.reduceAdd, *]; done) | (simp only [DZ]; omega)) only [RUN, RU, footA, feetIn, resultsA, tupOf, frzL, slot, lay, icyL, fillA, repCells, kR, reduceIte, Nat.reduceEqDiff, Nat.reduceBEq, Nat.reduceLT, Nat.reduceAdd, Nat.reduceLeDiff, Nat.reduceSub, Nat.reduceMul, Int.reduceLT, Int.reduceLE, Int.reduceEq, Int.reduceAdd, Int.reduceSub, Int.reduceMul, h0, h1, o1, oc, ro, g1, z1, q4, wf']
        exact ⟨_, isZeroE, rfl⟩
      · have hp : e.put body = (zeroE, 9) := by unfold End.put; rw [if_pos hm, if_neg (by omega), if_pos h3]
        rw [hp]
        simp (maxSteps := 2000000) (disch := first | omega | assumption | (simp only [DS, Nat.reduceAdd, *]; done) | (simp only [DZ]; omega)) only [RUN, RU, footA, feetIn, resultsA, tupOf, frzL, slot, lay, icyL, fillA, repCells, kR, reduceIte, Nat.reduceEqDiff, Nat.reduceBEq, Nat.reduceLT, Nat.reduceAdd, Nat.reduceLeDiff, Nat.reduceSub, Nat.reduceMul, Int.reduceLT, Int.reduceLE, Int.reduceEq, Int.reduceAdd, Int.reduceSub, Int.reduceMul, h0, h1, o1, oc, ro, g1, z1, q9, wf']
        exact ⟨_, isZeroE, rfl⟩
      · have hp : e.put body = ({ e with nx := e.nx + 1, out := e.out ++ [⟨e.nx, body⟩] }, 0) := by unfold End.put; rw [if_pos hm, if_neg (by omega), if_neg (by omega)]
        rw [hp]
        obtain ⟨wf2, le2, o2, gu2, hS2, hno2⟩ := hO
        have g12 : M2.get 1 = some (.row false [I64 0, I64 0, NIL, I64 0, I64 0, BL false]) := by rw [kp2 1 (by omega) (by omega)]; exact g1
        have z12 : 1 < M2.size := by omega
        have zu2 := Mem.get_lt gu2
        have o21 := hS2.one
        obtain ⟨ro2, hfo, hSr⟩ := (hS2.keep (N := M2.upd 1 (.row false [I64 e.ep, I64 (e.nx + 1), o2, I64 e.want, I64 e.since, BL e.owe])) fun id h => get_upd_ne wf2 _ _ _ (by have := hno2 id h; omega)).frz cel_Item (k := 11) (by omega)
        simp only at gu2
        simp (maxSteps := 2000000) (disch := first | omega | assumption | (simp only [DS, Nat.reduceAdd, *]; done) | (simp only [DZ]; omega)) only [RUN, RU, footA, feetIn, resultsA, tupOf, frzL, slot, lay, icyL, fillA, repCells, kR, reduceIte, Nat.reduceEqDiff, Nat.reduceBEq, Nat.reduceLT, Nat.reduceAdd, Nat.reduceLeDiff, Nat.reduceSub, Nat.reduceMul, Int.reduceLT, Int.reduceLE, Int.reduceEq, Int.reduceAdd, Int.reduceSub, Int.reduceMul, h0, h1, o1, oc, ro, g12, z12, q0, wf2, gu2, zu2, o21, hfo]
        exact ⟨_, ⟨ro2, rfl, hSr⟩, rfl⟩
  obtain ⟨r', N, hk, r, hr, rfl⟩ := key
  exact ⟨r, hr, fun M => call_own tf23 rfl hk (ic mem0) (ic M)⟩
end Go.Proofs.Ytbemomagabjbnaa
