/-
  link: Take.
-/
import Derived.Test.YtbemomagabjbnaaLoH
set_option linter.unusedSimpArgs false
set_option linter.unusedVariables false
set_option maxRecDepth 100000
namespace Go.Proofs.Ytbemomagabjbnaa
open Go Go.Ax
variable {fuel : Nat} {M : Mem} {Q : AV → Mem → Prop} {d : Nat}

def End.owes (e : End) (b : Bool) : End := { e with owe := e.owe || b }
def End.next (e : End) : End := { e with want := e.want + 1 }
def End.take (e : End) (p : Pk) : End × List UInt8 × Bool × Int :=
  if e.may && p.may then
    if p.ep ≠ e.ep ∨ (p.seq = e.want ∧ 16777216 ≤ e.want + 1) then (e, [], false, 0)
    else if p.seq ≠ e.want then ((e.acked p.ack).owes (decide (0 < p.seq)), [], false, 0) else (((e.acked p.ack).owes (decide (0 < p.seq))).next, p.body, true, 0)
  else (zeroE, [], false, 8)
theorem acked_plain (e : End) (ack : Int) : (e.acked ack).ep = e.ep ∧ (e.acked ack).nx = e.nx ∧ (e.acked ack).want = e.want ∧ (e.acked ack).owe = e.owe := by
  unfold End.acked; split <;> exact ⟨rfl, rfl, rfl, rfl⟩

set_option maxHeartbeats 16000000 in
theorem etake_run {ae ap : AV} {e : End} {p : Pk} (he : IsEnd ae e) (hp : IsPk ap p) (hpl : p.body.length ≤ 1000000) (hf : 3000 < fuel) : ∃ r rb, IsEnd r (e.take p).1 ∧ Bs rb (e.take p).2.1 ∧ ∀ M, callN Try.prog (fsT tbl) fuel (d + 5) (.fn 25) [ae, ap] M = some (.tup [r, rb, BL (e.take p).2.2.1, I64 (e.take p).2.2.2], M) := by
  have ic : ∀ M, icyL (icy 12) M [ae, ap] = some ([ae, ap], M) := fun M => by
    obtain ⟨o, rfl, hS⟩ := he
    obtain ⟨o2, rfl, hb⟩ := hp
    simp (maxSteps := 2000000) (disch := first | omega | assumption | (simp only [DS, Nat.reduceAdd, *]; done) | (simp only [DZ]; omega)) only [RUN, RU, footA, feetIn, resultsA, tupOf, frzL, slot, lay, icyL, fillA, repCells, kR, reduceIte, Nat.reduceEqDiff, Nat.reduceBEq, Nat.reduceLT, Nat.reduceAdd, Nat.reduceLeDiff, Nat.reduceSub, Nat.reduceMul, Int.reduceLT, Int.reduceLE, Int.reduceEq, Int.reduceAdd, Int.reduceSub, Int.reduceMul, hS.icy, hb.icy]
  have hck := fun M => pk_check (fuel := fuel) (d := d + 2) hp (by omega) M
  have key : W3 (callN Try.prog (fsT tbl) fuel (d + 5) (.fn 25) [ae, ap] mem0) (fun r' _ => ∃ r rb, IsEnd r (e.take p).1 ∧ Bs rb (e.take p).2.1 ∧ r' = .tup [r, rb, BL (e.take p).2.2.1, I64 (e.take p).2.2.2]) := by
    have he' := he
    obtain ⟨o, rfl, hS⟩ := he
    obtain ⟨ob, rfl, hb⟩ := hp
    have o1 := hS.one
    have oc := hS.cells
    have ro := hS.rows mem0
    have b1 := hb.one
    have bc := hb.cells
    have rb := hb.rows mem0
    refine call_gc tf25 rfl (ic mem0) (by simp [a25]) fun b ht hx => ?_
    have h0 := hx 0 _ rfl
    have h1 := hx 1 _ rfl
    clear hx
    simp only [a25, c25] at ht ⊢
    simp (maxSteps := 2000000) (disch := first | omega | assumption | (simp only [DS, Nat.reduceAdd, *]; done) | (simp only [DZ]; omega)) only [RUN, RU, footA, feetIn, resultsA, tupOf, frzL, slot, lay, icyL, fillA, repCells, kR, reduceIte, Nat.reduceEqDiff, Nat.reduceBEq, Nat.reduceLT, Nat.reduceAdd, Nat.reduceLeDiff, Nat.reduceSub, Nat.reduceMul, Int.reduceLT, Int.reduceLE, Int.reduceEq, Int.reduceAdd, Int.reduceSub, Int.reduceMul, h0, h1, o1, oc, ro, b1, bc, rb]
    have wY : Wf ((mem0.add (.row false [I64 e.ep, I64 e.nx, o, I64 e.want, I64 e.since, BL e.owe])).add (.row false [I64 p.ep, I64 p.seq, I64 p.ack, ob])) := (Wf.mem0.add _).add _
    have sY : ((mem0.add (.row false [I64 e.ep, I64 e.nx, o, I64 e.want, I64 e.since, BL e.owe])).add (.row false [I64 p.ep, I64 p.seq, I64 p.ack, ob])).size = 2 := by rw [add_size, add_size, mem0_size]
    have gY1 : ((mem0.add (.row false [I64 e.ep, I64 e.nx, o, I64 e.want, I64 e.since, BL e.owe])).add (.row false [I64 p.ep, I64 p.seq, I64 p.ack, ob])).get 1 = some (.row false [I64 p.ep, I64 p.seq, I64 p.ack, ob]) := get_add_new (Wf.mem0.add _) _ _ (by rw [add_size, mem0_size]; omega) (by rw [add_size, mem0_size]; omega)
    generalize (mem0.add (.row false [I64 e.ep, I64 e.nx, o, I64 e.want, I64 e.since, BL e.owe])).add (.row false [I64 p.ep, I64 p.seq, I64 p.ack, ob]) = Y at *
    have wX : Wf (Y.add (.row false [I64 0, I64 0, NIL, I64 0, I64 0, BL false])) := wY.add _
    have sX : (Y.add (.row false [I64 0, I64 0, NIL, I64 0, I64 0, BL false])).size = 3 := by rw [add_size, sY]
    have gX1 : (Y.add (.row false [I64 0, I64 0, NIL, I64 0, I64 0, BL false])).get 1 = some (.row false [I64 p.ep, I64 p.seq, I64 p.ack, ob]) := by rw [get_add wY _ _ (by omega)]; exact gY1
    have gX2 : (Y.add (.row false [I64 0, I64 0, NIL, I64 0, I64 0, BL false])).get 2 = some (.row false [I64 0, I64 0, NIL, I64 0, I64 0, BL false]) := get_add_new wY _ _ (by omega) (by omega)
    generalize Y.add (.row false [I64 0, I64 0, NIL, I64 0, I64 0, BL false]) = X at *
    have q8 : decide ((8 : Int) = 0) = false := rfl
    have q0 : decide ((0 : Int) = 0) = true := rfl
    refine of_run (d := d + 1) e _ he' (by omega) wX (fun hm M' wf' sM' kp => ?_) (fun hm u o' M' wf' sM' kp hu gu hSM hno => ?_)
    · have g2 : M'.get 2 = some (.row false [I64 0, I64 0, NIL, I64 0, I64 0, BL false]) := by rw [kp 2 (by omega)]; exact gX2
      have z2 : 2 < M'.size := by omega
      have ht : e.take p = (zeroE, [], false, 8) := by unfold End.take; rw [hm]; rfl
      rw [ht]
      simp (maxSteps := 2000000) (disch := first | omega | assumption | (simp only [DS, Nat.reduceAdd, *]; done) | (simp only [DZ]; omega)) only [RUN, RU, footA, feetIn, resultsA, tupOf, frzL, slot, lay, icyL, fillA, repCells, kR, reduceIte, Nat.reduceEqDiff, Nat.reduceBEq, Nat.reduceLT, Nat.reduceAdd, Nat.reduceLeDiff, Nat.reduceSub, Nat.reduceMul, Int.reduceLT, Int.reduceLE, Int.reduceEq, Int.reduceAdd, Int.reduceSub, Int.reduceMul, h0, h1, g2, z2, q8, wf']
      exact ⟨_, _, isZeroE, .inl ⟨rfl, rfl⟩, rfl⟩
    · have g1 : M'.get 1 = some (.row false [I64 p.ep, I64 p.seq, I64 p.ack, ob]) := by rw [kp 1 (by omega)]; exact gX1
      have g2 : M'.get 2 = some (.row false [I64 0, I64 0, NIL, I64 0, I64 0, BL false]) := by rw [kp 2 (by omega)]; exact gX2
      have z2 : 2 < M'.size := by omega
      have z1 : 1 < M'.size := by omega
      have zu := Mem.get_lt gu
      have zub : u.blt M'.size = true := blt_t zu
      obtain ⟨hl, hbd, e1, e2, e3, e4, e5, e6⟩ := may_facts hm
      cases hpm : p.may with
      | false =>
        rw [hpm] at hck
        replace hck : ∀ M, callN Try.prog (fsT tbl) fuel (d + 4) (.fn 20) [.agg [I64 p.ep, I64 p.seq, I64 p.ack, ob]] M = some (I64 8, M) := hck
        have ht : e.take p = (zeroE, [], false, 8) := by unfold End.take; rw [hm, hpm]; rfl
        rw [ht]
        simp (maxSteps := 2000000) (disch := first | omega | assumption | (simp only [DS, Nat.reduceAdd, *]; done) | (simp only [DZ]; omega)) only [RUN, RU, footA, feetIn, resultsA, tupOf, frzL, slot, lay, icyL, fillA, repCells, kR, reduceIte, Nat.reduceEqDiff, Nat.reduceBEq, Nat.reduceLT, Nat.reduceAdd, Nat.reduceLeDiff, Nat.reduceSub, Nat.reduceMul, Int.reduceLT, Int.reduceLE, Int.reduceEq, Int.reduceAdd, Int.reduceSub, Int.reduceMul, h0, h1, g1, g2, z2, z1, q8, q0, hck, b1, bc, rb, wf']
        exact ⟨_, _, isZeroE, .inl ⟨rfl, rfl⟩, rfl⟩
      | true =>
        rw [hpm] at hck
        replace hck : ∀ M, callN Try.prog (fsT tbl) fuel (d + 4) (.fn 20) [.agg [I64 p.ep, I64 p.seq, I64 p.ack, ob]] M = some (I64 0, M) := hck
        have o'1 := hSM.one
        have wW : IntKind.i64.wrap (e.want + 1) = e.want + 1 := by rw [wrap_i64] <;> omega
        by_cases hst : p.ep ≠ e.ep ∨ (p.seq = e.want ∧ 16777216 ≤ e.want + 1)
        · have ht : e.take p = (e, [], false, 0) := by unfold End.take; rw [hm, hpm, if_pos (show (true && true) = true from rfl), if_pos hst]
          rw [ht]
          obtain ⟨ro2, hfo, hSr⟩ := (hSM.keep (N := M'.upd 2 (.row false [I64 e.ep, I64 e.nx, o', I64 e.want, I64 e.since, BL e.owe])) fun id h => get_upd_ne wf' _ _ _ (by have := hno id h; omega)).frz cel_Item (k := 11) (by omega)
          by_cases hep : p.ep = e.ep
          · have qe : decide (p.ep = e.ep) = true := decide_eq_true hep
            have hs2 : p.seq = e.want ∧ 16777216 ≤ e.want + 1 := hst.resolve_left (fun h => h hep)
            have qs : decide (p.seq = e.want) = true := decide_eq_true hs2.1
            have qw : decide (16777216 ≤ e.want + 1) = true := decide_eq_true hs2.2
            simp (maxSteps := 2000000) (disch := first | omega | assumption | (simp only [DS, Nat.reduceAdd, *]; done) | (simp only [DZ]; omega)) only [RUN, RU, footA, feetIn, resultsA, tupOf, frzL, slot, lay, icyL, fillA, repCells, kR, reduceIte, Nat.reduceEqDiff, Nat.reduceBEq, Nat.reduceLT, Nat.reduceAdd, Nat.reduceLeDiff, Nat.reduceSub, Nat.reduceMul, Int.reduceLT, Int.reduceLE, Int.reduceEq, Int.reduceAdd, Int.reduceSub, Int.reduceMul, h0, h1, g1, g2, z2, z1, q8, q0, hck, b1, bc, rb, wf', gu, zub, qe, qs, qw, wW, o'1, hfo]
            exact ⟨_, _, ⟨ro2, rfl, hSr⟩, .inl ⟨rfl, rfl⟩, rfl⟩
          · have qe : decide (p.ep = e.ep) = false := decide_eq_false hep
            simp (maxSteps := 2000000) (disch := first | omega | assumption | (simp only [DS, Nat.reduceAdd, *]; done) | (simp only [DZ]; omega)) only [RUN, RU, footA, feetIn, resultsA, tupOf, frzL, slot, lay, icyL, fillA, repCells, kR, reduceIte, Nat.reduceEqDiff, Nat.reduceBEq, Nat.reduceLT, Nat.reduceAdd, Nat.reduceLeDiff, Nat.reduceSub, Nat.reduceMul, Int.reduceLT, Int.reduceLE, Int.reduceEq, Int.reduceAdd, Int.reduceSub, Int.reduceMul, h0, h1, g1, g2, z2, z1, q8, q0, hck, b1, bc, rb, wf', gu, zub, qe, o'1, hfo]
            exact ⟨_, _, ⟨ro2, rfl, hSr⟩, .inl ⟨rfl, rfl⟩, rfl⟩
        · have hep : p.ep = e.ep := Classical.byContradiction fun h => hst (.inl h)
          have qe : decide (p.ep = e.ep) = true := decide_eq_true hep
          obtain ⟨c1, c2, c3, c4⟩ := acked_plain e p.ack
          obtain ⟨rbd, hrbd, hclo⟩ := bclone_run (fuel := fuel) (d := d + 3) hb (by omega)
          have rrbd := hrbd.rows mem0
          have frb := fun M => hrbd.frz M 0 12 (by omega)
          by_cases hsw : p.seq = e.want
          · have qs : decide (p.seq = e.want) = true := decide_eq_true hsw
            have qw : decide (16777216 ≤ e.want + 1) = false := decide_eq_false (fun h => hst (.inr ⟨hsw, h⟩))
            have hpos : decide (0 < p.seq) = true := decide_eq_true (by omega)
            have ht : e.take p = (((e.acked p.ack).owes (decide (0 < p.seq))).next, p.body, true, 0) := by unfold End.take; rw [hm, hpm, if_pos (show (true && true) = true from rfl), if_neg hst, if_neg (by simp [hsw])]
            rw [ht]
            simp (maxSteps := 2000000) (disch := first | omega | assumption | (simp only [DS, Nat.reduceAdd, *]; done) | (simp only [DZ]; omega)) only [RUN, RU, footA, feetIn, resultsA, tupOf, frzL, slot, lay, icyL, fillA, repCells, kR, reduceIte, Nat.reduceEqDiff, Nat.reduceBEq, Nat.reduceLT, Nat.reduceAdd, Nat.reduceLeDiff, Nat.reduceSub, Nat.reduceMul, Int.reduceLT, Int.reduceLE, Int.reduceEq, Int.reduceAdd, Int.reduceSub, Int.reduceMul, h0, h1, g1, g2, z2, z1, q8, q0, hck, b1, bc, rb, wf', gu, zub, qe, qs, qw, wW, o'1]
            refine acked_run (d := d) (K := X.size) ⟨wf', sM', o', gu, hSM, hno⟩ (by omega) p.ack hf fun N hO sN kN => ?_
            obtain ⟨wf2, le2, o2, gu2, hF, hno2⟩ := hO
            rw [c1, c2, c3, c4] at gu2
            have g1N : N.get 1 = some (.row false [I64 p.ep, I64 p.seq, I64 p.ack, ob]) := by rw [kN 1 (by omega) (by omega)]; exact g1
            have g2N : N.get 2 = some (.row false [I64 0, I64 0, NIL, I64 0, I64 0, BL false]) := by rw [kN 2 (by omega) (by omega)]; exact g2
            have zuN := Mem.get_lt gu2
            have zuNb : u.blt N.size = true := blt_t zuN
            have z1N : 1 < N.size := by omega
            have z2N : 2 < N.size := by omega
            have hu1 : u ≠ 1 := by omega
            have hu2 : u ≠ 2 := by omega
            have o21 := hF.1
            have o2c := hF.2.1
            obtain ⟨ro2, hfo, hSr⟩ := hF.2.2 (((N.upd u (.row false [I64 e.ep, I64 e.nx, o2, I64 e.want, I64 (e.acked p.ack).since, BL true])).upd u (.row false [I64 e.ep, I64 e.nx, o2, I64 (e.want + 1), I64 (e.acked p.ack).since, BL true])).upd 2 (.row false [I64 e.ep, I64 e.nx, o2, I64 (e.want + 1), I64 (e.acked p.ack).since, BL true])) fun j hj => by
              have := hno2 j hj
              rw [get_upd_ne ((wf2.upd _ _).upd _ _) _ _ _ (by omega), get_upd_ne (wf2.upd _ _) _ _ _ (by omega), get_upd_ne wf2 _ _ _ (by omega)]
            have hres : IsEnd (.agg [I64 e.ep, I64 e.nx, ro2, I64 (e.want + 1), I64 (e.acked p.ack).since, BL true]) ((e.acked p.ack).owes (decide (0 < p.seq))).next := ⟨ro2, by simp only [End.next, End.owes, c1, c2, c3, c4, hpos, Bool.or_true], hSr⟩
            cases howe : e.owe with
            | true =>
              rw [howe] at gu2
              simp (maxSteps := 2000000) (disch := first | omega | assumption | (simp only [DS, Nat.reduceAdd, *]; done) | (simp only [DZ]; omega)) only [RUN, RU, footA, feetIn, resultsA, tupOf, frzL, slot, lay, icyL, fillA, repCells, kR, reduceIte, Nat.reduceEqDiff, Nat.reduceBEq, Nat.reduceLT, Nat.reduceAdd, Nat.reduceLeDiff, Nat.reduceSub, Nat.reduceMul, Int.reduceLT, Int.reduceLE, Int.reduceEq, Int.reduceAdd, Int.reduceSub, Int.reduceMul, h0, h1, gu2, zuNb, zuN, z1N, z2N, hu1, hu2, g1N, g2N, wf2, o21, o2c, qs, wW, hclo, rb, rrbd, hfo, frb]
              exact ⟨_, _, hres, hrbd, rfl⟩
            | false =>
              rw [howe] at gu2
              simp (maxSteps := 2000000) (disch := first | omega | assumption | (simp only [DS, Nat.reduceAdd, *]; done) | (simp only [DZ]; omega)) only [RUN, RU, footA, feetIn, resultsA, tupOf, frzL, slot, lay, icyL, fillA, repCells, kR, reduceIte, Nat.reduceEqDiff, Nat.reduceBEq, Nat.reduceLT, Nat.reduceAdd, Nat.reduceLeDiff, Nat.reduceSub, Nat.reduceMul, Int.reduceLT, Int.reduceLE, Int.reduceEq, Int.reduceAdd, Int.reduceSub, Int.reduceMul, h0, h1, gu2, zuNb, zuN, z1N, z2N, hu1, hu2, g1N, g2N, wf2, o21, o2c, qs, hpos, wW, hclo, rb, rrbd, hfo, frb]
              rw [hpos] at hres
              exact ⟨_, _, hres, hrbd, rfl⟩
          · have qs : decide (p.seq = e.want) = false := decide_eq_false hsw
            have ht : e.take p = ((e.acked p.ack).owes (decide (0 < p.seq)), [], false, 0) := by unfold End.take; rw [hm, hpm, if_pos (show (true && true) = true from rfl), if_neg hst, if_pos hsw]
            rw [ht]
            simp (maxSteps := 2000000) (disch := first | omega | assumption | (simp only [DS, Nat.reduceAdd, *]; done) | (simp only [DZ]; omega)) only [RUN, RU, footA, feetIn, resultsA, tupOf, frzL, slot, lay, icyL, fillA, repCells, kR, reduceIte, Nat.reduceEqDiff, Nat.reduceBEq, Nat.reduceLT, Nat.reduceAdd, Nat.reduceLeDiff, Nat.reduceSub, Nat.reduceMul, Int.reduceLT, Int.reduceLE, Int.reduceEq, Int.reduceAdd, Int.reduceSub, Int.reduceMul, h0, h1, g1, g2, z2, z1, q8, q0, hck, b1, bc, rb, wf', gu, zub, qe, qs, o'1]
            refine acked_run (d := d) (K := X.size) ⟨wf', sM', o', gu, hSM, hno⟩ (by omega) p.ack hf fun N hO sN kN => ?_
            obtain ⟨wf2, le2, o2, gu2, hF, hno2⟩ := hO
            rw [c1, c2, c3, c4] at gu2
            have g1N : N.get 1 = some (.row false [I64 p.ep, I64 p.seq, I64 p.ack, ob]) := by rw [kN 1 (by omega) (by omega)]; exact g1
            have g2N : N.get 2 = some (.row false [I64 0, I64 0, NIL, I64 0, I64 0, BL false]) := by rw [kN 2 (by omega) (by omega)]; exact g2
            have zuN := Mem.get_lt gu2
            have zuNb : u.blt N.size = true := blt_t zuN
            have z1N : 1 < N.size := by omega
            have z2N : 2 < N.size := by omega
            have hu1 : u ≠ 1 := by omega
            have hu2 : u ≠ 2 := by omega
            have o21 := hF.1
            have o2c := hF.2.1
            have hfo : ∀ B : Bool, ∃ ro2, frz ((N.upd u (.row false [I64 e.ep, I64 e.nx, o2, I64 e.want, I64 (e.acked p.ack).since, BL B])).upd 2 (.row false [I64 e.ep, I64 e.nx, o2, I64 e.want, I64 (e.acked p.ack).since, BL B])) 0 11 o2 = some ro2 ∧ IsEnd (.agg [I64 e.ep, I64 e.nx, ro2, I64 e.want, I64 (e.acked p.ack).since, BL B]) ⟨e.ep, e.nx, (e.acked p.ack).out, e.want, (e.acked p.ack).since, B⟩ := fun B => by
              obtain ⟨ro2, hfo, hSr⟩ := hF.2.2 ((N.upd u (.row false [I64 e.ep, I64 e.nx, o2, I64 e.want, I64 (e.acked p.ack).since, BL B])).upd 2 (.row false [I64 e.ep, I64 e.nx, o2, I64 e.want, I64 (e.acked p.ack).since, BL B])) fun j hj => by
                have := hno2 j hj
                rw [get_upd_ne (wf2.upd _ _) _ _ _ (by omega), get_upd_ne wf2 _ _ _ (by omega)]
              exact ⟨ro2, hfo, ro2, rfl, hSr⟩
            have hend : ∀ B : Bool, (e.owe || decide (0 < p.seq)) = B → (⟨e.ep, e.nx, (e.acked p.ack).out, e.want, (e.acked p.ack).since, B⟩ : End) = (e.acked p.ack).owes (decide (0 < p.seq)) := fun B hB => by
              simp only [End.owes, c1, c2, c3, c4, hB]
            cases howe : e.owe with
            | true =>
              rw [howe] at gu2
              obtain ⟨ro2, hf1, hres⟩ := hfo true
              rw [hend true (by rw [howe]; rfl)] at hres
              simp (maxSteps := 2000000) (disch := first | omega | assumption | (simp only [DS, Nat.reduceAdd, *]; done) | (simp only [DZ]; omega)) only [RUN, RU, footA, feetIn, resultsA, tupOf, frzL, slot, lay, icyL, fillA, repCells, kR, reduceIte, Nat.reduceEqDiff, Nat.reduceBEq, Nat.reduceLT, Nat.reduceAdd, Nat.reduceLeDiff, Nat.reduceSub, Nat.reduceMul, Int.reduceLT, Int.reduceLE, Int.reduceEq, Int.reduceAdd, Int.reduceSub, Int.reduceMul, h0, h1, gu2, zuNb, zuN, z1N, z2N, hu1, hu2, g1N, g2N, wf2, o21, o2c, qs, hf1]
              exact ⟨_, _, hres, .inl ⟨rfl, rfl⟩, rfl⟩
            | false =>
              rw [howe] at gu2
              cases hpos : decide (0 < p.seq) with
              | true =>
                obtain ⟨ro2, hf1, hres⟩ := hfo true
                rw [hend true (by rw [howe, hpos]; rfl), hpos] at hres
                simp (maxSteps := 2000000) (disch := first | omega | assumption | (simp only [DS, Nat.reduceAdd, *]; done) | (simp only [DZ]; omega)) only [RUN, RU, footA, feetIn, resultsA, tupOf, frzL, slot, lay, icyL, fillA, repCells, kR, reduceIte, Nat.reduceEqDiff, Nat.reduceBEq, Nat.reduceLT, Nat.reduceAdd, Nat.reduceLeDiff, Nat.reduceSub, Nat.reduceMul, Int.reduceLT, Int.reduceLE, Int.reduceEq, Int.reduceAdd, Int.reduceSub, Int.reduceMul, h0, h1, gu2, zuNb, zuN, z1N, z2N, hu1, hu2, g1N, g2N, wf2, o21, o2c, qs, hpos, hf1]
                exact ⟨_, _, hres, .inl ⟨rfl, rfl⟩, rfl⟩
              | false =>
                obtain ⟨ro2, hf1, hres⟩ := hfo false
                rw [hend false (by rw [howe, hpos]; rfl), hpos] at hres
                simp (maxSteps := 2000000) (disch := first | omega | assumption | (simp only [DS, Nat.reduceAdd, *]; done) | (simp only [DZ]; omega)) only [RUN, RU, footA, feetIn, resultsA, tupOf, frzL, slot, lay, icyL, fillA, repCells, kR, reduceIte, Nat.reduceEqDiff, Nat.reduceBEq, Nat.reduceLT, Nat.reduceAdd, Nat.reduceLeDiff, Nat.reduceSub, Nat.reduceMul, Int.reduceLT, Int.reduceLE, Int.reduceEq, Int.reduceAdd, Int.reduceSub, Int.reduceMul, h0, h1, gu2, zuNb, zuN, z1N, z2N, hu1, hu2, g1N, g2N, wf2, o21, o2c, qs, hpos, hf1]
                exact ⟨_, _, hres, .inl ⟨rfl, rfl⟩, rfl⟩
  obtain ⟨r', N, hk, r, rb, hr, hrb, rfl⟩ := key
  exact ⟨r, rb, hr, hrb, fun M => call_own tf25 rfl hk (ic mem0) (ic M)⟩
end Go.Proofs.Ytbemomagabjbnaa
