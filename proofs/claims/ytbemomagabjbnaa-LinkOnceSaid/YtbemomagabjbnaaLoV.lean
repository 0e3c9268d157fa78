/-
  The law's comes.
-/
import Derived.Test.YtbemomagabjbnaaLoU
set_option linter.unusedSimpArgs false
set_option linter.unusedVariables false
set_option maxRecDepth 100000
namespace Go.Proofs.Ytbemomagabjbnaa
open Go Go.Ax
variable {fuel : Nat} {M : Mem} {Q : AV → Mem → Prop} {d : Nat}

theorem apart2_e (n n' a b : Nat) : apart2 (.acc [] []) (fpOf [] [] n n', a, b) = true := by
  unfold fpOf
  cases hb : Nat.beq n n' <;> simp [apart2, FP.apart, disj, FP.reads, FP.writes, hb]
theorem fin_pair {y : Pair} (h : y.ok = true) {v : AV} (k : ∃ oa ob au ad ap at', v = .agg [I64 y.a.ep, I64 y.a.nx, oa, I64 y.a.want, I64 y.a.since, BL y.a.owe, I64 y.b.ep, I64 y.b.nx, ob, I64 y.b.want, I64 y.b.since, BL y.b.owe, au, ad, ap, at', BL true] ∧
  Sl 2 isItem oa y.a.out ∧ Sl 2 isItem ob y.b.out ∧ Sl 4 isPkR au y.up ∧ Sl 4 isPkR ad y.down ∧ Bs ap y.put ∧ Bs at' y.told) : IsPair v y := by
  unfold IsPair
  rw [h]
  exact k
set_option maxHeartbeats 8000000 in
theorem comesDL {v : AV} {x : Pair} (hx : IsPair v x) (hok : x.ok = true) (n : Int) (hu : x.down.length ≤ 100000) (ht0 : x.told.length ≤ 100000) (hB : ∀ p ∈ x.down, p.body.length ≤ 1000000) (hE : ∀ p ∈ x.down, (x.a.take p).2.2 = (false, 0)) (hf : 3000 < fuel) : ∃ r, IsPair r (x.comes n true true) ∧ ∀ M, callN Try.prog (fsT tbl) fuel (d + 6) (.fn 30) [v, I64 n, BL true, BL true] M = some (r, M) := by
  obtain ⟨oa, ob, au, ad, ap, at', rfl, ha, hb, hup, hdn, hpu, hto⟩ := id hx
  have a1 := ha.one
  have ac := ha.cells
  have ra := ha.rows mem0
  have fa := fun M => ha.frz M 0 11 (by omega)
  have b1 := hb.one
  have bc := hb.cells
  have rb := hb.rows mem0
  have fb := fun M => hb.frz M 0 11 (by omega)
  have u1 := hup.one
  have uc := hup.cells
  have ru := hup.rows mem0
  have fu := fun M => hup.frz M 0 11 (by omega)
  have d1 := hdn.one
  have dc := hdn.cells
  have rd := hdn.rows mem0
  have fd := fun M => hdn.frz M 0 11 (by omega)
  have p1 := hpu.one
  have pc := hpu.cells
  have rp := hpu.rows mem0
  have fp := fun M => hpu.frz M 0 11 (by omega)
  have t1 := hto.one
  have tc := hto.cells
  have rt := hto.rows mem0
  have ft := fun M => hto.frz M 0 11 (by omega)
  have lu := hup.len
  have ld := hdn.len
  have ic : ∀ M, icyL (icy 12) M [.agg [I64 x.a.ep, I64 x.a.nx, oa, I64 x.a.want, I64 x.a.since, BL x.a.owe, I64 x.b.ep, I64 x.b.nx, ob, I64 x.b.want, I64 x.b.since, BL x.b.owe, au, ad, ap, at', BL x.ok], I64 n, BL true, BL true] = some ([.agg [I64 x.a.ep, I64 x.a.nx, oa, I64 x.a.want, I64 x.a.since, BL x.a.owe, I64 x.b.ep, I64 x.b.nx, ob, I64 x.b.want, I64 x.b.since, BL x.b.owe, au, ad, ap, at', BL x.ok], I64 n, BL true, BL true], M) := fun M => by
    simp (maxSteps := 2000000) (disch := first | omega | assumption | (simp only [DS, Nat.reduceAdd, *]; done) | (simp only [DZ]; omega)) only [RUN, RU, footA, feetIn, resultsA, tupOf, frzL, slot, lay, icyL, fillA, repCells, kR, reduceIte, Nat.reduceEqDiff, Nat.reduceBEq, Nat.reduceLT, Nat.reduceAdd, Nat.reduceLeDiff, Nat.reduceSub, Nat.reduceMul, Int.reduceLT, Int.reduceLE, Int.reduceEq, Int.reduceAdd, Int.reduceSub, Int.reduceMul, ha.icy, hb.icy, hup.icy, hdn.icy, hpu.icy, hto.icy]
  have key : W3 (callN Try.prog (fsT tbl) fuel (d + 6) (.fn 30) [.agg [I64 x.a.ep, I64 x.a.nx, oa, I64 x.a.want, I64 x.a.since, BL x.a.owe, I64 x.b.ep, I64 x.b.nx, ob, I64 x.b.want, I64 x.b.since, BL x.b.owe, au, ad, ap, at', BL x.ok], I64 n, BL true, BL true] mem0) (fun r' _ => ∃ r, IsPair r (x.comes n true true) ∧ r' = r) := by
    refine call_gc tf30 rfl (ic mem0) (by simp [a30]) fun b ht hx' => ?_
    have h0 := hx' 0 _ rfl
    have h1 := hx' 1 _ rfl
    have h2 := hx' 2 _ rfl
    have h3 := hx' 3 _ rfl
    clear hx'
    simp only [a30, c30] at ht ⊢
    by_cases hn : n < 0 ∨ (x.down.length : Int) ≤ n
    · have he : x.comes n true true = x := by
        unfold Pair.comes
        simp only [if_true, if_false, Bool.false_eq_true]
        rcases hn with hn | hn
        · cases x.down[n.toNat]? <;> simp [hn]
        · rw [List.getElem?_eq_none (by omega)]
      rw [he]
      by_cases hn0 : n < 0
      · have q1 : decide (n < 0) = true := decide_eq_true hn0
        simp (maxSteps := 2000000) (disch := first | omega | assumption | (simp only [DS, Nat.reduceAdd, *]; done) | (simp only [DZ]; omega)) only [RUN, RU, footA, feetIn, resultsA, tupOf, frzL, slot, lay, icyL, fillA, repCells, kR, reduceIte, Nat.reduceEqDiff, Nat.reduceBEq, Nat.reduceLT, Nat.reduceAdd, Nat.reduceLeDiff, Nat.reduceSub, Nat.reduceMul, Int.reduceLT, Int.reduceLE, Int.reduceEq, Int.reduceAdd, Int.reduceSub, Int.reduceMul, h0, h1, h2, h3, a1, b1, u1, d1, p1, t1, ac, bc, uc, dc, pc, tc, ra, rb, ru, rd, rp, rt, fa, fb, fu, fd, fp, ft, lu, ld, ha.icy, hb.icy, hok, apart2_pu, q1]
        exact ⟨_, (by rw [hok] at hx; exact hx), rfl⟩
      · have q1 : decide (n < 0) = false := decide_eq_false hn0
        have q2 : decide ((x.down.length : Int) ≤ n) = true := decide_eq_true (hn.resolve_left hn0)
        simp (maxSteps := 2000000) (disch := first | omega | assumption | (simp only [DS, Nat.reduceAdd, *]; done) | (simp only [DZ]; omega)) only [RUN, RU, footA, feetIn, resultsA, tupOf, frzL, slot, lay, icyL, fillA, repCells, kR, reduceIte, Nat.reduceEqDiff, Nat.reduceBEq, Nat.reduceLT, Nat.reduceAdd, Nat.reduceLeDiff, Nat.reduceSub, Nat.reduceMul, Int.reduceLT, Int.reduceLE, Int.reduceEq, Int.reduceAdd, Int.reduceSub, Int.reduceMul, h0, h1, h2, h3, a1, b1, u1, d1, p1, t1, ac, bc, uc, dc, pc, tc, ra, rb, ru, rd, rp, rt, fa, fb, fu, fd, fp, ft, lu, ld, ha.icy, hb.icy, hok, apart2_pu, q1, q2]
        exact ⟨_, (by rw [hok] at hx; exact hx), rfl⟩
    · obtain ⟨j, rfl⟩ : ∃ j : Nat, n = j := ⟨n.toNat, by omega⟩
      have hj : j < x.down.length := by omega
      have q1 : decide ((j : Int) < 0) = false := decide_eq_false (by omega)
      have q2 : decide ((x.down.length : Int) ≤ j) = false := decide_eq_false (by omega)
      have w1 : IntKind.i64.wrap ((j : Int) + 1) = ((j + 1 : Nat) : Int) := by rw [wrap_i64] <;> omega
      obtain ⟨rw', hiad, ⟨po, rfl, hpb⟩, hlen⟩ := hdn.iad j hj
      obtain ⟨p, hp⟩ : ∃ p, p = x.down[j] := ⟨_, rfl⟩
      rw [← hp] at hiad hpb
      have hpm : p ∈ x.down := by rw [hp]; exact List.getElem_mem hj
      have hE1 := hE p hpm
      have po1 := hpb.one
      have poc := hpb.cells
      have por := hpb.rows mem0
      have pof := fun M => hpb.frz M 0 11 (by omega)
      obtain ⟨rs, rbd, ⟨os, rfl, hos⟩, hrb, hT⟩ := etake_run (fuel := fuel) (d := d) (ae := .agg [I64 x.a.ep, I64 x.a.nx, oa, I64 x.a.want, I64 x.a.since, BL x.a.owe]) (e := x.a) (ap := .agg [I64 p.ep, I64 p.seq, I64 p.ack, po]) (p := p) ⟨oa, rfl, ha⟩ ⟨po, rfl, hpb⟩ (hB p hpm) hf
      have s1 := hos.one
      have s2 := hos.cells
      have s6 := fun M => hos.frz M 0 11 (by omega)
      have t1' := hrb.one
      have t2' := hrb.cells
      have t3' := hrb.rows mem0
      have t4' := hrb.len
      have hgl : x.down[j]? = some p := by rw [List.getElem?_eq_getElem hj, ← hp]
      obtain ⟨e1, e2⟩ := Prod.mk.inj hE1
      have z00 : decide ((0 : Int) = 0) = true := rfl
      have he : x.comes (j : Int) true true = { x with down := x.down, a := (x.a.take p).1 } := by
        unfold Pair.comes
        simp only [if_true, if_false, Bool.false_eq_true, Int.toNat_natCast, hgl]
        rw [if_neg (by omega)]
        simp [hok, e1, e2]
      rw [he]
      simp (maxSteps := 2000000) (disch := first | omega | assumption | (simp only [DS, Nat.reduceAdd, *]; done) | (simp only [DZ]; omega)) only [RUN, RU, footA, feetIn, resultsA, tupOf, frzL, slot, lay, icyL, fillA, repCells, kR, reduceIte, Nat.reduceEqDiff, Nat.reduceBEq, Nat.reduceLT, Nat.reduceAdd, Nat.reduceLeDiff, Nat.reduceSub, Nat.reduceMul, Int.reduceLT, Int.reduceLE, Int.reduceEq, Int.reduceAdd, Int.reduceSub, Int.reduceMul, h0, h1, h2, h3, a1, b1, u1, d1, p1, t1, ac, bc, uc, dc, pc, tc, ra, rb, ru, rd, rp, rt, fa, fb, fu, fd, fp, ft, lu, ld, ha.icy, hb.icy, hok, apart2_pu, q1, q2, w1, hiad, po1, poc, por, hT, s1, s2, s6, t1', t2', t3', t4', e1, e2, z00]
      refine ⟨_, ?_, rfl⟩
      exact fin_pair (by first | exact hok | rfl) ⟨os, ob, au, ad, ap, at', rfl, hos, hb, hup, hdn, hpu, hto⟩
  obtain ⟨r', N, hk, r, hr, rfl⟩ := key
  exact ⟨r', hr, fun M => call_own tf30 rfl hk (ic mem0) (ic M)⟩
set_option maxHeartbeats 8000000 in
theorem comesDN {v : AV} {x : Pair} (hx : IsPair v x) (hok : x.ok = true) (n : Int) (hu : x.down.length ≤ 100000) (ht0 : x.told.length ≤ 100000) (hB : ∀ p ∈ x.down, p.body.length ≤ 1000000) (hE : ∀ p ∈ x.down, (x.a.take p).2.2 = (false, 0)) (hf : 3000 < fuel) : ∃ r, IsPair r (x.comes n true false) ∧ ∀ M, callN Try.prog (fsT tbl) fuel (d + 6) (.fn 30) [v, I64 n, BL true, BL false] M = some (r, M) := by
  obtain ⟨oa, ob, au, ad, ap, at', rfl, ha, hb, hup, hdn, hpu, hto⟩ := id hx
  have a1 := ha.one
  have ac := ha.cells
  have ra := ha.rows mem0
  have fa := fun M => ha.frz M 0 11 (by omega)
  have b1 := hb.one
  have bc := hb.cells
  have rb := hb.rows mem0
  have fb := fun M => hb.frz M 0 11 (by omega)
  have u1 := hup.one
  have uc := hup.cells
  have ru := hup.rows mem0
  have fu := fun M => hup.frz M 0 11 (by omega)
  have d1 := hdn.one
  have dc := hdn.cells
  have rd := hdn.rows mem0
  have fd := fun M => hdn.frz M 0 11 (by omega)
  have p1 := hpu.one
  have pc := hpu.cells
  have rp := hpu.rows mem0
  have fp := fun M => hpu.frz M 0 11 (by omega)
  have t1 := hto.one
  have tc := hto.cells
  have rt := hto.rows mem0
  have ft := fun M => hto.frz M 0 11 (by omega)
  have lu := hup.len
  have ld := hdn.len
  have ic : ∀ M, icyL (icy 12) M [.agg [I64 x.a.ep, I64 x.a.nx, oa, I64 x.a.want, I64 x.a.since, BL x.a.owe, I64 x.b.ep, I64 x.b.nx, ob, I64 x.b.want, I64 x.b.since, BL x.b.owe, au, ad, ap, at', BL x.ok], I64 n, BL true, BL false] = some ([.agg [I64 x.a.ep, I64 x.a.nx, oa, I64 x.a.want, I64 x.a.since, BL x.a.owe, I64 x.b.ep, I64 x.b.nx, ob, I64 x.b.want, I64 x.b.since, BL x.b.owe, au, ad, ap, at', BL x.ok], I64 n, BL true, BL false], M) := fun M => by
    simp (maxSteps := 2000000) (disch := first | omega | assumption | (simp only [DS, Nat.reduceAdd, *]; done) | (simp only [DZ]; omega)) only [RUN, RU, footA, feetIn, resultsA, tupOf, frzL, slot, lay, icyL, fillA, repCells, kR, reduceIte, Nat.reduceEqDiff, Nat.reduceBEq, Nat.reduceLT, Nat.reduceAdd, Nat.reduceLeDiff, Nat.reduceSub, Nat.reduceMul, Int.reduceLT, Int.reduceLE, Int.reduceEq, Int.reduceAdd, Int.reduceSub, Int.reduceMul, ha.icy, hb.icy, hup.icy, hdn.icy, hpu.icy, hto.icy]
  have key : W3 (callN Try.prog (fsT tbl) fuel (d + 6) (.fn 30) [.agg [I64 x.a.ep, I64 x.a.nx, oa, I64 x.a.want, I64 x.a.since, BL x.a.owe, I64 x.b.ep, I64 x.b.nx, ob, I64 x.b.want, I64 x.b.since, BL x.b.owe, au, ad, ap, at', BL x.ok], I64 n, BL true, BL false] mem0) (fun r' _ => ∃ r, IsPair r (x.comes n true false) ∧ r' = r) := by
    refine call_gc tf30 rfl (ic mem0) (by simp [a30]) fun b ht hx' => ?_
    have h0 := hx' 0 _ rfl
    have h1 := hx' 1 _ rfl
    have h2 := hx' 2 _ rfl
    have h3 := hx' 3 _ rfl
    clear hx'
    simp only [a30, c30] at ht ⊢
    by_cases hn : n < 0 ∨ (x.down.length : Int) ≤ n
    · have he : x.comes n true false = x := by
        unfold Pair.comes
        simp only [if_true, if_false, Bool.false_eq_true]
        rcases hn with hn | hn
        · cases x.down[n.toNat]? <;> simp [hn]
        · rw [List.getElem?_eq_none (by omega)]
      rw [he]
      by_cases hn0 : n < 0
      · have q1 : decide (n < 0) = true := decide_eq_true hn0
        simp (maxSteps := 2000000) (disch := first | omega | assumption | (simp only [DS, Nat.reduceAdd, *]; done) | (simp only [DZ]; omega)) only [RUN, RU, footA, feetIn, resultsA, tupOf, frzL, slot, lay, icyL, fillA, repCells, kR, reduceIte, Nat.reduceEqDiff, Nat.reduceBEq, Nat.reduceLT, Nat.reduceAdd, Nat.reduceLeDiff, Nat.reduceSub, Nat.reduceMul, Int.reduceLT, Int.reduceLE, Int.reduceEq, Int.reduceAdd, Int.reduceSub, Int.reduceMul, h0, h1, h2, h3, a1, b1, u1, d1, p1, t1, ac, bc, uc, dc, pc, tc, ra, rb, ru, rd, rp, rt, fa, fb, fu, fd, fp, ft, lu, ld, ha.icy, hb.icy, hok, apart2_pu, q1]
        exact ⟨_, (by rw [hok] at hx; exact hx), rfl⟩
      · have q1 : decide (n < 0) = false := decide_eq_false hn0
        have q2 : decide ((x.down.length : Int) ≤ n) = true := decide_eq_true (hn.resolve_left hn0)
        simp (maxSteps := 2000000) (disch := first | omega | assumption | (simp only [DS, Nat.reduceAdd, *]; done) | (simp only [DZ]; omega)) only [RUN, RU, footA, feetIn, resultsA, tupOf, frzL, slot, lay, icyL, fillA, repCells, kR, reduceIte, Nat.reduceEqDiff, Nat.reduceBEq, Nat.reduceLT, Nat.reduceAdd, Nat.reduceLeDiff, Nat.reduceSub, Nat.reduceMul, Int.reduceLT, Int.reduceLE, Int.reduceEq, Int.reduceAdd, Int.reduceSub, Int.reduceMul, h0, h1, h2, h3, a1, b1, u1, d1, p1, t1, ac, bc, uc, dc, pc, tc, ra, rb, ru, rd, rp, rt, fa, fb, fu, fd, fp, ft, lu, ld, ha.icy, hb.icy, hok, apart2_pu, q1, q2]
        exact ⟨_, (by rw [hok] at hx; exact hx), rfl⟩
    · obtain ⟨j, rfl⟩ : ∃ j : Nat, n = j := ⟨n.toNat, by omega⟩
      have hj : j < x.down.length := by omega
      have q1 : decide ((j : Int) < 0) = false := decide_eq_false (by omega)
      have q2 : decide ((x.down.length : Int) ≤ j) = false := decide_eq_false (by omega)
      have w1 : IntKind.i64.wrap ((j : Int) + 1) = ((j + 1 : Nat) : Int) := by rw [wrap_i64] <;> omega
      obtain ⟨rw', hiad, ⟨po, rfl, hpb⟩, hlen⟩ := hdn.iad j hj
      obtain ⟨p, hp⟩ : ∃ p, p = x.down[j] := ⟨_, rfl⟩
      rw [← hp] at hiad hpb
      have hpm : p ∈ x.down := by rw [hp]; exact List.getElem_mem hj
      have hE1 := hE p hpm
      have po1 := hpb.one
      have poc := hpb.cells
      have por := hpb.rows mem0
      have pof := fun M => hpb.frz M 0 11 (by omega)
      obtain ⟨rs, rbd, ⟨os, rfl, hos⟩, hrb, hT⟩ := etake_run (fuel := fuel) (d := d) (ae := .agg [I64 x.a.ep, I64 x.a.nx, oa, I64 x.a.want, I64 x.a.since, BL x.a.owe]) (e := x.a) (ap := .agg [I64 p.ep, I64 p.seq, I64 p.ack, po]) (p := p) ⟨oa, rfl, ha⟩ ⟨po, rfl, hpb⟩ (hB p hpm) hf
      have s1 := hos.one
      have s2 := hos.cells
      have s6 := fun M => hos.frz M 0 11 (by omega)
      have t1' := hrb.one
      have t2' := hrb.cells
      have t3' := hrb.rows mem0
      have t4' := hrb.len
      have hgl : x.down[j]? = some p := by rw [List.getElem?_eq_getElem hj, ← hp]
      obtain ⟨e1, e2⟩ := Prod.mk.inj hE1
      have z00 : decide ((0 : Int) = 0) = true := rfl
      obtain ⟨s1', c1, hs1⟩ := sl_to hdn (j := j) (by omega)
      obtain ⟨s2', c2, hs2⟩ := sl_from hdn (i := j + 1) (by omega)
      have r1 := hs1.rows mem0
      have r2 := hs2.rows mem0
      have he : x.comes (j : Int) true false = { x with down := cutOut x.down j, a := (x.a.take p).1 } := by
        unfold Pair.comes
        simp only [if_true, if_false, Bool.false_eq_true, Int.toNat_natCast, hgl]
        rw [if_neg (by omega)]
        simp [hok, e1, e2]
      rw [he]
      simp (maxSteps := 2000000) (disch := first | omega | assumption | (simp only [DS, Nat.reduceAdd, *]; done) | (simp only [DZ]; omega)) only [RUN, RU, footA, feetIn, resultsA, tupOf, frzL, slot, lay, icyL, fillA, repCells, kR, reduceIte, Nat.reduceEqDiff, Nat.reduceBEq, Nat.reduceLT, Nat.reduceAdd, Nat.reduceLeDiff, Nat.reduceSub, Nat.reduceMul, Int.reduceLT, Int.reduceLE, Int.reduceEq, Int.reduceAdd, Int.reduceSub, Int.reduceMul, h0, h1, h2, h3, a1, b1, u1, d1, p1, t1, ac, bc, uc, dc, pc, tc, ra, rb, ru, rd, rp, rt, fa, fb, fu, fd, fp, ft, lu, ld, ha.icy, hb.icy, hok, apart2_pu, q1, q2, w1, hiad, po1, poc, por, hT, s1, s2, s6, t1', t2', t3', t4', e1, e2, z00, c1, c2, r1, r2]
      refine w3_app (by simp (maxSteps := 2000000) (disch := first | omega | assumption | (simp only [DS, Nat.reduceAdd, *]; done) | (simp only [DZ]; omega)) only [RUN, RU, footA, feetIn, resultsA, tupOf, frzL, slot, lay, icyL, fillA, repCells, kR, reduceIte, Nat.reduceEqDiff, Nat.reduceBEq, Nat.reduceLT, Nat.reduceAdd, Nat.reduceLeDiff, Nat.reduceSub, Nat.reduceMul, Int.reduceLT, Int.reduceLE, Int.reduceEq, Int.reduceAdd, Int.reduceSub, Int.reduceMul]) SlM.nil cel_Pk hs1 (by omega) (by simp; omega) (by simp; omega) fun o1 M1 m1 wf1 le1 sz1 kp1 nw1 wm1 rl1 on1 oc1 => ?_
      have g0 := kp1 0 (by simp only [add_size, upd_size, mem0_size]; omega) (by simp [rowOf])
      have g1 := kp1 1 (by simp only [add_size, upd_size, mem0_size]; omega) (by simp [rowOf])
      have g2 := kp1 2 (by simp only [add_size, upd_size, mem0_size]; omega) (by simp [rowOf])
      have nn1 : ∀ id, rowOf o1 = some id → 3 ≤ id := fun id h => by
        rcases nw1 id h with h' | h'
        · cases h'
        · simp only [add_size, upd_size, mem0_size] at h'; exact h'
      simp only [add_size, upd_size, mem0_size, Nat.reduceAdd] at le1 sz1
      simp (maxSteps := 2000000) (disch := first | omega | assumption | (simp only [DS, Nat.reduceAdd, *]; done) | (simp only [DZ]; omega)) only [RUN, RU, footA, feetIn, resultsA, tupOf, frzL, slot, lay, icyL, fillA, repCells, kR, reduceIte, Nat.reduceEqDiff, Nat.reduceBEq, Nat.reduceLT, Nat.reduceAdd, Nat.reduceLeDiff, Nat.reduceSub, Nat.reduceMul, Int.reduceLT, Int.reduceLE, Int.reduceEq, Int.reduceAdd, Int.reduceSub, Int.reduceMul] at g0 g1 g2
      clear kp1 nw1
      simp (maxSteps := 2000000) (disch := first | omega | assumption | (simp only [DS, Nat.reduceAdd, *]; done) | (simp only [DZ]; omega)) only [RUN, RU, footA, feetIn, resultsA, tupOf, frzL, slot, lay, icyL, fillA, repCells, kR, reduceIte, Nat.reduceEqDiff, Nat.reduceBEq, Nat.reduceLT, Nat.reduceAdd, Nat.reduceLeDiff, Nat.reduceSub, Nat.reduceMul, Int.reduceLT, Int.reduceLE, Int.reduceEq, Int.reduceAdd, Int.reduceSub, Int.reduceMul, h0, h1, h2, h3, a1, b1, u1, d1, p1, t1, ac, bc, uc, dc, pc, tc, ra, rb, ru, rd, rp, rt, fa, fb, fu, fd, fp, ft, lu, ld, ha.icy, hb.icy, hok, apart2_pu, q1, q2, w1, hiad, po1, poc, por, hT, s1, s2, s6, t1', t2', t3', t4', e1, e2, z00, c1, c2, r1, r2, rl1, on1, oc1, g0, g1, g2]
      refine w3_app wf1 m1 cel_Pk hs2 (by omega) (by simp; omega) (by simp; omega) fun o2 M2 m2 wf2 le2 sz2 kp2 nw2 wm2 rl2 on2 oc2 => ?_
      have k0 := (kp2 0 (by omega) (fun h => by have := nn1 _ h; omega)).trans g0
      have k1 := (kp2 1 (by omega) (fun h => by have := nn1 _ h; omega)).trans g1
      have k2 := (kp2 2 (by omega) (fun h => by have := nn1 _ h; omega)).trans g2
      have nn2 : ∀ id, rowOf o2 = some id → 3 ≤ id := fun id h => by
        rcases nw2 id h with h' | h'
        · exact nn1 id h'
        · omega
      have lt2 := m2.lt
      obtain ⟨ro, hSr, hfr⟩ := slm_frz m2 cel_Pk
      have hSr : Sl 4 isPkR ro (cutOut x.down j) := hSr
      clear kp2 nw2
      have y0 : 0 < M2.size := by omega
      have y1 : 1 < M2.size := by omega
      have y2 : 2 < M2.size := by omega
      simp (maxSteps := 2000000) (disch := first | omega | assumption | (simp only [DS, Nat.reduceAdd, *]; done) | (simp only [DZ]; omega)) only [RUN, RU, footA, feetIn, resultsA, tupOf, frzL, slot, lay, icyL, fillA, repCells, kR, reduceIte, Nat.reduceEqDiff, Nat.reduceBEq, Nat.reduceLT, Nat.reduceAdd, Nat.reduceLeDiff, Nat.reduceSub, Nat.reduceMul, Int.reduceLT, Int.reduceLE, Int.reduceEq, Int.reduceAdd, Int.reduceSub, Int.reduceMul, h0, h1, h2, h3, a1, b1, u1, d1, p1, t1, ac, bc, uc, dc, pc, tc, ra, rb, ru, rd, rp, rt, fa, fb, fu, fd, fp, ft, lu, ld, ha.icy, hb.icy, hok, apart2_pu, q1, q2, w1, hiad, po1, poc, por, hT, s1, s2, s6, t1', t2', t3', t4', e1, e2, z00, c1, c2, r1, r2, rl1, on1, oc1, rl2, on2, oc2, k0, k1, k2, y0, y1, y2, wf2]
      rw [hfr]
      rotate_left
      · intro id h
        have := nn2 id h
        have := lt2 id h
        simp (maxSteps := 2000000) (disch := first | omega | assumption | (simp only [DS, Nat.reduceAdd, *]; done) | (simp only [DZ]; omega)) only [RUN, RU, footA, feetIn, resultsA, tupOf, frzL, slot, lay, icyL, fillA, repCells, kR, reduceIte, Nat.reduceEqDiff, Nat.reduceBEq, Nat.reduceLT, Nat.reduceAdd, Nat.reduceLeDiff, Nat.reduceSub, Nat.reduceMul, Int.reduceLT, Int.reduceLE, Int.reduceEq, Int.reduceAdd, Int.reduceSub, Int.reduceMul, wf2]
      simp (maxSteps := 2000000) (disch := first | omega | assumption | (simp only [DS, Nat.reduceAdd, *]; done) | (simp only [DZ]; omega)) only [RUN, RU, footA, feetIn, resultsA, tupOf, frzL, slot, lay, icyL, fillA, repCells, kR, reduceIte, Nat.reduceEqDiff, Nat.reduceBEq, Nat.reduceLT, Nat.reduceAdd, Nat.reduceLeDiff, Nat.reduceSub, Nat.reduceMul, Int.reduceLT, Int.reduceLE, Int.reduceEq, Int.reduceAdd, Int.reduceSub, Int.reduceMul, h0, h1, h2, h3, a1, b1, u1, d1, p1, t1, ac, bc, uc, dc, pc, tc, ra, rb, ru, rd, rp, rt, fa, fb, fu, fd, fp, ft, lu, ld, ha.icy, hb.icy, hok, apart2_pu, q1, q2, w1, hiad, po1, poc, por, hT, s1, s2, s6, t1', t2', t3', t4', e1, e2, z00, c1, c2, r1, r2, rl1, on1, oc1, rl2, on2, oc2, k0, k1, k2, y0, y1, y2, wf2]
      refine ⟨_, ?_, rfl⟩
      exact fin_pair (by first | exact hok | rfl) ⟨os, ob, au, ro, ap, at', rfl, hos, hb, hup, hSr, hpu, hto⟩
  obtain ⟨r', N, hk, r, hr, rfl⟩ := key
  exact ⟨r', hr, fun M => call_own tf30 rfl hk (ic mem0) (ic M)⟩
set_option maxHeartbeats 8000000 in
theorem comesUL {v : AV} {x : Pair} (hx : IsPair v x) (hok : x.ok = true) (n : Int) (hu : x.up.length ≤ 100000) (ht0 : x.told.length ≤ 100000) (hB : ∀ p ∈ x.up, p.body.length ≤ 1000000) (hE : ∀ p ∈ x.up, (x.b.take p).2.2.2 = 0 ∧ ((x.b.take p).2.2.1 = true → (x.b.take p).2.1.length = 1)) (hf : 3000 < fuel) : ∃ r, IsPair r (x.comes n false true) ∧ ∀ M, callN Try.prog (fsT tbl) fuel (d + 6) (.fn 30) [v, I64 n, BL false, BL true] M = some (r, M) := by
  obtain ⟨oa, ob, au, ad, ap, at', rfl, ha, hb, hup, hdn, hpu, hto⟩ := id hx
  have a1 := ha.one
  have ac := ha.cells
  have ra := ha.rows mem0
  have fa := fun M => ha.frz M 0 11 (by omega)
  have b1 := hb.one
  have bc := hb.cells
  have rb := hb.rows mem0
  have fb := fun M => hb.frz M 0 11 (by omega)
  have u1 := hup.one
  have uc := hup.cells
  have ru := hup.rows mem0
  have fu := fun M => hup.frz M 0 11 (by omega)
  have d1 := hdn.one
  have dc := hdn.cells
  have rd := hdn.rows mem0
  have fd := fun M => hdn.frz M 0 11 (by omega)
  have p1 := hpu.one
  have pc := hpu.cells
  have rp := hpu.rows mem0
  have fp := fun M => hpu.frz M 0 11 (by omega)
  have t1 := hto.one
  have tc := hto.cells
  have rt := hto.rows mem0
  have ft := fun M => hto.frz M 0 11 (by omega)
  have lu := hup.len
  have ld := hdn.len
  have ic : ∀ M, icyL (icy 12) M [.agg [I64 x.a.ep, I64 x.a.nx, oa, I64 x.a.want, I64 x.a.since, BL x.a.owe, I64 x.b.ep, I64 x.b.nx, ob, I64 x.b.want, I64 x.b.since, BL x.b.owe, au, ad, ap, at', BL x.ok], I64 n, BL false, BL true] = some ([.agg [I64 x.a.ep, I64 x.a.nx, oa, I64 x.a.want, I64 x.a.since, BL x.a.owe, I64 x.b.ep, I64 x.b.nx, ob, I64 x.b.want, I64 x.b.since, BL x.b.owe, au, ad, ap, at', BL x.ok], I64 n, BL false, BL true], M) := fun M => by
    simp (maxSteps := 2000000) (disch := first | omega | assumption | (simp only [DS, Nat.reduceAdd, *]; done) | (simp only [DZ]; omega)) only [RUN, RU, footA, feetIn, resultsA, tupOf, frzL, slot, lay, icyL, fillA, repCells, kR, reduceIte, Nat.reduceEqDiff, Nat.reduceBEq, Nat.reduceLT, Nat.reduceAdd, Nat.reduceLeDiff, Nat.reduceSub, Nat.reduceMul, Int.reduceLT, Int.reduceLE, Int.reduceEq, Int.reduceAdd, Int.reduceSub, Int.reduceMul, ha.icy, hb.icy, hup.icy, hdn.icy, hpu.icy, hto.icy]
  have key : W3 (callN Try.prog (fsT tbl) fuel (d + 6) (.fn 30) [.agg [I64 x.a.ep, I64 x.a.nx, oa, I64 x.a.want, I64 x.a.since, BL x.a.owe, I64 x.b.ep, I64 x.b.nx, ob, I64 x.b.want, I64 x.b.since, BL x.b.owe, au, ad, ap, at', BL x.ok], I64 n, BL false, BL true] mem0) (fun r' _ => ∃ r, IsPair r (x.comes n false true) ∧ r' = r) := by
    refine call_gc tf30 rfl (ic mem0) (by simp [a30]) fun b ht hx' => ?_
    have h0 := hx' 0 _ rfl
    have h1 := hx' 1 _ rfl
    have h2 := hx' 2 _ rfl
    have h3 := hx' 3 _ rfl
    clear hx'
    simp only [a30, c30] at ht ⊢
    by_cases hn : n < 0 ∨ (x.up.length : Int) ≤ n
    · have he : x.comes n false true = x := by
        unfold Pair.comes
        simp only [if_true, if_false, Bool.false_eq_true]
        rcases hn with hn | hn
        · cases x.up[n.toNat]? <;> simp [hn]
        · rw [List.getElem?_eq_none (by omega)]
      rw [he]
      by_cases hn0 : n < 0
      · have q1 : decide (n < 0) = true := decide_eq_true hn0
        simp (maxSteps := 2000000) (disch := first | omega | assumption | (simp only [DS, Nat.reduceAdd, *]; done) | (simp only [DZ]; omega)) only [RUN, RU, footA, feetIn, resultsA, tupOf, frzL, slot, lay, icyL, fillA, repCells, kR, reduceIte, Nat.reduceEqDiff, Nat.reduceBEq, Nat.reduceLT, Nat.reduceAdd, Nat.reduceLeDiff, Nat.reduceSub, Nat.reduceMul, Int.reduceLT, Int.reduceLE, Int.reduceEq, Int.reduceAdd, Int.reduceSub, Int.reduceMul, h0, h1, h2, h3, a1, b1, u1, d1, p1, t1, ac, bc, uc, dc, pc, tc, ra, rb, ru, rd, rp, rt, fa, fb, fu, fd, fp, ft, lu, ld, ha.icy, hb.icy, hok, apart2_pu, q1]
        exact ⟨_, (by rw [hok] at hx; exact hx), rfl⟩
      · have q1 : decide (n < 0) = false := decide_eq_false hn0
        have q2 : decide ((x.up.length : Int) ≤ n) = true := decide_eq_true (hn.resolve_left hn0)
        simp (maxSteps := 2000000) (disch := first | omega | assumption | (simp only [DS, Nat.reduceAdd, *]; done) | (simp only [DZ]; omega)) only [RUN, RU, footA, feetIn, resultsA, tupOf, frzL, slot, lay, icyL, fillA, repCells, kR, reduceIte, Nat.reduceEqDiff, Nat.reduceBEq, Nat.reduceLT, Nat.reduceAdd, Nat.reduceLeDiff, Nat.reduceSub, Nat.reduceMul, Int.reduceLT, Int.reduceLE, Int.reduceEq, Int.reduceAdd, Int.reduceSub, Int.reduceMul, h0, h1, h2, h3, a1, b1, u1, d1, p1, t1, ac, bc, uc, dc, pc, tc, ra, rb, ru, rd, rp, rt, fa, fb, fu, fd, fp, ft, lu, ld, ha.icy, hb.icy, hok, apart2_pu, q1, q2]
        exact ⟨_, (by rw [hok] at hx; exact hx), rfl⟩
    · obtain ⟨j, rfl⟩ : ∃ j : Nat, n = j := ⟨n.toNat, by omega⟩
      have hj : j < x.up.length := by omega
      have q1 : decide ((j : Int) < 0) = false := decide_eq_false (by omega)
      have q2 : decide ((x.up.length : Int) ≤ j) = false := decide_eq_false (by omega)
      have w1 : IntKind.i64.wrap ((j : Int) + 1) = ((j + 1 : Nat) : Int) := by rw [wrap_i64] <;> omega
      obtain ⟨rw', hiad, ⟨po, rfl, hpb⟩, hlen⟩ := hup.iad j hj
      obtain ⟨p, hp⟩ : ∃ p, p = x.up[j] := ⟨_, rfl⟩
      rw [← hp] at hiad hpb
      have hpm : p ∈ x.up := by rw [hp]; exact List.getElem_mem hj
      have hE1 := hE p hpm
      have po1 := hpb.one
      have poc := hpb.cells
      have por := hpb.rows mem0
      have pof := fun M => hpb.frz M 0 11 (by omega)
      obtain ⟨rs, rbd, ⟨os, rfl, hos⟩, hrb, hT⟩ := etake_run (fuel := fuel) (d := d) (ae := .agg [I64 x.b.ep, I64 x.b.nx, ob, I64 x.b.want, I64 x.b.since, BL x.b.owe]) (e := x.b) (ap := .agg [I64 p.ep, I64 p.seq, I64 p.ack, po]) (p := p) ⟨ob, rfl, hb⟩ ⟨po, rfl, hpb⟩ (hB p hpm) hf
      have s1 := hos.one
      have s2 := hos.cells
      have s6 := fun M => hos.frz M 0 11 (by omega)
      have t1' := hrb.one
      have t2' := hrb.cells
      have t3' := hrb.rows mem0
      have t4' := hrb.len
      have hgl : x.up[j]? = some p := by rw [List.getElem?_eq_getElem hj, ← hp]
      obtain ⟨e2, e3⟩ := hE1
      have z00 : decide ((0 : Int) = 0) = true := rfl
      have z01 : decide ((((1 : Nat) : Int)) = 1) = true := rfl
      have z02 : natOf (I64 0) = some 0 := rfl
      by_cases htl : (x.b.take p).2.2.1 = true
      rotate_left
      · have htl : (x.b.take p).2.2.1 = false := by simpa using htl
        have he : x.comes (j : Int) false true = { x with up := x.up, b := (x.b.take p).1 } := by
          unfold Pair.comes
          simp only [if_true, if_false, Bool.false_eq_true, Int.toNat_natCast, hgl]
          rw [if_neg (by omega)]
          simp [hok, e2, htl]
        rw [he]
        simp (maxSteps := 2000000) (disch := first | omega | assumption | (simp only [DS, Nat.reduceAdd, *]; done) | (simp only [DZ]; omega)) only [RUN, RU, footA, feetIn, resultsA, tupOf, frzL, slot, lay, icyL, fillA, repCells, kR, reduceIte, Nat.reduceEqDiff, Nat.reduceBEq, Nat.reduceLT, Nat.reduceAdd, Nat.reduceLeDiff, Nat.reduceSub, Nat.reduceMul, Int.reduceLT, Int.reduceLE, Int.reduceEq, Int.reduceAdd, Int.reduceSub, Int.reduceMul, h0, h1, h2, h3, a1, b1, u1, d1, p1, t1, ac, bc, uc, dc, pc, tc, ra, rb, ru, rd, rp, rt, fa, fb, fu, fd, fp, ft, lu, ld, ha.icy, hb.icy, hok, apart2_pu, q1, q2, w1, hiad, po1, poc, por, hT, s1, s2, s6, t1', t2', t3', t4', e2, z00, htl]
        refine ⟨_, ?_, rfl⟩
        exact fin_pair (by first | exact hok | rfl) ⟨oa, os, au, ad, ap, at', rfl, ha, hos, hup, hdn, hpu, hto⟩
      · have hl1 := e3 htl
        obtain ⟨b0, hb0⟩ := List.length_eq_one_iff.1 hl1
        rw [hb0] at hrb t4'
        obtain ⟨rw2, hiad2, hrw2, _⟩ := hrb.iad 0 (by simp)
        obtain rfl : rw2 = [U8 b0.toNat] := hrw2
        simp only [List.length_cons, List.length_nil, Nat.zero_add] at t4'
        have he : x.comes (j : Int) false true = { x with up := x.up, b := (x.b.take p).1, told := x.told ++ [b0] } := by
          unfold Pair.comes
          simp only [if_true, if_false, Bool.false_eq_true, Int.toNat_natCast, hgl]
          rw [if_neg (by omega)]
          simp [hok, e2, htl, hb0]
        rw [he]
        simp (maxSteps := 2000000) (disch := first | omega | assumption | (simp only [DS, Nat.reduceAdd, *]; done) | (simp only [DZ]; omega)) only [RUN, RU, footA, feetIn, resultsA, tupOf, frzL, slot, lay, icyL, fillA, repCells, kR, reduceIte, Nat.reduceEqDiff, Nat.reduceBEq, Nat.reduceLT, Nat.reduceAdd, Nat.reduceLeDiff, Nat.reduceSub, Nat.reduceMul, Int.reduceLT, Int.reduceLE, Int.reduceEq, Int.reduceAdd, Int.reduceSub, Int.reduceMul, h0, h1, h2, h3, a1, b1, u1, d1, p1, t1, ac, bc, uc, dc, pc, tc, ra, rb, ru, rd, rp, rt, fa, fb, fu, fd, fp, ft, lu, ld, ha.icy, hb.icy, hok, apart2_pu, q1, q2, w1, hiad, po1, poc, por, hT, s1, s2, s6, t1', t2', t3', t4', e2, z00, htl, z01, z02, hiad2]
        refine w3_app (by simp (maxSteps := 2000000) (disch := first | omega | assumption | (simp only [DS, Nat.reduceAdd, *]; done) | (simp only [DZ]; omega)) only [RUN, RU, footA, feetIn, resultsA, tupOf, frzL, slot, lay, icyL, fillA, repCells, kR, reduceIte, Nat.reduceEqDiff, Nat.reduceBEq, Nat.reduceLT, Nat.reduceAdd, Nat.reduceLeDiff, Nat.reduceSub, Nat.reduceMul, Int.reduceLT, Int.reduceLE, Int.reduceEq, Int.reduceAdd, Int.reduceSub, Int.reduceMul, h0, h1, h2, h3, a1, b1, u1, d1, p1, t1, ac, bc, uc, dc, pc, tc, ra, rb, ru, rd, rp, rt, fa, fb, fu, fd, fp, ft, lu, ld, ha.icy, hb.icy, hok, apart2_pu, q1, q2, w1, hiad, po1, poc, por, hT, s1, s2, s6, t1', t2', t3', t4', e2, z00, htl, z01, z02, hiad2]) SlM.nil cel_U8 hto (by omega) (by simp; omega) (by simp; omega) fun o3 M3 m3 wf3 le3 sz3 kp3 nw3 wm3 rl3 on3 oc3 => ?_
        have l0 := kp3 0 (by simp only [add_size, upd_size, mem0_size]; omega) (by simp [rowOf])
        have l1 := kp3 1 (by simp only [add_size, upd_size, mem0_size]; omega) (by simp [rowOf])
        have nn3 : ∀ id, rowOf o3 = some id → 3 ≤ id := fun id h => by
          rcases nw3 id h with h' | h'
          · cases h'
          · simp only [add_size, upd_size, mem0_size] at h'; omega
        simp only [add_size, upd_size, mem0_size, Nat.reduceAdd] at le3 sz3
        simp (maxSteps := 2000000) (disch := first | omega | assumption | (simp only [DS, Nat.reduceAdd, *]; done) | (simp only [DZ]; omega)) only [RUN, RU, footA, feetIn, resultsA, tupOf, frzL, slot, lay, icyL, fillA, repCells, kR, reduceIte, Nat.reduceEqDiff, Nat.reduceBEq, Nat.reduceLT, Nat.reduceAdd, Nat.reduceLeDiff, Nat.reduceSub, Nat.reduceMul, Int.reduceLT, Int.reduceLE, Int.reduceEq, Int.reduceAdd, Int.reduceSub, Int.reduceMul, h0, h1, h2, h3, a1, b1, u1, d1, p1, t1, ac, bc, uc, dc, pc, tc, ra, rb, ru, rd, rp, rt, fa, fb, fu, fd, fp, ft, lu, ld, ha.icy, hb.icy, hok, apart2_pu, q1, q2, w1, hiad, po1, poc, por, hT, s1, s2, s6, t1', t2', t3', t4', e2, z00, htl, z01, z02, hiad2] at l0 l1
        clear kp3 nw3
        have rl3' := rows_lt m3.rl (show M3.size ≤ M3.size + 1 by omega)
        have v0 : 0 < M3.size := by omega
        have v1 : 1 < M3.size := by omega
        simp (maxSteps := 2000000) (disch := first | omega | assumption | (simp only [DS, Nat.reduceAdd, *]; done) | (simp only [DZ]; omega)) only [RUN, RU, footA, feetIn, resultsA, tupOf, frzL, slot, lay, icyL, fillA, repCells, kR, reduceIte, Nat.reduceEqDiff, Nat.reduceBEq, Nat.reduceLT, Nat.reduceAdd, Nat.reduceLeDiff, Nat.reduceSub, Nat.reduceMul, Int.reduceLT, Int.reduceLE, Int.reduceEq, Int.reduceAdd, Int.reduceSub, Int.reduceMul, h0, h1, h2, h3, a1, b1, u1, d1, p1, t1, ac, bc, uc, dc, pc, tc, ra, rb, ru, rd, rp, rt, fa, fb, fu, fd, fp, ft, lu, ld, ha.icy, hb.icy, hok, apart2_pu, q1, q2, w1, hiad, po1, poc, por, hT, s1, s2, s6, t1', t2', t3', t4', e2, z00, htl, z01, z02, hiad2, apart2_e, rl3', rl3, on3, oc3, l0, l1, v0, v1, wf3]
        refine w3_appc (by simp (maxSteps := 2000000) (disch := first | omega | assumption | (simp only [DS, Nat.reduceAdd, *]; done) | (simp only [DZ]; omega)) only [RUN, RU, footA, feetIn, resultsA, tupOf, frzL, slot, lay, icyL, fillA, repCells, kR, reduceIte, Nat.reduceEqDiff, Nat.reduceBEq, Nat.reduceLT, Nat.reduceAdd, Nat.reduceLeDiff, Nat.reduceSub, Nat.reduceMul, Int.reduceLT, Int.reduceLE, Int.reduceEq, Int.reduceAdd, Int.reduceSub, Int.reduceMul, wf3]) (m3.keep (N := M3.add (.row false [U8 b0.toNat])) (fun id h => get_add wf3 _ _ (m3.lt id h))) cel_U8 (l' := [b0]) (new := [[U8 b0.toNat]]) (cells_lit (cs := [U8 b0.toNat]) (n := 1) (st := 1) (get_add_new wf3 _ _ (Nat.le_refl _) (Nat.lt_succ_self _)) rfl) rfl (.cons rfl .nil) (by simp) (by omega) (by simp; omega) (by simp; omega) fun o4 M4 m4 wf4 le4 sz4 kp4 nw4 wm4 rl4 on4 oc4 => ?_
        have u0 := kp4 0 (by rw [add_size]; omega) (fun h => by have := nn3 _ h; omega)
        have u1 := kp4 1 (by rw [add_size]; omega) (fun h => by have := nn3 _ h; omega)
        rw [get_add wf3 _ _ (by omega)] at u0 u1
        replace u0 := u0.trans l0
        replace u1 := u1.trans l1
        have nn4 : ∀ id, rowOf o4 = some id → 3 ≤ id := fun id h => by
          rcases nw4 id h with h' | h'
          · exact nn3 id h'
          · rw [add_size] at h'; omega
        have lt4 := m4.lt
        rw [add_size] at le4 sz4
        obtain ⟨ro4, hSr4, hfr4⟩ := slm_frz m4 cel_U8
        clear kp4 nw4
        have x0 : 0 < M4.size := by omega
        have x1 : 1 < M4.size := by omega
        simp (maxSteps := 2000000) (disch := first | omega | assumption | (simp only [DS, Nat.reduceAdd, *]; done) | (simp only [DZ]; omega)) only [RUN, RU, footA, feetIn, resultsA, tupOf, frzL, slot, lay, icyL, fillA, repCells, kR, reduceIte, Nat.reduceEqDiff, Nat.reduceBEq, Nat.reduceLT, Nat.reduceAdd, Nat.reduceLeDiff, Nat.reduceSub, Nat.reduceMul, Int.reduceLT, Int.reduceLE, Int.reduceEq, Int.reduceAdd, Int.reduceSub, Int.reduceMul, h0, h1, h2, h3, a1, b1, u1, d1, p1, t1, ac, bc, uc, dc, pc, tc, ra, rb, ru, rd, rp, rt, fa, fb, fu, fd, fp, ft, lu, ld, ha.icy, hb.icy, hok, apart2_pu, q1, q2, w1, hiad, po1, poc, por, hT, s1, s2, s6, t1', t2', t3', t4', e2, z00, htl, z01, z02, hiad2, apart2_e, rl3', rl3, on3, oc3, rl4, on4, oc4, u0, u1, x0, x1, v0, v1, wf3, wf4]
        rw [hfr4]
        rotate_left
        · intro id h
          have := nn4 id h
          have := lt4 id h
          simp (maxSteps := 2000000) (disch := first | omega | assumption | (simp only [DS, Nat.reduceAdd, *]; done) | (simp only [DZ]; omega)) only [RUN, RU, footA, feetIn, resultsA, tupOf, frzL, slot, lay, icyL, fillA, repCells, kR, reduceIte, Nat.reduceEqDiff, Nat.reduceBEq, Nat.reduceLT, Nat.reduceAdd, Nat.reduceLeDiff, Nat.reduceSub, Nat.reduceMul, Int.reduceLT, Int.reduceLE, Int.reduceEq, Int.reduceAdd, Int.reduceSub, Int.reduceMul, wf4]
        simp (maxSteps := 2000000) (disch := first | omega | assumption | (simp only [DS, Nat.reduceAdd, *]; done) | (simp only [DZ]; omega)) only [RUN, RU, footA, feetIn, resultsA, tupOf, frzL, slot, lay, icyL, fillA, repCells, kR, reduceIte, Nat.reduceEqDiff, Nat.reduceBEq, Nat.reduceLT, Nat.reduceAdd, Nat.reduceLeDiff, Nat.reduceSub, Nat.reduceMul, Int.reduceLT, Int.reduceLE, Int.reduceEq, Int.reduceAdd, Int.reduceSub, Int.reduceMul, h0, h1, h2, h3, a1, b1, u1, d1, p1, t1, ac, bc, uc, dc, pc, tc, ra, rb, ru, rd, rp, rt, fa, fb, fu, fd, fp, ft, lu, ld, ha.icy, hb.icy, hok, apart2_pu, q1, q2, w1, hiad, po1, poc, por, hT, s1, s2, s6, t1', t2', t3', t4', e2, z00, htl, z01, z02, hiad2, apart2_e, rl3', rl3, on3, oc3, rl4, on4, oc4, u0, u1, x0, x1, v0, v1, wf3, wf4]
        refine ⟨_, ?_, rfl⟩
        exact fin_pair (by first | exact hok | rfl) ⟨oa, os, au, ad, ap, ro4, rfl, ha, hos, hup, hdn, hpu, hSr4⟩
  obtain ⟨r', N, hk, r, hr, rfl⟩ := key
  exact ⟨r', hr, fun M => call_own tf30 rfl hk (ic mem0) (ic M)⟩
set_option maxHeartbeats 8000000 in
theorem comesUN {v : AV} {x : Pair} (hx : IsPair v x) (hok : x.ok = true) (n : Int) (hu : x.up.length ≤ 100000) (ht0 : x.told.length ≤ 100000) (hB : ∀ p ∈ x.up, p.body.length ≤ 1000000) (hE : ∀ p ∈ x.up, (x.b.take p).2.2.2 = 0 ∧ ((x.b.take p).2.2.1 = true → (x.b.take p).2.1.length = 1)) (hf : 3000 < fuel) : ∃ r, IsPair r (x.comes n false false) ∧ ∀ M, callN Try.prog (fsT tbl) fuel (d + 6) (.fn 30) [v, I64 n, BL false, BL false] M = some (r, M) := by
  obtain ⟨oa, ob, au, ad, ap, at', rfl, ha, hb, hup, hdn, hpu, hto⟩ := id hx
  have a1 := ha.one
  have ac := ha.cells
  have ra := ha.rows mem0
  have fa := fun M => ha.frz M 0 11 (by omega)
  have b1 := hb.one
  have bc := hb.cells
  have rb := hb.rows mem0
  have fb := fun M => hb.frz M 0 11 (by omega)
  have u1 := hup.one
  have uc := hup.cells
  have ru := hup.rows mem0
  have fu := fun M => hup.frz M 0 11 (by omega)
  have d1 := hdn.one
  have dc := hdn.cells
  have rd := hdn.rows mem0
  have fd := fun M => hdn.frz M 0 11 (by omega)
  have p1 := hpu.one
  have pc := hpu.cells
  have rp := hpu.rows mem0
  have fp := fun M => hpu.frz M 0 11 (by omega)
  have t1 := hto.one
  have tc := hto.cells
  have rt := hto.rows mem0
  have ft := fun M => hto.frz M 0 11 (by omega)
  have lu := hup.len
  have ld := hdn.len
  have ic : ∀ M, icyL (icy 12) M [.agg [I64 x.a.ep, I64 x.a.nx, oa, I64 x.a.want, I64 x.a.since, BL x.a.owe, I64 x.b.ep, I64 x.b.nx, ob, I64 x.b.want, I64 x.b.since, BL x.b.owe, au, ad, ap, at', BL x.ok], I64 n, BL false, BL false] = some ([.agg [I64 x.a.ep, I64 x.a.nx, oa, I64 x.a.want, I64 x.a.since, BL x.a.owe, I64 x.b.ep, I64 x.b.nx, ob, I64 x.b.want, I64 x.b.since, BL x.b.owe, au, ad, ap, at', BL x.ok], I64 n, BL false, BL false], M) := fun M => by
    simp (maxSteps := 2000000) (disch := first | omega | assumption | (simp only [DS, Nat.reduceAdd, *]; done) | (simp only [DZ]; omega)) only [RUN, RU, footA, feetIn, resultsA, tupOf, frzL, slot, lay, icyL, fillA, repCells, kR, reduceIte, Nat.reduceEqDiff, Nat.reduceBEq, Nat.reduceLT, Nat.reduceAdd, Nat.reduceLeDiff, Nat.reduceSub, Nat.reduceMul, Int.reduceLT, Int.reduceLE, Int.reduceEq, Int.reduceAdd, Int.reduceSub, Int.reduceMul, ha.icy, hb.icy, hup.icy, hdn.icy, hpu.icy, hto.icy]
  have key : W3 (callN Try.prog (fsT tbl) fuel (d + 6) (.fn 30) [.agg [I64 x.a.ep, I64 x.a.nx, oa, I64 x.a.want, I64 x.a.since, BL x.a.owe, I64 x.b.ep, I64 x.b.nx, ob, I64 x.b.want, I64 x.b.since, BL x.b.owe, au, ad, ap, at', BL x.ok], I64 n, BL false, BL false] mem0) (fun r' _ => ∃ r, IsPair r (x.comes n false false) ∧ r' = r) := by
    refine call_gc tf30 rfl (ic mem0) (by simp [a30]) fun b ht hx' => ?_
    have h0 := hx' 0 _ rfl
    have h1 := hx' 1 _ rfl
    have h2 := hx' 2 _ rfl
    have h3 := hx' 3 _ rfl
    clear hx'
    simp only [a30, c30] at ht ⊢
    by_cases hn : n < 0 ∨ (x.up.length : Int) ≤ n
    · have he : x.comes n false false = x := by
        unfold Pair.comes
        simp only [if_true, if_false, Bool.false_eq_true]
        rcases hn with hn | hn
        · cases x.up[n.toNat]? <;> simp [hn]
        · rw [List.getElem?_eq_none (by omega)]
      rw [he]
      by_cases hn0 : n < 0
      · have q1 : decide (n < 0) = true := decide_eq_true hn0
        simp (maxSteps := 2000000) (disch := first | omega | assumption | (simp only [DS, Nat.reduceAdd, *]; done) | (simp only [DZ]; omega)) only [RUN, RU, footA, feetIn, resultsA, tupOf, frzL, slot, lay, icyL, fillA, repCells, kR, reduceIte, Nat.reduceEqDiff, Nat.reduceBEq, Nat.reduceLT, Nat.reduceAdd, Nat.reduceLeDiff, Nat.reduceSub, Nat.reduceMul, Int.reduceLT, Int.reduceLE, Int.reduceEq, Int.reduceAdd, Int.reduceSub, Int.reduceMul, h0, h1, h2, h3, a1, b1, u1, d1, p1, t1, ac, bc, uc, dc, pc, tc, ra, rb, ru, rd, rp, rt, fa, fb, fu, fd, fp, ft, lu, ld, ha.icy, hb.icy, hok, apart2_pu, q1]
        exact ⟨_, (by rw [hok] at hx; exact hx), rfl⟩
      · have q1 : decide (n < 0) = false := decide_eq_false hn0
        have q2 : decide ((x.up.length : Int) ≤ n) = true := decide_eq_true (hn.resolve_left hn0)
        simp (maxSteps := 2000000) (disch := first | omega | assumption | (simp only [DS, Nat.reduceAdd, *]; done) | (simp only [DZ]; omega)) only [RUN, RU, footA, feetIn, resultsA, tupOf, frzL, slot, lay, icyL, fillA, repCells, kR, reduceIte, Nat.reduceEqDiff, Nat.reduceBEq, Nat.reduceLT, Nat.reduceAdd, Nat.reduceLeDiff, Nat.reduceSub, Nat.reduceMul, Int.reduceLT, Int.reduceLE, Int.reduceEq, Int.reduceAdd, Int.reduceSub, Int.reduceMul, h0, h1, h2, h3, a1, b1, u1, d1, p1, t1, ac, bc, uc, dc, pc, tc, ra, rb, ru, rd, rp, rt, fa, fb, fu, fd, fp, ft, lu, ld, ha.icy, hb.icy, hok, apart2_pu, q1, q2]
        exact ⟨_, (by rw [hok] at hx; exact hx), rfl⟩
    · obtain ⟨j, rfl⟩ : ∃ j : Nat, n = j := ⟨n.toNat, by omega⟩
      have hj : j < x.up.length := by omega
      have q1 : decide ((j : Int) < 0) = false := decide_eq_false (by omega)
      have q2 : decide ((x.up.length : Int) ≤ j) = false := decide_eq_false (by omega)
      have w1 : IntKind.i64.wrap ((j : Int) + 1) = ((j + 1 : Nat) : Int) := by rw [wrap_i64] <;> omega
      obtain ⟨rw', hiad, ⟨po, rfl, hpb⟩, hlen⟩ := hup.iad j hj
      obtain ⟨p, hp⟩ : ∃ p, p = x.up[j] := ⟨_, rfl⟩
      rw [← hp] at hiad hpb
      have hpm : p ∈ x.up := by rw [hp]; exact List.getElem_mem hj
      have hE1 := hE p hpm
      have po1 := hpb.one
      have poc := hpb.cells
      have por := hpb.rows mem0
      have pof := fun M => hpb.frz M 0 11 (by omega)
      obtain ⟨rs, rbd, ⟨os, rfl, hos⟩, hrb, hT⟩ := etake_run (fuel := fuel) (d := d) (ae := .agg [I64 x.b.ep, I64 x.b.nx, ob, I64 x.b.want, I64 x.b.since, BL x.b.owe]) (e := x.b) (ap := .agg [I64 p.ep, I64 p.seq, I64 p.ack, po]) (p := p) ⟨ob, rfl, hb⟩ ⟨po, rfl, hpb⟩ (hB p hpm) hf
      have s1 := hos.one
      have s2 := hos.cells
      have s6 := fun M => hos.frz M 0 11 (by omega)
      have t1' := hrb.one
      have t2' := hrb.cells
      have t3' := hrb.rows mem0
      have t4' := hrb.len
      have hgl : x.up[j]? = some p := by rw [List.getElem?_eq_getElem hj, ← hp]
      obtain ⟨e2, e3⟩ := hE1
      have z00 : decide ((0 : Int) = 0) = true := rfl
      have z01 : decide ((((1 : Nat) : Int)) = 1) = true := rfl
      have z02 : natOf (I64 0) = some 0 := rfl
      obtain ⟨s1', c1, hs1⟩ := sl_to hup (j := j) (by omega)
      obtain ⟨s2', c2, hs2⟩ := sl_from hup (i := j + 1) (by omega)
      have r1 := hs1.rows mem0
      have r2 := hs2.rows mem0
      by_cases htl : (x.b.take p).2.2.1 = true
      rotate_left
      · have htl : (x.b.take p).2.2.1 = false := by simpa using htl
        have he : x.comes (j : Int) false false = { x with up := cutOut x.up j, b := (x.b.take p).1 } := by
          unfold Pair.comes
          simp only [if_true, if_false, Bool.false_eq_true, Int.toNat_natCast, hgl]
          rw [if_neg (by omega)]
          simp [hok, e2, htl]
        rw [he]
        simp (maxSteps := 2000000) (disch := first | omega | assumption | (simp only [DS, Nat.reduceAdd, *]; done) | (simp only [DZ]; omega)) only [RUN, RU, footA, feetIn, resultsA, tupOf, frzL, slot, lay, icyL, fillA, repCells, kR, reduceIte, Nat.reduceEqDiff, Nat.reduceBEq, Nat.reduceLT, Nat.reduceAdd, Nat.reduceLeDiff, Nat.reduceSub, Nat.reduceMul, Int.reduceLT, Int.reduceLE, Int.reduceEq, Int.reduceAdd, Int.reduceSub, Int.reduceMul, h0, h1, h2, h3, a1, b1, u1, d1, p1, t1, ac, bc, uc, dc, pc, tc, ra, rb, ru, rd, rp, rt, fa, fb, fu, fd, fp, ft, lu, ld, ha.icy, hb.icy, hok, apart2_pu, q1, q2, w1, hiad, po1, poc, por, hT, s1, s2, s6, t1', t2', t3', t4', e2, z00, c1, c2, r1, r2, htl]
        refine w3_app (by simp (maxSteps := 2000000) (disch := first | omega | assumption | (simp only [DS, Nat.reduceAdd, *]; done) | (simp only [DZ]; omega)) only [RUN, RU, footA, feetIn, resultsA, tupOf, frzL, slot, lay, icyL, fillA, repCells, kR, reduceIte, Nat.reduceEqDiff, Nat.reduceBEq, Nat.reduceLT, Nat.reduceAdd, Nat.reduceLeDiff, Nat.reduceSub, Nat.reduceMul, Int.reduceLT, Int.reduceLE, Int.reduceEq, Int.reduceAdd, Int.reduceSub, Int.reduceMul]) SlM.nil cel_Pk hs1 (by omega) (by simp; omega) (by simp; omega) fun o1 M1 m1 wf1 le1 sz1 kp1 nw1 wm1 rl1 on1 oc1 => ?_
        have g0 := kp1 0 (by simp only [add_size, upd_size, mem0_size]; omega) (by simp [rowOf])
        have g1 := kp1 1 (by simp only [add_size, upd_size, mem0_size]; omega) (by simp [rowOf])
        have g2 := kp1 2 (by simp only [add_size, upd_size, mem0_size]; omega) (by simp [rowOf])
        have nn1 : ∀ id, rowOf o1 = some id → 3 ≤ id := fun id h => by
          rcases nw1 id h with h' | h'
          · cases h'
          · simp only [add_size, upd_size, mem0_size] at h'; exact h'
        simp only [add_size, upd_size, mem0_size, Nat.reduceAdd] at le1 sz1
        simp (maxSteps := 2000000) (disch := first | omega | assumption | (simp only [DS, Nat.reduceAdd, *]; done) | (simp only [DZ]; omega)) only [RUN, RU, footA, feetIn, resultsA, tupOf, frzL, slot, lay, icyL, fillA, repCells, kR, reduceIte, Nat.reduceEqDiff, Nat.reduceBEq, Nat.reduceLT, Nat.reduceAdd, Nat.reduceLeDiff, Nat.reduceSub, Nat.reduceMul, Int.reduceLT, Int.reduceLE, Int.reduceEq, Int.reduceAdd, Int.reduceSub, Int.reduceMul] at g0 g1 g2
        clear kp1 nw1
        simp (maxSteps := 2000000) (disch := first | omega | assumption | (simp only [DS, Nat.reduceAdd, *]; done) | (simp only [DZ]; omega)) only [RUN, RU, footA, feetIn, resultsA, tupOf, frzL, slot, lay, icyL, fillA, repCells, kR, reduceIte, Nat.reduceEqDiff, Nat.reduceBEq, Nat.reduceLT, Nat.reduceAdd, Nat.reduceLeDiff, Nat.reduceSub, Nat.reduceMul, Int.reduceLT, Int.reduceLE, Int.reduceEq, Int.reduceAdd, Int.reduceSub, Int.reduceMul, h0, h1, h2, h3, a1, b1, u1, d1, p1, t1, ac, bc, uc, dc, pc, tc, ra, rb, ru, rd, rp, rt, fa, fb, fu, fd, fp, ft, lu, ld, ha.icy, hb.icy, hok, apart2_pu, q1, q2, w1, hiad, po1, poc, por, hT, s1, s2, s6, t1', t2', t3', t4', e2, z00, c1, c2, r1, r2, htl, rl1, on1, oc1, g0, g1, g2]
        refine w3_app wf1 m1 cel_Pk hs2 (by omega) (by simp; omega) (by simp; omega) fun o2 M2 m2 wf2 le2 sz2 kp2 nw2 wm2 rl2 on2 oc2 => ?_
        have k0 := (kp2 0 (by omega) (fun h => by have := nn1 _ h; omega)).trans g0
        have k1 := (kp2 1 (by omega) (fun h => by have := nn1 _ h; omega)).trans g1
        have k2 := (kp2 2 (by omega) (fun h => by have := nn1 _ h; omega)).trans g2
        have nn2 : ∀ id, rowOf o2 = some id → 3 ≤ id := fun id h => by
          rcases nw2 id h with h' | h'
          · exact nn1 id h'
          · omega
        have lt2 := m2.lt
        obtain ⟨ro, hSr, hfr⟩ := slm_frz m2 cel_Pk
        have hSr : Sl 4 isPkR ro (cutOut x.up j) := hSr
        clear kp2 nw2
        have y0 : 0 < M2.size := by omega
        have y1 : 1 < M2.size := by omega
        have y2 : 2 < M2.size := by omega
        simp (maxSteps := 2000000) (disch := first | omega | assumption | (simp only [DS, Nat.reduceAdd, *]; done) | (simp only [DZ]; omega)) only [RUN, RU, footA, feetIn, resultsA, tupOf, frzL, slot, lay, icyL, fillA, repCells, kR, reduceIte, Nat.reduceEqDiff, Nat.reduceBEq, Nat.reduceLT, Nat.reduceAdd, Nat.reduceLeDiff, Nat.reduceSub, Nat.reduceMul, Int.reduceLT, Int.reduceLE, Int.reduceEq, Int.reduceAdd, Int.reduceSub, Int.reduceMul, h0, h1, h2, h3, a1, b1, u1, d1, p1, t1, ac, bc, uc, dc, pc, tc, ra, rb, ru, rd, rp, rt, fa, fb, fu, fd, fp, ft, lu, ld, ha.icy, hb.icy, hok, apart2_pu, q1, q2, w1, hiad, po1, poc, por, hT, s1, s2, s6, t1', t2', t3', t4', e2, z00, c1, c2, r1, r2, htl, rl1, on1, oc1, rl2, on2, oc2, k0, k1, k2, y0, y1, y2, wf2]
        rw [hfr]
        rotate_left
        · intro id h
          have := nn2 id h
          have := lt2 id h
          simp (maxSteps := 2000000) (disch := first | omega | assumption | (simp only [DS, Nat.reduceAdd, *]; done) | (simp only [DZ]; omega)) only [RUN, RU, footA, feetIn, resultsA, tupOf, frzL, slot, lay, icyL, fillA, repCells, kR, reduceIte, Nat.reduceEqDiff, Nat.reduceBEq, Nat.reduceLT, Nat.reduceAdd, Nat.reduceLeDiff, Nat.reduceSub, Nat.reduceMul, Int.reduceLT, Int.reduceLE, Int.reduceEq, Int.reduceAdd, Int.reduceSub, Int.reduceMul, wf2]
        simp (maxSteps := 2000000) (disch := first | omega | assumption | (simp only [DS, Nat.reduceAdd, *]; done) | (simp only [DZ]; omega)) only [RUN, RU, footA, feetIn, resultsA, tupOf, frzL, slot, lay, icyL, fillA, repCells, kR, reduceIte, Nat.reduceEqDiff, Nat.reduceBEq, Nat.reduceLT, Nat.reduceAdd, Nat.reduceLeDiff, Nat.reduceSub, Nat.reduceMul, Int.reduceLT, Int.reduceLE, Int.reduceEq, Int.reduceAdd, Int.reduceSub, Int.reduceMul, h0, h1, h2, h3, a1, b1, u1, d1, p1, t1, ac, bc, uc, dc, pc, tc, ra, rb, ru, rd, rp, rt, fa, fb, fu, fd, fp, ft, lu, ld, ha.icy, hb.icy, hok, apart2_pu, q1, q2, w1, hiad, po1, poc, por, hT, s1, s2, s6, t1', t2', t3', t4', e2, z00, c1, c2, r1, r2, htl, rl1, on1, oc1, rl2, on2, oc2, k0, k1, k2, y0, y1, y2, wf2]
        refine ⟨_, ?_, rfl⟩
        exact fin_pair (by first | exact hok | rfl) ⟨oa, os, ro, ad, ap, at', rfl, ha, hos, hSr, hdn, hpu, hto⟩
      · have hl1 := e3 htl
        obtain ⟨b0, hb0⟩ := List.length_eq_one_iff.1 hl1
        rw [hb0] at hrb t4'
        obtain ⟨rw2, hiad2, hrw2, _⟩ := hrb.iad 0 (by simp)
        obtain rfl : rw2 = [U8 b0.toNat] := hrw2
        simp only [List.length_cons, List.length_nil, Nat.zero_add] at t4'
        have he : x.comes (j : Int) false false = { x with up := cutOut x.up j, b := (x.b.take p).1, told := x.told ++ [b0] } := by
          unfold Pair.comes
          simp only [if_true, if_false, Bool.false_eq_true, Int.toNat_natCast, hgl]
          rw [if_neg (by omega)]
          simp [hok, e2, htl, hb0]
        rw [he]
        simp (maxSteps := 2000000) (disch := first | omega | assumption | (simp only [DS, Nat.reduceAdd, *]; done) | (simp only [DZ]; omega)) only [RUN, RU, footA, feetIn, resultsA, tupOf, frzL, slot, lay, icyL, fillA, repCells, kR, reduceIte, Nat.reduceEqDiff, Nat.reduceBEq, Nat.reduceLT, Nat.reduceAdd, Nat.reduceLeDiff, Nat.reduceSub, Nat.reduceMul, Int.reduceLT, Int.reduceLE, Int.reduceEq, Int.reduceAdd, Int.reduceSub, Int.reduceMul, h0, h1, h2, h3, a1, b1, u1, d1, p1, t1, ac, bc, uc, dc, pc, tc, ra, rb, ru, rd, rp, rt, fa, fb, fu, fd, fp, ft, lu, ld, ha.icy, hb.icy, hok, apart2_pu, q1, q2, w1, hiad, po1, poc, por, hT, s1, s2, s6, t1', t2', t3', t4', e2, z00, c1, c2, r1, r2, htl, z01, z02, hiad2]
        refine w3_app (by simp (maxSteps := 2000000) (disch := first | omega | assumption | (simp only [DS, Nat.reduceAdd, *]; done) | (simp only [DZ]; omega)) only [RUN, RU, footA, feetIn, resultsA, tupOf, frzL, slot, lay, icyL, fillA, repCells, kR, reduceIte, Nat.reduceEqDiff, Nat.reduceBEq, Nat.reduceLT, Nat.reduceAdd, Nat.reduceLeDiff, Nat.reduceSub, Nat.reduceMul, Int.reduceLT, Int.reduceLE, Int.reduceEq, Int.reduceAdd, Int.reduceSub, Int.reduceMul]) SlM.nil cel_Pk hs1 (by omega) (by simp; omega) (by simp; omega) fun o1 M1 m1 wf1 le1 sz1 kp1 nw1 wm1 rl1 on1 oc1 => ?_
        have g0 := kp1 0 (by simp only [add_size, upd_size, mem0_size]; omega) (by simp [rowOf])
        have g1 := kp1 1 (by simp only [add_size, upd_size, mem0_size]; omega) (by simp [rowOf])
        have g2 := kp1 2 (by simp only [add_size, upd_size, mem0_size]; omega) (by simp [rowOf])
        have nn1 : ∀ id, rowOf o1 = some id → 3 ≤ id := fun id h => by
          rcases nw1 id h with h' | h'
          · cases h'
          · simp only [add_size, upd_size, mem0_size] at h'; exact h'
        simp only [add_size, upd_size, mem0_size, Nat.reduceAdd] at le1 sz1
        simp (maxSteps := 2000000) (disch := first | omega | assumption | (simp only [DS, Nat.reduceAdd, *]; done) | (simp only [DZ]; omega)) only [RUN, RU, footA, feetIn, resultsA, tupOf, frzL, slot, lay, icyL, fillA, repCells, kR, reduceIte, Nat.reduceEqDiff, Nat.reduceBEq, Nat.reduceLT, Nat.reduceAdd, Nat.reduceLeDiff, Nat.reduceSub, Nat.reduceMul, Int.reduceLT, Int.reduceLE, Int.reduceEq, Int.reduceAdd, Int.reduceSub, Int.reduceMul] at g0 g1 g2
        clear kp1 nw1
        simp (maxSteps := 2000000) (disch := first | omega | assumption | (simp only [DS, Nat.reduceAdd, *]; done) | (simp only [DZ]; omega)) only [RUN, RU, footA, feetIn, resultsA, tupOf, frzL, slot, lay, icyL, fillA, repCells, kR, reduceIte, Nat.reduceEqDiff, Nat.reduceBEq, Nat.reduceLT, Nat.reduceAdd, Nat.reduceLeDiff, Nat.reduceSub, Nat.reduceMul, Int.reduceLT, Int.reduceLE, Int.reduceEq, Int.reduceAdd, Int.reduceSub, Int.reduceMul, h0, h1, h2, h3, a1, b1, u1, d1, p1, t1, ac, bc, uc, dc, pc, tc, ra, rb, ru, rd, rp, rt, fa, fb, fu, fd, fp, ft, lu, ld, ha.icy, hb.icy, hok, apart2_pu, q1, q2, w1, hiad, po1, poc, por, hT, s1, s2, s6, t1', t2', t3', t4', e2, z00, c1, c2, r1, r2, htl, z01, z02, hiad2, rl1, on1, oc1, g0, g1, g2]
        refine w3_app wf1 m1 cel_Pk hs2 (by omega) (by simp; omega) (by simp; omega) fun o2 M2 m2 wf2 le2 sz2 kp2 nw2 wm2 rl2 on2 oc2 => ?_
        have k0 := (kp2 0 (by omega) (fun h => by have := nn1 _ h; omega)).trans g0
        have k1 := (kp2 1 (by omega) (fun h => by have := nn1 _ h; omega)).trans g1
        have k2 := (kp2 2 (by omega) (fun h => by have := nn1 _ h; omega)).trans g2
        have nn2 : ∀ id, rowOf o2 = some id → 3 ≤ id := fun id h => by
          rcases nw2 id h with h' | h'
          · exact nn1 id h'
          · omega
        have lt2 := m2.lt
        obtain ⟨ro, hSr, hfr⟩ := slm_frz m2 cel_Pk
        have hSr : Sl 4 isPkR ro (cutOut x.up j) := hSr
        clear kp2 nw2
        have y0 : 0 < M2.size := by omega
        have y1 : 1 < M2.size := by omega
        have y2 : 2 < M2.size := by omega
        simp (maxSteps := 2000000) (disch := first | omega | assumption | (simp only [DS, Nat.reduceAdd, *]; done) | (simp only [DZ]; omega)) only [RUN, RU, footA, feetIn, resultsA, tupOf, frzL, slot, lay, icyL, fillA, repCells, kR, reduceIte, Nat.reduceEqDiff, Nat.reduceBEq, Nat.reduceLT, Nat.reduceAdd, Nat.reduceLeDiff, Nat.reduceSub, Nat.reduceMul, Int.reduceLT, Int.reduceLE, Int.reduceEq, Int.reduceAdd, Int.reduceSub, Int.reduceMul, h0, h1, h2, h3, a1, b1, u1, d1, p1, t1, ac, bc, uc, dc, pc, tc, ra, rb, ru, rd, rp, rt, fa, fb, fu, fd, fp, ft, lu, ld, ha.icy, hb.icy, hok, apart2_pu, q1, q2, w1, hiad, po1, poc, por, hT, s1, s2, s6, t1', t2', t3', t4', e2, z00, c1, c2, r1, r2, htl, z01, z02, hiad2, rl1, on1, oc1, rl2, on2, oc2, k0, k1, k2, y0, y1, y2, wf2]
        refine w3_app (by simp (maxSteps := 2000000) (disch := first | omega | assumption | (simp only [DS, Nat.reduceAdd, *]; done) | (simp only [DZ]; omega)) only [RUN, RU, footA, feetIn, resultsA, tupOf, frzL, slot, lay, icyL, fillA, repCells, kR, reduceIte, Nat.reduceEqDiff, Nat.reduceBEq, Nat.reduceLT, Nat.reduceAdd, Nat.reduceLeDiff, Nat.reduceSub, Nat.reduceMul, Int.reduceLT, Int.reduceLE, Int.reduceEq, Int.reduceAdd, Int.reduceSub, Int.reduceMul, h0, h1, h2, h3, a1, b1, u1, d1, p1, t1, ac, bc, uc, dc, pc, tc, ra, rb, ru, rd, rp, rt, fa, fb, fu, fd, fp, ft, lu, ld, ha.icy, hb.icy, hok, apart2_pu, q1, q2, w1, hiad, po1, poc, por, hT, s1, s2, s6, t1', t2', t3', t4', e2, z00, c1, c2, r1, r2, htl, z01, z02, hiad2, rl1, on1, oc1, rl2, on2, oc2, k0, k1, k2, y0, y1, y2, wf2]) SlM.nil cel_U8 hto (by omega) (by simp; omega) (by simp; omega) fun o3 M3 m3 wf3 le3 sz3 kp3 nw3 wm3 rl3 on3 oc3 => ?_
        have l0 := kp3 0 (by simp only [add_size, upd_size, mem0_size]; omega) (by simp [rowOf])
        have l1 := kp3 1 (by simp only [add_size, upd_size, mem0_size]; omega) (by simp [rowOf])
        have nn3 : ∀ id, rowOf o3 = some id → M2.size ≤ id := fun id h => by
          rcases nw3 id h with h' | h'
          · cases h'
          · simp only [add_size, upd_size, mem0_size] at h'; omega
        simp only [add_size, upd_size, mem0_size, Nat.reduceAdd] at le3 sz3
        simp (maxSteps := 2000000) (disch := first | omega | assumption | (simp only [DS, Nat.reduceAdd, *]; done) | (simp only [DZ]; omega)) only [RUN, RU, footA, feetIn, resultsA, tupOf, frzL, slot, lay, icyL, fillA, repCells, kR, reduceIte, Nat.reduceEqDiff, Nat.reduceBEq, Nat.reduceLT, Nat.reduceAdd, Nat.reduceLeDiff, Nat.reduceSub, Nat.reduceMul, Int.reduceLT, Int.reduceLE, Int.reduceEq, Int.reduceAdd, Int.reduceSub, Int.reduceMul, h0, h1, h2, h3, a1, b1, u1, d1, p1, t1, ac, bc, uc, dc, pc, tc, ra, rb, ru, rd, rp, rt, fa, fb, fu, fd, fp, ft, lu, ld, ha.icy, hb.icy, hok, apart2_pu, q1, q2, w1, hiad, po1, poc, por, hT, s1, s2, s6, t1', t2', t3', t4', e2, z00, c1, c2, r1, r2, htl, z01, z02, hiad2, rl1, on1, oc1, rl2, on2, oc2, k0, k1, k2, y0, y1, y2, wf2] at l0 l1
        have kk3 : ∀ id, 3 ≤ id → id < M2.size → M3.get id = M2.get id := fun id h3 hlt => by
          have e := kp3 id (by simp only [add_size, upd_size, mem0_size]; omega) (by simp [rowOf])
          rw [e]
          simp (maxSteps := 2000000) (disch := first | omega | assumption | (simp only [DS, Nat.reduceAdd, *]; done) | (simp only [DZ]; omega)) only [RUN, RU, footA, feetIn, resultsA, tupOf, frzL, slot, lay, icyL, fillA, repCells, kR, reduceIte, Nat.reduceEqDiff, Nat.reduceBEq, Nat.reduceLT, Nat.reduceAdd, Nat.reduceLeDiff, Nat.reduceSub, Nat.reduceMul, Int.reduceLT, Int.reduceLE, Int.reduceEq, Int.reduceAdd, Int.reduceSub, Int.reduceMul, wf2]
        clear kp3 nw3
        have rl3' := rows_lt m3.rl (show M3.size ≤ M3.size + 1 by omega)
        have v0 : 0 < M3.size := by omega
        have v1 : 1 < M3.size := by omega
        simp (maxSteps := 2000000) (disch := first | omega | assumption | (simp only [DS, Nat.reduceAdd, *]; done) | (simp only [DZ]; omega)) only [RUN, RU, footA, feetIn, resultsA, tupOf, frzL, slot, lay, icyL, fillA, repCells, kR, reduceIte, Nat.reduceEqDiff, Nat.reduceBEq, Nat.reduceLT, Nat.reduceAdd, Nat.reduceLeDiff, Nat.reduceSub, Nat.reduceMul, Int.reduceLT, Int.reduceLE, Int.reduceEq, Int.reduceAdd, Int.reduceSub, Int.reduceMul, h0, h1, h2, h3, a1, b1, u1, d1, p1, t1, ac, bc, uc, dc, pc, tc, ra, rb, ru, rd, rp, rt, fa, fb, fu, fd, fp, ft, lu, ld, ha.icy, hb.icy, hok, apart2_pu, q1, q2, w1, hiad, po1, poc, por, hT, s1, s2, s6, t1', t2', t3', t4', e2, z00, c1, c2, r1, r2, htl, z01, z02, hiad2, rl1, on1, oc1, rl2, on2, oc2, k0, k1, k2, y0, y1, y2, wf2, apart2_e, rl3', rl3, on3, oc3, l0, l1, v0, v1, wf3]
        refine w3_appc (by simp (maxSteps := 2000000) (disch := first | omega | assumption | (simp only [DS, Nat.reduceAdd, *]; done) | (simp only [DZ]; omega)) only [RUN, RU, footA, feetIn, resultsA, tupOf, frzL, slot, lay, icyL, fillA, repCells, kR, reduceIte, Nat.reduceEqDiff, Nat.reduceBEq, Nat.reduceLT, Nat.reduceAdd, Nat.reduceLeDiff, Nat.reduceSub, Nat.reduceMul, Int.reduceLT, Int.reduceLE, Int.reduceEq, Int.reduceAdd, Int.reduceSub, Int.reduceMul, wf3]) (m3.keep (N := M3.add (.row false [U8 b0.toNat])) (fun id h => get_add wf3 _ _ (m3.lt id h))) cel_U8 (l' := [b0]) (new := [[U8 b0.toNat]]) (cells_lit (cs := [U8 b0.toNat]) (n := 1) (st := 1) (get_add_new wf3 _ _ (Nat.le_refl _) (Nat.lt_succ_self _)) rfl) rfl (.cons rfl .nil) (by simp) (by omega) (by simp; omega) (by simp; omega) fun o4 M4 m4 wf4 le4 sz4 kp4 nw4 wm4 rl4 on4 oc4 => ?_
        have u0 := kp4 0 (by rw [add_size]; omega) (fun h => by have := nn3 _ h; omega)
        have u1 := kp4 1 (by rw [add_size]; omega) (fun h => by have := nn3 _ h; omega)
        rw [get_add wf3 _ _ (by omega)] at u0 u1
        replace u0 := u0.trans l0
        replace u1 := u1.trans l1
        have nn4 : ∀ id, rowOf o4 = some id → M2.size ≤ id := fun id h => by
          rcases nw4 id h with h' | h'
          · exact nn3 id h'
          · rw [add_size] at h'; omega
        have lt4 := m4.lt
        rw [add_size] at le4 sz4
        have kk4 : ∀ id, 3 ≤ id → id < M2.size → M4.get id = M2.get id := fun id h3 hlt => by
          have e := kp4 id (by rw [add_size]; omega) (fun h => by have := nn3 _ h; omega)
          rw [e, get_add wf3 _ _ (by omega)]
          exact kk3 id h3 hlt
        obtain ⟨ro4, hSr4, hfr4⟩ := slm_frz m4 cel_U8
        clear kp4 nw4
        have x0 : 0 < M4.size := by omega
        have x1 : 1 < M4.size := by omega
        simp (maxSteps := 2000000) (disch := first | omega | assumption | (simp only [DS, Nat.reduceAdd, *]; done) | (simp only [DZ]; omega)) only [RUN, RU, footA, feetIn, resultsA, tupOf, frzL, slot, lay, icyL, fillA, repCells, kR, reduceIte, Nat.reduceEqDiff, Nat.reduceBEq, Nat.reduceLT, Nat.reduceAdd, Nat.reduceLeDiff, Nat.reduceSub, Nat.reduceMul, Int.reduceLT, Int.reduceLE, Int.reduceEq, Int.reduceAdd, Int.reduceSub, Int.reduceMul, h0, h1, h2, h3, a1, b1, u1, d1, p1, t1, ac, bc, uc, dc, pc, tc, ra, rb, ru, rd, rp, rt, fa, fb, fu, fd, fp, ft, lu, ld, ha.icy, hb.icy, hok, apart2_pu, q1, q2, w1, hiad, po1, poc, por, hT, s1, s2, s6, t1', t2', t3', t4', e2, z00, c1, c2, r1, r2, htl, z01, z02, hiad2, rl1, on1, oc1, rl2, on2, oc2, k0, k1, k2, y0, y1, y2, wf2, apart2_e, rl3', rl3, on3, oc3, rl4, on4, oc4, u0, u1, x0, x1, v0, v1, wf3, wf4]
        rw [hfr, hfr4]
        rotate_left
        · intro id h
          have := nn4 id h
          have := lt4 id h
          simp (maxSteps := 2000000) (disch := first | omega | assumption | (simp only [DS, Nat.reduceAdd, *]; done) | (simp only [DZ]; omega)) only [RUN, RU, footA, feetIn, resultsA, tupOf, frzL, slot, lay, icyL, fillA, repCells, kR, reduceIte, Nat.reduceEqDiff, Nat.reduceBEq, Nat.reduceLT, Nat.reduceAdd, Nat.reduceLeDiff, Nat.reduceSub, Nat.reduceMul, Int.reduceLT, Int.reduceLE, Int.reduceEq, Int.reduceAdd, Int.reduceSub, Int.reduceMul, wf4]
        · intro id h
          have a1 := nn2 id h
          have a2 := lt2 id h
          have a3 := kk4 id a1 a2
          simp (maxSteps := 2000000) (disch := first | omega | assumption | (simp only [DS, Nat.reduceAdd, *]; done) | (simp only [DZ]; omega)) only [RUN, RU, footA, feetIn, resultsA, tupOf, frzL, slot, lay, icyL, fillA, repCells, kR, reduceIte, Nat.reduceEqDiff, Nat.reduceBEq, Nat.reduceLT, Nat.reduceAdd, Nat.reduceLeDiff, Nat.reduceSub, Nat.reduceMul, Int.reduceLT, Int.reduceLE, Int.reduceEq, Int.reduceAdd, Int.reduceSub, Int.reduceMul, wf4, a3]
        simp (maxSteps := 2000000) (disch := first | omega | assumption | (simp only [DS, Nat.reduceAdd, *]; done) | (simp only [DZ]; omega)) only [RUN, RU, footA, feetIn, resultsA, tupOf, frzL, slot, lay, icyL, fillA, repCells, kR, reduceIte, Nat.reduceEqDiff, Nat.reduceBEq, Nat.reduceLT, Nat.reduceAdd, Nat.reduceLeDiff, Nat.reduceSub, Nat.reduceMul, Int.reduceLT, Int.reduceLE, Int.reduceEq, Int.reduceAdd, Int.reduceSub, Int.reduceMul, h0, h1, h2, h3, a1, b1, u1, d1, p1, t1, ac, bc, uc, dc, pc, tc, ra, rb, ru, rd, rp, rt, fa, fb, fu, fd, fp, ft, lu, ld, ha.icy, hb.icy, hok, apart2_pu, q1, q2, w1, hiad, po1, poc, por, hT, s1, s2, s6, t1', t2', t3', t4', e2, z00, c1, c2, r1, r2, htl, z01, z02, hiad2, rl1, on1, oc1, rl2, on2, oc2, k0, k1, k2, y0, y1, y2, wf2, apart2_e, rl3', rl3, on3, oc3, rl4, on4, oc4, u0, u1, x0, x1, v0, v1, wf3, wf4]
        refine ⟨_, ?_, rfl⟩
        exact fin_pair (by first | exact hok | rfl) ⟨oa, os, ro, ad, ap, ro4, rfl, ha, hos, hSr, hdn, hpu, hSr4⟩
  obtain ⟨r', N, hk, r, hr, rfl⟩ := key
  exact ⟨r', hr, fun M => call_own tf30 rfl hk (ic mem0) (ic M)⟩
end Go.Proofs.Ytbemomagabjbnaa
