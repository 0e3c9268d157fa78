/-
  The law's lost.
-/
import Derived.Test.YtbemomagabjbnaaLoQ
set_option linter.unusedSimpArgs false
set_option linter.unusedVariables false
set_option maxRecDepth 100000
namespace Go.Proofs.Ytbemomagabjbnaa
open Go Go.Ax
variable {fuel : Nat} {M : Mem} {Q : AV → Mem → Prop} {d : Nat}

theorem apart2_pu (g : FP) (a b : Nat) : apart2 .pure (g, a, b) = true := by
  unfold apart2
  rw [apart_pp]
  rfl

set_option maxHeartbeats 8000000 in
theorem lost_run {v : AV} {x : Pair} (hx : IsPair v x) (n : Int) (down : Bool) (hu : x.up.length ≤ 100000) (hd : x.down.length ≤ 100000) : ∃ r, IsPair r (x.lost n down) ∧ ∀ M, callN Try.prog (fsT tbl) fuel (d + 1) (.fn 31) [v, I64 n, BL down] M = some (r, M) := by
  obtain ⟨oa, ob, au, ad, ap, at', rfl, ha, hb, hup, hdn, hpu, hto⟩ := id hx
  have a1 := ha.one
  have b1 := hb.one
  have u1 := hup.one
  have d1 := hdn.one
  have p1 := hpu.one
  have t1 := hto.one
  have ac := ha.cells
  have bc := hb.cells
  have uc := hup.cells
  have dc := hdn.cells
  have pc := hpu.cells
  have tc := hto.cells
  have ra := ha.rows mem0
  have rb := hb.rows mem0
  have ru := hup.rows mem0
  have rd := hdn.rows mem0
  have rp := hpu.rows mem0
  have rt := hto.rows mem0
  have fa := fun M => ha.frz M 0 11 (by omega)
  have fb := fun M => hb.frz M 0 11 (by omega)
  have fu := fun M => hup.frz M 0 11 (by omega)
  have fd := fun M => hdn.frz M 0 11 (by omega)
  have fp := fun M => hpu.frz M 0 11 (by omega)
  have ft := fun M => hto.frz M 0 11 (by omega)
  have lu := hup.len
  have ld := hdn.len
  have ic : ∀ M, icyL (icy 12) M [.agg [I64 x.a.ep, I64 x.a.nx, oa, I64 x.a.want, I64 x.a.since, BL x.a.owe, I64 x.b.ep, I64 x.b.nx, ob, I64 x.b.want, I64 x.b.since, BL x.b.owe, au, ad, ap, at', BL x.ok], I64 n, BL down] = some ([.agg [I64 x.a.ep, I64 x.a.nx, oa, I64 x.a.want, I64 x.a.since, BL x.a.owe, I64 x.b.ep, I64 x.b.nx, ob, I64 x.b.want, I64 x.b.since, BL x.b.owe, au, ad, ap, at', BL x.ok], I64 n, BL down], M) := fun M => by
    simp (maxSteps := 2000000) (disch := first | omega | assumption | (simp only [DS, Nat.reduceAdd, *]; done) | (simp only [DZ]; omega)) only [RUN, RU, footA, feetIn, resultsA, tupOf, frzL, slot, lay, icyL, fillA, repCells, kR, reduceIte, Nat.reduceEqDiff, Nat.reduceBEq, Nat.reduceLT, Nat.reduceAdd, Nat.reduceLeDiff, Nat.reduceSub, Nat.reduceMul, Int.reduceLT, Int.reduceLE, Int.reduceEq, Int.reduceAdd, Int.reduceSub, Int.reduceMul, ha.icy, hb.icy, hup.icy, hdn.icy, hpu.icy, hto.icy]
  have key : W3 (callN Try.prog (fsT tbl) fuel (d + 1) (.fn 31) [.agg [I64 x.a.ep, I64 x.a.nx, oa, I64 x.a.want, I64 x.a.since, BL x.a.owe, I64 x.b.ep, I64 x.b.nx, ob, I64 x.b.want, I64 x.b.since, BL x.b.owe, au, ad, ap, at', BL x.ok], I64 n, BL down] mem0) (fun r' _ => ∃ r, IsPair r (x.lost n down) ∧ r' = r) := by
    refine call_gc tf31 rfl (ic mem0) (by simp [a31]) fun b ht hx' => ?_
    have h0 := hx' 0 _ rfl
    have h1 := hx' 1 _ rfl
    have h2 := hx' 2 _ rfl
    clear hx'
    simp only [a31, c31] at ht ⊢
    cases down with
    | true =>
      by_cases hn : n < 0 ∨ (x.down.length : Int) ≤ n
      · have he : x.lost n true = x := by unfold Pair.lost; simp only [if_true]; rw [if_pos hn]
        rw [he]
        by_cases hn0 : n < 0
        · have q1 : decide (n < 0) = true := decide_eq_true hn0
          simp (maxSteps := 2000000) (disch := first | omega | assumption | (simp only [DS, Nat.reduceAdd, *]; done) | (simp only [DZ]; omega)) only [RUN, RU, footA, feetIn, resultsA, tupOf, frzL, slot, lay, icyL, fillA, repCells, kR, reduceIte, Nat.reduceEqDiff, Nat.reduceBEq, Nat.reduceLT, Nat.reduceAdd, Nat.reduceLeDiff, Nat.reduceSub, Nat.reduceMul, Int.reduceLT, Int.reduceLE, Int.reduceEq, Int.reduceAdd, Int.reduceSub, Int.reduceMul, h0, h1, h2, a1, b1, u1, d1, p1, t1, ac, bc, uc, dc, pc, tc, ra, rb, ru, rd, rp, rt, fa, fb, fu, fd, fp, ft, lu, ld, q1]
          exact ⟨_, hx, rfl⟩
        · have q1 : decide (n < 0) = false := decide_eq_false hn0
          have q2 : decide ((x.down.length : Int) ≤ n) = true := decide_eq_true (hn.resolve_left hn0)
          simp (maxSteps := 2000000) (disch := first | omega | assumption | (simp only [DS, Nat.reduceAdd, *]; done) | (simp only [DZ]; omega)) only [RUN, RU, footA, feetIn, resultsA, tupOf, frzL, slot, lay, icyL, fillA, repCells, kR, reduceIte, Nat.reduceEqDiff, Nat.reduceBEq, Nat.reduceLT, Nat.reduceAdd, Nat.reduceLeDiff, Nat.reduceSub, Nat.reduceMul, Int.reduceLT, Int.reduceLE, Int.reduceEq, Int.reduceAdd, Int.reduceSub, Int.reduceMul, h0, h1, h2, a1, b1, u1, d1, p1, t1, ac, bc, uc, dc, pc, tc, ra, rb, ru, rd, rp, rt, fa, fb, fu, fd, fp, ft, lu, ld, q1, q2]
          exact ⟨_, hx, rfl⟩
      · obtain ⟨j, rfl⟩ : ∃ j : Nat, n = j := ⟨n.toNat, by omega⟩
        have hj : j < x.down.length := by omega
        have he : x.lost j true = { x with down := cutOut x.down j } := by unfold Pair.lost; simp only [if_true, if_false, Bool.false_eq_true]; rw [if_neg hn]; rfl
        rw [he]
        have q1 : decide ((j : Int) < 0) = false := decide_eq_false (by omega)
        have q2 : decide ((x.down.length : Int) ≤ j) = false := decide_eq_false (by omega)
        have w1 : IntKind.i64.wrap ((j : Int) + 1) = ((j + 1 : Nat) : Int) := by rw [wrap_i64] <;> omega
        obtain ⟨s1, c1, hs1⟩ := sl_to hdn (j := j) (by omega)
        obtain ⟨s2, c2, hs2⟩ := sl_from hdn (i := j + 1) (by omega)
        have r1 := hs1.rows mem0
        have r2 := hs2.rows mem0
        have wX : Wf ((mem0.add (.row false [I64 x.a.ep, I64 x.a.nx, oa, I64 x.a.want, I64 x.a.since, BL x.a.owe, I64 x.b.ep, I64 x.b.nx, ob, I64 x.b.want, I64 x.b.since, BL x.b.owe, au, ad, ap, at', BL x.ok])).add (.row false [I64 0, I64 0, NIL, I64 0, I64 0, BL false, I64 0, I64 0, NIL, I64 0, I64 0, BL false, NIL, NIL, NIL, NIL, BL false])) := (Wf.mem0.add _).add _
        have sX : ((mem0.add (.row false [I64 x.a.ep, I64 x.a.nx, oa, I64 x.a.want, I64 x.a.since, BL x.a.owe, I64 x.b.ep, I64 x.b.nx, ob, I64 x.b.want, I64 x.b.since, BL x.b.owe, au, ad, ap, at', BL x.ok])).add (.row false [I64 0, I64 0, NIL, I64 0, I64 0, BL false, I64 0, I64 0, NIL, I64 0, I64 0, BL false, NIL, NIL, NIL, NIL, BL false])).size = 2 := by rw [add_size, add_size, mem0_size]
        have gX0 : ((mem0.add (.row false [I64 x.a.ep, I64 x.a.nx, oa, I64 x.a.want, I64 x.a.since, BL x.a.owe, I64 x.b.ep, I64 x.b.nx, ob, I64 x.b.want, I64 x.b.since, BL x.b.owe, au, ad, ap, at', BL x.ok])).add (.row false [I64 0, I64 0, NIL, I64 0, I64 0, BL false, I64 0, I64 0, NIL, I64 0, I64 0, BL false, NIL, NIL, NIL, NIL, BL false])).get 0 = some (.row false [I64 x.a.ep, I64 x.a.nx, oa, I64 x.a.want, I64 x.a.since, BL x.a.owe, I64 x.b.ep, I64 x.b.nx, ob, I64 x.b.want, I64 x.b.since, BL x.b.owe, au, ad, ap, at', BL x.ok]) := by rw [get_add (Wf.mem0.add _) _ _ (by rw [add_size]; omega)]; exact get_add_new Wf.mem0 _ _ (Nat.le_refl _) (by rw [mem0_size]; omega)
        have gX1 : ((mem0.add (.row false [I64 x.a.ep, I64 x.a.nx, oa, I64 x.a.want, I64 x.a.since, BL x.a.owe, I64 x.b.ep, I64 x.b.nx, ob, I64 x.b.want, I64 x.b.since, BL x.b.owe, au, ad, ap, at', BL x.ok])).add (.row false [I64 0, I64 0, NIL, I64 0, I64 0, BL false, I64 0, I64 0, NIL, I64 0, I64 0, BL false, NIL, NIL, NIL, NIL, BL false])).get 1 = some (.row false [I64 0, I64 0, NIL, I64 0, I64 0, BL false, I64 0, I64 0, NIL, I64 0, I64 0, BL false, NIL, NIL, NIL, NIL, BL false]) := get_add_new (Wf.mem0.add _) _ _ (by rw [add_size, mem0_size]; omega) (by rw [add_size, mem0_size]; omega)
        have hnil : SlM ((mem0.add (.row false [I64 x.a.ep, I64 x.a.nx, oa, I64 x.a.want, I64 x.a.since, BL x.a.owe, I64 x.b.ep, I64 x.b.nx, ob, I64 x.b.want, I64 x.b.since, BL x.b.owe, au, ad, ap, at', BL x.ok])).add (.row false [I64 0, I64 0, NIL, I64 0, I64 0, BL false, I64 0, I64 0, NIL, I64 0, I64 0, BL false, NIL, NIL, NIL, NIL, BL false])) 4 isPkR NIL ([] : List Pk) := SlM.nil
        obtain ⟨rows1, u1a, u1b, u1c, u1d⟩ := hs1.open
        obtain ⟨o1, M1, e1, m1, wf1, le1, _, kp1, nw1, _⟩ := hnil.appO wX (u1a _) u1b u1c u1d (cel_Pk.all u1c) (by omega) (bytes := 48) (by simp; omega) (by simp; omega)
        rw [List.nil_append] at m1
        obtain ⟨rows2, u2a, u2b, u2c, u2d⟩ := hs2.open
        obtain ⟨o2, M2, e2, m2, wf2, le2, _, kp2, nw2, _⟩ := m1.appO wf1 (u2a _) u2b u2c u2d (cel_Pk.all u2c) (by omega) (bytes := 48) (by simp; omega) (by simp; omega)
        have hr1 : ∀ id, rowOf o1 = some id → 2 ≤ id := fun id h => by
          rcases nw1 id h with h' | h'
          · cases h'
          · omega
        have hr2 : ∀ id, rowOf o2 = some id → 2 ≤ id := fun id h => by
          rcases nw2 id h with h' | h'
          · exact hr1 id h'
          · omega
        have g20 : M2.get 0 = some (.row false [I64 x.a.ep, I64 x.a.nx, oa, I64 x.a.want, I64 x.a.since, BL x.a.owe, I64 x.b.ep, I64 x.b.nx, ob, I64 x.b.want, I64 x.b.since, BL x.b.owe, au, ad, ap, at', BL x.ok]) := by rw [kp2 0 (by omega) (fun h => by have := hr1 _ h; omega), kp1 0 (by omega) (by simp [rowOf])]; exact gX0
        have g21 : M2.get 1 = some (.row false [I64 0, I64 0, NIL, I64 0, I64 0, BL false, I64 0, I64 0, NIL, I64 0, I64 0, BL false, NIL, NIL, NIL, NIL, BL false]) := by rw [kp2 1 (by omega) (fun h => by have := hr1 _ h; omega), kp1 1 (by omega) (by simp [rowOf])]; exact gX1
        have z0 : 0 < M2.size := by omega
        have z1 : 1 < M2.size := by omega
        have RL1 := rows_lt m1.rl (Nat.le_refl _)
        have o21 := m2.one
        have o2c := m2.cells
        obtain ⟨ro, hfo, hSr⟩ := (m2.keep (N := (M2.upd 0 (.row false [I64 x.a.ep, I64 x.a.nx, oa, I64 x.a.want, I64 x.a.since, BL x.a.owe, I64 x.b.ep, I64 x.b.nx, ob, I64 x.b.want, I64 x.b.since, BL x.b.owe, au, o2, ap, at', BL x.ok])).upd 1 (.row false [I64 x.a.ep, I64 x.a.nx, oa, I64 x.a.want, I64 x.a.since, BL x.a.owe, I64 x.b.ep, I64 x.b.nx, ob, I64 x.b.want, I64 x.b.since, BL x.b.owe, au, o2, ap, at', BL x.ok])) fun id h => by have := hr2 id h; rw [get_upd_ne (wf2.upd _ _) _ _ _ (by omega), get_upd_ne wf2 _ _ _ (by omega)]).frz cel_Pk (k := 11) (by omega)
        have hres : IsPair (.agg [I64 x.a.ep, I64 x.a.nx, oa, I64 x.a.want, I64 x.a.since, BL x.a.owe, I64 x.b.ep, I64 x.b.nx, ob, I64 x.b.want, I64 x.b.since, BL x.b.owe, au, ro, ap, at', BL x.ok]) { x with down := cutOut x.down j } := ⟨oa, ob, au, ro, ap, at', rfl, ha, hb, hup, hSr, hpu, hto⟩
        simp (maxSteps := 2000000) (disch := first | omega | assumption | (simp only [DS, Nat.reduceAdd, *]; done) | (simp only [DZ]; omega)) only [RUN, RU, footA, feetIn, resultsA, tupOf, frzL, slot, lay, icyL, fillA, repCells, kR, reduceIte, Nat.reduceEqDiff, Nat.reduceBEq, Nat.reduceLT, Nat.reduceAdd, Nat.reduceLeDiff, Nat.reduceSub, Nat.reduceMul, Int.reduceLT, Int.reduceLE, Int.reduceEq, Int.reduceAdd, Int.reduceSub, Int.reduceMul, h0, h1, h2, a1, b1, u1, d1, p1, t1, ac, bc, uc, dc, pc, tc, ra, rb, ru, rd, rp, rt, fa, fb, fu, fd, fp, ft, lu, ld, q1, q2, w1, c1, c2, r1, r2, e1, e2, RL1, g20, g21, z0, z1, o21, o2c, wf2, hfo, apart2_pu]
        exact ⟨_, hres, rfl⟩
    | false =>
      by_cases hn : n < 0 ∨ (x.up.length : Int) ≤ n
      · have he : x.lost n false = x := by unfold Pair.lost; simp only [Bool.false_eq_true, if_false]; rw [if_pos hn]
        rw [he]
        by_cases hn0 : n < 0
        · have q1 : decide (n < 0) = true := decide_eq_true hn0
          simp (maxSteps := 2000000) (disch := first | omega | assumption | (simp only [DS, Nat.reduceAdd, *]; done) | (simp only [DZ]; omega)) only [RUN, RU, footA, feetIn, resultsA, tupOf, frzL, slot, lay, icyL, fillA, repCells, kR, reduceIte, Nat.reduceEqDiff, Nat.reduceBEq, Nat.reduceLT, Nat.reduceAdd, Nat.reduceLeDiff, Nat.reduceSub, Nat.reduceMul, Int.reduceLT, Int.reduceLE, Int.reduceEq, Int.reduceAdd, Int.reduceSub, Int.reduceMul, h0, h1, h2, a1, b1, u1, d1, p1, t1, ac, bc, uc, dc, pc, tc, ra, rb, ru, rd, rp, rt, fa, fb, fu, fd, fp, ft, lu, ld, q1]
          exact ⟨_, hx, rfl⟩
        · have q1 : decide (n < 0) = false := decide_eq_false hn0
          have q2 : decide ((x.up.length : Int) ≤ n) = true := decide_eq_true (hn.resolve_left hn0)
          simp (maxSteps := 2000000) (disch := first | omega | assumption | (simp only [DS, Nat.reduceAdd, *]; done) | (simp only [DZ]; omega)) only [RUN, RU, footA, feetIn, resultsA, tupOf, frzL, slot, lay, icyL, fillA, repCells, kR, reduceIte, Nat.reduceEqDiff, Nat.reduceBEq, Nat.reduceLT, Nat.reduceAdd, Nat.reduceLeDiff, Nat.reduceSub, Nat.reduceMul, Int.reduceLT, Int.reduceLE, Int.reduceEq, Int.reduceAdd, Int.reduceSub, Int.reduceMul, h0, h1, h2, a1, b1, u1, d1, p1, t1, ac, bc, uc, dc, pc, tc, ra, rb, ru, rd, rp, rt, fa, fb, fu, fd, fp, ft, lu, ld, q1, q2]
          exact ⟨_, hx, rfl⟩
      · obtain ⟨j, rfl⟩ : ∃ j : Nat, n = j := ⟨n.toNat, by omega⟩
        have hj : j < x.up.length := by omega
        have he : x.lost j false = { x with up := cutOut x.up j } := by unfold Pair.lost; simp only [if_true, if_false, Bool.false_eq_true]; rw [if_neg hn]; rfl
        rw [he]
        have q1 : decide ((j : Int) < 0) = false := decide_eq_false (by omega)
        have q2 : decide ((x.up.length : Int) ≤ j) = false := decide_eq_false (by omega)
        have w1 : IntKind.i64.wrap ((j : Int) + 1) = ((j + 1 : Nat) : Int) := by rw [wrap_i64] <;> omega
        obtain ⟨s1, c1, hs1⟩ := sl_to hup (j := j) (by omega)
        obtain ⟨s2, c2, hs2⟩ := sl_from hup (i := j + 1) (by omega)
        have r1 := hs1.rows mem0
        have r2 := hs2.rows mem0
        have wX : Wf ((mem0.add (.row false [I64 x.a.ep, I64 x.a.nx, oa, I64 x.a.want, I64 x.a.since, BL x.a.owe, I64 x.b.ep, I64 x.b.nx, ob, I64 x.b.want, I64 x.b.since, BL x.b.owe, au, ad, ap, at', BL x.ok])).add (.row false [I64 0, I64 0, NIL, I64 0, I64 0, BL false, I64 0, I64 0, NIL, I64 0, I64 0, BL false, NIL, NIL, NIL, NIL, BL false])) := (Wf.mem0.add _).add _
        have sX : ((mem0.add (.row false [I64 x.a.ep, I64 x.a.nx, oa, I64 x.a.want, I64 x.a.since, BL x.a.owe, I64 x.b.ep, I64 x.b.nx, ob, I64 x.b.want, I64 x.b.since, BL x.b.owe, au, ad, ap, at', BL x.ok])).add (.row false [I64 0, I64 0, NIL, I64 0, I64 0, BL false, I64 0, I64 0, NIL, I64 0, I64 0, BL false, NIL, NIL, NIL, NIL, BL false])).size = 2 := by rw [add_size, add_size, mem0_size]
        have gX0 : ((mem0.add (.row false [I64 x.a.ep, I64 x.a.nx, oa, I64 x.a.want, I64 x.a.since, BL x.a.owe, I64 x.b.ep, I64 x.b.nx, ob, I64 x.b.want, I64 x.b.since, BL x.b.owe, au, ad, ap, at', BL x.ok])).add (.row false [I64 0, I64 0, NIL, I64 0, I64 0, BL false, I64 0, I64 0, NIL, I64 0, I64 0, BL false, NIL, NIL, NIL, NIL, BL false])).get 0 = some (.row false [I64 x.a.ep, I64 x.a.nx, oa, I64 x.a.want, I64 x.a.since, BL x.a.owe, I64 x.b.ep, I64 x.b.nx, ob, I64 x.b.want, I64 x.b.since, BL x.b.owe, au, ad, ap, at', BL x.ok]) := by rw [get_add (Wf.mem0.add _) _ _ (by rw [add_size]; omega)]; exact get_add_new Wf.mem0 _ _ (Nat.le_refl _) (by rw [mem0_size]; omega)
        have gX1 : ((mem0.add (.row false [I64 x.a.ep, I64 x.a.nx, oa, I64 x.a.want, I64 x.a.since, BL x.a.owe, I64 x.b.ep, I64 x.b.nx, ob, I64 x.b.want, I64 x.b.since, BL x.b.owe, au, ad, ap, at', BL x.ok])).add (.row false [I64 0, I64 0, NIL, I64 0, I64 0, BL false, I64 0, I64 0, NIL, I64 0, I64 0, BL false, NIL, NIL, NIL, NIL, BL false])).get 1 = some (.row false [I64 0, I64 0, NIL, I64 0, I64 0, BL false, I64 0, I64 0, NIL, I64 0, I64 0, BL false, NIL, NIL, NIL, NIL, BL false]) := get_add_new (Wf.mem0.add _) _ _ (by rw [add_size, mem0_size]; omega) (by rw [add_size, mem0_size]; omega)
        have hnil : SlM ((mem0.add (.row false [I64 x.a.ep, I64 x.a.nx, oa, I64 x.a.want, I64 x.a.since, BL x.a.owe, I64 x.b.ep, I64 x.b.nx, ob, I64 x.b.want, I64 x.b.since, BL x.b.owe, au, ad, ap, at', BL x.ok])).add (.row false [I64 0, I64 0, NIL, I64 0, I64 0, BL false, I64 0, I64 0, NIL, I64 0, I64 0, BL false, NIL, NIL, NIL, NIL, BL false])) 4 isPkR NIL ([] : List Pk) := SlM.nil
        obtain ⟨rows1, u1a, u1b, u1c, u1d⟩ := hs1.open
        obtain ⟨o1, M1, e1, m1, wf1, le1, _, kp1, nw1, _⟩ := hnil.appO wX (u1a _) u1b u1c u1d (cel_Pk.all u1c) (by omega) (bytes := 48) (by simp; omega) (by simp; omega)
        rw [List.nil_append] at m1
        obtain ⟨rows2, u2a, u2b, u2c, u2d⟩ := hs2.open
        obtain ⟨o2, M2, e2, m2, wf2, le2, _, kp2, nw2, _⟩ := m1.appO wf1 (u2a _) u2b u2c u2d (cel_Pk.all u2c) (by omega) (bytes := 48) (by simp; omega) (by simp; omega)
        have hr1 : ∀ id, rowOf o1 = some id → 2 ≤ id := fun id h => by
          rcases nw1 id h with h' | h'
          · cases h'
          · omega
        have hr2 : ∀ id, rowOf o2 = some id → 2 ≤ id := fun id h => by
          rcases nw2 id h with h' | h'
          · exact hr1 id h'
          · omega
        have g20 : M2.get 0 = some (.row false [I64 x.a.ep, I64 x.a.nx, oa, I64 x.a.want, I64 x.a.since, BL x.a.owe, I64 x.b.ep, I64 x.b.nx, ob, I64 x.b.want, I64 x.b.since, BL x.b.owe, au, ad, ap, at', BL x.ok]) := by rw [kp2 0 (by omega) (fun h => by have := hr1 _ h; omega), kp1 0 (by omega) (by simp [rowOf])]; exact gX0
        have g21 : M2.get 1 = some (.row false [I64 0, I64 0, NIL, I64 0, I64 0, BL false, I64 0, I64 0, NIL, I64 0, I64 0, BL false, NIL, NIL, NIL, NIL, BL false]) := by rw [kp2 1 (by omega) (fun h => by have := hr1 _ h; omega), kp1 1 (by omega) (by simp [rowOf])]; exact gX1
        have z0 : 0 < M2.size := by omega
        have z1 : 1 < M2.size := by omega
        have RL1 := rows_lt m1.rl (Nat.le_refl _)
        have o21 := m2.one
        have o2c := m2.cells
        obtain ⟨ro, hfo, hSr⟩ := (m2.keep (N := (M2.upd 0 (.row false [I64 x.a.ep, I64 x.a.nx, oa, I64 x.a.want, I64 x.a.since, BL x.a.owe, I64 x.b.ep, I64 x.b.nx, ob, I64 x.b.want, I64 x.b.since, BL x.b.owe, o2, ad, ap, at', BL x.ok])).upd 1 (.row false [I64 x.a.ep, I64 x.a.nx, oa, I64 x.a.want, I64 x.a.since, BL x.a.owe, I64 x.b.ep, I64 x.b.nx, ob, I64 x.b.want, I64 x.b.since, BL x.b.owe, o2, ad, ap, at', BL x.ok])) fun id h => by have := hr2 id h; rw [get_upd_ne (wf2.upd _ _) _ _ _ (by omega), get_upd_ne wf2 _ _ _ (by omega)]).frz cel_Pk (k := 11) (by omega)
        have hres : IsPair (.agg [I64 x.a.ep, I64 x.a.nx, oa, I64 x.a.want, I64 x.a.since, BL x.a.owe, I64 x.b.ep, I64 x.b.nx, ob, I64 x.b.want, I64 x.b.since, BL x.b.owe, ro, ad, ap, at', BL x.ok]) { x with up := cutOut x.up j } := ⟨oa, ob, ro, ad, ap, at', rfl, ha, hb, hSr, hdn, hpu, hto⟩
        simp (maxSteps := 2000000) (disch := first | omega | assumption | (simp only [DS, Nat.reduceAdd, *]; done) | (simp only [DZ]; omega)) only [RUN, RU, footA, feetIn, resultsA, tupOf, frzL, slot, lay, icyL, fillA, repCells, kR, reduceIte, Nat.reduceEqDiff, Nat.reduceBEq, Nat.reduceLT, Nat.reduceAdd, Nat.reduceLeDiff, Nat.reduceSub, Nat.reduceMul, Int.reduceLT, Int.reduceLE, Int.reduceEq, Int.reduceAdd, Int.reduceSub, Int.reduceMul, h0, h1, h2, a1, b1, u1, d1, p1, t1, ac, bc, uc, dc, pc, tc, ra, rb, ru, rd, rp, rt, fa, fb, fu, fd, fp, ft, lu, ld, q1, q2, w1, c1, c2, r1, r2, e1, e2, RL1, g20, g21, z0, z1, o21, o2c, wf2, hfo, apart2_pu]
        exact ⟨_, hres, rfl⟩
  obtain ⟨r', N, hk, r, hr, rfl⟩ := key
  exact ⟨r', hr, fun M => call_own tf31 rfl hk (ic mem0) (ic M)⟩
end Go.Proofs.Ytbemomagabjbnaa
