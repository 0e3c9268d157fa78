/-
  The law's sends.
-/
import Derived.Test.YtbemomagabjbnaaLoR
import Derived.Test.YtbemomagabjbnaaLoT
set_option linter.unusedSimpArgs false
set_option linter.unusedVariables false
set_option maxRecDepth 100000
namespace Go.Proofs.Ytbemomagabjbnaa
open Go Go.Ax
variable {fuel : Nat} {M : Mem} {Q : AV → Mem → Prop} {d : Nat}

/-- Append to a slice of ours, of what is frozen: what comes behind it. -/
theorem w3_app {α : Type} {X : Mem} {st bytes : Nat} {T : List AV → α → Prop} {a y : AV} {l l' : List α} {Q : AV → Mem → Prop} (wf : Wf X) (h : SlM X st T a l) (hT : Cel T) (hy : Sl st T y l') (hs : 0 < st) (hb1 : (l.length + l'.length) * bytes ≤ 4294967296) (hb2 : l.length + l'.length ≤ 4294967296)
    (k : ∀ a' M', SlM M' st T a' (l ++ l') → Wf M' → X.size ≤ M'.size → M'.size ≤ X.size + 1 → (∀ j, j < X.size → rowOf a ≠ some j → M'.get j = X.get j) → (∀ id, rowOf a' = some id → rowOf a = some id ∨ X.size ≤ id) → M'.wm = X.wm → ((rowsOf a').all fun i => Nat.blt i M'.size) = true → oneA a' = true → cellsA a' = [a'] → Q a' M') : W3 (appO X st bytes a y) Q := by
  obtain ⟨rows, ha, hb, hc, hd⟩ := hy.open
  obtain ⟨o, N, e, m, w, le, le2, kp, nw, wm⟩ := h.appO wf (ha X) hb hc hd (hT.all hc) hs hb1 hb2
  exact ⟨o, N, e, k o N m w le le2 kp nw wm (rows_lt m.rl (Nat.le_refl _)) m.one m.cells⟩
/-- Append to a slice of ours, of cells that we know. -/
theorem w3_appc {α : Type} {X : Mem} {st bytes : Nat} {T : List AV → α → Prop} {a y : AV} {l l' : List α} {new : List (List AV)} {Q : AV → Mem → Prop} (wf : Wf X) (h : SlM X st T a l) (hT : Cel T) (hy : cellsOf X y = some new.flatten) (hl : lenA y = some l'.length) (hn : All2 T new l') (hr : ∀ r ∈ new, r.length = st) (hs : 0 < st) (hb1 : (l.length + l'.length) * bytes ≤ 4294967296) (hb2 : l.length + l'.length ≤ 4294967296)
    (k : ∀ a' M', SlM M' st T a' (l ++ l') → Wf M' → X.size ≤ M'.size → M'.size ≤ X.size + 1 → (∀ j, j < X.size → rowOf a ≠ some j → M'.get j = X.get j) → (∀ id, rowOf a' = some id → rowOf a = some id ∨ X.size ≤ id) → M'.wm = X.wm → ((rowsOf a').all fun i => Nat.blt i M'.size) = true → oneA a' = true → cellsA a' = [a'] → Q a' M') : W3 (appO X st bytes a y) Q := by
  obtain ⟨o, N, e, m, w, le, le2, kp, nw, wm⟩ := h.appO wf hy hl hn hr (hT.all hn) hs hb1 hb2
  exact ⟨o, N, e, k o N m w le le2 kp nw wm (rows_lt m.rl (Nat.le_refl _)) m.one m.cells⟩
/-- Frozen, it reads as it read, wherever its row stands as it stood. -/
theorem slm_frz {α : Type} {M : Mem} {st : Nat} {T : List AV → α → Prop} {a : AV} {l : List α} (h : SlM M st T a l) (hT : Cel T) : ∃ ro, Sl st T ro l ∧ ∀ N, (∀ id, rowOf a = some id → N.get id = M.get id) → frz N 0 11 a = some ro := by
  rcases h with ⟨rfl, rfl⟩ | ⟨id, rows, cap, rfl, _, hg, h, hl⟩
  · exact ⟨_, .inl ⟨rfl, rfl⟩, fun N _ => frz_sc _ (by omega)⟩
  · refine ⟨.pv rows.flatten rows.length cap st, .inr ⟨rows, cap, rfl, h, hl⟩, fun N hN => ?_⟩
    rw [frz_sl (rd_row ((hN id rfl).trans hg)) (by rw [flat_len hl]; omega) (by omega) (fun x hx => (hT.flat h x hx).2 N _ (by omega)), slot_all _ _ (by rw [flat_len hl])]
theorem upd_keep {M : Mem} (wf : Wf M) {i j : Nat} {o : AObj} (h : i ≠ j) : (M.upd i o).get j = M.get j := get_upd_ne wf _ _ _ h

set_option maxHeartbeats 8000000 in
theorem sends_run {v : AV} {x : Pair} (hx : IsPair v x) (second tick : Bool) (hok : x.ok = true) (hu : x.up.length ≤ 100000) (hd : x.down.length ≤ 100000) (hf : 3000 < fuel) : ∃ r, IsPair r (x.sends second tick) ∧ ∀ M, callN Try.prog (fsT tbl) fuel (d + 5) (.fn 29) [v, BL second, BL tick] M = some (r, M) := by
  obtain ⟨oa, ob, au, ad, ap, at', rfl, ha, hb, hup, hdn, hpu, hto⟩ := id hx
  have a1 := ha.one
  have b1 := hb.one
  have u1 := hup.one
  have d1 := hdn.one
  have p1 := hpu.one
  have t1 := hto.one
  have ac := ha.cells
  have bc := hb.cells
  have uc := hup.cells
  have dc := hdn.cells
  have pc := hpu.cells
  have tc := hto.cells
  have ra := ha.rows mem0
  have rb := hb.rows mem0
  have ru := hup.rows mem0
  have rd := hdn.rows mem0
  have rp := hpu.rows mem0
  have rt := hto.rows mem0
  have fa := fun M => ha.frz M 0 11 (by omega)
  have fb := fun M => hb.frz M 0 11 (by omega)
  have fu := fun M => hup.frz M 0 11 (by omega)
  have fd := fun M => hdn.frz M 0 11 (by omega)
  have fp := fun M => hpu.frz M 0 11 (by omega)
  have ft := fun M => hto.frz M 0 11 (by omega)
  have lu := hup.len
  have ld := hdn.len
  have ic : ∀ M, icyL (icy 12) M [.agg [I64 x.a.ep, I64 x.a.nx, oa, I64 x.a.want, I64 x.a.since, BL x.a.owe, I64 x.b.ep, I64 x.b.nx, ob, I64 x.b.want, I64 x.b.since, BL x.b.owe, au, ad, ap, at', BL x.ok], BL second, BL tick] = some ([.agg [I64 x.a.ep, I64 x.a.nx, oa, I64 x.a.want, I64 x.a.since, BL x.a.owe, I64 x.b.ep, I64 x.b.nx, ob, I64 x.b.want, I64 x.b.since, BL x.b.owe, au, ad, ap, at', BL x.ok], BL second, BL tick], M) := fun M => by
    simp (maxSteps := 2000000) (disch := first | omega | assumption | (simp only [DS, Nat.reduceAdd, *]; done) | (simp only [DZ]; omega)) only [RUN, RU, footA, feetIn, resultsA, tupOf, frzL, slot, lay, icyL, fillA, repCells, kR, reduceIte, Nat.reduceEqDiff, Nat.reduceBEq, Nat.reduceLT, Nat.reduceAdd, Nat.reduceLeDiff, Nat.reduceSub, Nat.reduceMul, Int.reduceLT, Int.reduceLE, Int.reduceEq, Int.reduceAdd, Int.reduceSub, Int.reduceMul, ha.icy, hb.icy, hup.icy, hdn.icy, hpu.icy, hto.icy]
  have key : W3 (callN Try.prog (fsT tbl) fuel (d + 5) (.fn 29) [.agg [I64 x.a.ep, I64 x.a.nx, oa, I64 x.a.want, I64 x.a.since, BL x.a.owe, I64 x.b.ep, I64 x.b.nx, ob, I64 x.b.want, I64 x.b.since, BL x.b.owe, au, ad, ap, at', BL x.ok], BL second, BL tick] mem0) (fun r' _ => ∃ r, IsPair r (x.sends second tick) ∧ r' = r) := by
    refine call_gc tf29 rfl (ic mem0) (by simp [a29]) fun b ht hx' => ?_
    have h0 := hx' 0 _ rfl
    have h1 := hx' 1 _ rfl
    have h2 := hx' 2 _ rfl
    clear hx'
    simp only [a29, c29] at ht ⊢
    cases second with
    | false =>
      obtain ⟨rs, ls, ⟨os, rfl, hos⟩, hls, hS⟩ := esend_run (fuel := fuel) (d := d) (ae := .agg [I64 x.a.ep, I64 x.a.nx, oa, I64 x.a.want, I64 x.a.since, BL x.a.owe]) (e := x.a) ⟨oa, rfl, ha⟩ (by omega)
      obtain ⟨rt', lt, ⟨ot, rfl, hot⟩, hlt, hT⟩ := etick_run (fuel := fuel) (d := d) (ae := .agg [I64 x.a.ep, I64 x.a.nx, oa, I64 x.a.want, I64 x.a.since, BL x.a.owe]) (e := x.a) ⟨oa, rfl, ha⟩ (by omega)
      have s1 := hos.one
      have s2 := hos.cells
      have s3 := hls.one
      have s4 := hls.cells
      have s5 := hls.rows mem0
      have s6 := fun M => hos.frz M 0 11 (by omega)
      have q1 := hot.one
      have q2 := hot.cells
      have q3 := hlt.one
      have q4 := hlt.cells
      have q5 := hlt.rows mem0
      have q6 := fun M => hot.frz M 0 11 (by omega)
      have z1 := sent_len x.a
      have z2 := tick_len x.a
      cases tick with
      | false =>
        simp (maxSteps := 2000000) (disch := first | omega | assumption | (simp only [DS, Nat.reduceAdd, *]; done) | (simp only [DZ]; omega)) only [RUN, RU, footA, feetIn, resultsA, tupOf, frzL, slot, lay, icyL, fillA, repCells, kR, reduceIte, Nat.reduceEqDiff, Nat.reduceBEq, Nat.reduceLT, Nat.reduceAdd, Nat.reduceLeDiff, Nat.reduceSub, Nat.reduceMul, Int.reduceLT, Int.reduceLE, Int.reduceEq, Int.reduceAdd, Int.reduceSub, Int.reduceMul, h0, h1, h2, a1, b1, u1, d1, p1, t1, ac, bc, uc, dc, pc, tc, ra, rb, ru, rd, rp, rt, fa, fb, fu, fd, fp, ft, hS, hT, s1, s2, s3, s4, s5, s6, q1, q2, q3, q4, q5, q6, ha.icy, hb.icy, hok]
        refine w3_app (by simp (maxSteps := 2000000) (disch := first | omega | assumption | (simp only [DS, Nat.reduceAdd, *]; done) | (simp only [DZ]; omega)) only [RUN, RU, footA, feetIn, resultsA, tupOf, frzL, slot, lay, icyL, fillA, repCells, kR, reduceIte, Nat.reduceEqDiff, Nat.reduceBEq, Nat.reduceLT, Nat.reduceAdd, Nat.reduceLeDiff, Nat.reduceSub, Nat.reduceMul, Int.reduceLT, Int.reduceLE, Int.reduceEq, Int.reduceAdd, Int.reduceSub, Int.reduceMul]) SlM.nil cel_Pk hup (by omega) (by simp; omega) (by simp; omega) fun o1 M1 m1 wf1 le1 sz1 kp1 nw1 wm1 rl1 on1 oc1 => ?_
        have g0 := kp1 0 (by simp only [add_size, upd_size, mem0_size]; omega) (by simp [rowOf])
        have g1 := kp1 1 (by simp only [add_size, upd_size, mem0_size]; omega) (by simp [rowOf])
        have nn1 : ∀ id, rowOf o1 = some id → 4 ≤ id := fun id h => by
          rcases nw1 id h with h' | h'
          · cases h'
          · simp only [add_size, upd_size, mem0_size] at h'; exact h'
        simp only [add_size, upd_size, mem0_size, Nat.reduceAdd] at le1
        simp (maxSteps := 2000000) (disch := first | omega | assumption | (simp only [DS, Nat.reduceAdd, *]; done) | (simp only [DZ]; omega)) only [RUN, RU, footA, feetIn, resultsA, tupOf, frzL, slot, lay, icyL, fillA, repCells, kR, reduceIte, Nat.reduceEqDiff, Nat.reduceBEq, Nat.reduceLT, Nat.reduceAdd, Nat.reduceLeDiff, Nat.reduceSub, Nat.reduceMul, Int.reduceLT, Int.reduceLE, Int.reduceEq, Int.reduceAdd, Int.reduceSub, Int.reduceMul] at g0 g1
        clear kp1 nw1 sz1
        simp (maxSteps := 2000000) (disch := first | omega | assumption | (simp only [DS, Nat.reduceAdd, *]; done) | (simp only [DZ]; omega)) only [RUN, RU, footA, feetIn, resultsA, tupOf, frzL, slot, lay, icyL, fillA, repCells, kR, reduceIte, Nat.reduceEqDiff, Nat.reduceBEq, Nat.reduceLT, Nat.reduceAdd, Nat.reduceLeDiff, Nat.reduceSub, Nat.reduceMul, Int.reduceLT, Int.reduceLE, Int.reduceEq, Int.reduceAdd, Int.reduceSub, Int.reduceMul, h0, h1, h2, a1, b1, u1, d1, p1, t1, ac, bc, uc, dc, pc, tc, ra, rb, ru, rd, rp, rt, fa, fb, fu, fd, fp, ft, hS, hT, s1, s2, s3, s4, s5, s6, q1, q2, q3, q4, q5, q6, ha.icy, hb.icy, hok, rl1, on1, oc1, g0, g1]
        refine w3_app wf1 m1 cel_Pk hls (by omega) (by simp; omega) (by simp; omega) fun o2 M2 m2 wf2 le2 sz2 kp2 nw2 wm2 rl2 on2 oc2 => ?_
        have k0 := (kp2 0 (by omega) (fun h => by have := nn1 _ h; omega)).trans g0
        have k1 := (kp2 1 (by omega) (fun h => by have := nn1 _ h; omega)).trans g1
        have nn2 : ∀ id, rowOf o2 = some id → 4 ≤ id := fun id h => by
          rcases nw2 id h with h' | h'
          · exact nn1 id h'
          · omega
        obtain ⟨ro, hSr, hfr⟩ := slm_frz m2 cel_Pk
        have hfr2 : ∀ o o', frz ((M2.upd 0 o).upd 1 o') 0 11 o2 = some ro := fun o o' => hfr _ fun id h => by have := nn2 id h; rw [get_upd_ne (wf2.upd _ _) _ _ _ (by omega), get_upd_ne wf2 _ _ _ (by omega)]
        clear hfr kp2 nw2 sz2
        have y0 : 0 < M2.size := by omega
        have y1 : 1 < M2.size := by omega
        simp (maxSteps := 2000000) (disch := first | omega | assumption | (simp only [DS, Nat.reduceAdd, *]; done) | (simp only [DZ]; omega)) only [RUN, RU, footA, feetIn, resultsA, tupOf, frzL, slot, lay, icyL, fillA, repCells, kR, reduceIte, Nat.reduceEqDiff, Nat.reduceBEq, Nat.reduceLT, Nat.reduceAdd, Nat.reduceLeDiff, Nat.reduceSub, Nat.reduceMul, Int.reduceLT, Int.reduceLE, Int.reduceEq, Int.reduceAdd, Int.reduceSub, Int.reduceMul, h0, h1, h2, a1, b1, u1, d1, p1, t1, ac, bc, uc, dc, pc, tc, ra, rb, ru, rd, rp, rt, fa, fb, fu, fd, fp, ft, hS, hT, s1, s2, s3, s4, s5, s6, q1, q2, q3, q4, q5, q6, ha.icy, hb.icy, hok, rl1, on1, oc1, rl2, on2, oc2, k0, k1, y0, y1, wf2, hfr2]
        refine ⟨_, ?_, rfl⟩
        have he : x.sends false false = { x with ok := decide (x.a.sent.2.2 = 0), a := x.a.sent.1, up := x.up ++ x.a.sent.2.1 } := by
          unfold Pair.sends
          simp [hok]
        rw [he]
        rw [List.nil_append] at hSr
        exact ⟨os, ob, ro, ad, ap, at', rfl, hos, hb, hSr, hdn, hpu, hto⟩
      | true =>
        simp (maxSteps := 2000000) (disch := first | omega | assumption | (simp only [DS, Nat.reduceAdd, *]; done) | (simp only [DZ]; omega)) only [RUN, RU, footA, feetIn, resultsA, tupOf, frzL, slot, lay, icyL, fillA, repCells, kR, reduceIte, Nat.reduceEqDiff, Nat.reduceBEq, Nat.reduceLT, Nat.reduceAdd, Nat.reduceLeDiff, Nat.reduceSub, Nat.reduceMul, Int.reduceLT, Int.reduceLE, Int.reduceEq, Int.reduceAdd, Int.reduceSub, Int.reduceMul, h0, h1, h2, a1, b1, u1, d1, p1, t1, ac, bc, uc, dc, pc, tc, ra, rb, ru, rd, rp, rt, fa, fb, fu, fd, fp, ft, hS, hT, s1, s2, s3, s4, s5, s6, q1, q2, q3, q4, q5, q6, ha.icy, hb.icy, hok]
        refine w3_app (by simp (maxSteps := 2000000) (disch := first | omega | assumption | (simp only [DS, Nat.reduceAdd, *]; done) | (simp only [DZ]; omega)) only [RUN, RU, footA, feetIn, resultsA, tupOf, frzL, slot, lay, icyL, fillA, repCells, kR, reduceIte, Nat.reduceEqDiff, Nat.reduceBEq, Nat.reduceLT, Nat.reduceAdd, Nat.reduceLeDiff, Nat.reduceSub, Nat.reduceMul, Int.reduceLT, Int.reduceLE, Int.reduceEq, Int.reduceAdd, Int.reduceSub, Int.reduceMul]) SlM.nil cel_Pk hup (by omega) (by simp; omega) (by simp; omega) fun o1 M1 m1 wf1 le1 sz1 kp1 nw1 wm1 rl1 on1 oc1 => ?_
        have g0 := kp1 0 (by simp only [add_size, upd_size, mem0_size]; omega) (by simp [rowOf])
        have g1 := kp1 1 (by simp only [add_size, upd_size, mem0_size]; omega) (by simp [rowOf])
        have nn1 : ∀ id, rowOf o1 = some id → 4 ≤ id := fun id h => by
          rcases nw1 id h with h' | h'
          · cases h'
          · simp only [add_size, upd_size, mem0_size] at h'; exact h'
        simp only [add_size, upd_size, mem0_size, Nat.reduceAdd] at le1
        simp (maxSteps := 2000000) (disch := first | omega | assumption | (simp only [DS, Nat.reduceAdd, *]; done) | (simp only [DZ]; omega)) only [RUN, RU, footA, feetIn, resultsA, tupOf, frzL, slot, lay, icyL, fillA, repCells, kR, reduceIte, Nat.reduceEqDiff, Nat.reduceBEq, Nat.reduceLT, Nat.reduceAdd, Nat.reduceLeDiff, Nat.reduceSub, Nat.reduceMul, Int.reduceLT, Int.reduceLE, Int.reduceEq, Int.reduceAdd, Int.reduceSub, Int.reduceMul] at g0 g1
        clear kp1 nw1 sz1
        simp (maxSteps := 2000000) (disch := first | omega | assumption | (simp only [DS, Nat.reduceAdd, *]; done) | (simp only [DZ]; omega)) only [RUN, RU, footA, feetIn, resultsA, tupOf, frzL, slot, lay, icyL, fillA, repCells, kR, reduceIte, Nat.reduceEqDiff, Nat.reduceBEq, Nat.reduceLT, Nat.reduceAdd, Nat.reduceLeDiff, Nat.reduceSub, Nat.reduceMul, Int.reduceLT, Int.reduceLE, Int.reduceEq, Int.reduceAdd, Int.reduceSub, Int.reduceMul, h0, h1, h2, a1, b1, u1, d1, p1, t1, ac, bc, uc, dc, pc, tc, ra, rb, ru, rd, rp, rt, fa, fb, fu, fd, fp, ft, hS, hT, s1, s2, s3, s4, s5, s6, q1, q2, q3, q4, q5, q6, ha.icy, hb.icy, hok, rl1, on1, oc1, g0, g1]
        refine w3_app wf1 m1 cel_Pk hlt (by omega) (by simp; omega) (by simp; omega) fun o2 M2 m2 wf2 le2 sz2 kp2 nw2 wm2 rl2 on2 oc2 => ?_
        have k0 := (kp2 0 (by omega) (fun h => by have := nn1 _ h; omega)).trans g0
        have k1 := (kp2 1 (by omega) (fun h => by have := nn1 _ h; omega)).trans g1
        have nn2 : ∀ id, rowOf o2 = some id → 4 ≤ id := fun id h => by
          rcases nw2 id h with h' | h'
          · exact nn1 id h'
          · omega
        obtain ⟨ro, hSr, hfr⟩ := slm_frz m2 cel_Pk
        have hfr2 : ∀ o o', frz ((M2.upd 0 o).upd 1 o') 0 11 o2 = some ro := fun o o' => hfr _ fun id h => by have := nn2 id h; rw [get_upd_ne (wf2.upd _ _) _ _ _ (by omega), get_upd_ne wf2 _ _ _ (by omega)]
        clear hfr kp2 nw2 sz2
        have y0 : 0 < M2.size := by omega
        have y1 : 1 < M2.size := by omega
        simp (maxSteps := 2000000) (disch := first | omega | assumption | (simp only [DS, Nat.reduceAdd, *]; done) | (simp only [DZ]; omega)) only [RUN, RU, footA, feetIn, resultsA, tupOf, frzL, slot, lay, icyL, fillA, repCells, kR, reduceIte, Nat.reduceEqDiff, Nat.reduceBEq, Nat.reduceLT, Nat.reduceAdd, Nat.reduceLeDiff, Nat.reduceSub, Nat.reduceMul, Int.reduceLT, Int.reduceLE, Int.reduceEq, Int.reduceAdd, Int.reduceSub, Int.reduceMul, h0, h1, h2, a1, b1, u1, d1, p1, t1, ac, bc, uc, dc, pc, tc, ra, rb, ru, rd, rp, rt, fa, fb, fu, fd, fp, ft, hS, hT, s1, s2, s3, s4, s5, s6, q1, q2, q3, q4, q5, q6, ha.icy, hb.icy, hok, rl1, on1, oc1, rl2, on2, oc2, k0, k1, y0, y1, wf2, hfr2]
        refine ⟨_, ?_, rfl⟩
        have he : x.sends false true = { x with ok := decide (x.a.tick.2.2 = 0), a := x.a.tick.1, up := x.up ++ x.a.tick.2.1 } := by
          unfold Pair.sends
          simp [hok]
        rw [he]
        rw [List.nil_append] at hSr
        exact ⟨ot, ob, ro, ad, ap, at', rfl, hot, hb, hSr, hdn, hpu, hto⟩
    | true =>
      obtain ⟨rs, ls, ⟨os, rfl, hos⟩, hls, hS⟩ := esend_run (fuel := fuel) (d := d) (ae := .agg [I64 x.b.ep, I64 x.b.nx, ob, I64 x.b.want, I64 x.b.since, BL x.b.owe]) (e := x.b) ⟨ob, rfl, hb⟩ (by omega)
      obtain ⟨rt', lt, ⟨ot, rfl, hot⟩, hlt, hT⟩ := etick_run (fuel := fuel) (d := d) (ae := .agg [I64 x.b.ep, I64 x.b.nx, ob, I64 x.b.want, I64 x.b.since, BL x.b.owe]) (e := x.b) ⟨ob, rfl, hb⟩ (by omega)
      have s1 := hos.one
      have s2 := hos.cells
      have s3 := hls.one
      have s4 := hls.cells
      have s5 := hls.rows mem0
      have s6 := fun M => hos.frz M 0 11 (by omega)
      have q1 := hot.one
      have q2 := hot.cells
      have q3 := hlt.one
      have q4 := hlt.cells
      have q5 := hlt.rows mem0
      have q6 := fun M => hot.frz M 0 11 (by omega)
      have z1 := sent_len x.b
      have z2 := tick_len x.b
      cases tick with
      | false =>
        simp (maxSteps := 2000000) (disch := first | omega | assumption | (simp only [DS, Nat.reduceAdd, *]; done) | (simp only [DZ]; omega)) only [RUN, RU, footA, feetIn, resultsA, tupOf, frzL, slot, lay, icyL, fillA, repCells, kR, reduceIte, Nat.reduceEqDiff, Nat.reduceBEq, Nat.reduceLT, Nat.reduceAdd, Nat.reduceLeDiff, Nat.reduceSub, Nat.reduceMul, Int.reduceLT, Int.reduceLE, Int.reduceEq, Int.reduceAdd, Int.reduceSub, Int.reduceMul, h0, h1, h2, a1, b1, u1, d1, p1, t1, ac, bc, uc, dc, pc, tc, ra, rb, ru, rd, rp, rt, fa, fb, fu, fd, fp, ft, hS, hT, s1, s2, s3, s4, s5, s6, q1, q2, q3, q4, q5, q6, ha.icy, hb.icy, hok]
        refine w3_app (by simp (maxSteps := 2000000) (disch := first | omega | assumption | (simp only [DS, Nat.reduceAdd, *]; done) | (simp only [DZ]; omega)) only [RUN, RU, footA, feetIn, resultsA, tupOf, frzL, slot, lay, icyL, fillA, repCells, kR, reduceIte, Nat.reduceEqDiff, Nat.reduceBEq, Nat.reduceLT, Nat.reduceAdd, Nat.reduceLeDiff, Nat.reduceSub, Nat.reduceMul, Int.reduceLT, Int.reduceLE, Int.reduceEq, Int.reduceAdd, Int.reduceSub, Int.reduceMul]) SlM.nil cel_Pk hdn (by omega) (by simp; omega) (by simp; omega) fun o1 M1 m1 wf1 le1 sz1 kp1 nw1 wm1 rl1 on1 oc1 => ?_
        have g0 := kp1 0 (by simp only [add_size, upd_size, mem0_size]; omega) (by simp [rowOf])
        have g1 := kp1 1 (by simp only [add_size, upd_size, mem0_size]; omega) (by simp [rowOf])
        have nn1 : ∀ id, rowOf o1 = some id → 4 ≤ id := fun id h => by
          rcases nw1 id h with h' | h'
          · cases h'
          · simp only [add_size, upd_size, mem0_size] at h'; exact h'
        simp only [add_size, upd_size, mem0_size, Nat.reduceAdd] at le1
        simp (maxSteps := 2000000) (disch := first | omega | assumption | (simp only [DS, Nat.reduceAdd, *]; done) | (simp only [DZ]; omega)) only [RUN, RU, footA, feetIn, resultsA, tupOf, frzL, slot, lay, icyL, fillA, repCells, kR, reduceIte, Nat.reduceEqDiff, Nat.reduceBEq, Nat.reduceLT, Nat.reduceAdd, Nat.reduceLeDiff, Nat.reduceSub, Nat.reduceMul, Int.reduceLT, Int.reduceLE, Int.reduceEq, Int.reduceAdd, Int.reduceSub, Int.reduceMul] at g0 g1
        clear kp1 nw1 sz1
        simp (maxSteps := 2000000) (disch := first | omega | assumption | (simp only [DS, Nat.reduceAdd, *]; done) | (simp only [DZ]; omega)) only [RUN, RU, footA, feetIn, resultsA, tupOf, frzL, slot, lay, icyL, fillA, repCells, kR, reduceIte, Nat.reduceEqDiff, Nat.reduceBEq, Nat.reduceLT, Nat.reduceAdd, Nat.reduceLeDiff, Nat.reduceSub, Nat.reduceMul, Int.reduceLT, Int.reduceLE, Int.reduceEq, Int.reduceAdd, Int.reduceSub, Int.reduceMul, h0, h1, h2, a1, b1, u1, d1, p1, t1, ac, bc, uc, dc, pc, tc, ra, rb, ru, rd, rp, rt, fa, fb, fu, fd, fp, ft, hS, hT, s1, s2, s3, s4, s5, s6, q1, q2, q3, q4, q5, q6, ha.icy, hb.icy, hok, rl1, on1, oc1, g0, g1]
        refine w3_app wf1 m1 cel_Pk hls (by omega) (by simp; omega) (by simp; omega) fun o2 M2 m2 wf2 le2 sz2 kp2 nw2 wm2 rl2 on2 oc2 => ?_
        have k0 := (kp2 0 (by omega) (fun h => by have := nn1 _ h; omega)).trans g0
        have k1 := (kp2 1 (by omega) (fun h => by have := nn1 _ h; omega)).trans g1
        have nn2 : ∀ id, rowOf o2 = some id → 4 ≤ id := fun id h => by
          rcases nw2 id h with h' | h'
          · exact nn1 id h'
          · omega
        obtain ⟨ro, hSr, hfr⟩ := slm_frz m2 cel_Pk
        have hfr2 : ∀ o o', frz ((M2.upd 0 o).upd 1 o') 0 11 o2 = some ro := fun o o' => hfr _ fun id h => by have := nn2 id h; rw [get_upd_ne (wf2.upd _ _) _ _ _ (by omega), get_upd_ne wf2 _ _ _ (by omega)]
        clear hfr kp2 nw2 sz2
        have y0 : 0 < M2.size := by omega
        have y1 : 1 < M2.size := by omega
        simp (maxSteps := 2000000) (disch := first | omega | assumption | (simp only [DS, Nat.reduceAdd, *]; done) | (simp only [DZ]; omega)) only [RUN, RU, footA, feetIn, resultsA, tupOf, frzL, slot, lay, icyL, fillA, repCells, kR, reduceIte, Nat.reduceEqDiff, Nat.reduceBEq, Nat.reduceLT, Nat.reduceAdd, Nat.reduceLeDiff, Nat.reduceSub, Nat.reduceMul, Int.reduceLT, Int.reduceLE, Int.reduceEq, Int.reduceAdd, Int.reduceSub, Int.reduceMul, h0, h1, h2, a1, b1, u1, d1, p1, t1, ac, bc, uc, dc, pc, tc, ra, rb, ru, rd, rp, rt, fa, fb, fu, fd, fp, ft, hS, hT, s1, s2, s3, s4, s5, s6, q1, q2, q3, q4, q5, q6, ha.icy, hb.icy, hok, rl1, on1, oc1, rl2, on2, oc2, k0, k1, y0, y1, wf2, hfr2]
        refine ⟨_, ?_, rfl⟩
        have he : x.sends true false = { x with ok := decide (x.b.sent.2.2 = 0), b := x.b.sent.1, down := x.down ++ x.b.sent.2.1 } := by
          unfold Pair.sends
          simp [hok]
        rw [he]
        rw [List.nil_append] at hSr
        exact ⟨oa, os, au, ro, ap, at', rfl, ha, hos, hup, hSr, hpu, hto⟩
      | true =>
        simp (maxSteps := 2000000) (disch := first | omega | assumption | (simp only [DS, Nat.reduceAdd, *]; done) | (simp only [DZ]; omega)) only [RUN, RU, footA, feetIn, resultsA, tupOf, frzL, slot, lay, icyL, fillA, repCells, kR, reduceIte, Nat.reduceEqDiff, Nat.reduceBEq, Nat.reduceLT, Nat.reduceAdd, Nat.reduceLeDiff, Nat.reduceSub, Nat.reduceMul, Int.reduceLT, Int.reduceLE, Int.reduceEq, Int.reduceAdd, Int.reduceSub, Int.reduceMul, h0, h1, h2, a1, b1, u1, d1, p1, t1, ac, bc, uc, dc, pc, tc, ra, rb, ru, rd, rp, rt, fa, fb, fu, fd, fp, ft, hS, hT, s1, s2, s3, s4, s5, s6, q1, q2, q3, q4, q5, q6, ha.icy, hb.icy, hok]
        refine w3_app (by simp (maxSteps := 2000000) (disch := first | omega | assumption | (simp only [DS, Nat.reduceAdd, *]; done) | (simp only [DZ]; omega)) only [RUN, RU, footA, feetIn, resultsA, tupOf, frzL, slot, lay, icyL, fillA, repCells, kR, reduceIte, Nat.reduceEqDiff, Nat.reduceBEq, Nat.reduceLT, Nat.reduceAdd, Nat.reduceLeDiff, Nat.reduceSub, Nat.reduceMul, Int.reduceLT, Int.reduceLE, Int.reduceEq, Int.reduceAdd, Int.reduceSub, Int.reduceMul]) SlM.nil cel_Pk hdn (by omega) (by simp; omega) (by simp; omega) fun o1 M1 m1 wf1 le1 sz1 kp1 nw1 wm1 rl1 on1 oc1 => ?_
        have g0 := kp1 0 (by simp only [add_size, upd_size, mem0_size]; omega) (by simp [rowOf])
        have g1 := kp1 1 (by simp only [add_size, upd_size, mem0_size]; omega) (by simp [rowOf])
        have nn1 : ∀ id, rowOf o1 = some id → 4 ≤ id := fun id h => by
          rcases nw1 id h with h' | h'
          · cases h'
          · simp only [add_size, upd_size, mem0_size] at h'; exact h'
        simp only [add_size, upd_size, mem0_size, Nat.reduceAdd] at le1
        simp (maxSteps := 2000000) (disch := first | omega | assumption | (simp only [DS, Nat.reduceAdd, *]; done) | (simp only [DZ]; omega)) only [RUN, RU, footA, feetIn, resultsA, tupOf, frzL, slot, lay, icyL, fillA, repCells, kR, reduceIte, Nat.reduceEqDiff, Nat.reduceBEq, Nat.reduceLT, Nat.reduceAdd, Nat.reduceLeDiff, Nat.reduceSub, Nat.reduceMul, Int.reduceLT, Int.reduceLE, Int.reduceEq, Int.reduceAdd, Int.reduceSub, Int.reduceMul] at g0 g1
        clear kp1 nw1 sz1
        simp (maxSteps := 2000000) (disch := first | omega | assumption | (simp only [DS, Nat.reduceAdd, *]; done) | (simp only [DZ]; omega)) only [RUN, RU, footA, feetIn, resultsA, tupOf, frzL, slot, lay, icyL, fillA, repCells, kR, reduceIte, Nat.reduceEqDiff, Nat.reduceBEq, Nat.reduceLT, Nat.reduceAdd, Nat.reduceLeDiff, Nat.reduceSub, Nat.reduceMul, Int.reduceLT, Int.reduceLE, Int.reduceEq, Int.reduceAdd, Int.reduceSub, Int.reduceMul, h0, h1, h2, a1, b1, u1, d1, p1, t1, ac, bc, uc, dc, pc, tc, ra, rb, ru, rd, rp, rt, fa, fb, fu, fd, fp, ft, hS, hT, s1, s2, s3, s4, s5, s6, q1, q2, q3, q4, q5, q6, ha.icy, hb.icy, hok, rl1, on1, oc1, g0, g1]
        refine w3_app wf1 m1 cel_Pk hlt (by omega) (by simp; omega) (by simp; omega) fun o2 M2 m2 wf2 le2 sz2 kp2 nw2 wm2 rl2 on2 oc2 => ?_
        have k0 := (kp2 0 (by omega) (fun h => by have := nn1 _ h; omega)).trans g0
        have k1 := (kp2 1 (by omega) (fun h => by have := nn1 _ h; omega)).trans g1
        have nn2 : ∀ id, rowOf o2 = some id → 4 ≤ id := fun id h => by
          rcases nw2 id h with h' | h'
          · exact nn1 id h'
          · omega
        obtain ⟨ro, hSr, hfr⟩ := slm_frz m2 cel_Pk
        have hfr2 : ∀ o o', frz ((M2.upd 0 o).upd 1 o') 0 11 o2 = some ro := fun o o' => hfr _ fun id h => by have := nn2 id h; rw [get_upd_ne (wf2.upd _ _) _ _ _ (by omega), get_upd_ne wf2 _ _ _ (by omega)]
        clear hfr kp2 nw2 sz2
        have y0 : 0 < M2.size := by omega
        have y1 : 1 < M2.size := by omega
        simp (maxSteps := 2000000) (disch := first | omega | assumption | (simp only [DS, Nat.reduceAdd, *]; done) | (simp only [DZ]; omega)) only [RUN, RU, footA, feetIn, resultsA, tupOf, frzL, slot, lay, icyL, fillA, repCells, kR, reduceIte, Nat.reduceEqDiff, Nat.reduceBEq, Nat.reduceLT, Nat.reduceAdd, Nat.reduceLeDiff, Nat.reduceSub, Nat.reduceMul, Int.reduceLT, Int.reduceLE, Int.reduceEq, Int.reduceAdd, Int.reduceSub, Int.reduceMul, h0, h1, h2, a1, b1, u1, d1, p1, t1, ac, bc, uc, dc, pc, tc, ra, rb, ru, rd, rp, rt, fa, fb, fu, fd, fp, ft, hS, hT, s1, s2, s3, s4, s5, s6, q1, q2, q3, q4, q5, q6, ha.icy, hb.icy, hok, rl1, on1, oc1, rl2, on2, oc2, k0, k1, y0, y1, wf2, hfr2]
        refine ⟨_, ?_, rfl⟩
        have he : x.sends true true = { x with ok := decide (x.b.tick.2.2 = 0), b := x.b.tick.1, down := x.down ++ x.b.tick.2.1 } := by
          unfold Pair.sends
          simp [hok]
        rw [he]
        rw [List.nil_append] at hSr
        exact ⟨oa, ot, au, ro, ap, at', rfl, ha, hot, hup, hSr, hpu, hto⟩
  obtain ⟨r', N, hk, r, hr, rfl⟩ := key
  exact ⟨r', hr, fun M => call_own tf29 rfl hk (ic mem0) (ic M)⟩
end Go.Proofs.Ytbemomagabjbnaa
