/-
  The statement LinkOnce: the run.
-/
import Derived.Test.YtbemomagabjbnaaLoX
import Derived.Test.YtbemomagabjbnaaLkD
set_option linter.unusedSimpArgs false
set_option linter.unusedVariables false
set_option maxRecDepth 100000
namespace Go.Proofs.Ytbemomagabjbnaa
open Go Go.Ax

structure Deed where
  kind : UInt8
  n : Int
def isDeed (r : List AV) (x : Deed) : Prop := r = [U8 x.kind.toNat, I64 x.n]

namespace linkOnce
set_option maxHeartbeats 16000000 in
theorem law_run (ep : Int) (hep0 : -9223372036854775808 ≤ ep) (hep1 : ep ≤ 9223372036854775807) (al : AV) (l : List Deed) (hS : Sl 2 isDeed al l) :
    callN Try.prog (fsT tbl) 100000 21 (.fn 4) [I64 ep, al] mem0 = some (BL true, mem0) := by
  have ic : ∀ M, icyL (icy 12) M [I64 ep, al] = some ([I64 ep, al], M) := fun M => by simp (maxSteps := 2000000) (disch := first | omega | assumption | (simp only [DS, Nat.reduceAdd, *]; done) | (simp only [DZ]; omega)) only [RUN, RU, footA, feetIn, resultsA, tupOf, frzL, slot, lay, icyL, fillA, repCells, kR, reduceIte, Nat.reduceEqDiff, Nat.reduceBEq, Nat.reduceLT, Nat.reduceAdd, Nat.reduceLeDiff, Nat.reduceSub, Nat.reduceMul, Int.reduceLT, Int.reduceLE, Int.reduceEq, Int.reduceAdd, Int.reduceSub, Int.reduceMul, hS.icy]
  have hal := alive_run
  have ll := hS.len
  have lr := hS.rows mem0
  apply w3_eq
  refine call_gc tf4 rfl (ic mem0) (by simp [a4]) fun b ht hx => ?_
  have x0 := hx 0 _ rfl
  have x1 := hx 1 _ rfl
  clear hx
  simp only [a4, c4] at ht ⊢
  by_cases c60 : (60 : Int) < l.length
  · have q0 : decide ((60 : Int) < l.length) = true := decide_eq_true c60
    simp (maxSteps := 2000000) (disch := first | omega | assumption | (simp only [DS, Nat.reduceAdd, *]; done) | (simp only [DZ]; omega)) only [RUN, RU, footA, feetIn, resultsA, tupOf, frzL, slot, lay, icyL, fillA, repCells, kR, reduceIte, Nat.reduceEqDiff, Nat.reduceBEq, Nat.reduceLT, Nat.reduceAdd, Nat.reduceLeDiff, Nat.reduceSub, Nat.reduceMul, Int.reduceLT, Int.reduceLE, Int.reduceEq, Int.reduceAdd, Int.reduceSub, Int.reduceMul, x0, x1, hal, ll, lr, q0]
  · have q0 : decide ((60 : Int) < l.length) = false := decide_eq_false c60
    by_cases h0 : ep < 0
    · have q1 : decide (ep < 0) = true := decide_eq_true h0
      simp (maxSteps := 2000000) (disch := first | omega | assumption | (simp only [DS, Nat.reduceAdd, *]; done) | (simp only [DZ]; omega)) only [RUN, RU, footA, feetIn, resultsA, tupOf, frzL, slot, lay, icyL, fillA, repCells, kR, reduceIte, Nat.reduceEqDiff, Nat.reduceBEq, Nat.reduceLT, Nat.reduceAdd, Nat.reduceLeDiff, Nat.reduceSub, Nat.reduceMul, Int.reduceLT, Int.reduceLE, Int.reduceEq, Int.reduceAdd, Int.reduceSub, Int.reduceMul, x0, x1, hal, ll, lr, q0, q1]
    · have q1 : decide (ep < 0) = false := decide_eq_false h0
      by_cases h1 : (2147483648 : Int) ≤ ep
      · have q2 : decide ((2147483648 : Int) ≤ ep) = true := decide_eq_true h1
        simp (maxSteps := 2000000) (disch := first | omega | assumption | (simp only [DS, Nat.reduceAdd, *]; done) | (simp only [DZ]; omega)) only [RUN, RU, footA, feetIn, resultsA, tupOf, frzL, slot, lay, icyL, fillA, repCells, kR, reduceIte, Nat.reduceEqDiff, Nat.reduceBEq, Nat.reduceLT, Nat.reduceAdd, Nat.reduceLeDiff, Nat.reduceSub, Nat.reduceMul, Int.reduceLT, Int.reduceLE, Int.reduceEq, Int.reduceAdd, Int.reduceSub, Int.reduceMul, x0, x1, hal, ll, lr, q0, q1, q2]
      · have q2 : decide ((2147483648 : Int) ≤ ep) = false := decide_eq_false h1
        have h0' : 0 ≤ ep := by omega
        have h1' : ep < 2147483648 := by omega
        have hmade := fun M => made_run (fuel := 100000) (d := 17) ep h0' h1' M
        obtain ⟨cn, hcn0, hcn⟩ := (IsPair.new ep).cells
        injection hcn0 with hcn0
        rw [hcn0] at hmade
        have n1 := hcn.len
        have n2 := hcn.one
        simp (maxSteps := 2000000) (disch := first | omega | assumption | (simp only [DS, Nat.reduceAdd, *]; done) | (simp only [DZ]; omega)) only [RUN, RU, footA, feetIn, resultsA, tupOf, frzL, slot, lay, icyL, fillA, repCells, kR, reduceIte, Nat.reduceEqDiff, Nat.reduceBEq, Nat.reduceLT, Nat.reduceAdd, Nat.reduceLeDiff, Nat.reduceSub, Nat.reduceMul, Int.reduceLT, Int.reduceLE, Int.reduceEq, Int.reduceAdd, Int.reduceSub, Int.reduceMul, x0, x1, hal, ll, lr, q0, q1, q2, hmade, n1, n2, hcn.lay]
        refine w_loop (I := fun n t M => ∃ (i : Nat) (y : Pair) (cy : List AV) (k : Nat), n = l.length - i ∧ i ≤ l.length ∧ PairC cy y ∧ Inv ep k y ∧ y.put.length ≤ i ∧ y.up.length ≤ 4 * i ∧ y.down.length ≤ 4 * i ∧ nth undefA t 7 = I64 i ∧ nth undefA t 6 = .ptr 0 0 ∧ nth undefA t 5 = BL true ∧ nth undefA t 1 = al ∧ Wf M ∧ M.size = 1 ∧ M.get 0 = some (.row false cy)) (n := l.length) (by omega) ?_ ?_
        · refine ⟨0, Pair.new ep, cn, 0, rfl, by omega, hcn, Inv.new ep, Nat.le_refl _, Nat.le_refl _, Nat.le_refl _, ?_, ?_, ?_, ?_, ?_, ?_, ?_⟩ <;> simp (maxSteps := 2000000) (disch := first | omega | assumption | (simp only [DS, Nat.reduceAdd, *]; done) | (simp only [DZ]; omega)) only [RUN, RU, footA, feetIn, resultsA, tupOf, frzL, slot, lay, icyL, fillA, repCells, kR, reduceIte, Nat.reduceEqDiff, Nat.reduceBEq, Nat.reduceLT, Nat.reduceAdd, Nat.reduceLeDiff, Nat.reduceSub, Nat.reduceMul, Int.reduceLT, Int.reduceLE, Int.reduceEq, Int.reduceAdd, Int.reduceSub, Int.reduceMul, x0, x1, hal, ll, lr, q0, q1, q2, hmade, n1, n2, hcn.lay]
          all_goals first | rfl | assumption
        · rintro n t M hl ⟨i, y, cy, k, rfl, hi, hcy, hiy, hpy, huy, hdy, g7, g6, g5, g1, wf, ms, m0⟩
          simp only [ht] at hl ⊢
          obtain ⟨oa, ob, au, ad, ap, at', ecy, ha, hb, hup, hdn, hpu, hto⟩ := hcy.get
          have y1 := hcy.len
          have y2 := hcy.one
          have y3 : cy.drop 17 = [] := List.drop_of_length_le (by omega)
          have y8 : cy.take 17 = cy := List.take_of_length_le (by omega)
          have yok : y.ok = true := hiy.ok
          have y5 : cy[16]? = some (BL true) := by rw [ecy, yok]; rfl
          have z0 : 0 < M.size := by omega
          by_cases hlt : i < l.length
          · have q3 : decide ((i : Int) < l.length) = true := decide_eq_true (by omega)
            obtain ⟨rd, hiad, hrd, hrdl⟩ := hS.iad i hlt
            obtain rfl : rd = [U8 (l[i]).kind.toNat, I64 (l[i]).n] := hrd
            have okA' := hiy.okA h0' h1' (by omega) (by omega) (by omega)
            obtain ⟨rv, hrv, hdo⟩ := does_run (fuel := 100000) (d := 13) hcy okA' (fun b => hiy.putOK h0' h1' (by omega) b) (l[i]).kind (l[i]).n (by omega)
            obtain ⟨cr, rfl, hcr⟩ := hrv.cells
            obtain ⟨k', hk, hi'⟩ := hiy.does h0' h1' (by omega) (l[i]).kind (l[i]).n
            have hlen := does_len y (l[i]).kind (l[i]).n
            generalize y.does (l[i]).kind (l[i]).n = y' at *
            obtain ⟨oa', ob', au', ad', ap', at'', ecr, ha', hb', hup', hdn', hpu', hto'⟩ := hcr.get
            have c1 := hcr.len
            have c2 := hcr.one
            have ok' : y'.ok = true := hi'.ok
            have v0 : cr.take 6 = [I64 y'.a.ep, I64 y'.a.nx, oa', I64 y'.a.want, I64 y'.a.since, BL y'.a.owe] := by rw [ecr]; rfl
            have v1 : (cr.drop 6).take 6 = [I64 y'.b.ep, I64 y'.b.nx, ob', I64 y'.b.want, I64 y'.b.since, BL y'.b.owe] := by rw [ecr]; rfl
            have v2 : cr[2]? = some oa' := by rw [ecr]; rfl
            have v14 : cr[14]? = some ap' := by rw [ecr]; rfl
            have v15 : cr[15]? = some at'' := by rw [ecr]; rfl
            have e1 := ha'.len
            have e2 := hpu'.len
            have e3 := hto'.len
            have e4 := hto'.b2s
            obtain ⟨sp, hsp, hsps⟩ := sl_to hpu' (j := y'.told.length) hi'.tp
            have e5 := hsps.b2s
            rw [← hi'.told] at e5
            have ca := fun M => check_run (M := M) (fuel := 100000) (d := 18) (P := Try.prog) y'.a _ ⟨oa', rfl, ha'⟩ (by omega)
            have cb := fun M => check_run (M := M) (fuel := 100000) (d := 18) (P := Try.prog) y'.b _ ⟨ob', rfl, hb'⟩ (by omega)
            simp only [hi'.amay h0' h1' (by omega), if_true] at ca
            simp only [hi'.bmay h0' h1' (by omega), if_true] at cb
            have rw1 := hto'.rows mem0
            have rw2 := hpu'.rows mem0
            have rw3 := hsps.rows mem0
            have q4 : decide ((y'.put.length : Int) < y'.told.length) = false := decide_eq_false (by have := hi'.tp; omega)
            have w1 : IntKind.i64.wrap ((y'.put.length : Int) - (y'.a.out.length : Int)) = (k' : Int) := by
              have := hi'.alen; have := hi'.kt; have := hi'.tp
              rw [wrap_i64] <;> omega
            have q5 : decide ((y'.told.length : Int) < k') = false := decide_eq_false (by have := hi'.kt; omega)
            have w2 : IntKind.i64.wrap ((i : Int) + 1) = ((i + 1 : Nat) : Int) := by rw [wrap_i64] <;> omega
            simp (maxSteps := 2000000) (disch := first | omega | assumption | (simp only [DS, Nat.reduceAdd, *]; done) | (simp only [DZ]; omega)) only [RUN, RU, footA, feetIn, resultsA, tupOf, frzL, slot, lay, icyL, fillA, repCells, kR, reduceIte, Nat.reduceEqDiff, Nat.reduceBEq, Nat.reduceLT, Nat.reduceAdd, Nat.reduceLeDiff, Nat.reduceSub, Nat.reduceMul, Int.reduceLT, Int.reduceLE, Int.reduceEq, Int.reduceAdd, Int.reduceSub, Int.reduceMul, g7, g6, g5, g1, ll, lr, q3, y1, y2, y3, y5, y8, m0, hiad, hdo, c1, c2, List.append_nil, v0, v1, v2, v14, v15, e1, e2, e3, e4, e5, hsp, ca, cb, q4, q5, w1, w2, rw1, rw2, rw3]
            exact ⟨hl, l.length - (i + 1), by omega, i + 1, y', cr, k', rfl, by omega, hcr, hi', by omega, by omega, by omega, rfl, wf, ms, rfl⟩
          · obtain rfl : i = l.length := by omega
            have q3 : decide ((l.length : Int) < l.length) = false := decide_eq_false (by omega)
            simp (maxSteps := 2000000) (disch := first | omega | assumption | (simp only [DS, Nat.reduceAdd, *]; done) | (simp only [DZ]; omega)) only [RUN, RU, footA, feetIn, resultsA, tupOf, frzL, slot, lay, icyL, fillA, repCells, kR, reduceIte, Nat.reduceEqDiff, Nat.reduceBEq, Nat.reduceLT, Nat.reduceAdd, Nat.reduceLeDiff, Nat.reduceSub, Nat.reduceMul, Int.reduceLT, Int.reduceLE, Int.reduceEq, Int.reduceAdd, Int.reduceSub, Int.reduceMul, g7, g6, g5, g1, ll, lr, q3, y1, y2, y3, y5, y8, m0]
            refine w_loop (I := fun n t2 M2 => ∃ (j : Nat) (z : Pair) (cz : List AV) (k2 : Nat), n = y.put.length + 1 - j ∧ j ≤ y.put.length + 1 ∧ PairC cz z ∧ Inv ep k2 z ∧ z.put.length = y.put.length ∧ (j ≤ k2 ∨ y.put.length ≤ k2) ∧ z.up.length ≤ 240 ∧ z.down.length ≤ 240 ∧ nth undefA t2 9 = I64 j ∧ nth undefA t2 6 = .ptr 0 0 ∧ nth undefA t2 5 = BL true ∧ Wf M2 ∧ M2.size = 1 ∧ M2.get 0 = some (.row false cz)) (n := y.put.length + 1) (by omega) ?_ ?_
            · refine ⟨0, y, cy, k, rfl, by omega, hcy, hiy, rfl, .inl (by omega), by omega, by omega, ?_, ?_, ?_, ?_, ?_, ?_⟩ <;> try (simp (maxSteps := 2000000) (disch := first | omega | assumption | (simp only [DS, Nat.reduceAdd, *]; done) | (simp only [DZ]; omega)) only [RUN, RU, footA, feetIn, resultsA, tupOf, frzL, slot, lay, icyL, fillA, repCells, kR, reduceIte, Nat.reduceEqDiff, Nat.reduceBEq, Nat.reduceLT, Nat.reduceAdd, Nat.reduceLeDiff, Nat.reduceSub, Nat.reduceMul, Int.reduceLT, Int.reduceLE, Int.reduceEq, Int.reduceAdd, Int.reduceSub, Int.reduceMul, g7, g6, g5, g1, ll, lr, q3, y1, y2, y3, y5, y8, m0])
              all_goals first | rfl | assumption
            · rintro n t2 M2 hl2 ⟨j, z, cz, k2, rfl, hj, hcz, hiz, hpz, hkz, huz, hdz, p9, p6, p5, wf2, ms2, mz⟩
              simp only [hl] at hl2 ⊢
              obtain ⟨oa2, ob2, au2, ad2, ap2, at2, ecz, ha2, hb2, hup2, hdn2, hpu2, hto2⟩ := hcz.get
              have d1 := hcz.len
              have d2 := hcz.one
              have d3 : cz.drop 17 = [] := List.drop_of_length_le (by omega)
              have d8 : cz.take 17 = cz := List.take_of_length_le (by omega)
              have zok : z.ok = true := hiz.ok
              have d5 : cz[16]? = some (BL true) := by rw [ecz, zok]; rfl
              have d2' : cz[2]? = some oa2 := by rw [ecz]; rfl
              have d14 : cz[14]? = some ap2 := by rw [ecz]; rfl
              have d15 : cz[15]? = some at2 := by rw [ecz]; rfl
              have f1 := ha2.len
              have f2 := hpu2.len
              have f3 := hto2.b2s
              have f4 := hpu2.b2s
              have rw1 := hto2.rows mem0
              have rw2 := hpu2.rows mem0
              have rw3 := ha2.rows mem0
              have s0 : 0 < M2.size := by omega
              by_cases hjt : j ≤ y.put.length
              · have q4 : decide ((j : Int) ≤ z.put.length) = true := decide_eq_true (by omega)
                obtain ⟨rv, hrv, hro⟩ := round_run (fuel := 100000) (d := 13) hcz hiz h0' h1' (by omega) (by omega) (by omega) (by omega)
                obtain ⟨cr, rfl, hcr⟩ := hrv.cells
                obtain ⟨k', hk1, hk2, hi', hu', hd', hp'⟩ := hiz.round h0' h1' (by omega) (by omega) (by omega)
                have c1 := hcr.len
                have c2 := hcr.one
                have w2 : IntKind.i64.wrap ((j : Int) + 1) = ((j + 1 : Nat) : Int) := by rw [wrap_i64] <;> omega
                simp (maxSteps := 2000000) (disch := first | omega | assumption | (simp only [DS, Nat.reduceAdd, *]; done) | (simp only [DZ]; omega)) only [RUN, RU, footA, feetIn, resultsA, tupOf, frzL, slot, lay, icyL, fillA, repCells, kR, reduceIte, Nat.reduceEqDiff, Nat.reduceBEq, Nat.reduceLT, Nat.reduceAdd, Nat.reduceLeDiff, Nat.reduceSub, Nat.reduceMul, Int.reduceLT, Int.reduceLE, Int.reduceEq, Int.reduceAdd, Int.reduceSub, Int.reduceMul, p9, p6, p5, d1, d2, d3, d8, d5, d14, f2, q4, mz, hro, c1, c2, List.append_nil, w2, rw2]
                refine ⟨hl2, y.put.length + 1 - (j + 1), by omega, j + 1, _, cr, k', rfl, by omega, hcr, hi', by rw [hp']; exact hpz, ?_, by rw [hu']; simp, by rw [hd']; simp, rfl, wf2, ms2, rfl⟩
                rcases hkz with hkz | hkz
                · by_cases hlt2 : k2 < z.put.length
                  · have := hk1 hlt2; omega
                  · omega
                · omega
              · obtain rfl : j = y.put.length + 1 := by omega
                have q4 : decide (((y.put.length + 1 : Nat) : Int) ≤ z.put.length) = false := decide_eq_false (by omega)
                obtain ⟨dn1, dn2⟩ := hiz.done (by omega)
                rw [dn1] at f3
                rw [dn2] at f1
                have q5 : decide (((([] : List Item).length : Nat) : Int) = 0) = true := rfl
                simp (maxSteps := 2000000) (disch := first | omega | assumption | (simp only [DS, Nat.reduceAdd, *]; done) | (simp only [DZ]; omega)) only [RUN, RU, footA, feetIn, resultsA, tupOf, frzL, slot, lay, icyL, fillA, repCells, kR, reduceIte, Nat.reduceEqDiff, Nat.reduceBEq, Nat.reduceLT, Nat.reduceAdd, Nat.reduceLeDiff, Nat.reduceSub, Nat.reduceMul, Int.reduceLT, Int.reduceLE, Int.reduceEq, Int.reduceAdd, Int.reduceSub, Int.reduceMul, p9, p6, p5, d1, d2, d3, d8, d5, d2', d14, d15, f1, f2, f3, f4, q4, q5, mz, rw1, rw2, rw3]
                rfl
abbrev gDeed : GT := .ag [.int .u8, .int .i64]
theorem of_isDeed (r : List AV) (h : Is gDeed r) : ∃ x, isDeed r x := by
  simp only [gDeed, Is, IsL] at h
  obtain ⟨_, _, rfl, h1, _, _, rfl, ⟨n, rfl, _⟩, rfl⟩ := h
  obtain ⟨k, hk⟩ := Is.u8 (by simpa only [Is] using h1)
  exact ⟨⟨k, n⟩, by rw [hk]; rfl⟩
theorem run_args (a0 a1 : AV) (h0 : IsA (.int .i64) a0) (h1 : IsA (.sl gDeed) a1) :
    callN Try.prog (fsT tbl) 100000 21 (.fn 4) [a0, a1] mem0 = some (BL true, mem0) := by
  obtain ⟨n, h0', b1, b2⟩ := Is.i64 h0
  obtain rfl : a0 = I64 n := by simpa using h0'
  obtain ⟨a, l, hal, hl⟩ := Is.slice of_isDeed h1
  obtain rfl : a1 = a := by simpa using hal
  exact law_run n b1 b2 a1 l hl
end linkOnce
end Go.Proofs.Ytbemomagabjbnaa
