/-
  purge: PurgeTells: the run of the law.
-/
import Derived.Test.YtjbninmklbkklaaDoorPvO
import Derived.Test.YtjbninmklbkklaaDoorEe
set_option linter.unusedSimpArgs false
set_option linter.unusedVariables false
set_option maxRecDepth 100000
namespace Go.Proofs.YtjbninmklbkklaaDoor
open Go Go.Ax
namespace purgeTells
variable {fuel d : Nat}
abbrev gLb : GT := .ag [.int .u8, .int .u32]
abbrev gEv : GT := .ag [.int .u8, .ag [gLb, .int .u8], .int .i64, .int .i64, .int .i64, .str, gLb, .int .u8, .sl (.int .u8), .ag [.int .i64, .ag [gLb, .bool]], .sl (.int .i64)]

def Ev.ok (e : Ev) : Prop := e.lb.ok ∧ e.data.length ≤ 140737488355328 ∧ e.crash.length ≤ 17592186044416
theorem lend_same {N : Mem} {d B : Nat} {x y : AV} {l m : List Ev} (wf : Wf N) (hx : RR N B x l) (hy : Sl 17 isEv y m) (hl : l.length ≤ 1000000) (hc : ∀ e ∈ l, e.crash.length ≤ 1000000000000000 ∧ e.crash.length < fuel) (hf : l.length < fuel) :
    callN Tryd.prog (fsT tbl) fuel (d + 3) (.fn 10) [x, y] N = some (BL (sameL l m), N) := by
  obtain ⟨x', M', i1, s1⟩ := hx.icy wf
  exact call_lend tf10 rfl (same1_in s1 hy hl hc hf mem0) (bs := [x', y]) (M3 := mem0) (M2 := M') (by simp only [icyL, s1.icy mem0 12 (by omega), hy.icy mem0 12 (by omega)]) (by simp only [icyL, i1, hy.icy M' 12 (by omega)])
set_option maxHeartbeats 16000000 in
theorem law_run {a b : AV} {l m : List Ev} (v : Lb) (hv : v.ok) (hA : Sl 17 isEv a l) (hB : Sl 17 isEv b m) (hl : ∀ e ∈ l, Ev.ok e) (hf : 1000000000000000 < fuel) :
    callN Tryd.prog (fsT tbl) fuel 31 (.fn 6) [a, b, lbA v] mem0 = some (BL true, mem0) := by
  have la := hA.len
  obtain ⟨g1, hg1, cg1⟩ := great_run (fuel := fuel) (d := 29) hA 100 (by omega)
  obtain ⟨g2, hg2, cg2⟩ := great_run (fuel := fuel) (d := 29) hB 100 (by omega)
  apply w3_eq
  refine call_gc tf6 rfl (by simp (maxSteps := 2000000) (disch := first | omega | assumption | (simp only [DS, Nat.reduceAdd, *]; done) | (simp only [DZ]; omega)) only [RUN, RU, footA, feetIn, resultsA, tupOf, frzL, slot, lay, icyL, fillA, repCells, kR, reduceIte, Nat.reduceEqDiff, Nat.reduceBEq, Nat.reduceLT, Nat.reduceAdd, Nat.reduceLeDiff, Nat.reduceSub, Nat.reduceMul, Int.reduceLT, Int.reduceLE, Int.reduceEq, Int.reduceAdd, Int.reduceSub, Int.reduceMul, hA.fz.rows, hA.fz.one, hA.fz.cells, hA.fz.icy, hA.fz.frz, hB.fz.rows, hB.fz.one, hB.fz.cells, hB.fz.icy, hB.fz.frz]) (by simp [a6]) fun b' ht hx => ?_
  have h0 := hx 0 _ rfl
  have h1 := hx 1 _ rfl
  have h2 := hx 2 _ rfl
  clear hx
  simp only [a6, c6] at ht ⊢
  have hcase : (g1 = true ∧ (l.length ≤ 2048 ∨ 2060 < l.length)) ∨ g2 = true ∨ (g2 = false ∧ (g1 = false ∧ l.length ≤ 100 ∨ g1 = true ∧ ¬ l.length ≤ 2048 ∧ ¬ 2060 < l.length)) := by
    cases e1 : g1 <;> cases e2 : g2
    · have := hg1 e1; exact .inr (.inr ⟨rfl, .inl ⟨rfl, by omega⟩⟩)
    · exact .inr (.inl rfl)
    · by_cases q : l.length ≤ 2048 ∨ 2060 < l.length
      · exact .inl ⟨rfl, q⟩
      · exact .inr (.inr ⟨rfl, .inr ⟨rfl, by omega, by omega⟩⟩)
    · exact .inr (.inl rfl)
  have qa : ∀ p : Prop, [Decidable p] → (¬ p) → decide p = false := fun p _ h => decide_eq_false h
  have qb : ∀ p : Prop, [Decidable p] → p → decide p = true := fun p _ h => decide_eq_true h
  by_cases c1 : g1 = true ∧ (l.length ≤ 2048 ∨ 2060 < l.length)
  · obtain ⟨rfl, c1⟩ := c1
    by_cases q : l.length ≤ 2048
    · have q1 := qb ((l.length : Int) ≤ 2048) (by omega)
      simp (maxSteps := 2000000) (disch := first | omega | assumption | (simp only [DS, Nat.reduceAdd, *]; done) | (simp only [DZ]; omega)) only [RUN, RU, footA, feetIn, resultsA, tupOf, frzL, slot, lay, icyL, fillA, repCells, kR, reduceIte, Nat.reduceEqDiff, Nat.reduceBEq, Nat.reduceLT, Nat.reduceAdd, Nat.reduceLeDiff, Nat.reduceSub, Nat.reduceMul, Int.reduceLT, Int.reduceLE, Int.reduceEq, Int.reduceAdd, Int.reduceSub, Int.reduceMul, h0, h1, h2, la, hA.fz.rows, hA.fz.one, hA.fz.cells, hA.fz.icy, hA.fz.frz, hB.fz.rows, hB.fz.one, hB.fz.cells, hB.fz.icy, hB.fz.frz, cg1, q1]
    · have q1 := qa ((l.length : Int) ≤ 2048) (by omega)
      have q2 := qb ((2060 : Int) < l.length) (by omega)
      simp (maxSteps := 2000000) (disch := first | omega | assumption | (simp only [DS, Nat.reduceAdd, *]; done) | (simp only [DZ]; omega)) only [RUN, RU, footA, feetIn, resultsA, tupOf, frzL, slot, lay, icyL, fillA, repCells, kR, reduceIte, Nat.reduceEqDiff, Nat.reduceBEq, Nat.reduceLT, Nat.reduceAdd, Nat.reduceLeDiff, Nat.reduceSub, Nat.reduceMul, Int.reduceLT, Int.reduceLE, Int.reduceEq, Int.reduceAdd, Int.reduceSub, Int.reduceMul, h0, h1, h2, la, hA.fz.rows, hA.fz.one, hA.fz.cells, hA.fz.icy, hA.fz.frz, hB.fz.rows, hB.fz.one, hB.fz.cells, hB.fz.icy, hB.fz.frz, cg1, q1, q2]
  · replace hcase := hcase.resolve_left c1
    clear c1
    cases e2 : g2 with
    | true =>
      subst e2
      cases e1 : g1 with
      | false =>
        subst e1
        simp (maxSteps := 2000000) (disch := first | omega | assumption | (simp only [DS, Nat.reduceAdd, *]; done) | (simp only [DZ]; omega)) only [RUN, RU, footA, feetIn, resultsA, tupOf, frzL, slot, lay, icyL, fillA, repCells, kR, reduceIte, Nat.reduceEqDiff, Nat.reduceBEq, Nat.reduceLT, Nat.reduceAdd, Nat.reduceLeDiff, Nat.reduceSub, Nat.reduceMul, Int.reduceLT, Int.reduceLE, Int.reduceEq, Int.reduceAdd, Int.reduceSub, Int.reduceMul, h0, h1, h2, la, hA.fz.rows, hA.fz.one, hA.fz.cells, hA.fz.icy, hA.fz.frz, hB.fz.rows, hB.fz.one, hB.fz.cells, hB.fz.icy, hB.fz.frz, cg1, cg2]
      | true =>
        subst e1
        by_cases q : l.length ≤ 2048
        · have q1 := qb ((l.length : Int) ≤ 2048) (by omega)
          simp (maxSteps := 2000000) (disch := first | omega | assumption | (simp only [DS, Nat.reduceAdd, *]; done) | (simp only [DZ]; omega)) only [RUN, RU, footA, feetIn, resultsA, tupOf, frzL, slot, lay, icyL, fillA, repCells, kR, reduceIte, Nat.reduceEqDiff, Nat.reduceBEq, Nat.reduceLT, Nat.reduceAdd, Nat.reduceLeDiff, Nat.reduceSub, Nat.reduceMul, Int.reduceLT, Int.reduceLE, Int.reduceEq, Int.reduceAdd, Int.reduceSub, Int.reduceMul, h0, h1, h2, la, hA.fz.rows, hA.fz.one, hA.fz.cells, hA.fz.icy, hA.fz.frz, hB.fz.rows, hB.fz.one, hB.fz.cells, hB.fz.icy, hB.fz.frz, cg1, q1]
        · have q1 := qa ((l.length : Int) ≤ 2048) (by omega)
          by_cases q' : 2060 < l.length
          · have q2 := qb ((2060 : Int) < l.length) (by omega)
            simp (maxSteps := 2000000) (disch := first | omega | assumption | (simp only [DS, Nat.reduceAdd, *]; done) | (simp only [DZ]; omega)) only [RUN, RU, footA, feetIn, resultsA, tupOf, frzL, slot, lay, icyL, fillA, repCells, kR, reduceIte, Nat.reduceEqDiff, Nat.reduceBEq, Nat.reduceLT, Nat.reduceAdd, Nat.reduceLeDiff, Nat.reduceSub, Nat.reduceMul, Int.reduceLT, Int.reduceLE, Int.reduceEq, Int.reduceAdd, Int.reduceSub, Int.reduceMul, h0, h1, h2, la, hA.fz.rows, hA.fz.one, hA.fz.cells, hA.fz.icy, hA.fz.frz, hB.fz.rows, hB.fz.one, hB.fz.cells, hB.fz.icy, hB.fz.frz, cg1, q1, q2]
          · have q2 := qa ((2060 : Int) < l.length) (by omega)
            simp (maxSteps := 2000000) (disch := first | omega | assumption | (simp only [DS, Nat.reduceAdd, *]; done) | (simp only [DZ]; omega)) only [RUN, RU, footA, feetIn, resultsA, tupOf, frzL, slot, lay, icyL, fillA, repCells, kR, reduceIte, Nat.reduceEqDiff, Nat.reduceBEq, Nat.reduceLT, Nat.reduceAdd, Nat.reduceLeDiff, Nat.reduceSub, Nat.reduceMul, Int.reduceLT, Int.reduceLE, Int.reduceEq, Int.reduceAdd, Int.reduceSub, Int.reduceMul, h0, h1, h2, la, hA.fz.rows, hA.fz.one, hA.fz.cells, hA.fz.icy, hA.fz.frz, hB.fz.rows, hB.fz.one, hB.fz.cells, hB.fz.icy, hB.fz.frz, cg1, cg2, q1, q2]
    | false =>
      subst e2
      have hlen : l.length ≤ 2060 ∧ (g1 = true → decide ((l.length : Int) ≤ 2048) = false ∧ decide ((2060 : Int) < l.length) = false) := by
        rcases hcase with h | ⟨_, ⟨h1, h2⟩ | ⟨h1, h2, h3⟩⟩
        · cases h
        · exact ⟨by omega, fun h => by rw [h1] at h; cases h⟩
        · exact ⟨by omega, fun _ => ⟨qa _ (by omega), qa _ (by omega)⟩⟩
      obtain ⟨hlen, hgq⟩ := hlen
      have hm100 := hg2 rfl
      clear hcase hg1 hg2
      have hd : ∀ e ∈ l, e.data.length ≤ 140737488355328 ∧ e.crash.length ≤ 17592186044416 := fun e he => (hl e he).2
      have hok : ∀ e ∈ l, e.lb.ok := fun e he => (hl e he).1
      have hc : ∀ e ∈ l, e.crash.length ≤ 1000000000000000 ∧ e.crash.length < fuel := fun e he => by have := hd e he; omega
      have hP : ∀ e ∈ (purgeF v l).1, e.data.length ≤ 140737488355328 ∧ e.crash.length ≤ 17592186044416 := by
        intro e he
        unfold purgeF at he
        split at he
        · simp at he
        · split at he
          · obtain ⟨e', he', hx⟩ := List.mem_filterMap.1 he
            have := hd e' he'
            unfold Ev.left at hx
            split at hx
            · split at hx
              · cases hx
              · cases hx; exact ⟨Nat.zero_le _, this.2⟩
            · cases hx; exact this
          · simp at he
      have hPl : (purgeF v l).1.length ≤ 2060 := by
        unfold purgeF
        split
        · simp
        · split
          · have := leftF_len v l; show (leftF v l).length ≤ 2060; omega
          · simp
      have hPc : ∀ e ∈ (purgeF v l).1, e.crash.length ≤ 1000000000000000 ∧ e.crash.length < fuel := fun e he => by have := hP e he; omega
      obtain ⟨w, hW, cw⟩ := twin1_run (fuel := fuel) (d := 29) hA (by omega) hd (by omega)
      obtain ⟨y, hY, cy⟩ := rpurge_run (fuel := fuel) (d := 25) hA hv hok (by omega) (by omega)
      have lw := hW.len
      have cc1 := fun M => crashes_run (fuel := fuel) (d := 21) hW (by omega) (by omega) M
      have cc2 := fun M => crashes1_run (fuel := fuel) (d := 25) hA (by omega) (by omega) M
      have ck1 := fun M => check_run (fuel := fuel) (d := 22) hW (by omega) (by omega) M
      have ck2 := fun M => check1_run (fuel := fuel) (d := 26) hA (by omega) (by omega) M
      have s1 := fun M => psame_run (fuel := fuel) (d := 26) hW hB (by omega) hc (by omega) M
      have s2 := fun M => same1_in (fuel := fuel) (d := 27) hA hB (by omega) hc (by omega) M
      have s3 := fun M => psame_run (fuel := fuel) (d := 26) hW hA (by omega) hc (by omega) M
      have s4 := fun M => same1_in (fuel := fuel) (d := 27) hW hA (by omega) hc (by omega) M
      rw [sameL_refl] at s3 s4
      have z : ∀ z : Int, decide (z = z) = true := fun z => decide_eq_true rfl
      have zb : ∀ b : Bool, (b == b) = true := fun b => by cases b <;> rfl
      have vb := fun a b => vbEql (P := Tryd.prog) (ty := 4) Tryd.underlying4 a b
      obtain ⟨j1, q1⟩ : ∃ k, decide ((l.length : Int) ≤ 2048) = k := ⟨_, rfl⟩
      obtain ⟨j2, q2⟩ : ∃ k, decide ((2060 : Int) < l.length) = k := ⟨_, rfl⟩
      have hk : g1 = false ∨ (g1 = true ∧ j1 = false ∧ j2 = false) := by
        cases e1 : g1 with
        | false => exact .inl rfl
        | true =>
          have := hgq e1
          exact .inr ⟨rfl, q1 ▸ this.1, q2 ▸ this.2⟩
      clear hgq
      rcases hk with rfl | ⟨rfl, rfl, rfl⟩
      all_goals
        (simp (maxSteps := 2000000) (disch := first | omega | assumption | (simp only [DS, Nat.reduceAdd, *]; done) | (simp only [DZ]; omega)) only [RUN, RU, footA, feetIn, resultsA, tupOf, frzL, slot, lay, icyL, fillA, repCells, kR, reduceIte, Nat.reduceEqDiff, Nat.reduceBEq, Nat.reduceLT, Nat.reduceAdd, Nat.reduceLeDiff, Nat.reduceSub, Nat.reduceMul, Int.reduceLT, Int.reduceLE, Int.reduceEq, Int.reduceAdd, Int.reduceSub, Int.reduceMul, h0, h1, h2, la, hA.fz.rows, hA.fz.one, hA.fz.cells, hA.fz.icy, hA.fz.frz, hB.fz.rows, hB.fz.one, hB.fz.cells, hB.fz.icy, hB.fz.frz, cg1, cg2, q1, q2, cw, hW.fz.rows, hW.fz.one, hW.fz.cells, hW.fz.icy, hW.fz.frz])
        refine purge0 (d := 18) v hW (by omega) (by omega) (Wf.mem0.add _) fun x N1 w1 z1 k1 r1 => ?_
        simp only [add_size, mem0_size] at z1 k1 r1
        have lN1 : 0 < N1.size := by omega
        have n1 := k1 0 (by omega)
        rw [get_add_new Wf.mem0 _ 0 (by rw [mem0_size]; omega) (by rw [mem0_size]; omega)] at n1
        have rx1 := r1.rows (Nat.le_refl N1.size)
        have ox := r1.one
        have cx := r1.cells
        simp (maxSteps := 2000000) (disch := first | omega | assumption | (simp only [DS, Nat.reduceAdd, *]; done) | (simp only [DZ]; omega)) only [RUN, RU, footA, feetIn, resultsA, tupOf, frzL, slot, lay, icyL, fillA, repCells, kR, reduceIte, Nat.reduceEqDiff, Nat.reduceBEq, Nat.reduceLT, Nat.reduceAdd, Nat.reduceLeDiff, Nat.reduceSub, Nat.reduceMul, Int.reduceLT, Int.reduceLE, Int.reduceEq, Int.reduceAdd, Int.reduceSub, Int.reduceMul, h0, h1, h2, la, hA.fz.rows, hA.fz.one, hA.fz.cells, hA.fz.icy, hA.fz.frz, hB.fz.rows, hB.fz.one, hB.fz.cells, hB.fz.icy, hB.fz.frz, cg1, cg2, q1, q2, cw, hW.fz.rows, hW.fz.one, hW.fz.cells, hW.fz.icy, hW.fz.frz, n1, w1, rx1, cy, cc1, cc2, hY.fz.rows, hY.fz.one, hY.fz.cells, hY.fz.icy, hY.fz.frz]
        refine ptwin0 (d := 27) hW (by omega) hd (by omega) w1 fun t N2 w2 z2 k2 r2 => ?_
        have r1' := r1.keep fun j _ hj => k2 j hj
        have rx2 := r1.rows z2
        have rt2 := r2.rows (Nat.le_refl N2.size)
        have ot := r2.one
        have ct := r2.cells
        have sx := lend_same (d := 27) w2 r1' hY (by omega) hPc (by omega)
        have st := lend_same (d := 27) w2 r2 hA (by omega) hc (by omega)
        rw [sameL_refl] at sx st
        simp (maxSteps := 2000000) (disch := first | omega | assumption | (simp only [DS, Nat.reduceAdd, *]; done) | (simp only [DZ]; omega)) only [RUN, RU, footA, feetIn, resultsA, tupOf, frzL, slot, lay, icyL, fillA, repCells, kR, reduceIte, Nat.reduceEqDiff, Nat.reduceBEq, Nat.reduceLT, Nat.reduceAdd, Nat.reduceLeDiff, Nat.reduceSub, Nat.reduceMul, Int.reduceLT, Int.reduceLE, Int.reduceEq, Int.reduceAdd, Int.reduceSub, Int.reduceMul, h0, h1, h2, la, hA.fz.rows, hA.fz.one, hA.fz.cells, hA.fz.icy, hA.fz.frz, hB.fz.rows, hB.fz.one, hB.fz.cells, hB.fz.icy, hB.fz.frz, w2, rx2, rt2, sx, st, z, zb, vb, ck1, ck2, s1, s2, s3, s4, hW.fz.rows, hW.fz.one, hW.fz.cells, hW.fz.icy, hW.fz.frz, hY.fz.rows, hY.fz.one, hY.fz.cells, hY.fz.icy, hY.fz.frz]
        have hx2 := r1'.shape (L := 140737488355328) fun e he => by have := hP e he; omega
        have ht2 := r2.shape (L := 140737488355328) fun e he => by have := hd e he; omega
        refine spoil_run (d := 29) hx2 (by omega) (by omega) (by omega) (by omega) w2 fun N3 w3 p3 => ?_
        have ht3 := ht2.pres p3
        have rt3 := r2.rows (show N2.size ≤ N3.size by rw [p3.1]; omega)
        simp (maxSteps := 2000000) (disch := first | omega | assumption | (simp only [DS, Nat.reduceAdd, *]; done) | (simp only [DZ]; omega)) only [RUN, RU, footA, feetIn, resultsA, tupOf, frzL, slot, lay, icyL, fillA, repCells, kR, reduceIte, Nat.reduceEqDiff, Nat.reduceBEq, Nat.reduceLT, Nat.reduceAdd, Nat.reduceLeDiff, Nat.reduceSub, Nat.reduceMul, Int.reduceLT, Int.reduceLE, Int.reduceEq, Int.reduceAdd, Int.reduceSub, Int.reduceMul, h0, h1, h2, w3, rt3]
        refine spoil_run (d := 29) ht3 (by omega) (by omega) (by omega) (by omega) w3 fun N4 w4 p4 => ?_
        simp (maxSteps := 2000000) (disch := first | omega | assumption | (simp only [DS, Nat.reduceAdd, *]; done) | (simp only [DZ]; omega)) only [RUN, RU, footA, feetIn, resultsA, tupOf, frzL, slot, lay, icyL, fillA, repCells, kR, reduceIte, Nat.reduceEqDiff, Nat.reduceBEq, Nat.reduceLT, Nat.reduceAdd, Nat.reduceLeDiff, Nat.reduceSub, Nat.reduceMul, Int.reduceLT, Int.reduceLE, Int.reduceEq, Int.reduceAdd, Int.reduceSub, Int.reduceMul, h0, h1, h2, w4, s4, hW.fz.rows, hW.fz.one, hW.fz.cells, hW.fz.icy, hW.fz.frz, hA.fz.rows, hA.fz.one, hA.fz.cells, hA.fz.icy, hA.fz.frz]
theorem of_lb {l : List AV} (h : Is gLb l) : ∃ v : Lb, l = [U8 v.lv, U32 v.cats] ∧ v.ok := by
  simp only [gLb, Is, IsL] at h
  obtain ⟨_, _, rfl, ⟨a, rfl, _⟩, _, _, rfl, ⟨b, rfl, wb⟩, rfl⟩ := h
  refine ⟨⟨a, b⟩, rfl, ?_⟩
  simp [Lit.wf, IntKind.min, IntKind.max, IntKind.signed, IntKind.bits] at wb
  exact ⟨wb.1, by have := wb.2; show b < 4294967296; omega⟩
theorem of_int (r : List AV) (h : Is (.int .i64) r) : ∃ x, isInt r x := by
  obtain ⟨n, rfl, _⟩ := Is.i64 h
  exact ⟨n, rfl⟩
theorem of_evW (r : List AV) (h : Is gEv r) (hw : Ws gEv r) : ∃ e, isEv r e ∧ Ev.ok e := by
  simp only [gEv, Is, IsL] at h
  obtain ⟨_, _, rfl, ⟨n1, rfl, w1⟩, _, _, rfl, ⟨_, _, rfl, ⟨_, _, rfl, ⟨n2, rfl, w2⟩, _, _, rfl, ⟨n3, rfl, w3⟩, rfl⟩, _, _, rfl, ⟨n4, rfl, w4⟩, rfl⟩, _, _, rfl, ⟨n5, rfl, w5⟩, _, _, rfl, ⟨n6, rfl, w6⟩, _, _, rfl, ⟨n7, rfl, w7⟩, _, _, rfl, ⟨s8, rfl, w8⟩, _, _, rfl, ⟨_, _, rfl, ⟨n9, rfl, w9⟩, _, _, rfl, ⟨n10, rfl, w10⟩, rfl⟩, _, _, rfl, ⟨n11, rfl, w11⟩, _, _, rfl, h12, _, _, rfl, ⟨_, _, rfl, ⟨n13, rfl, w13⟩, _, _, rfl, ⟨_, _, rfl, ⟨_, _, rfl, ⟨n14, rfl, w14⟩, _, _, rfl, ⟨n15, rfl, w15⟩, rfl⟩, _, _, rfl, ⟨b16, rfl⟩, rfl⟩, rfl⟩, _, _, rfl, h17, rfl⟩ := h
  obtain ⟨kd, hkd⟩ := Is.u8 (r := [AV.sc (Value.int IntKind.u8 n1)]) (by simp only [Is]; exact ⟨n1, rfl, w1⟩)
  obtain rfl : n1 = kd.toNat := by
    have : [AV.sc (Value.int IntKind.u8 n1)] = [U8 kd.toNat] := hkd
    simpa using this
  obtain ⟨da, ld, e1, hda⟩ := Is.bytes (r := _) (by simp only [Is]; exact h12)
  obtain ⟨ca, lc, e2, hca⟩ := Is.slice (g := .int .i64) of_int (l := _) (by simp only [Is]; exact h17)
  subst e1 e2
  obtain ⟨⟨tx⟩⟩ := s8
  simp only [gEv, gLb, Ws, WsL, GT.n, GT.ns, List.cons_append, List.nil_append, List.take_succ_cons, List.take_zero, List.drop_succ_cons, List.drop_zero, true_and, and_true, Nat.add_zero, Nat.reduceAdd] at hw
  have hw1 : Ws (.sl (.int .u8)) [da] := by simp only [Ws]; exact hw.1
  have hw2 : Ws (.sl (.int .i64)) [ca] := by simp only [Ws]; exact hw.2
  have b1 := hw1.len hda
  have b2 := hw2.len hca
  simp only [GT.by, IntKind.bits, reachBytes] at b1 b2
  simp [Lit.wf, IntKind.min, IntKind.max, IntKind.signed, IntKind.bits] at w3
  exact ⟨⟨kd, ⟨n2, n3⟩, n4, n5, n6, n7, tx, ⟨n9, n10⟩, n11, ld, n13, ⟨n14, n15⟩, b16, lc⟩, ⟨da, ca, rfl, hda, hca⟩, ⟨w3.1, by have := w3.2; show n3 < 4294967296; omega⟩, by show ld.length ≤ _; omega, by show lc.length ≤ _; omega⟩
theorem run_args (a0 a1 a2 : AV) (h0 : IsA (.sl gEv) a0) (h1 : IsA (.sl gEv) a1) (h2 : IsA gLb a2) (k0 : WsA (.sl gEv) a0) (k1 : WsA (.sl gEv) a1) :
    callN Tryd.prog (fsT tbl) 1000000000000001 31 (.fn 6) [a0, a1, a2] mem0 = some (BL true, mem0) := by
  obtain ⟨a, la, h0', hA, _⟩ := Is.sliceW (T := fun r e => isEv r e ∧ Ev.ok e) of_evW h0 k0
  obtain rfl : a0 = a := by simpa using h0'
  obtain ⟨b, lb, h1', hB, _⟩ := Is.sliceW (T := fun r e => isEv r e ∧ Ev.ok e) of_evW h1 k1
  obtain rfl : a1 = b := by simpa using h1'
  obtain ⟨as2, rfl, h2⟩ := h2
  obtain ⟨v, rfl, hv⟩ := of_lb (by simpa only [gLb, Is] using h2)
  exact law_run v hv hA.split.1 hB.split.1 hA.split.2 (by omega)
end purgeTells
end Go.Proofs.YtjbninmklbkklaaDoor
