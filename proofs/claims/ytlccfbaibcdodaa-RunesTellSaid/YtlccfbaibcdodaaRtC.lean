/-
  The reference for runes: Check, Wide, Put, Blanked, Hide.
-/
import Derived.Test.YtlccfbaibcdodaaRtB
import Derived.Test.YtlccfbaibcdodaaEe
set_option linter.unusedSimpArgs false
set_option linter.unusedVariables false
set_option maxRecDepth 100000
namespace Go.Proofs.Ytlccfbaibcdodaa
open Go Go.Ax
variable {fuel : Nat} {M : Mem} {Q : AV → Mem → Prop} {d : Nat}

set_option maxHeartbeats 4000000 in
theorem rcheck_run {a : AV} {l : List Int} (hS : Sl 1 isI32 a l) (hf : 1000 < fuel) (M : Mem) : callN Try.prog (fsT tbl) fuel (d + 2) (.fn 20) [a] M = some (I64 (chk l), M) := by
  have hlen := hS.len
  have hb := sl_bound hS
  have cv := fun t r x => pConv2 (P := Try.prog) (t := t) Try.underlying21 Try.underlying3 r x
  apply w3_eq
  refine call_gc tf20 rfl (by simp (maxSteps := 2000000) (disch := first | omega | assumption | (simp only [DS, Nat.reduceAdd, *]; done) | (simp only [DZ]; omega)) only [RUN, RU, footA, feetIn, resultsA, tupOf, frzL, slot, lay, icyL, fillA, repCells, kR, reduceIte, Nat.reduceEqDiff, Nat.reduceBEq, Nat.reduceLT, Nat.reduceAdd, Nat.reduceLeDiff, Nat.reduceSub, Nat.reduceMul, Int.reduceLT, Int.reduceLE, Int.reduceEq, Int.reduceAdd, Int.reduceSub, Int.reduceMul, hS.icy]) (by simp [a20]) fun b ht hx => ?_
  have h0 := hx 0 _ rfl
  clear hx
  simp only [a20, c20] at ht ⊢
  by_cases h64 : 64 < l.length
  · have hc : decide ((64 : Int) < l.length) = true := decide_eq_true (by omega)
    rw [show chk l = 4 by unfold chk; rw [if_pos h64]]
    simp (maxSteps := 2000000) (disch := first | omega | assumption | (simp only [DS, Nat.reduceAdd, *]; done) | (simp only [DZ]; omega)) only [RUN, RU, footA, feetIn, resultsA, tupOf, frzL, slot, lay, icyL, fillA, repCells, kR, reduceIte, Nat.reduceEqDiff, Nat.reduceBEq, Nat.reduceLT, Nat.reduceAdd, Nat.reduceLeDiff, Nat.reduceSub, Nat.reduceMul, Int.reduceLT, Int.reduceLE, Int.reduceEq, Int.reduceAdd, Int.reduceSub, Int.reduceMul, h0, hlen, hc]
  have hc : decide ((64 : Int) < l.length) = false := decide_eq_false (by omega)
  simp (maxSteps := 2000000) (disch := first | omega | assumption | (simp only [DS, Nat.reduceAdd, *]; done) | (simp only [DZ]; omega)) only [RUN, RU, footA, feetIn, resultsA, tupOf, frzL, slot, lay, icyL, fillA, repCells, kR, reduceIte, Nat.reduceEqDiff, Nat.reduceBEq, Nat.reduceLT, Nat.reduceAdd, Nat.reduceLeDiff, Nat.reduceSub, Nat.reduceMul, Int.reduceLT, Int.reduceLE, Int.reduceEq, Int.reduceAdd, Int.reduceSub, Int.reduceMul, h0, hlen, hc]
  refine w_loop (I := fun n t N => ∃ i : Nat, i ≤ l.length ∧ n = l.length - i ∧ nth undefA t 0 = a ∧ nth undefA t 3 = I64 i ∧ ∀ x ∈ l.take i, okR x = true) (n := l.length) (by omega) ?_ ?_
  · refine ⟨0, by omega, by omega, ?_, ?_, by simp⟩ <;> simp (maxSteps := 2000000) (disch := first | omega | assumption | (simp only [DS, Nat.reduceAdd, *]; done) | (simp only [DZ]; omega)) only [RUN, RU, footA, feetIn, resultsA, tupOf, frzL, slot, lay, icyL, fillA, repCells, kR, reduceIte, Nat.reduceEqDiff, Nat.reduceBEq, Nat.reduceLT, Nat.reduceAdd, Nat.reduceLeDiff, Nat.reduceSub, Nat.reduceMul, Int.reduceLT, Int.reduceLE, Int.reduceEq, Int.reduceAdd, Int.reduceSub, Int.reduceMul, h0]
    all_goals rfl
  · rintro n t N hl' ⟨i, hi, hn, t0, t3, hall⟩
    simp only [ht] at hl' ⊢
    clear h0 ht b
    by_cases hlt : i < l.length
    · have hc' : decide ((i : Int) < l.length) = true := decide_eq_true (by omega)
      have w1 : IntKind.i64.wrap ((i : Int) + 1) = ((i + 1 : Nat) : Int) := by rw [wrap_i64] <;> omega
      obtain ⟨r, hr, ⟨rfl, _⟩, _⟩ := hS.iad i hlt
      have hbi := hb l[i] (List.getElem_mem hlt)
      have htk : l.take (i + 1) = l.take i ++ [l[i]] := by rw [List.take_add_one, List.getElem?_eq_getElem hlt]; rfl
      have hmem : l[i] ∈ l := List.getElem_mem hlt
      generalize l[i] = x at *
      have wx : IntKind.i64.wrap x = x := by rw [wrap_i64] <;> omega
      have isr := fun M => is_run (fuel := fuel) (d := d) (M := M) x
      have bad : okR x = false → chk l = 8 := fun h => by
        unfold chk
        rw [if_neg h64, if_neg]
        intro h2
        rw [List.all_eq_true] at h2
        rw [h2 x hmem] at h; cases h
      cases q1 : decide (x = -1) with
      | true =>
        have hok : okR x = true := by unfold okR; rw [q1]; rfl
        simp (maxSteps := 2000000) (disch := first | omega | assumption | (simp only [DS, Nat.reduceAdd, *]; done) | (simp only [DZ]; omega)) only [RUN, RU, footA, feetIn, resultsA, tupOf, frzL, slot, lay, icyL, fillA, repCells, kR, reduceIte, Nat.reduceEqDiff, Nat.reduceBEq, Nat.reduceLT, Nat.reduceAdd, Nat.reduceLeDiff, Nat.reduceSub, Nat.reduceMul, Int.reduceLT, Int.reduceLE, Int.reduceEq, Int.reduceAdd, Int.reduceSub, Int.reduceMul, t0, t3, hlen, hc', w1, hr, q1]
        exact ⟨hl', l.length - (i + 1), by omega, i + 1, by omega, rfl, rfl, by rw [htk]; intro y hy; rcases List.mem_append.1 hy with h | h; exact hall y h; simp at h; subst h; exact hok⟩
      | false =>
        cases hv : valid x with
        | true =>
          have hok : okR x = true := by unfold okR; rw [q1, hv]; rfl
          rw [hv] at isr
          simp (maxSteps := 2000000) (disch := first | omega | assumption | (simp only [DS, Nat.reduceAdd, *]; done) | (simp only [DZ]; omega)) only [RUN, RU, footA, feetIn, resultsA, tupOf, frzL, slot, lay, icyL, fillA, repCells, kR, reduceIte, Nat.reduceEqDiff, Nat.reduceBEq, Nat.reduceLT, Nat.reduceAdd, Nat.reduceLeDiff, Nat.reduceSub, Nat.reduceMul, Int.reduceLT, Int.reduceLE, Int.reduceEq, Int.reduceAdd, Int.reduceSub, Int.reduceMul, t0, t3, hlen, hc', w1, hr, q1, cv, pc1_int, wx, isr]
          exact ⟨hl', l.length - (i + 1), by omega, i + 1, by omega, rfl, rfl, by rw [htk]; intro y hy; rcases List.mem_append.1 hy with h | h; exact hall y h; simp at h; subst h; exact hok⟩
        | false =>
          have hok : okR x = false := by unfold okR; rw [q1, hv]; rfl
          rw [hv] at isr
          rw [bad hok]
          simp (maxSteps := 2000000) (disch := first | omega | assumption | (simp only [DS, Nat.reduceAdd, *]; done) | (simp only [DZ]; omega)) only [RUN, RU, footA, feetIn, resultsA, tupOf, frzL, slot, lay, icyL, fillA, repCells, kR, reduceIte, Nat.reduceEqDiff, Nat.reduceBEq, Nat.reduceLT, Nat.reduceAdd, Nat.reduceLeDiff, Nat.reduceSub, Nat.reduceMul, Int.reduceLT, Int.reduceLE, Int.reduceEq, Int.reduceAdd, Int.reduceSub, Int.reduceMul, t0, t3, hlen, hc', w1, hr, q1, cv, pc1_int, wx, isr]
    · obtain rfl : i = l.length := by omega
      have hc' : decide ((l.length : Int) < l.length) = false := decide_eq_false (by omega)
      rw [List.take_length] at hall
      rw [show chk l = 0 by unfold chk; rw [if_neg h64, if_pos (List.all_eq_true.2 hall)]]
      simp (maxSteps := 2000000) (disch := first | omega | assumption | (simp only [DS, Nat.reduceAdd, *]; done) | (simp only [DZ]; omega)) only [RUN, RU, footA, feetIn, resultsA, tupOf, frzL, slot, lay, icyL, fillA, repCells, kR, reduceIte, Nat.reduceEqDiff, Nat.reduceBEq, Nat.reduceLT, Nat.reduceAdd, Nat.reduceLeDiff, Nat.reduceSub, Nat.reduceMul, Int.reduceLT, Int.reduceLE, Int.reduceEq, Int.reduceAdd, Int.reduceSub, Int.reduceMul, t0, t3, hlen, hc']

theorem by8_mod (n : Int) : by8 (n % 256) = by8 n := by
  unfold by8; rw [Int.emod_emod_of_dvd _ (Int.dvd_refl 256)]
theorem four_of_nat (n : Nat) (h : n < 4294967296) (x : Int) (hx : x = (n : Int) ∨ (x = -1 ∧ n = 4294967295)) : four x = [by8 ((n / 16777216 : Nat) : Int), by8 ((n / 65536 % 256 : Nat) : Int), by8 ((n / 256 % 256 : Nat) : Int), by8 ((n % 256 : Nat) : Int)] := by
  unfold four
  rw [Int.fdiv_eq_ediv_of_nonneg _ (by omega), Int.fdiv_eq_ediv_of_nonneg _ (by omega), Int.fdiv_eq_ediv_of_nonneg _ (by omega)]
  have key : ∀ (a b : Int), a % 256 = b % 256 → by8 a = by8 b := fun a b h => by unfold by8; rw [h]
  rw [key (x / 16777216) ((n / 16777216 : Nat) : Int) (by omega), key (x / 65536) ((n / 65536 % 256 : Nat) : Int) (by omega), key (x / 256) ((n / 256 % 256 : Nat) : Int) (by omega), key x ((n % 256 : Nat) : Int) (by omega)]
set_option maxHeartbeats 8000000 in
theorem rwide_run {a : AV} {l : List Int} (hS : Sl 1 isI32 a l) (hl : l.length ≤ 1000) (hok : ∀ x ∈ l, okR x = true) (hf : 2000 < fuel) : ∃ r, Bs r (wide l) ∧ ∀ M, callN Try.prog (fsT tbl) fuel (d + 1) (.fn 32) [a] M = some (r, M) := by
  have ic : ∀ M, icyL (icy 12) M [a] = some ([a], M) := fun M => by simp (maxSteps := 2000000) (disch := first | omega | assumption | (simp only [DS, Nat.reduceAdd, *]; done) | (simp only [DZ]; omega)) only [RUN, RU, footA, feetIn, resultsA, tupOf, frzL, slot, lay, icyL, fillA, repCells, kR, reduceIte, Nat.reduceEqDiff, Nat.reduceBEq, Nat.reduceLT, Nat.reduceAdd, Nat.reduceLeDiff, Nat.reduceSub, Nat.reduceMul, Int.reduceLT, Int.reduceLE, Int.reduceEq, Int.reduceAdd, Int.reduceSub, Int.reduceMul, hS.icy]
  have hlen := hS.len
  have hb := sl_bound hS
  have cv := fun t r x => pConv2 (P := Try.prog) (t := t) Try.underlying21 Try.underlying3 r x
  have cu := fun t r x => pConv2 (P := Try.prog) (t := t) Try.underlying3 Try.underlying5 r x
  have key : W3 (callN Try.prog (fsT tbl) fuel (d + 1) (.fn 32) [a] mem0) (fun r _ => Bs r (wide l)) := by
    refine call_gc tf32 rfl (ic mem0) (by simp [a32]) fun b ht hx => ?_
    have h0 := hx 0 _ rfl
    clear hx
    simp only [a32, c32] at ht ⊢
    simp (maxSteps := 2000000) (disch := first | omega | assumption | (simp only [DS, Nat.reduceAdd, *]; done) | (simp only [DZ]; omega)) only [RUN, RU, footA, feetIn, resultsA, tupOf, frzL, slot, lay, icyL, fillA, repCells, kR, reduceIte, Nat.reduceEqDiff, Nat.reduceBEq, Nat.reduceLT, Nat.reduceAdd, Nat.reduceLeDiff, Nat.reduceSub, Nat.reduceMul, Int.reduceLT, Int.reduceLE, Int.reduceEq, Int.reduceAdd, Int.reduceSub, Int.reduceMul, h0]
    refine w_loop (I := fun n t N => ∃ (i : Nat) (o : AV), i ≤ l.length ∧ n = l.length - i ∧ nth undefA t 0 = a ∧ nth undefA t 3 = o ∧ nth undefA t 4 = I64 i ∧ Wf N ∧ SlM N 1 isU8 o (wide (l.take i))) (n := l.length) (by omega) ?_ ?_
    · refine ⟨0, NIL, by omega, by omega, ?_, ?_, ?_, Wf.mem0, SlM.nil⟩ <;> simp (maxSteps := 2000000) (disch := first | omega | assumption | (simp only [DS, Nat.reduceAdd, *]; done) | (simp only [DZ]; omega)) only [RUN, RU, footA, feetIn, resultsA, tupOf, frzL, slot, lay, icyL, fillA, repCells, kR, reduceIte, Nat.reduceEqDiff, Nat.reduceBEq, Nat.reduceLT, Nat.reduceAdd, Nat.reduceLeDiff, Nat.reduceSub, Nat.reduceMul, Int.reduceLT, Int.reduceLE, Int.reduceEq, Int.reduceAdd, Int.reduceSub, Int.reduceMul, h0]
      all_goals rfl
    · rintro n t N hl' ⟨i, o, hi, hn, t0, t3, t4, wfN, hN⟩
      simp only [ht] at hl' ⊢
      clear h0 ht b
      by_cases hlt : i < l.length
      · have hc' : decide ((i : Int) < l.length) = true := decide_eq_true (by omega)
        have w1 : IntKind.i64.wrap ((i : Int) + 1) = ((i + 1 : Nat) : Int) := by rw [wrap_i64] <;> omega
        obtain ⟨r, hr, ⟨rfl, _⟩, _⟩ := hS.iad i hlt
        have hbi := hb l[i] (List.getElem_mem hlt)
        have hoi := hok l[i] (List.getElem_mem hlt)
        have htk : l.take (i + 1) = l.take i ++ [l[i]] := by rw [List.take_add_one, List.getElem?_eq_getElem hlt]; rfl
        generalize l[i] = x at *
        have wx : IntKind.i64.wrap x = x := by rw [wrap_i64] <;> omega
        have hx : x = -1 ∨ 0 ≤ x := by
          simp only [okR, valid, Bool.or_eq_true, Bool.and_eq_true, decide_eq_true_eq] at hoi; omega
        have oo := hN.one
        have oco := hN.cells
        have rlo := rows_lt hN.rl (show N.size ≤ N.size + 1 by omega)
        have hw : (wide (l.take i)).length ≤ 4000 := by rw [wide_len, List.length_take]; omega
        have z1 : ((16777216 : Int) = 0) = False := by simp
        have z2 : ((65536 : Int) = 0) = False := by simp
        have z3 : ((256 : Int) = 0) = False := by simp
        have main : ∀ n : Nat, n < 4294967296 → (x = (n : Int) ∨ (x = -1 ∧ n = 4294967295)) → ∀ v : Int, v = (n : Int) →
            IntKind.i64.wrap (v.tdiv 16777216) = ((n / 16777216 : Nat) : Int) ∧ IntKind.i64.wrap (v.tdiv 65536) = ((n / 65536 : Nat) : Int) ∧ Int.tmod ((n / 65536 : Nat) : Int) 256 = ((n / 65536 % 256 : Nat) : Int) ∧ IntKind.i64.wrap (v.tdiv 256) = ((n / 256 : Nat) : Int) ∧ Int.tmod ((n / 256 : Nat) : Int) 256 = ((n / 256 % 256 : Nat) : Int) ∧ v.tmod 256 = ((n % 256 : Nat) : Int) ∧ four x = [by8 ((n / 16777216 : Nat) : Int), by8 ((n / 65536 % 256 : Nat) : Int), by8 ((n / 256 % 256 : Nat) : Int), by8 ((n % 256 : Nat) : Int)] := by
          rintro n h1 h2 v rfl
          refine ⟨?_, ?_, ?_, ?_, ?_, ?_, four_of_nat n h1 x h2⟩
          · rw [Int.tdiv_eq_ediv_of_nonneg (by omega), wrap_i64] <;> omega
          · rw [Int.tdiv_eq_ediv_of_nonneg (by omega), wrap_i64] <;> omega
          · rw [Int.tmod_eq_emod_of_nonneg (by omega)]; omega
          · rw [Int.tdiv_eq_ediv_of_nonneg (by omega), wrap_i64] <;> omega
          · rw [Int.tmod_eq_emod_of_nonneg (by omega)]; omega
          · rw [Int.tmod_eq_emod_of_nonneg (by omega)]; omega
        have next : ∀ (o' : AV) (N' : Mem) (bs : List UInt8), bs = four x → Wf N' → SlM N' 1 isU8 o' (wide (l.take i) ++ bs) → ∃ m, m < n ∧ ∃ (i' : Nat) (o'' : AV), i' ≤ l.length ∧ m = l.length - i' ∧ o' = o'' ∧ I64 ((i + 1 : Nat) : Int) = I64 i' ∧ Wf N' ∧ SlM N' 1 isU8 o'' (wide (l.take i')) := by
          rintro o' N' bs rfl h1 h2
          refine ⟨l.length - (i + 1), by omega, i + 1, o', by omega, rfl, rfl, rfl, h1, ?_⟩
          rw [htk]
          simpa [wide] using h2
        rcases hx with hx | hx
        · have q1 : decide (x < 0) = true := decide_eq_true (by omega)
          obtain ⟨m1, m2, m3, m4, m5, m6, m7⟩ := main 4294967295 (by omega) (.inr ⟨hx, rfl⟩) 4294967295 rfl
          simp (maxSteps := 2000000) (disch := first | omega | assumption | (simp only [DS, Nat.reduceAdd, *]; done) | (simp only [DZ]; omega)) only [RUN, RU, footA, feetIn, resultsA, tupOf, frzL, slot, lay, icyL, fillA, repCells, kR, reduceIte, Nat.reduceEqDiff, Nat.reduceBEq, Nat.reduceLT, Nat.reduceAdd, Nat.reduceLeDiff, Nat.reduceSub, Nat.reduceMul, Int.reduceLT, Int.reduceLE, Int.reduceEq, Int.reduceAdd, Int.reduceSub, Int.reduceMul, t0, t3, t4, hlen, hc', w1, hr, q1, cv, cu, pc1_int, wx, vQuo, vRem, z1, z2, z3, ↓m1, ↓m2, ↓m3, ↓m4, ↓m5, ↓m6, wrap_u8, oo, oco, rlo, wfN]
          refine w3_lit wfN hN cel_U8 (rows := [[U8 (by8 (((4294967295 / 16777216 : Nat)) : Int)).toNat], [U8 (by8 ((4294967295 / 65536 % 256 : Nat) : Int)).toNat], [U8 (by8 ((4294967295 / 256 % 256 : Nat) : Int)).toNat], [U8 (by8 ((4294967295 % 256 : Nat) : Int)).toNat]]) (l' := [by8 ((4294967295 / 16777216 : Nat) : Int), by8 ((4294967295 / 65536 % 256 : Nat) : Int), by8 ((4294967295 / 256 % 256 : Nat) : Int), by8 ((4294967295 % 256 : Nat) : Int)]) rfl rfl (.cons rfl (.cons rfl (.cons rfl (.cons rfl .nil)))) (by simp) (by omega) (by simp; omega) (by simp; omega) fun o4 M4 m4 wf4 le4 kp4 nw4 wm4 rl4 on4 oc4 => ?_
          simp (maxSteps := 2000000) (disch := first | omega | assumption | (simp only [DS, Nat.reduceAdd, *]; done) | (simp only [DZ]; omega)) only [RUN, RU, footA, feetIn, resultsA, tupOf, frzL, slot, lay, icyL, fillA, repCells, kR, reduceIte, Nat.reduceEqDiff, Nat.reduceBEq, Nat.reduceLT, Nat.reduceAdd, Nat.reduceLeDiff, Nat.reduceSub, Nat.reduceMul, Int.reduceLT, Int.reduceLE, Int.reduceEq, Int.reduceAdd, Int.reduceSub, Int.reduceMul, t0, t3, t4, w1]
          exact ⟨hl', next o4 M4 _ m7.symm wf4 m4⟩
        · have q1 : decide (x < 0) = false := decide_eq_false (by omega)
          obtain ⟨m1, m2, m3, m4, m5, m6, m7⟩ := main x.toNat (by omega) (.inl (by omega)) x (by omega)
          simp (maxSteps := 2000000) (disch := first | omega | assumption | (simp only [DS, Nat.reduceAdd, *]; done) | (simp only [DZ]; omega)) only [RUN, RU, footA, feetIn, resultsA, tupOf, frzL, slot, lay, icyL, fillA, repCells, kR, reduceIte, Nat.reduceEqDiff, Nat.reduceBEq, Nat.reduceLT, Nat.reduceAdd, Nat.reduceLeDiff, Nat.reduceSub, Nat.reduceMul, Int.reduceLT, Int.reduceLE, Int.reduceEq, Int.reduceAdd, Int.reduceSub, Int.reduceMul, t0, t3, t4, hlen, hc', w1, hr, q1, cv, cu, pc1_int, wx, vQuo, vRem, z1, z2, z3, m1, m2, m3, m4, m5, m6, wrap_u8, oo, oco, rlo, wfN]
          refine w3_lit wfN hN cel_U8 (rows := [[U8 (by8 (((x.toNat / 16777216 : Nat)) : Int)).toNat], [U8 (by8 ((x.toNat / 65536 % 256 : Nat) : Int)).toNat], [U8 (by8 ((x.toNat / 256 % 256 : Nat) : Int)).toNat], [U8 (by8 ((x.toNat % 256 : Nat) : Int)).toNat]]) (l' := [by8 ((x.toNat / 16777216 : Nat) : Int), by8 ((x.toNat / 65536 % 256 : Nat) : Int), by8 ((x.toNat / 256 % 256 : Nat) : Int), by8 ((x.toNat % 256 : Nat) : Int)]) rfl rfl (.cons rfl (.cons rfl (.cons rfl (.cons rfl .nil)))) (by simp) (by omega) (by simp; omega) (by simp; omega) fun o4 M4 m4 wf4 le4 kp4 nw4 wm4 rl4 on4 oc4 => ?_
          simp (maxSteps := 2000000) (disch := first | omega | assumption | (simp only [DS, Nat.reduceAdd, *]; done) | (simp only [DZ]; omega)) only [RUN, RU, footA, feetIn, resultsA, tupOf, frzL, slot, lay, icyL, fillA, repCells, kR, reduceIte, Nat.reduceEqDiff, Nat.reduceBEq, Nat.reduceLT, Nat.reduceAdd, Nat.reduceLeDiff, Nat.reduceSub, Nat.reduceMul, Int.reduceLT, Int.reduceLE, Int.reduceEq, Int.reduceAdd, Int.reduceSub, Int.reduceMul, t0, t3, t4, w1]
          exact ⟨hl', next o4 M4 _ m7.symm wf4 m4⟩
      · obtain rfl : i = l.length := by omega
        have hc' : decide ((l.length : Int) < l.length) = false := decide_eq_false (by omega)
        rw [List.take_length] at hN
        obtain ⟨r, hfz, hSr⟩ := hN.frz cel_U8 (k := 12) (by omega)
        simp (maxSteps := 2000000) (disch := first | omega | assumption | (simp only [DS, Nat.reduceAdd, *]; done) | (simp only [DZ]; omega)) only [RUN, RU, footA, feetIn, resultsA, tupOf, frzL, slot, lay, icyL, fillA, repCells, kR, reduceIte, Nat.reduceEqDiff, Nat.reduceBEq, Nat.reduceLT, Nat.reduceAdd, Nat.reduceLeDiff, Nat.reduceSub, Nat.reduceMul, Int.reduceLT, Int.reduceLE, Int.reduceEq, Int.reduceAdd, Int.reduceSub, Int.reduceMul, t0, t3, t4, hlen, hc', hfz]
        exact hSr
  obtain ⟨r, N, hcl, hSr⟩ := key
  exact ⟨r, hSr, fun M => call_own tf32 rfl hcl (ic mem0) (ic M)⟩
end Go.Proofs.Ytlccfbaibcdodaa
