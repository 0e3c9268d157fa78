/-
  The reference for runes: first, Of.
-/
import Derived.Test.YtlccfbaibcdodaaRtA
set_option linter.unusedSimpArgs false
set_option linter.unusedVariables false
set_option maxRecDepth 100000
namespace Go.Proofs.Ytlccfbaibcdodaa
open Go Go.Ax
variable {fuel : Nat} {M : Mem} {Q : AV → Mem → Prop} {d : Nat}

theorem numN_snoc (b : UInt8) : ∀ (l : List UInt8) (x : Nat), numN x (l ++ [b]) = 64 * numN x l + b.toNat % 64
  | [], x => rfl
  | c :: l, x => numN_snoc b l (64 * x + c.toNat % 64)
theorem numN_le : ∀ (l : List UInt8) (x : Nat), numN x l + 1 ≤ (x + 1) * 64 ^ l.length
  | [], x => by simp [numN]
  | c :: l, x => by
    have ih := numN_le l (64 * x + c.toNat % 64)
    simp only [numN, List.length_cons]
    refine Nat.le_trans ih ?_
    rw [Nat.pow_succ, Nat.mul_comm (64 ^ l.length) 64, ← Nat.mul_assoc]
    exact Nat.mul_le_mul_right _ (by omega)
theorem head_le (c : Nat) : (headN c).1 ≤ 4 ∧ (headN c).2 ≤ 127 := by
  unfold headN
  split
  · simp; omega
  · split
    · simp; omega
    · split
      · simp; omega
      · split
        · simp; omega
        · simp
def fst2 (o : Option (Nat × Nat)) : Nat × Nat := o.getD (0, 0)
set_option maxHeartbeats 4000000 in
theorem first_run (l : List UInt8) (hne : l ≠ []) (hl : l.length ≤ 100000) (hf : 1000 < fuel) (M : Mem) : callN Try.prog (fsT tbl) fuel (d + 3) (.fn 31) [STR l] M = some (.tup [I64 ((firstL l).getD (0, 0)).1, I64 ((firstL l).getD (0, 0)).2], M) := by
  obtain ⟨c, tl, rfl⟩ : ∃ c tl, l = c :: tl := by cases l with | nil => exact absurd rfl hne | cons c tl => exact ⟨c, tl, rfl⟩
  have hcl := c.toNat_lt
  obtain ⟨hh1, hh2⟩ := head_le c.toNat
  simp only [List.length_cons] at hl
  have sl := fun t lo hi r x => pSubS (P := Try.prog) (t := t) Try.underlying9 x lo hi r
  have ln := fun t x r => pLenS (P := Try.prog) (t := t) Try.underlying9 x r
  have ix := fun t x i r => pIdxS (P := Try.prog) (t := t) Try.underlying9 x i r
  have cv := fun t r x => pConv2 (P := Try.prog) (t := t) Try.underlying5 Try.underlying3 r x
  have i0 : ∀ d, idxS d (STR (c :: tl)) (I64 0) = some (U8 c.toNat) := fun d => idx_str (d := d) (l := c :: tl) (i := 0) (by simp)
  have w0 : IntKind.i64.wrap (c.toNat : Int) = (c.toNat : Int) := by rw [wrap_i64] <;> omega
  have hd := fun M => head_run (fuel := fuel) (d := d + 1) c.toNat (by omega) M
  apply w3_eq
  refine call_gc tf31 rfl (by simp (maxSteps := 2000000) (disch := first | omega | assumption | (simp only [DS, Nat.reduceAdd, *]; done) | (simp only [DZ]; omega)) only [RUN, RU, footA, feetIn, resultsA, tupOf, frzL, slot, lay, icyL, fillA, repCells, kR, reduceIte, Nat.reduceEqDiff, Nat.reduceBEq, Nat.reduceLT, Nat.reduceAdd, Nat.reduceLeDiff, Nat.reduceSub, Nat.reduceMul, Int.reduceLT, Int.reduceLE, Int.reduceEq, Int.reduceAdd, Int.reduceSub, Int.reduceMul]) (by simp [a31]) fun b ht hx => ?_
  have h0 := hx 0 _ rfl
  clear hx
  simp only [a31, c31] at ht ⊢
  have hfl : firstL (c :: tl) = (if (headN c.toNat).1 = 0 ∨ (c :: tl).length < (headN c.toNat).1 then none
    else if isR (numN (headN c.toNat).2 (tl.take ((headN c.toNat).1 - 1))) = true ∧ bytesU (numN (headN c.toNat).2 (tl.take ((headN c.toNat).1 - 1))) = (c :: tl).take (headN c.toNat).1 then
      some (numN (headN c.toNat).2 (tl.take ((headN c.toNat).1 - 1)), (headN c.toNat).1) else none) := rfl
  rw [hfl]
  generalize (headN c.toNat).1 = k at *
  generalize (headN c.toNat).2 = x at *
  by_cases g1 : k = 0
  · have q1 : decide ((k : Int) = 0) = true := decide_eq_true (by omega)
    rw [if_pos (.inl g1)]
    simp (maxSteps := 2000000) (disch := first | omega | assumption | (simp only [DS, Nat.reduceAdd, *]; done) | (simp only [DZ]; omega)) only [RUN, RU, footA, feetIn, resultsA, tupOf, frzL, slot, lay, icyL, fillA, repCells, kR, reduceIte, Nat.reduceEqDiff, Nat.reduceBEq, Nat.reduceLT, Nat.reduceAdd, Nat.reduceLeDiff, Nat.reduceSub, Nat.reduceMul, Int.reduceLT, Int.reduceLE, Int.reduceEq, Int.reduceAdd, Int.reduceSub, Int.reduceMul, h0, ix, i0, cv, pc1_int, w0, hd, q1]
    rfl
  have q1 : decide ((k : Int) = 0) = false := decide_eq_false (by omega)
  by_cases g2 : (c :: tl).length < k
  · have q2 : decide (((tl.length + 1 : Nat) : Int) < k) = true := decide_eq_true (by simp only [List.length_cons] at g2; omega)
    rw [if_pos (.inr g2)]
    simp (maxSteps := 2000000) (disch := first | omega | assumption | (simp only [DS, Nat.reduceAdd, *]; done) | (simp only [DZ]; omega)) only [RUN, RU, footA, feetIn, resultsA, tupOf, frzL, slot, lay, icyL, fillA, repCells, kR, reduceIte, Nat.reduceEqDiff, Nat.reduceBEq, Nat.reduceLT, Nat.reduceAdd, Nat.reduceLeDiff, Nat.reduceSub, Nat.reduceMul, Int.reduceLT, Int.reduceLE, Int.reduceEq, Int.reduceAdd, Int.reduceSub, Int.reduceMul, h0, ix, i0, cv, pc1_int, w0, hd, q1, ln, psl_str, str_size, q2]
    rfl
  have q2 : decide (((tl.length + 1 : Nat) : Int) < k) = false := decide_eq_false (by simp only [List.length_cons] at g2; omega)
  rw [if_neg (by rintro (h | h); exact g1 h; exact g2 h)]
  have hkl : k ≤ (c :: tl).length := by omega
  simp (maxSteps := 2000000) (disch := first | omega | assumption | (simp only [DS, Nat.reduceAdd, *]; done) | (simp only [DZ]; omega)) only [RUN, RU, footA, feetIn, resultsA, tupOf, frzL, slot, lay, icyL, fillA, repCells, kR, reduceIte, Nat.reduceEqDiff, Nat.reduceBEq, Nat.reduceLT, Nat.reduceAdd, Nat.reduceLeDiff, Nat.reduceSub, Nat.reduceMul, Int.reduceLT, Int.reduceLE, Int.reduceEq, Int.reduceAdd, Int.reduceSub, Int.reduceMul, h0, ix, i0, cv, pc1_int, w0, hd, q1, ln, psl_str, str_size, q2]
  refine w_loop (I := fun m t N => ∃ i : Nat, 1 ≤ i ∧ i ≤ k ∧ m = k - i ∧ nth undefA t 0 = STR (c :: tl) ∧ nth undefA t 4 = I64 k ∧ nth undefA t 5 = I64 (numN x (tl.take (i - 1)) : Nat) ∧ nth undefA t 6 = I64 i) (n := k - 1) (by omega) ?_ ?_
  · refine ⟨1, by omega, by omega, rfl, ?_, ?_, ?_, ?_⟩ <;> simp (maxSteps := 2000000) (disch := first | omega | assumption | (simp only [DS, Nat.reduceAdd, *]; done) | (simp only [DZ]; omega)) only [RUN, RU, footA, feetIn, resultsA, tupOf, frzL, slot, lay, icyL, fillA, repCells, kR, reduceIte, Nat.reduceEqDiff, Nat.reduceBEq, Nat.reduceLT, Nat.reduceAdd, Nat.reduceLeDiff, Nat.reduceSub, Nat.reduceMul, Int.reduceLT, Int.reduceLE, Int.reduceEq, Int.reduceAdd, Int.reduceSub, Int.reduceMul, h0]
    all_goals rfl
  · rintro m t N hl' ⟨i, hi1, hi, hm, t0, t4, t5, t6⟩
    simp only [ht] at hl' ⊢
    clear h0 ht b
    have hn1 := numN_le (tl.take (i - 1)) x
    rw [List.length_take] at hn1
    have hn2 : (x + 1) * 64 ^ (min (i - 1) tl.length) ≤ 128 * 64 ^ 3 := Nat.mul_le_mul (by omega) (Nat.pow_le_pow_right (by omega) (by omega))
    by_cases hlt : i < k
    · have hc' : decide ((i : Int) < k) = true := decide_eq_true (by omega)
      have w1 : IntKind.i64.wrap ((i : Int) + 1) = ((i + 1 : Nat) : Int) := by rw [wrap_i64] <;> omega
      have hi' : i < (c :: tl).length := by omega
      have ii := fun d => idx_str (d := d) (l := c :: tl) (i := i) hi'
      have htk : tl.take (i + 1 - 1) = tl.take (i - 1) ++ [(c :: tl)[i]'hi'] := by
        obtain ⟨j, rfl⟩ : ∃ j, i = j + 1 := ⟨i - 1, by omega⟩
        have hj : j < tl.length := by simp only [List.length_cons] at hi'; omega
        simp only [Nat.add_sub_cancel, List.getElem_cons_succ]
        rw [List.take_add_one, List.getElem?_eq_getElem hj]; rfl
      generalize (c :: tl)[i]'hi' = y at *
      have hy := y.toNat_lt
      have wy : IntKind.i64.wrap (y.toNat : Int) = (y.toNat : Int) := by rw [wrap_i64] <;> omega
      have w2 : IntKind.i64.wrap (64 * ((numN x (tl.take (i - 1)) : Nat) : Int)) = ((64 * numN x (tl.take (i - 1)) : Nat) : Int) := by rw [wrap_i64] <;> omega
      have w3 : Int.tmod (y.toNat : Int) 64 = ((y.toNat % 64 : Nat) : Int) := by rw [Int.tmod_eq_emod_of_nonneg (by omega)]; omega
      have w4 : IntKind.i64.wrap (((64 * numN x (tl.take (i - 1)) : Nat) : Int) + ((y.toNat % 64 : Nat) : Int)) = ((64 * numN x (tl.take (i - 1)) + y.toNat % 64 : Nat) : Int) := by rw [wrap_i64] <;> omega
      have z : ((64 : Int) = 0) = False := by simp
      simp (maxSteps := 2000000) (disch := first | omega | assumption | (simp only [DS, Nat.reduceAdd, *]; done) | (simp only [DZ]; omega)) only [RUN, RU, footA, feetIn, resultsA, tupOf, frzL, slot, lay, icyL, fillA, repCells, kR, reduceIte, Nat.reduceEqDiff, Nat.reduceBEq, Nat.reduceLT, Nat.reduceAdd, Nat.reduceLeDiff, Nat.reduceSub, Nat.reduceMul, Int.reduceLT, Int.reduceLE, Int.reduceEq, Int.reduceAdd, Int.reduceSub, Int.reduceMul, t0, t4, t5, t6, hc', w1, ix, ii, cv, pc1_int, wy, w2, vRem, z, w3, w4]
      refine ⟨hl', k - (i + 1), by omega, i + 1, by omega, by omega, rfl, ?_, rfl⟩
      rw [htk, numN_snoc]
    · obtain rfl : i = k := by omega
      have hc' : decide ((i : Int) < i) = false := decide_eq_false (by omega)
      generalize numN x (tl.take (i - 1)) = v at *
      have hv := valid_isR v
      have isr := fun M => is_run (fuel := fuel) (d := d + 1) (M := M) (v : Int)
      rw [hv] at isr
      cases hR : isR v with
      | false =>
        rw [hR] at isr
        rw [if_neg (by simp)]
        simp (maxSteps := 2000000) (disch := first | omega | assumption | (simp only [DS, Nat.reduceAdd, *]; done) | (simp only [DZ]; omega)) only [RUN, RU, footA, feetIn, resultsA, tupOf, frzL, slot, lay, icyL, fillA, repCells, kR, reduceIte, Nat.reduceEqDiff, Nat.reduceBEq, Nat.reduceLT, Nat.reduceAdd, Nat.reduceLeDiff, Nat.reduceSub, Nat.reduceMul, Int.reduceLT, Int.reduceLE, Int.reduceEq, Int.reduceAdd, Int.reduceSub, Int.reduceMul, t0, t4, t5, t6, hc', isr, apart2_pu]
        rfl
      | true =>
        rw [hR] at isr
        have hv2 : v ≤ 1114111 := by simp [isR] at hR; omega
        obtain ⟨r, hr, hby⟩ := bytes_run (fuel := fuel) (d := d) v hv2 hf
        have st := fun d => sub_to (d := d) (l := c :: tl) (i := i) (by omega)
        have rr := hr.rows mem0
        by_cases he : bytesU v = (c :: tl).take i
        · have q3 : decide (bytesU v = (c :: tl).take i) = true := decide_eq_true he
          rw [if_pos ⟨rfl, he⟩]
          simp (maxSteps := 2000000) (disch := first | omega | assumption | (simp only [DS, Nat.reduceAdd, *]; done) | (simp only [DZ]; omega)) only [RUN, RU, footA, feetIn, resultsA, tupOf, frzL, slot, lay, icyL, fillA, repCells, kR, reduceIte, Nat.reduceEqDiff, Nat.reduceBEq, Nat.reduceLT, Nat.reduceAdd, Nat.reduceLeDiff, Nat.reduceSub, Nat.reduceMul, Int.reduceLT, Int.reduceLE, Int.reduceEq, Int.reduceAdd, Int.reduceSub, Int.reduceMul, t0, t4, t5, t6, hc', isr, hby, hr.b2s, sl, st, q3, rr, apart2_pu]
          rfl
        · have q3 : decide (bytesU v = (c :: tl).take i) = false := decide_eq_false he
          rw [if_neg (by rintro ⟨_, h⟩; exact he h)]
          simp (maxSteps := 2000000) (disch := first | omega | assumption | (simp only [DS, Nat.reduceAdd, *]; done) | (simp only [DZ]; omega)) only [RUN, RU, footA, feetIn, resultsA, tupOf, frzL, slot, lay, icyL, fillA, repCells, kR, reduceIte, Nat.reduceEqDiff, Nat.reduceBEq, Nat.reduceLT, Nat.reduceAdd, Nat.reduceLeDiff, Nat.reduceSub, Nat.reduceMul, Int.reduceLT, Int.reduceLE, Int.reduceEq, Int.reduceAdd, Int.reduceSub, Int.reduceMul, t0, t4, t5, t6, hc', isr, hby, hr.b2s, sl, st, q3, rr, apart2_pu]
          rfl
/-- The lists' relation to a text, as the reference goes through it. -/
theorem ofL_step {l cur : List UInt8} {acc : List Int} {n k : Nat} (h : ofL l = (ofL cur).map (acc ++ ·)) (hne : cur ≠ []) (hf : firstL cur = some (n, k)) : ofL l = (ofL (cur.drop k)).map ((acc ++ [(n : Int)]) ++ ·) := by
  rw [h, ofL_eq _ hne, hf]
  cases hh : ofL (cur.drop k) <;> simp [hh]
set_option maxHeartbeats 8000000 in
theorem rof_run (l : List UInt8) (hl : l.length ≤ 100000) (hf : l.length + 1000 < fuel) : ∃ r, Sl 1 isI32 r (ofM l) ∧ ∀ M, callN Try.prog (fsT tbl) fuel (d + 4) (.fn 15) [STR l] M = some (.tup [r, I64 (ofE l)], M) := by
  have ic : ∀ M, icyL (icy 12) M [STR l] = some ([STR l], M) := fun M => by simp (maxSteps := 2000000) (disch := first | omega | assumption | (simp only [DS, Nat.reduceAdd, *]; done) | (simp only [DZ]; omega)) only [RUN, RU, footA, feetIn, resultsA, tupOf, frzL, slot, lay, icyL, fillA, repCells, kR, reduceIte, Nat.reduceEqDiff, Nat.reduceBEq, Nat.reduceLT, Nat.reduceAdd, Nat.reduceLeDiff, Nat.reduceSub, Nat.reduceMul, Int.reduceLT, Int.reduceLE, Int.reduceEq, Int.reduceAdd, Int.reduceSub, Int.reduceMul]
  have sl := fun t lo hi r x => pSubS (P := Try.prog) (t := t) Try.underlying9 x lo hi r
  have cv := fun t r x => pConv2 (P := Try.prog) (t := t) Try.underlying3 Try.underlying21 r x
  have key : W3 (callN Try.prog (fsT tbl) fuel (d + 4) (.fn 15) [STR l] mem0) (fun r _ => ∃ r', r = .tup [r', I64 (ofE l)] ∧ Sl 1 isI32 r' (ofM l)) := by
    refine call_gc tf15 rfl (ic mem0) (by simp [a15]) fun b ht hx => ?_
    have h0 := hx 0 _ rfl
    clear hx
    simp only [a15, c15] at ht ⊢
    simp (maxSteps := 2000000) (disch := first | omega | assumption | (simp only [DS, Nat.reduceAdd, *]; done) | (simp only [DZ]; omega)) only [RUN, RU, footA, feetIn, resultsA, tupOf, frzL, slot, lay, icyL, fillA, repCells, kR, reduceIte, Nat.reduceEqDiff, Nat.reduceBEq, Nat.reduceLT, Nat.reduceAdd, Nat.reduceLeDiff, Nat.reduceSub, Nat.reduceMul, Int.reduceLT, Int.reduceLE, Int.reduceEq, Int.reduceAdd, Int.reduceSub, Int.reduceMul, h0]
    refine w_loop (I := fun n t N => ∃ (cur : List UInt8) (o : AV) (acc : List Int), n = cur.length ∧ nth undefA t 0 = STR cur ∧ nth undefA t 4 = o ∧ Wf N ∧ SlM N 1 isI32 o acc ∧ cur.length + acc.length ≤ l.length ∧ ofL l = (ofL cur).map (acc ++ ·)) (n := l.length) (by omega) ?_ ?_
    · refine ⟨l, NIL, [], rfl, ?_, ?_, Wf.mem0, SlM.nil, by simp, by simp⟩ <;> simp (maxSteps := 2000000) (disch := first | omega | assumption | (simp only [DS, Nat.reduceAdd, *]; done) | (simp only [DZ]; omega)) only [RUN, RU, footA, feetIn, resultsA, tupOf, frzL, slot, lay, icyL, fillA, repCells, kR, reduceIte, Nat.reduceEqDiff, Nat.reduceBEq, Nat.reduceLT, Nat.reduceAdd, Nat.reduceLeDiff, Nat.reduceSub, Nat.reduceMul, Int.reduceLT, Int.reduceLE, Int.reduceEq, Int.reduceAdd, Int.reduceSub, Int.reduceMul, h0]
    · rintro n t N hl' ⟨cur, o, acc, rfl, t0, t4, wfN, hN, hacc, hof⟩
      simp only [ht] at hl' ⊢
      clear h0 ht b
      by_cases hne : cur = []
      · subst hne
        have q0 : decide (([] : List UInt8) = []) = true := rfl
        simp only [ofL_nil, Option.map_some, List.append_nil] at hof
        have ln := hN.len
        obtain ⟨r, hSr, hfz⟩ := slm_frz2 hN cel_I32 12 (by omega)
        have hfz := hfz N (fun _ _ => rfl)
        by_cases h64 : 64 < acc.length
        · have q1 : decide ((64 : Int) < acc.length) = true := decide_eq_true (by omega)
          have q2 : ofE l = 4 := by simp [ofE, hof, h64]
          have q3 : ofM l = [] := by simp [ofM, hof, h64]
          rw [q2, q3]
          simp (maxSteps := 2000000) (disch := first | omega | assumption | (simp only [DS, Nat.reduceAdd, *]; done) | (simp only [DZ]; omega)) only [RUN, RU, footA, feetIn, resultsA, tupOf, frzL, slot, lay, icyL, fillA, repCells, kR, reduceIte, Nat.reduceEqDiff, Nat.reduceBEq, Nat.reduceLT, Nat.reduceAdd, Nat.reduceLeDiff, Nat.reduceSub, Nat.reduceMul, Int.reduceLT, Int.reduceLE, Int.reduceEq, Int.reduceAdd, Int.reduceSub, Int.reduceMul, t0, t4, q0, ln, q1]
          exact ⟨_, rfl, .inl ⟨rfl, rfl⟩⟩
        · have q1 : decide ((64 : Int) < acc.length) = false := decide_eq_false (by omega)
          have q2 : ofE l = 0 := by simp [ofE, hof, h64]
          have q3 : ofM l = acc := by simp [ofM, hof, h64]
          rw [q2, q3]
          simp (maxSteps := 2000000) (disch := first | omega | assumption | (simp only [DS, Nat.reduceAdd, *]; done) | (simp only [DZ]; omega)) only [RUN, RU, footA, feetIn, resultsA, tupOf, frzL, slot, lay, icyL, fillA, repCells, kR, reduceIte, Nat.reduceEqDiff, Nat.reduceBEq, Nat.reduceLT, Nat.reduceAdd, Nat.reduceLeDiff, Nat.reduceSub, Nat.reduceMul, Int.reduceLT, Int.reduceLE, Int.reduceEq, Int.reduceAdd, Int.reduceSub, Int.reduceMul, t0, t4, q0, ln, q1, hfz]
          exact ⟨_, rfl, hSr⟩
      · have q0 : decide (cur = []) = false := decide_eq_false hne
        have fr := fun M => first_run (fuel := fuel) (d := d) cur hne (by omega) (by omega) M
        cases hfi : firstL cur with
        | none =>
          rw [hfi] at fr
          replace fr : ∀ M, callN Try.prog (fsT tbl) fuel (d + 3) (.fn 31) [STR cur] M = some (.tup [I64 0, I64 0], M) := fr
          rw [ofL_eq _ hne, hfi] at hof
          have q1 : ofE l = 3 := by simp [ofE, hof]
          have q2 : ofM l = [] := by simp [ofM, hof]
          rw [q1, q2]
          simp (maxSteps := 2000000) (disch := first | omega | assumption | (simp only [DS, Nat.reduceAdd, *]; done) | (simp only [DZ]; omega)) only [RUN, RU, footA, feetIn, resultsA, tupOf, frzL, slot, lay, icyL, fillA, repCells, kR, reduceIte, Nat.reduceEqDiff, Nat.reduceBEq, Nat.reduceLT, Nat.reduceAdd, Nat.reduceLeDiff, Nat.reduceSub, Nat.reduceMul, Int.reduceLT, Int.reduceLE, Int.reduceEq, Int.reduceAdd, Int.reduceSub, Int.reduceMul, t0, t4, q0, fr]
          exact ⟨_, rfl, .inl ⟨rfl, rfl⟩⟩
        | some p =>
          obtain ⟨n, k⟩ := p
          obtain ⟨b1, b2, b3, b4⟩ := firstL_bytes hfi
          rw [hfi] at fr
          simp only [Option.getD_some] at fr
          have hof2 := ofL_step hof hne hfi
          have hn : n ≤ 1114111 := by simp [isR] at b1; omega
          have q1 : decide ((k : Int) = 0) = false := decide_eq_false (by omega)
          have w1 : IntKind.i32.wrap (n : Int) = (n : Int) := by simp [IntKind.wrap, IntKind.bits, IntKind.signed]; omega
          have oo := hN.one
          have oco := hN.cells
          have rlo := rows_lt hN.rl (show N.size ≤ N.size + 1 by omega)
          have sf := fun d => sub_from (d := d) b4
          simp (maxSteps := 2000000) (disch := first | omega | assumption | (simp only [DS, Nat.reduceAdd, *]; done) | (simp only [DZ]; omega)) only [RUN, RU, footA, feetIn, resultsA, tupOf, frzL, slot, lay, icyL, fillA, repCells, kR, reduceIte, Nat.reduceEqDiff, Nat.reduceBEq, Nat.reduceLT, Nat.reduceAdd, Nat.reduceLeDiff, Nat.reduceSub, Nat.reduceMul, Int.reduceLT, Int.reduceLE, Int.reduceEq, Int.reduceAdd, Int.reduceSub, Int.reduceMul, t0, t4, q0, fr, q1, cv, pc1_int, w1, oo, oco, rlo, wfN]
          refine w3_appc (by simp (maxSteps := 2000000) (disch := first | omega | assumption | (simp only [DS, Nat.reduceAdd, *]; done) | (simp only [DZ]; omega)) only [RUN, RU, footA, feetIn, resultsA, tupOf, frzL, slot, lay, icyL, fillA, repCells, kR, reduceIte, Nat.reduceEqDiff, Nat.reduceBEq, Nat.reduceLT, Nat.reduceAdd, Nat.reduceLeDiff, Nat.reduceSub, Nat.reduceMul, Int.reduceLT, Int.reduceLE, Int.reduceEq, Int.reduceAdd, Int.reduceSub, Int.reduceMul, wfN]) (hN.keep fun j hj => ?kp) cel_I32 (l' := [(n : Int)]) (new := [[I32 n]]) (cells_lit (cs := [I32 n]) (n := 1) (st := 1) (get_add_new wfN _ _ (Nat.le_refl _) (Nat.lt_succ_self _)) rfl) rfl (.cons ⟨rfl, by omega, by omega⟩ .nil) (by simp) (by omega) (by simp; omega) (by simp; omega) fun o4 M4 m4 wf4 le4 sz4 kp4 nw4 wm4 rl4 on4 oc4 => ?_
          case kp =>
            have := hN.lt j hj
            simp (maxSteps := 2000000) (disch := first | omega | assumption | (simp only [DS, Nat.reduceAdd, *]; done) | (simp only [DZ]; omega)) only [RUN, RU, footA, feetIn, resultsA, tupOf, frzL, slot, lay, icyL, fillA, repCells, kR, reduceIte, Nat.reduceEqDiff, Nat.reduceBEq, Nat.reduceLT, Nat.reduceAdd, Nat.reduceLeDiff, Nat.reduceSub, Nat.reduceMul, Int.reduceLT, Int.reduceLE, Int.reduceEq, Int.reduceAdd, Int.reduceSub, Int.reduceMul, wfN]
          simp (maxSteps := 2000000) (disch := first | omega | assumption | (simp only [DS, Nat.reduceAdd, *]; done) | (simp only [DZ]; omega)) only [RUN, RU, footA, feetIn, resultsA, tupOf, frzL, slot, lay, icyL, fillA, repCells, kR, reduceIte, Nat.reduceEqDiff, Nat.reduceBEq, Nat.reduceLT, Nat.reduceAdd, Nat.reduceLeDiff, Nat.reduceSub, Nat.reduceMul, Int.reduceLT, Int.reduceLE, Int.reduceEq, Int.reduceAdd, Int.reduceSub, Int.reduceMul, t0, t4, sl, sf]
          exact ⟨hl', (cur.drop k).length, by rw [List.length_drop]; omega, cur.drop k, o4, acc ++ [(n : Int)], rfl, rfl, rfl, wf4, m4, by rw [List.length_drop]; simp; omega, hof2⟩
  obtain ⟨r, N, hcl, r', rfl, hSr⟩ := key
  exact ⟨r', hSr, fun M => call_own tf15 rfl hcl (ic mem0) (ic M)⟩
end Go.Proofs.Ytlccfbaibcdodaa
