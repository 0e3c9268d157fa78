/-
  The reference for runes: Get.
-/
import Derived.Test.YtlccfbaibcdodaaRtD
set_option linter.unusedSimpArgs false
set_option linter.unusedVariables false
set_option maxRecDepth 100000
namespace Go.Proofs.Ytlccfbaibcdodaa
open Go Go.Ax
variable {fuel : Nat} {M : Mem} {Q : AV → Mem → Prop} {d : Nat}

theorem nums_take : ∀ (k : Nat) (b : List UInt8), nums (b.take (4 * k)) = (nums b).take k
  | 0, b => by simp [nums]
  | k + 1, b => by
    match b with
    | [] => simp [nums]
    | [x] => simp [nums, show 4 * (k + 1) = 4 * k + 3 + 1 by omega]
    | [x, y] => simp [nums, show 4 * (k + 1) = 4 * k + 2 + 1 + 1 by omega]
    | [x, y, z] => simp [nums, show 4 * (k + 1) = 4 * k + 1 + 1 + 1 + 1 by omega]
    | x :: y :: z :: u :: b =>
      rw [show 4 * (k + 1) = 4 * k + 1 + 1 + 1 + 1 by omega]
      simp only [List.take_succ_cons, nums]
      rw [nums_take k b]
theorem getF_bad {b : List UInt8} {k : Nat} {x : Int} (hl : b.length ≤ 256) (hx : x ∈ nums (b.take (4 * k))) (hb : okR x = false) : getF b = ([], 8) := by
  rw [nums_take] at hx
  have hx := List.mem_of_mem_take hx
  have hn := nums_len b
  have hc : chk (nums b) = 8 := by
    unfold chk
    rw [if_neg (by omega), if_neg]
    intro h
    rw [List.all_eq_true] at h
    rw [h x hx] at hb; cases hb
  unfold getF
  rw [if_neg (by omega)]
  split
  · rfl
  · rw [hc, if_pos (by decide)]
theorem wrap32 (v : Nat) (hv : v < 4294967296) : (v = 4294967295 → IntKind.i32.wrap (v : Int) = -1) ∧ (isR v = true → IntKind.i32.wrap (v : Int) = v) ∧ (v ≠ 4294967295 → isR v = false → okR (IntKind.i32.wrap (v : Int)) = false) := by
  refine ⟨?_, ?_, ?_⟩
  · rintro rfl; decide
  · intro h
    simp [isR] at h
    simp [IntKind.wrap, IntKind.bits, IntKind.signed]; omega
  · intro h1 h2
    have hw : IntKind.i32.wrap (v : Int) = v ∧ v < 2147483648 ∨ IntKind.i32.wrap (v : Int) = (v : Int) - 4294967296 ∧ 2147483648 ≤ v := by
      simp [IntKind.wrap, IntKind.bits, IntKind.signed]; omega
    rcases hw with ⟨hw, h3⟩ | ⟨hw, h3⟩
    · rw [hw]
      unfold okR
      rw [valid_isR, h2]
      simp
    · rw [hw]
      simp only [okR, valid, Bool.or_eq_false_iff, Bool.and_eq_false_iff, decide_eq_false_iff_not]
      omega
set_option maxHeartbeats 16000000 in
theorem rget_run {a : AV} {b : List UInt8} (hS : Bs a b) (hl : b.length ≤ 100000) (hf : 2000 < fuel) : ∃ r, Sl 1 isI32 r (getF b).1 ∧ ∀ M, callN Try.prog (fsT tbl) fuel (d + 2) (.fn 17) [a] M = some (.tup [r, I64 (getF b).2], M) := by
  have ic : ∀ M, icyL (icy 12) M [a] = some ([a], M) := fun M => by simp (maxSteps := 2000000) (disch := first | omega | assumption | (simp only [DS, Nat.reduceAdd, *]; done) | (simp only [DZ]; omega)) only [RUN, RU, footA, feetIn, resultsA, tupOf, frzL, slot, lay, icyL, fillA, repCells, kR, reduceIte, Nat.reduceEqDiff, Nat.reduceBEq, Nat.reduceLT, Nat.reduceAdd, Nat.reduceLeDiff, Nat.reduceSub, Nat.reduceMul, Int.reduceLT, Int.reduceLE, Int.reduceEq, Int.reduceAdd, Int.reduceSub, Int.reduceMul, hS.icy]
  have hlen := hS.len
  have cv := fun t r x => pConv2 (P := Try.prog) (t := t) Try.underlying5 Try.underlying3 r x
  have cw := fun t r x => pConv2 (P := Try.prog) (t := t) Try.underlying3 Try.underlying21 r x
  have key : W3 (callN Try.prog (fsT tbl) fuel (d + 2) (.fn 17) [a] mem0) (fun r _ => ∃ r', r = .tup [r', I64 (getF b).2] ∧ Sl 1 isI32 r' (getF b).1) := by
    refine call_gc tf17 rfl (ic mem0) (by simp [a17]) fun b' ht hx => ?_
    have h0 := hx 0 _ rfl
    clear hx
    simp only [a17, c17] at ht ⊢
    by_cases h256 : 256 < b.length
    · have q1 : decide ((256 : Int) < b.length) = true := decide_eq_true (by omega)
      rw [show getF b = ([], 4) by unfold getF; rw [if_pos h256]]
      simp (maxSteps := 2000000) (disch := first | omega | assumption | (simp only [DS, Nat.reduceAdd, *]; done) | (simp only [DZ]; omega)) only [RUN, RU, footA, feetIn, resultsA, tupOf, frzL, slot, lay, icyL, fillA, repCells, kR, reduceIte, Nat.reduceEqDiff, Nat.reduceBEq, Nat.reduceLT, Nat.reduceAdd, Nat.reduceLeDiff, Nat.reduceSub, Nat.reduceMul, Int.reduceLT, Int.reduceLE, Int.reduceEq, Int.reduceAdd, Int.reduceSub, Int.reduceMul, h0, hlen, q1]
      exact ⟨_, rfl, .inl ⟨rfl, rfl⟩⟩
    have q1 : decide ((256 : Int) < b.length) = false := decide_eq_false (by omega)
    simp (maxSteps := 2000000) (disch := first | omega | assumption | (simp only [DS, Nat.reduceAdd, *]; done) | (simp only [DZ]; omega)) only [RUN, RU, footA, feetIn, resultsA, tupOf, frzL, slot, lay, icyL, fillA, repCells, kR, reduceIte, Nat.reduceEqDiff, Nat.reduceBEq, Nat.reduceLT, Nat.reduceAdd, Nat.reduceLeDiff, Nat.reduceSub, Nat.reduceMul, Int.reduceLT, Int.reduceLE, Int.reduceEq, Int.reduceAdd, Int.reduceSub, Int.reduceMul, h0, hlen, q1]
    refine w_loop (I := fun n t N => ∃ (i : Nat) (o : AV), i ≤ b.length ∧ i % 4 = 0 ∧ n = b.length - i ∧ nth undefA t 0 = a ∧ nth undefA t 4 = o ∧ nth undefA t 5 = I64 i ∧ Wf N ∧ SlM N 1 isI32 o (nums (b.take i)) ∧ ∀ x ∈ nums (b.take i), okR x = true) (n := b.length) (by omega) ?_ ?_
    · refine ⟨0, NIL, by omega, rfl, by omega, ?_, ?_, ?_, Wf.mem0, SlM.nil, by simp [nums]⟩ <;> simp (maxSteps := 2000000) (disch := first | omega | assumption | (simp only [DS, Nat.reduceAdd, *]; done) | (simp only [DZ]; omega)) only [RUN, RU, footA, feetIn, resultsA, tupOf, frzL, slot, lay, icyL, fillA, repCells, kR, reduceIte, Nat.reduceEqDiff, Nat.reduceBEq, Nat.reduceLT, Nat.reduceAdd, Nat.reduceLeDiff, Nat.reduceSub, Nat.reduceMul, Int.reduceLT, Int.reduceLE, Int.reduceEq, Int.reduceAdd, Int.reduceSub, Int.reduceMul, h0]
      all_goals rfl
    · rintro n t N hl' ⟨i, o, hi, hi4, hn, t0, t4, t5, wfN, hN, hok⟩
      simp only [ht] at hl' ⊢
      clear h0 ht b'
      have w3 : IntKind.i64.wrap ((i : Int) + 3) = ((i + 3 : Nat) : Int) := by rw [wrap_i64] <;> omega
      by_cases hlt : i + 3 < b.length
      · have hc' : decide (((i + 3 : Nat) : Int) < b.length) = true := decide_eq_true (by omega)
        have w1 : IntKind.i64.wrap ((i : Int) + 1) = ((i + 1 : Nat) : Int) := by rw [wrap_i64] <;> omega
        have w2 : IntKind.i64.wrap ((i : Int) + 2) = ((i + 2 : Nat) : Int) := by rw [wrap_i64] <;> omega
        have w4 : IntKind.i64.wrap ((i : Int) + 4) = ((i + 4 : Nat) : Int) := by rw [wrap_i64] <;> omega
        obtain ⟨r0, i0, e0, _⟩ := hS.iad i (by omega)
        obtain ⟨r1, i1, e1, _⟩ := hS.iad (i + 1) (by omega)
        obtain ⟨r2, i2, e2, _⟩ := hS.iad (i + 2) (by omega)
        obtain ⟨r3, i3, e3, _⟩ := hS.iad (i + 3) (by omega)
        have hfour : (b.drop i).take 4 = [b[i]'(by omega), b[i + 1]'(by omega), b[i + 2]'(by omega), b[i + 3]'(by omega)] := by
          rw [List.drop_eq_getElem_cons (by omega : i < b.length), List.drop_eq_getElem_cons (by omega : i + 1 < b.length), List.drop_eq_getElem_cons (by omega : i + 1 + 1 < b.length), List.drop_eq_getElem_cons (by omega : i + 1 + 1 + 1 < b.length)]
          rfl
        generalize b[i]'(by omega) = c0 at *
        generalize b[i + 1]'(by omega) = c1 at *
        generalize b[i + 2]'(by omega) = c2 at *
        generalize b[i + 3]'(by omega) = c3 at *
        simp only [isU8] at e0 e1 e2 e3
        subst e0 e1 e2 e3
        have t00 := c0.toNat_lt
        have t01 := c1.toNat_lt
        have t02 := c2.toNat_lt
        have t03 := c3.toNat_lt
        have u0 : IntKind.i64.wrap (c0.toNat : Int) = (c0.toNat : Int) := by rw [wrap_i64] <;> omega
        have u1 : IntKind.i64.wrap (c1.toNat : Int) = (c1.toNat : Int) := by rw [wrap_i64] <;> omega
        have u2 : IntKind.i64.wrap (c2.toNat : Int) = (c2.toNat : Int) := by rw [wrap_i64] <;> omega
        have u3 : IntKind.i64.wrap (c3.toNat : Int) = (c3.toNat : Int) := by rw [wrap_i64] <;> omega
        have m0 : IntKind.i64.wrap (16777216 * (c0.toNat : Int)) = ((c0.toNat * 16777216 : Nat) : Int) := by rw [wrap_i64] <;> omega
        have m1 : IntKind.i64.wrap (65536 * (c1.toNat : Int)) = ((c1.toNat * 65536 : Nat) : Int) := by rw [wrap_i64] <;> omega
        have m2 : IntKind.i64.wrap (256 * (c2.toNat : Int)) = ((c2.toNat * 256 : Nat) : Int) := by rw [wrap_i64] <;> omega
        have s1 : IntKind.i64.wrap (((c0.toNat * 16777216 : Nat) : Int) + ((c1.toNat * 65536 : Nat) : Int)) = ((c0.toNat * 16777216 + c1.toNat * 65536 : Nat) : Int) := by rw [wrap_i64] <;> omega
        have s2 : IntKind.i64.wrap (((c0.toNat * 16777216 + c1.toNat * 65536 : Nat) : Int) + ((c2.toNat * 256 : Nat) : Int)) = ((c0.toNat * 16777216 + c1.toNat * 65536 + c2.toNat * 256 : Nat) : Int) := by rw [wrap_i64] <;> omega
        have s3 : IntKind.i64.wrap (((c0.toNat * 16777216 + c1.toNat * 65536 + c2.toNat * 256 : Nat) : Int) + (c3.toNat : Int)) = ((num4 c0 c1 c2 c3 : Nat) : Int) := by
          unfold num4; rw [wrap_i64] <;> omega
        have hv : num4 c0 c1 c2 c3 < 4294967296 := by unfold num4; omega
        have hns : nums (b.take (i + 4)) = nums (b.take i) ++ [IntKind.i32.wrap (num4 c0 c1 c2 c3 : Nat)] := by
          refine nums_four (b.take i) ⟨i / 4, ?_, by rw [List.length_take]; omega⟩
          rw [← hfour, List.take_add]
        have hnl := nums_len (b.take i)
        rw [List.length_take] at hnl
        generalize num4 c0 c1 c2 c3 = v at *
        obtain ⟨k1, k2, k3⟩ := wrap32 v hv
        have isr := fun M => is_run (fuel := fuel) (d := d) (M := M) (v : Int)
        rw [valid_isR] at isr
        have oo := hN.one
        have oco := hN.cells
        have rlo := rows_lt hN.rl (show N.size ≤ N.size + 1 by omega)
        have next : ∀ (o' : AV) (N' : Mem) (x : Int), x = IntKind.i32.wrap (v : Int) → okR x = true → Wf N' → SlM N' 1 isI32 o' (nums (b.take i) ++ [x]) → ∃ m, m < n ∧ ∃ (i' : Nat) (o'' : AV), i' ≤ b.length ∧ i' % 4 = 0 ∧ m = b.length - i' ∧ o' = o'' ∧ I64 ((i + 4 : Nat) : Int) = I64 i' ∧ Wf N' ∧ SlM N' 1 isI32 o'' (nums (b.take i')) ∧ ∀ x ∈ nums (b.take i'), okR x = true := by
          rintro o' N' x rfl hx h1 h2
          refine ⟨b.length - (i + 4), by omega, i + 4, o', by omega, by omega, rfl, rfl, rfl, h1, by rw [hns]; exact h2, ?_⟩
          rw [hns]
          intro y hy
          rcases List.mem_append.1 hy with h | h
          · exact hok y h
          · simp at h; subst h; exact hx
        by_cases hq : v = 4294967295
        · have q2 : decide ((v : Int) = 4294967295) = true := decide_eq_true (by omega)
          simp (maxSteps := 2000000) (disch := first | omega | assumption | (simp only [DS, Nat.reduceAdd, *]; done) | (simp only [DZ]; omega)) only [RUN, RU, footA, feetIn, resultsA, tupOf, frzL, slot, lay, icyL, fillA, repCells, kR, reduceIte, Nat.reduceEqDiff, Nat.reduceBEq, Nat.reduceLT, Nat.reduceAdd, Nat.reduceLeDiff, Nat.reduceSub, Nat.reduceMul, Int.reduceLT, Int.reduceLE, Int.reduceEq, Int.reduceAdd, Int.reduceSub, Int.reduceMul, t0, t4, t5, hlen, w1, w2, w3, w4, hc', i0, i1, i2, i3, cv, cw, pc1_int, u0, u1, u2, u3, m0, m1, m2, s1, s2, s3, q2, oo, oco, rlo, wfN]
          refine w3_one wfN hN cel_I32 (x := -1) ⟨rfl, by omega, by omega⟩ (by omega) (by omega) fun o4 M4 m4 wf4 le4 kp4 nw4 wm4 rl4 on4 oc4 => ?_
          simp (maxSteps := 2000000) (disch := first | omega | assumption | (simp only [DS, Nat.reduceAdd, *]; done) | (simp only [DZ]; omega)) only [RUN, RU, footA, feetIn, resultsA, tupOf, frzL, slot, lay, icyL, fillA, repCells, kR, reduceIte, Nat.reduceEqDiff, Nat.reduceBEq, Nat.reduceLT, Nat.reduceAdd, Nat.reduceLeDiff, Nat.reduceSub, Nat.reduceMul, Int.reduceLT, Int.reduceLE, Int.reduceEq, Int.reduceAdd, Int.reduceSub, Int.reduceMul, t0, t4, t5, w4]
          exact ⟨hl', next o4 M4 (-1) (k1 hq).symm rfl wf4 m4⟩
        · have q2 : decide ((v : Int) = 4294967295) = false := decide_eq_false (by omega)
          cases hR : isR v with
          | true =>
            rw [hR] at isr
            have kk := k2 hR
            have hv2 : v ≤ 1114111 := by simp [isR] at hR; omega
            simp (maxSteps := 2000000) (disch := first | omega | assumption | (simp only [DS, Nat.reduceAdd, *]; done) | (simp only [DZ]; omega)) only [RUN, RU, footA, feetIn, resultsA, tupOf, frzL, slot, lay, icyL, fillA, repCells, kR, reduceIte, Nat.reduceEqDiff, Nat.reduceBEq, Nat.reduceLT, Nat.reduceAdd, Nat.reduceLeDiff, Nat.reduceSub, Nat.reduceMul, Int.reduceLT, Int.reduceLE, Int.reduceEq, Int.reduceAdd, Int.reduceSub, Int.reduceMul, t0, t4, t5, hlen, w1, w2, w3, w4, hc', i0, i1, i2, i3, cv, cw, pc1_int, u0, u1, u2, u3, m0, m1, m2, s1, s2, s3, q2, isr, kk, oo, oco, rlo, wfN]
            refine w3_one wfN hN cel_I32 (x := (v : Int)) ⟨rfl, by omega, by omega⟩ (by omega) (by omega) fun o4 M4 m4 wf4 le4 kp4 nw4 wm4 rl4 on4 oc4 => ?_
            simp (maxSteps := 2000000) (disch := first | omega | assumption | (simp only [DS, Nat.reduceAdd, *]; done) | (simp only [DZ]; omega)) only [RUN, RU, footA, feetIn, resultsA, tupOf, frzL, slot, lay, icyL, fillA, repCells, kR, reduceIte, Nat.reduceEqDiff, Nat.reduceBEq, Nat.reduceLT, Nat.reduceAdd, Nat.reduceLeDiff, Nat.reduceSub, Nat.reduceMul, Int.reduceLT, Int.reduceLE, Int.reduceEq, Int.reduceAdd, Int.reduceSub, Int.reduceMul, t0, t4, t5, w4]
            exact ⟨hl', next o4 M4 v kk.symm (by unfold okR; rw [valid_isR, hR]; simp) wf4 m4⟩
          | false =>
            rw [hR] at isr
            have hbad : getF b = ([], 8) := getF_bad (k := i / 4 + 1) (x := IntKind.i32.wrap (v : Int)) (by omega) (by rw [show 4 * (i / 4 + 1) = i + 4 by omega, hns]; simp) (k3 hq hR)
            rw [hbad]
            simp (maxSteps := 2000000) (disch := first | omega | assumption | (simp only [DS, Nat.reduceAdd, *]; done) | (simp only [DZ]; omega)) only [RUN, RU, footA, feetIn, resultsA, tupOf, frzL, slot, lay, icyL, fillA, repCells, kR, reduceIte, Nat.reduceEqDiff, Nat.reduceBEq, Nat.reduceLT, Nat.reduceAdd, Nat.reduceLeDiff, Nat.reduceSub, Nat.reduceMul, Int.reduceLT, Int.reduceLE, Int.reduceEq, Int.reduceAdd, Int.reduceSub, Int.reduceMul, t0, t4, t5, hlen, w1, w2, w3, w4, hc', i0, i1, i2, i3, cv, cw, pc1_int, u0, u1, u2, u3, m0, m1, m2, s1, s2, s3, q2, isr]
            exact ⟨_, rfl, .inl ⟨rfl, rfl⟩⟩
      · have hc' : decide (((i + 3 : Nat) : Int) < b.length) = false := decide_eq_false (by omega)
        have tm : Int.tmod (b.length : Int) 4 = ((b.length % 4 : Nat) : Int) := by rw [Int.tmod_eq_emod_of_nonneg (by omega)]; omega
        have z4 : ((4 : Int) = 0) = False := by simp
        by_cases hm : b.length % 4 = 0
        · have q2 : decide (((b.length % 4 : Nat) : Int) = 0) = true := decide_eq_true (by omega)
          obtain rfl : i = b.length := by omega
          rw [List.take_length] at hN hok
          have hnl := nums_len b
          have hck : chk (nums b) = 0 := by unfold chk; rw [if_neg (by omega), if_pos (List.all_eq_true.2 hok)]
          rw [show getF b = (nums b, 0) by unfold getF; rw [if_neg h256, if_neg (by omega), hck, if_neg (by decide)]]
          obtain ⟨r, hfz, hSr⟩ := hN.frz cel_I32 (k := 12) (by omega)
          simp (maxSteps := 2000000) (disch := first | omega | assumption | (simp only [DS, Nat.reduceAdd, *]; done) | (simp only [DZ]; omega)) only [RUN, RU, footA, feetIn, resultsA, tupOf, frzL, slot, lay, icyL, fillA, repCells, kR, reduceIte, Nat.reduceEqDiff, Nat.reduceBEq, Nat.reduceLT, Nat.reduceAdd, Nat.reduceLeDiff, Nat.reduceSub, Nat.reduceMul, Int.reduceLT, Int.reduceLE, Int.reduceEq, Int.reduceAdd, Int.reduceSub, Int.reduceMul, t0, t4, t5, hlen, w3, hc', vRem, z4, tm, q2, hfz]
          exact ⟨_, rfl, hSr⟩
        · have q2 : decide (((b.length % 4 : Nat) : Int) = 0) = false := decide_eq_false (by omega)
          rw [show getF b = ([], 8) by unfold getF; rw [if_neg h256, if_pos hm]]
          simp (maxSteps := 2000000) (disch := first | omega | assumption | (simp only [DS, Nat.reduceAdd, *]; done) | (simp only [DZ]; omega)) only [RUN, RU, footA, feetIn, resultsA, tupOf, frzL, slot, lay, icyL, fillA, repCells, kR, reduceIte, Nat.reduceEqDiff, Nat.reduceBEq, Nat.reduceLT, Nat.reduceAdd, Nat.reduceLeDiff, Nat.reduceSub, Nat.reduceMul, Int.reduceLT, Int.reduceLE, Int.reduceEq, Int.reduceAdd, Int.reduceSub, Int.reduceMul, t0, t4, t5, hlen, w3, hc', vRem, z4, tm, q2]
          exact ⟨_, rfl, .inl ⟨rfl, rfl⟩⟩
  obtain ⟨r, N, hcl, r', rfl, hSr⟩ := key
  exact ⟨r', hSr, fun M => call_own tf17 rfl hcl (ic mem0) (ic M)⟩
end Go.Proofs.Ytlccfbaibcdodaa
