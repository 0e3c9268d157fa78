/-
  The statement PurgeParts: the run.
-/
import Derived.Test.YtjbninmklbkklaaDoorPuL
import Derived.Test.YtjbninmklbkklaaDoorPuR0
set_option linter.unusedSimpArgs false
set_option linter.unusedVariables false
set_option maxRecDepth 100000
namespace Go.Proofs.YtjbninmklbkklaaDoor
open Go Go.Ax
variable {fuel : Nat} {M : Mem} {Q : AV → Mem → Prop} {d : Nat}

theorem hand1 {α : Type} {P : Program} {fs : Nat → Option AFunc} {f : Nat} {af : AFunc} {X : Mem} {st n : Nat} {T : List AV → α → Prop} {o y : AV} {l : List α} {R : AV → Prop} (h : fs f = some af) (hg : af.gc = 1) (hm : SlM X st T o l) (wf : Wf X) (hT : CelI T) (hy : ∀ M, icy 12 M y = some (y, M))
    (hc : ∀ a', Sl st T a' l → ∃ r, R r ∧ ∀ M, callN P fs fuel (n + 1) (.fn f) [a', y] M = some (r, M)) : ∃ r X', R r ∧ callN P fs fuel (n + 1) (.fn f) [o, y] X = some (r, X') ∧ Wf X' ∧ X'.size = X.size ∧ ∀ j, rowOf o ≠ some j → X'.get j = X.get j := by
  obtain ⟨a', M', hi, hS, wf', hs, hk, _⟩ := hm.hand wf hT (k := 12) (by omega)
  obtain ⟨r, hr, hcall⟩ := hc a' hS
  exact ⟨r, M', hr, call_own (bs := [a', y]) h hg (hcall mem0) (M3 := mem0) (by simp only [icyL, hS.icy mem0 12 (by omega), hy]) (by simp only [icyL, hi, hy]), wf', hs, hk⟩
theorem hand2 {α : Type} {P : Program} {fs : Nat → Option AFunc} {f : Nat} {af : AFunc} {X : Mem} {st n : Nat} {T : List AV → α → Prop} {o y : AV} {l : List α} {R : AV → Prop} (h : fs f = some af) (hg : af.gc = 1) (hm : SlM X st T o l) (wf : Wf X) (hT : CelI T) (hy : ∀ M, icy 12 M y = some (y, M))
    (hc : ∀ a', Sl st T a' l → ∃ r, R r ∧ ∀ M, callN P fs fuel (n + 1) (.fn f) [y, a'] M = some (r, M)) : ∃ r X', R r ∧ callN P fs fuel (n + 1) (.fn f) [y, o] X = some (r, X') ∧ Wf X' ∧ X'.size = X.size ∧ ∀ j, rowOf o ≠ some j → X'.get j = X.get j := by
  obtain ⟨a', M', hi, hS, wf', hs, hk, _⟩ := hm.hand wf hT (k := 12) (by omega)
  obtain ⟨r, hr, hcall⟩ := hc a' hS
  exact ⟨r, M', hr, call_own (bs := [y, a']) h hg (hcall mem0) (M3 := mem0) (by simp only [icyL, hS.icy mem0 12 (by omega), hy]) (by simp only [icyL, hi, hy]), wf', hs, hk⟩
theorem apart2_w (i n n' : Nat) (ws : List Nat) (h : i < n) (hw : ∀ j ∈ ws, i < j) : apart2 (.acc [i] []) (fpOf [] ws n n', n, n') = true := by
  have hb : Nat.ble n i = false := by
    cases hc : Nat.ble n i with
    | false => rfl
    | true => have := Nat.le_of_ble_eq_true hc; omega
  have hd : disj [i] ws = true := by
    simp only [disj, List.all_cons, List.all_nil, Bool.and_true, Bool.not_eq_true']
    rw [← Bool.not_eq_true, List.contains_iff_mem]
    exact fun hm => by have := hw i hm; omega
  unfold fpOf
  split
  · rename_i he
    simp [apart2, FP.apart, FP.reads, FP.writes, hb, he]
  · rename_i he
    simp [apart2, FP.apart, disj, FP.reads, FP.writes, hb, he]
    simpa [disj] using hd
theorem slm_ge {α : Type} {M : Mem} {st n : Nat} {T : List AV → α → Prop} {a : AV} {l : List α} (h : SlM M st T a l) (k : ∀ id, rowOf a = some id → n ≤ id) : ∀ j ∈ rowsOf a, n ≤ j := by
  rcases h with ⟨rfl, rfl⟩ | ⟨id, rows, cap, rfl, _⟩
  · intro j hj; cases hj
  · intro j hj
    simp only [rowsOf, List.mem_singleton] at hj
    subst hj
    exact k j rfl
theorem alive_run (M : Mem) : callN Tryd.prog (fsT tbl) 100000 20 (.fn 7) [] M = some (BL true, M) := closed_true tf7 rfl alive0 M
set_option maxHeartbeats 4000000 in
theorem same_run {a b : AV} {l : List Ev} (h1 : Sl 17 isEv a l) (h2 : Sl 17 isEv b l) (hl : l.length ≤ 1000000) (hcr : ∀ e ∈ l, e.crash.length ≤ 1000000 ∧ e.crash.length < fuel) (hf : l.length < fuel) (M : Mem) : callN Tryd.prog (fsT tbl) fuel (d + 3) (.fn 10) [a, b] M = some (BL true, M) := by
  have la := h1.len
  have lb := h2.len
  have ra := h1.rows mem0
  have rb := h2.rows mem0
  have q0 : decide ((l.length : Int) = l.length) = true := decide_eq_true rfl
  apply w3_eq
  refine call_gc tf10 rfl (by simp (maxSteps := 2000000) (disch := first | omega | assumption | (simp only [DS, Nat.reduceAdd, *]; done) | (simp only [DZ]; omega)) only [RUN, RU, footA, feetIn, resultsA, tupOf, frzL, slot, lay, icyL, fillA, repCells, kR, reduceIte, Nat.reduceEqDiff, Nat.reduceBEq, Nat.reduceLT, Nat.reduceAdd, Nat.reduceLeDiff, Nat.reduceSub, Nat.reduceMul, Int.reduceLT, Int.reduceLE, Int.reduceEq, Int.reduceAdd, Int.reduceSub, Int.reduceMul, h1.icy, h2.icy]) (by simp [a10]) fun b' ht hx => ?_
  have x0 := hx 0 _ rfl
  have x1 := hx 1 _ rfl
  clear hx
  simp only [a10, c10] at ht ⊢
  simp (maxSteps := 2000000) (disch := first | omega | assumption | (simp only [DS, Nat.reduceAdd, *]; done) | (simp only [DZ]; omega)) only [RUN, RU, footA, feetIn, resultsA, tupOf, frzL, slot, lay, icyL, fillA, repCells, kR, reduceIte, Nat.reduceEqDiff, Nat.reduceBEq, Nat.reduceLT, Nat.reduceAdd, Nat.reduceLeDiff, Nat.reduceSub, Nat.reduceMul, Int.reduceLT, Int.reduceLE, Int.reduceEq, Int.reduceAdd, Int.reduceSub, Int.reduceMul, x0, x1, la, lb, ra, rb, q0]
  refine w_loop (I := fun n t M => ∃ i : Nat, n = l.length - i ∧ i ≤ l.length ∧ nth undefA t 5 = I64 i ∧ nth undefA t 0 = a ∧ nth undefA t 1 = b ∧ M = mem0) (n := l.length) hf ?_ ?_
  · refine ⟨0, rfl, by omega, ?_, ?_, ?_, rfl⟩ <;> simp (maxSteps := 2000000) (disch := first | omega | assumption | (simp only [DS, Nat.reduceAdd, *]; done) | (simp only [DZ]; omega)) only [RUN, RU, footA, feetIn, resultsA, tupOf, frzL, slot, lay, icyL, fillA, repCells, kR, reduceIte, Nat.reduceEqDiff, Nat.reduceBEq, Nat.reduceLT, Nat.reduceAdd, Nat.reduceLeDiff, Nat.reduceSub, Nat.reduceMul, Int.reduceLT, Int.reduceLE, Int.reduceEq, Int.reduceAdd, Int.reduceSub, Int.reduceMul, x0, x1]
    all_goals first | rfl | assumption
  · rintro n t M' hlt ⟨i, rfl, hi, g5, g0, g1, rfl⟩
    simp only [ht] at hlt ⊢
    by_cases hc : i < l.length
    · have q1 : decide ((i : Int) < l.length) = true := decide_eq_true (by omega)
      obtain ⟨r1, i1, hr1, hl1⟩ := h1.iad i hc
      obtain ⟨r2, i2, hr2, hl2⟩ := h2.iad i hc
      have hce := hcr l[i] (List.getElem_mem hc)
      have ho := fun M => @one_run fuel d l[i] r1 r2 hr1 hr2 hce.1 hce.2 M
      have p1 : Go.Ax.part r1 0 17 true = some (.agg r1) := by rw [part_ag _ _ _ (by omega), slot_all _ _ hl1.symm]
      have p2 : Go.Ax.part r2 0 17 true = some (.agg r2) := by rw [part_ag _ _ _ (by omega), slot_all _ _ hl2.symm]
      have w1 : IntKind.i64.wrap ((i : Int) + 1) = ((i + 1 : Nat) : Int) := by rw [wrap_i64] <;> omega
      simp (maxSteps := 2000000) (disch := first | omega | assumption | (simp only [DS, Nat.reduceAdd, *]; done) | (simp only [DZ]; omega)) only [RUN, RU, footA, feetIn, resultsA, tupOf, frzL, slot, lay, icyL, fillA, repCells, kR, reduceIte, Nat.reduceEqDiff, Nat.reduceBEq, Nat.reduceLT, Nat.reduceAdd, Nat.reduceLeDiff, Nat.reduceSub, Nat.reduceMul, Int.reduceLT, Int.reduceLE, Int.reduceEq, Int.reduceAdd, Int.reduceSub, Int.reduceMul, g5, g0, g1, la, lb, ra, rb, q1, i1, i2, w1, p1, p2, ho]
      exact ⟨hlt, l.length - (i + 1), by omega, i + 1, rfl, by omega, rfl⟩
    · obtain rfl : i = l.length := by omega
      have q1 : decide ((l.length : Int) < l.length) = false := decide_eq_false (by omega)
      simp (maxSteps := 2000000) (disch := first | omega | assumption | (simp only [DS, Nat.reduceAdd, *]; done) | (simp only [DZ]; omega)) only [RUN, RU, footA, feetIn, resultsA, tupOf, frzL, slot, lay, icyL, fillA, repCells, kR, reduceIte, Nat.reduceEqDiff, Nat.reduceBEq, Nat.reduceLT, Nat.reduceAdd, Nat.reduceLeDiff, Nat.reduceSub, Nat.reduceMul, Int.reduceLT, Int.reduceLE, Int.reduceEq, Int.reduceAdd, Int.reduceSub, Int.reduceMul, g5, g0, g1, la, lb, ra, rb, q1]
theorem chk_app {la lb : List Ev} (h1 : la.length ≤ 100) (h2 : lb.length ≤ 100) : chk (la ++ lb) = 0 ↔ chk la = 0 ∧ chk lb = 0 := by
  have e1 : ¬ 2048 < (la ++ lb).length := by rw [List.length_append]; omega
  have e2 : ¬ 2048 < la.length := by omega
  have e3 : ¬ 2048 < lb.length := by omega
  unfold chk
  simp only [e1, e2, e3, if_false, List.any_append]
  cases la.any (fun e => !e.may) <;> cases lb.any (fun e => !e.may) <;> simp
theorem purgeF_ok {v : Lb} {l : List Ev} : (purgeF v l).2 = 0 ↔ chk l = 0 ∧ v.may = true := by
  unfold purgeF
  by_cases h : chk l = 0
  · rw [if_neg (by simpa using h)]
    cases hm : v.may <;> simp [h]
  · rw [if_pos h]
    simp [h]
theorem purgeF_1 {v : Lb} {l : List Ev} (h : (purgeF v l).2 = 0) : (purgeF v l).1 = leftF v l := by
  obtain ⟨h1, h2⟩ := purgeF_ok.1 h
  unfold purgeF
  rw [if_neg (by simpa using h1), if_pos h2]
theorem leftF_app (v : Lb) (a b : List Ev) : leftF v (a ++ b) = leftF v a ++ leftF v b := List.filterMap_append
theorem left_crash {v : Lb} {l : List Ev} (h : chk l = 0) : ∀ e ∈ leftF v l, e.crash.length ≤ 3 := by
  intro e he
  obtain ⟨x, hx, hl⟩ := List.mem_filterMap.1 he
  have := may_len ((chk_may h).2 x hx)
  unfold Ev.left at hl
  split at hl
  · split at hl
    · cases hl
    · cases hl; exact this.2
  · cases hl; exact this.2

abbrev gLb : GT := .ag [.int .u8, .int .u32]
abbrev gEv : GT := .ag [.int .u8, .ag [gLb, .int .u8], .int .i64, .int .i64, .int .i64, .str, gLb, .int .u8, .sl (.int .u8), .ag [.int .i64, .ag [gLb, .bool]], .sl (.int .i64)]
theorem of_lb {l : List AV} (h : Is gLb l) : ∃ v : Lb, l = [U8 v.lv, U32 v.cats] := by
  simp only [gLb, Is, IsL] at h
  obtain ⟨_, _, rfl, ⟨a, rfl, _⟩, _, _, rfl, ⟨b, rfl, _⟩, rfl⟩ := h
  exact ⟨⟨a, b⟩, rfl⟩
theorem of_int (r : List AV) (h : Is (.int .i64) r) : ∃ x, isInt r x := by
  obtain ⟨n, rfl, _⟩ := Is.i64 h
  exact ⟨n, rfl⟩
theorem of_ev (r : List AV) (h : Is gEv r) : ∃ e, isEv r e := by
  simp only [gEv, Is, IsL] at h
  obtain ⟨_, _, rfl, ⟨n1, rfl, w1⟩, _, _, rfl, ⟨_, _, rfl, ⟨_, _, rfl, ⟨n2, rfl, w2⟩, _, _, rfl, ⟨n3, rfl, w3⟩, rfl⟩, _, _, rfl, ⟨n4, rfl, w4⟩, rfl⟩, _, _, rfl, ⟨n5, rfl, w5⟩, _, _, rfl, ⟨n6, rfl, w6⟩, _, _, rfl, ⟨n7, rfl, w7⟩, _, _, rfl, ⟨s8, rfl, w8⟩, _, _, rfl, ⟨_, _, rfl, ⟨n9, rfl, w9⟩, _, _, rfl, ⟨n10, rfl, w10⟩, rfl⟩, _, _, rfl, ⟨n11, rfl, w11⟩, _, _, rfl, h12, _, _, rfl, ⟨_, _, rfl, ⟨n13, rfl, w13⟩, _, _, rfl, ⟨_, _, rfl, ⟨_, _, rfl, ⟨n14, rfl, w14⟩, _, _, rfl, ⟨n15, rfl, w15⟩, rfl⟩, _, _, rfl, ⟨b16, rfl⟩, rfl⟩, rfl⟩, _, _, rfl, h17, rfl⟩ := h
  obtain ⟨kd, hkd⟩ := Is.u8 (r := [AV.sc (Value.int IntKind.u8 n1)]) (by simp only [Is]; exact ⟨n1, rfl, w1⟩)
  obtain rfl : n1 = kd.toNat := by
    have : [AV.sc (Value.int IntKind.u8 n1)] = [U8 kd.toNat] := hkd
    simpa using this
  obtain ⟨da, ld, e1, hda⟩ := Is.bytes (r := _) (by simp only [Is]; exact h12)
  obtain ⟨ca, lc, e2, hca⟩ := Is.slice (g := .int .i64) of_int (l := _) (by simp only [Is]; exact h17)
  subst e1 e2
  obtain ⟨⟨tx⟩⟩ := s8
  exact ⟨⟨kd, ⟨n2, n3⟩, n4, n5, n6, n7, tx, ⟨n9, n10⟩, n11, ld, n13, ⟨n14, n15⟩, b16, lc⟩, da, ca, rfl, hda, hca⟩
end Go.Proofs.YtjbninmklbkklaaDoor
