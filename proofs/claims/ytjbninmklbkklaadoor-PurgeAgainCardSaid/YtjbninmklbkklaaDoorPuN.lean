/-
  purge: how often a script crashes; its numbers. What purges of purges are.
-/
import Derived.Test.YtjbninmklbkklaaDoorPuM
set_option linter.unusedSimpArgs false
set_option linter.unusedVariables false
set_option maxRecDepth 100000
namespace Go.Proofs.YtjbninmklbkklaaDoor
open Go Go.Ax
variable {fuel : Nat} {M : Mem} {Q : AV → Mem → Prop} {d : Nat}

/-- All crashes of a script, in order. -/
def nums (l : List Ev) : List Int := l.flatMap Ev.crash
theorem nums_snoc (l : List Ev) (e : Ev) : nums (l ++ [e]) = nums l ++ e.crash := by simp [nums]
theorem nums_take {l : List Ev} {i : Nat} (h : i < l.length) : nums (l.take (i + 1)) = nums (l.take i) ++ l[i].crash := by rw [take_snoc l i h, nums_snoc]
theorem nums_len {l : List Ev} (h : ∀ e ∈ l, e.crash.length ≤ 3) : (nums l).length ≤ 3 * l.length := by
  induction l with
  | nil => simp [nums]
  | cons e l ih =>
    have h1 := h e List.mem_cons_self
    have h2 := ih fun x hx => h x (List.mem_cons_of_mem _ hx)
    simp only [nums, List.flatMap_cons, List.length_append, List.length_cons] at h2 ⊢
    omega
set_option maxHeartbeats 4000000 in
theorem crashes_run {a : AV} {l : List Ev} (hS : Sl 17 isEv a l) (hc : chk l = 0) (hf : l.length + 100 < fuel) (hl : l.length ≤ 2048) : ∀ M, callN Tryd.prog (fsT tbl) fuel (d + 9) (.fn 11) [a] M = some (.tup [I64 (nums l).length, I64 0], M) := by
  have ll := hS.len
  have lr := hS.rows mem0
  have hck := fun M => check_run (fuel := fuel) (d := d) hS (by omega) (by omega) M
  rw [hc] at hck
  have hm := (chk_may hc).2
  have z0 : decide ((0 : Int) = 0) = true := rfl
  have ic : ∀ M, icyL (icy 12) M [a] = some ([a], M) := fun M => by simp (maxSteps := 2000000) (disch := first | omega | assumption | (simp only [DS, Nat.reduceAdd, *]; done) | (simp only [DZ]; omega)) only [RUN, RU, footA, feetIn, resultsA, tupOf, frzL, slot, lay, icyL, fillA, repCells, kR, reduceIte, Nat.reduceEqDiff, Nat.reduceBEq, Nat.reduceLT, Nat.reduceAdd, Nat.reduceLeDiff, Nat.reduceSub, Nat.reduceMul, Int.reduceLT, Int.reduceLE, Int.reduceEq, Int.reduceAdd, Int.reduceSub, Int.reduceMul, hS.icy]
  have key : W3 (callN Tryd.prog (fsT tbl) fuel (d + 9) (.fn 11) [a] mem0) (fun r' _ => r' = .tup [I64 (nums l).length, I64 0]) := by
    refine call_gc tf11 rfl (ic mem0) (by simp [a11]) fun b' ht hx => ?_
    have h0 := hx 0 _ rfl
    clear hx
    simp only [a11, c11] at ht ⊢
    simp (maxSteps := 2000000) (disch := first | omega | assumption | (simp only [DS, Nat.reduceAdd, *]; done) | (simp only [DZ]; omega)) only [RUN, RU, footA, feetIn, resultsA, tupOf, frzL, slot, lay, icyL, fillA, repCells, kR, reduceIte, Nat.reduceEqDiff, Nat.reduceBEq, Nat.reduceLT, Nat.reduceAdd, Nat.reduceLeDiff, Nat.reduceSub, Nat.reduceMul, Int.reduceLT, Int.reduceLE, Int.reduceEq, Int.reduceAdd, Int.reduceSub, Int.reduceMul, h0, ll, lr, hck, z0]
    refine w_loop (I := fun n t M' => ∃ i : Nat, n = l.length - i ∧ i ≤ l.length ∧ nth undefA t 14 = I64 i ∧ nth undefA t 13 = I64 l.length ∧ nth undefA t 12 = a ∧ nth undefA t 2 = I64 (nums (l.take i)).length ∧ Wf M') (n := l.length) (by omega) ?_ ?_
    · refine ⟨0, rfl, by omega, ?_, ?_, ?_, ?_, ?_⟩ <;> simp (maxSteps := 2000000) (disch := first | omega | assumption | (simp only [DS, Nat.reduceAdd, *]; done) | (simp only [DZ]; omega)) only [RUN, RU, footA, feetIn, resultsA, tupOf, frzL, slot, lay, icyL, fillA, repCells, kR, reduceIte, Nat.reduceEqDiff, Nat.reduceBEq, Nat.reduceLT, Nat.reduceAdd, Nat.reduceLeDiff, Nat.reduceSub, Nat.reduceMul, Int.reduceLT, Int.reduceLE, Int.reduceEq, Int.reduceAdd, Int.reduceSub, Int.reduceMul, h0, ll, lr]
      all_goals first | rfl | assumption | exact Wf.mem0
    · rintro n t M' hlt ⟨i, rfl, hi, g14, g13, g12, g2, wf⟩
      simp only [ht] at hlt ⊢
      by_cases hci : i < l.length
      · have q1 : decide ((i : Int) < l.length) = true := decide_eq_true (by omega)
        obtain ⟨r, hiad, ⟨da, ca, rfl, d1, c1⟩, hrl⟩ := hS.iad i hci
        have hle := may_len (hm l[i] (List.getElem_mem hci))
        have hnt := nums_take hci
        have hnl := nums_len (l := l.take i) fun e he => (may_len (hm e (List.mem_of_mem_take he))).2
        rw [List.length_take] at hnl
        have lca := c1.len
        have od := d1.one
        have oc := c1.one
        have cd := d1.cells
        have cc := c1.cells
        have rc := c1.rows mem0
        have w1 : IntKind.i64.wrap ((i : Int) + 1) = ((i + 1 : Nat) : Int) := by rw [wrap_i64] <;> omega
        have w2 : IntKind.i64.wrap (((nums (l.take i)).length : Int) + (l[i].crash.length : Int)) = ((nums (l.take (i + 1))).length : Int) := by
          rw [hnt, List.length_append, wrap_i64] <;> omega
        unfold evRow at *
        simp (maxSteps := 2000000) (disch := first | omega | assumption | (simp only [DS, Nat.reduceAdd, *]; done) | (simp only [DZ]; omega)) only [RUN, RU, footA, feetIn, resultsA, tupOf, frzL, slot, lay, icyL, fillA, repCells, kR, reduceIte, Nat.reduceEqDiff, Nat.reduceBEq, Nat.reduceLT, Nat.reduceAdd, Nat.reduceLeDiff, Nat.reduceSub, Nat.reduceMul, Int.reduceLT, Int.reduceLE, Int.reduceEq, Int.reduceAdd, Int.reduceSub, Int.reduceMul, g14, g13, g12, g2, q1, hiad, od, oc, cd, cc, rc, lca, lr, w1, w2]
        exact ⟨hlt, l.length - (i + 1), by omega, i + 1, rfl, by omega, rfl, rfl, wf⟩
      · obtain rfl : i = l.length := by omega
        have q1 : decide ((l.length : Int) < l.length) = false := decide_eq_false (by omega)
        rw [List.take_length] at g2
        simp (maxSteps := 2000000) (disch := first | omega | assumption | (simp only [DS, Nat.reduceAdd, *]; done) | (simp only [DZ]; omega)) only [RUN, RU, footA, feetIn, resultsA, tupOf, frzL, slot, lay, icyL, fillA, repCells, kR, reduceIte, Nat.reduceEqDiff, Nat.reduceBEq, Nat.reduceLT, Nat.reduceAdd, Nat.reduceLeDiff, Nat.reduceSub, Nat.reduceMul, Int.reduceLT, Int.reduceLE, Int.reduceEq, Int.reduceAdd, Int.reduceSub, Int.reduceMul, g14, g13, g12, g2, q1]
  obtain ⟨r', N, hk, rfl⟩ := key
  exact fun M => call_own tf11 rfl hk (ic mem0) (ic M)
set_option maxHeartbeats 4000000 in
theorem numbers_run {a : AV} {l : List Ev} (hS : Sl 17 isEv a l) (hm : ∀ e ∈ l, e.crash.length ≤ 3) (hf : l.length + 100 < fuel) (hl : l.length ≤ 2048) : ∃ r, Sl 1 isInt r (nums l) ∧ ∀ M, callN Tryd.prog (fsT tbl) fuel (d + 1) (.fn 14) [a] M = some (r, M) := by
  have ll := hS.len
  have lr := hS.rows mem0
  have ic : ∀ M, icyL (icy 12) M [a] = some ([a], M) := fun M => by simp (maxSteps := 2000000) (disch := first | omega | assumption | (simp only [DS, Nat.reduceAdd, *]; done) | (simp only [DZ]; omega)) only [RUN, RU, footA, feetIn, resultsA, tupOf, frzL, slot, lay, icyL, fillA, repCells, kR, reduceIte, Nat.reduceEqDiff, Nat.reduceBEq, Nat.reduceLT, Nat.reduceAdd, Nat.reduceLeDiff, Nat.reduceSub, Nat.reduceMul, Int.reduceLT, Int.reduceLE, Int.reduceEq, Int.reduceAdd, Int.reduceSub, Int.reduceMul, hS.icy]
  have key : W3 (callN Tryd.prog (fsT tbl) fuel (d + 1) (.fn 14) [a] mem0) (fun r' _ => ∃ r, Sl 1 isInt r (nums l) ∧ r' = r) := by
    refine call_gc tf14 rfl (ic mem0) (by simp [a14]) fun b' ht hx => ?_
    have h0 := hx 0 _ rfl
    clear hx
    simp only [a14, c14] at ht ⊢
    simp (maxSteps := 2000000) (disch := first | omega | assumption | (simp only [DS, Nat.reduceAdd, *]; done) | (simp only [DZ]; omega)) only [RUN, RU, footA, feetIn, resultsA, tupOf, frzL, slot, lay, icyL, fillA, repCells, kR, reduceIte, Nat.reduceEqDiff, Nat.reduceBEq, Nat.reduceLT, Nat.reduceAdd, Nat.reduceLeDiff, Nat.reduceSub, Nat.reduceMul, Int.reduceLT, Int.reduceLE, Int.reduceEq, Int.reduceAdd, Int.reduceSub, Int.reduceMul, h0, ll, lr]
    refine w_loop (I := fun n t M' => ∃ (i : Nat) (o : AV), n = l.length - i ∧ i ≤ l.length ∧ nth undefA t 4 = I64 i ∧ nth undefA t 0 = a ∧ nth undefA t 3 = o ∧ Wf M' ∧ SlM M' 1 isInt o (nums (l.take i))) (n := l.length) (by omega) ?_ ?_
    · refine ⟨0, NIL, rfl, by omega, ?_, ?_, ?_, ?_, SlM.nil⟩ <;> simp (maxSteps := 2000000) (disch := first | omega | assumption | (simp only [DS, Nat.reduceAdd, *]; done) | (simp only [DZ]; omega)) only [RUN, RU, footA, feetIn, resultsA, tupOf, frzL, slot, lay, icyL, fillA, repCells, kR, reduceIte, Nat.reduceEqDiff, Nat.reduceBEq, Nat.reduceLT, Nat.reduceAdd, Nat.reduceLeDiff, Nat.reduceSub, Nat.reduceMul, Int.reduceLT, Int.reduceLE, Int.reduceEq, Int.reduceAdd, Int.reduceSub, Int.reduceMul, h0, ll, lr]
      all_goals first | rfl | assumption | exact Wf.mem0
    · rintro n t M' hlt ⟨i, o, rfl, hi, g4, g0, g3, wf, hM⟩
      simp only [ht] at hlt ⊢
      by_cases hci : i < l.length
      · have q1 : decide ((i : Int) < l.length) = true := decide_eq_true (by omega)
        obtain ⟨r, hiad, ⟨da, ca, rfl, d1, c1⟩, hrl⟩ := hS.iad i hci
        have hle := hm l[i] (List.getElem_mem hci)
        have hnt := nums_take hci
        have hnl := nums_len (l := l.take i) fun e he => hm e (List.mem_of_mem_take he)
        rw [List.length_take] at hnl
        have rc := c1.rows mem0
        have rlo := rows_lt hM.rl (Nat.le_refl _)
        have w1 : IntKind.i64.wrap ((i : Int) + 1) = ((i + 1 : Nat) : Int) := by rw [wrap_i64] <;> omega
        unfold evRow at *
        simp (maxSteps := 2000000) (disch := first | omega | assumption | (simp only [DS, Nat.reduceAdd, *]; done) | (simp only [DZ]; omega)) only [RUN, RU, footA, feetIn, resultsA, tupOf, frzL, slot, lay, icyL, fillA, repCells, kR, reduceIte, Nat.reduceEqDiff, Nat.reduceBEq, Nat.reduceLT, Nat.reduceAdd, Nat.reduceLeDiff, Nat.reduceSub, Nat.reduceMul, Int.reduceLT, Int.reduceLE, Int.reduceEq, Int.reduceAdd, Int.reduceSub, Int.reduceMul, g4, g0, g3, ll, lr, q1, hiad, rc, rlo, w1]
        refine w3_app wf hM cel_Int c1 (by omega) (by omega) (by omega) fun o1 M1 m1 wf1 le1 sz1 kp1 nw1 wm1 rl1 on1 oc1 => ?_
        simp (maxSteps := 2000000) (disch := first | omega | assumption | (simp only [DS, Nat.reduceAdd, *]; done) | (simp only [DZ]; omega)) only [RUN, RU, footA, feetIn, resultsA, tupOf, frzL, slot, lay, icyL, fillA, repCells, kR, reduceIte, Nat.reduceEqDiff, Nat.reduceBEq, Nat.reduceLT, Nat.reduceAdd, Nat.reduceLeDiff, Nat.reduceSub, Nat.reduceMul, Int.reduceLT, Int.reduceLE, Int.reduceEq, Int.reduceAdd, Int.reduceSub, Int.reduceMul, g4, g0, g3, ll, lr, q1, hiad, rc, rlo, w1]
        exact ⟨hlt, l.length - (i + 1), by omega, i + 1, o1, rfl, by omega, rfl, rfl, wf1, by rw [hnt]; exact m1⟩
      · obtain rfl : i = l.length := by omega
        have q1 : decide ((l.length : Int) < l.length) = false := decide_eq_false (by omega)
        rw [List.take_length] at hM
        obtain ⟨ro, hSr, hfr⟩ := slm_frz2 hM cel_Int 12 (by omega)
        have hfr0 := hfr M' (fun _ _ => rfl)
        simp (maxSteps := 2000000) (disch := first | omega | assumption | (simp only [DS, Nat.reduceAdd, *]; done) | (simp only [DZ]; omega)) only [RUN, RU, footA, feetIn, resultsA, tupOf, frzL, slot, lay, icyL, fillA, repCells, kR, reduceIte, Nat.reduceEqDiff, Nat.reduceBEq, Nat.reduceLT, Nat.reduceAdd, Nat.reduceLeDiff, Nat.reduceSub, Nat.reduceMul, Int.reduceLT, Int.reduceLE, Int.reduceEq, Int.reduceAdd, Int.reduceSub, Int.reduceMul, g4, g0, g3, ll, lr, q1, hfr0]
        exact ⟨ro, hSr, rfl⟩
  obtain ⟨r', N, hk, r, hr, rfl⟩ := key
  exact ⟨r', hr, fun M => call_own tf14 rfl hk (ic mem0) (ic M)⟩

/-! ### The plain law -/
theorem lacks_iff (a b : Int) : lacks a b = 0 ↔ BitVec.ofInt 32 a &&& ~~~ BitVec.ofInt 32 b = 0#32 := by
  have h : lacks a b = ((BitVec.ofInt 32 a &&& ~~~ BitVec.ofInt 32 b).toNat : Int) := by
    unfold lacks
    generalize BitVec.ofInt 32 a &&& ~~~ BitVec.ofInt 32 b = z
    have := z.isLt
    simp [IntKind.wrap, IntKind.bits, IntKind.signed]
    omega
  rw [h]
  constructor
  · intro h
    apply BitVec.eq_of_toNat_eq
    simpa using h
  · intro h
    rw [h]; rfl
theorem bv_trans {x y z : BitVec 32} (h1 : x &&& ~~~ y = 0#32) (h2 : y &&& ~~~ z = 0#32) : x &&& ~~~ z = 0#32 := by
  apply BitVec.eq_of_getLsbD_eq
  intro i hi
  have a := congrArg (·.getLsbD i) h1
  have b := congrArg (·.getLsbD i) h2
  simp only [BitVec.getLsbD_and, BitVec.getLsbD_not, BitVec.getLsbD_zero, hi, decide_true, Bool.true_and] at a b ⊢
  revert a b
  cases x.getLsbD i <;> cases y.getLsbD i <;> cases z.getLsbD i <;> simp
theorem leq_trans {a b c : Lb} (h1 : a.leq b = true) (h2 : b.leq c = true) : a.leq c = true := by
  simp only [Lb.leq, Bool.and_eq_true, decide_eq_true_eq, lacks_iff] at h1 h2 ⊢
  exact ⟨Int.le_trans h1.1 h2.1, bv_trans h1.2 h2.2⟩
/-- What stays, or a crash alone. -/
theorem left_cases {v : Lb} {e x : Ev} (h : e.left v = some x) : (x = e ∧ (itsK e.kind.toNat = false ∨ e.lb.leq v = true)) ∨ (x = { zeroEv with kind := 20, crash := e.crash } ∧ itsK e.kind.toNat = true ∧ e.lb.leq v = false ∧ e.crash.length ≠ 0) := by
  unfold Ev.left at h
  split at h
  · rename_i hc
    simp only [Bool.and_eq_true, Bool.not_eq_true'] at hc
    split at h
    · cases h
    · rename_i hz
      cases h
      exact .inr ⟨rfl, hc.1, hc.2, hz⟩
  · rename_i hc
    cases h
    refine .inl ⟨rfl, ?_⟩
    cases hk : itsK e.kind.toNat with
    | false => exact .inl rfl
    | true =>
      right
      rw [hk] at hc
      simpa using hc
theorem left_none {v : Lb} {e : Ev} (h : e.left v = none) : itsK e.kind.toNat = true ∧ e.lb.leq v = false ∧ e.crash.length = 0 := by
  unfold Ev.left at h
  split at h
  · rename_i hc
    simp only [Bool.and_eq_true, Bool.not_eq_true'] at hc
    split at h
    · rename_i hz; exact ⟨hc.1, hc.2, hz⟩
    · cases h
  · cases h
theorem left_keep {v : Lb} {e : Ev} (h : itsK e.kind.toNat = false ∨ e.lb.leq v = true) : e.left v = some e := by
  unfold Ev.left
  rw [if_neg]
  rcases h with h | h <;> simp [h]
theorem left_new (v : Lb) (c : List Int) : ({ zeroEv with kind := 20, crash := c } : Ev).left v = some { zeroEv with kind := 20, crash := c } := left_keep (.inl rfl)
/-- Purged again, up to a label at or above. -/
theorem leftF_up {v u : Lb} (h : v.leq u = true) (l : List Ev) : leftF u (leftF v l) = leftF v l := by
  induction l with
  | nil => rfl
  | cons e l ih =>
    unfold leftF at ih ⊢
    cases he : e.left v with
    | none => rw [List.filterMap_cons_none he]; exact ih
    | some x =>
      rw [List.filterMap_cons_some he]
      have hx : x.left u = some x := by
        rcases left_cases he with ⟨rfl, hk⟩ | ⟨rfl, _⟩
        · exact left_keep (hk.imp (fun h => h) fun hq => leq_trans hq h)
        · exact left_new _ _
      rw [List.filterMap_cons_some hx, ih]
theorem leq_refl (v : Lb) : v.leq v = true := by
  simp only [Lb.leq, Bool.and_eq_true, decide_eq_true_eq, lacks_iff]
  refine ⟨Int.le_refl _, ?_⟩
  apply BitVec.eq_of_getLsbD_eq
  intro i hi
  simp
/-- Purged, and then up to a label at or below. -/
theorem leftF_down {v u : Lb} (h : u.leq v = true) (l : List Ev) : leftF u (leftF v l) = leftF u l := by
  induction l with
  | nil => rfl
  | cons e l ih =>
    unfold leftF at ih ⊢
    cases he : e.left v with
    | none =>
      obtain ⟨h1, h2, h3⟩ := left_none he
      have hu : e.left u = none := by
        have : e.lb.leq u = false := by
          cases hq : e.lb.leq u with
          | false => rfl
          | true => rw [leq_trans hq h] at h2; cases h2
        unfold Ev.left
        rw [if_pos (by simp [h1, this]), if_pos h3]
      rw [List.filterMap_cons_none he, List.filterMap_cons_none hu]
      exact ih
    | some x =>
      rw [List.filterMap_cons_some he]
      rcases left_cases he with ⟨rfl, hk⟩ | ⟨rfl, h1, h2, h3⟩
      · cases hx : x.left u with
        | none => rw [List.filterMap_cons_none hx, List.filterMap_cons_none hx]; exact ih
        | some y => rw [List.filterMap_cons_some hx, List.filterMap_cons_some hx, ih]
      · have hu : e.left u = some { zeroEv with kind := 20, crash := e.crash } := by
          have : e.lb.leq u = false := by
            cases hq : e.lb.leq u with
            | false => rfl
            | true => rw [leq_trans hq h] at h2; cases h2
          unfold Ev.left
          rw [if_pos (by simp [h1, this]), if_neg h3]
        rw [List.filterMap_cons_some (left_new u e.crash), List.filterMap_cons_some hu, ih]
theorem nums_left (v : Lb) (l : List Ev) : nums (leftF v l) = nums l := by
  induction l with
  | nil => rfl
  | cons e l ih =>
    unfold leftF nums at ih ⊢
    cases he : e.left v with
    | none =>
      have h3 := (left_none he).2.2
      rw [List.filterMap_cons_none he, ih, List.flatMap_cons, List.eq_nil_of_length_eq_zero h3, List.nil_append]
    | some x =>
      rw [List.filterMap_cons_some he, List.flatMap_cons, List.flatMap_cons, ih]
      rcases left_cases he with ⟨rfl, _⟩ | ⟨rfl, _⟩ <;> rfl
theorem left_may {v : Lb} {e x : Ev} (h : e.may = true) (hl : e.left v = some x) : x.may = true := by
  rcases left_cases hl with ⟨rfl, _⟩ | ⟨rfl, _⟩
  · exact h
  · simp only [Ev.may, Bool.and_eq_true, decide_eq_true_eq] at h
    have h1 := h.1.2
    have h2 := h.2
    simp only [Ev.may, zeroEv, Bool.and_eq_true, decide_eq_true_eq]
    refine ⟨⟨⟨⟨⟨⟨?_, ?_⟩, ?_⟩, ?_⟩, ?_⟩, h1⟩, h2⟩
    · decide
    · decide
    · rfl
    · simp
    · simp
theorem chk_left {v : Lb} {l : List Ev} (h : chk l = 0) : chk (leftF v l) = 0 := by
  obtain ⟨h1, h2⟩ := chk_may h
  have h3 := leftF_len v l
  unfold chk
  rw [if_neg (by omega), if_neg]
  rw [List.any_eq_true]
  rintro ⟨x, hx, hn⟩
  obtain ⟨e, he, hl⟩ := List.mem_filterMap.1 hx
  rw [left_may (h2 e he) hl] at hn
  cases hn
/-- All's events. -/
def alls (e : Ev) : Bool := decide ((17 : Int) ≤ e.kind.toNat) && decide ((e.kind.toNat : Int) < 20)
theorem alls_left (v : Lb) (l : List Ev) : ((leftF v l).countP alls : Nat) = l.countP alls := by
  induction l with
  | nil => rfl
  | cons e l ih =>
    unfold leftF at ih ⊢
    cases he : e.left v with
    | none =>
      have h1 := (left_none he).1
      rw [List.filterMap_cons_none he, ih, List.countP_cons_of_neg]
      intro ha
      simp only [alls, itsK, Bool.and_eq_true, decide_eq_true_eq, Bool.not_eq_true', Bool.and_eq_false_iff, decide_eq_false_iff_not] at ha h1
      omega
    | some x =>
      rw [List.filterMap_cons_some he, List.countP_cons, List.countP_cons, ih]
      rcases left_cases he with ⟨rfl, _⟩ | ⟨rfl, h1, _⟩
      · rfl
      · have e1 : alls e = false := by
          cases ha : alls e with
          | false => rfl
          | true =>
            simp only [alls, itsK, Bool.and_eq_true, decide_eq_true_eq, Bool.not_eq_true', Bool.and_eq_false_iff, decide_eq_false_iff_not] at ha h1
            omega
        rw [e1]; rfl
theorem low_left {v : Lb} {l : List Ev} : ∀ x ∈ leftF v l, (x.kind.toNat : Int) < 17 → x.lb.leq v = true := by
  intro x hx hk
  obtain ⟨e, he, hl⟩ := List.mem_filterMap.1 hx
  rcases left_cases hl with ⟨rfl, h | h⟩ | ⟨rfl, _⟩
  · simp only [itsK, Bool.not_eq_false', Bool.and_eq_true, decide_eq_true_eq] at h
    omega
  · exact h
  · exact absurd hk (show ¬ (((20 : UInt8).toNat : Int) < 17) by decide)
end Go.Proofs.YtjbninmklbkklaaDoor
