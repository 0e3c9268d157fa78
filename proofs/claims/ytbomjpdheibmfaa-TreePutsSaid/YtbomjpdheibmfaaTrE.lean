/-
  Texts: how many elements, Same, where; what goes through the elements.
-/
import Derived.Test.YtbomjpdheibmfaaTrC
import Derived.Test.YtbomjpdheibmfaaEf
set_option linter.unusedSimpArgs false
set_option linter.unusedVariables false
set_option maxRecDepth 100000
namespace Go.Proofs.Ytbomjpdheibmfaa
open Go Go.Ax
variable {fuel : Nat} {M : Mem} {Q : AV → Mem → Prop} {d : Nat}
def countL : List Rn → Int
  | [] => 0
  | r :: l => r.sp.n + countL l
theorem countL_app (l m : List Rn) : countL (l ++ m) = countL l + countL m := by
  induction l with
  | nil => simp [countL]
  | cons r l ih => simp only [List.cons_append, countL, ih]; omega
theorem countL_snoc (l : List Rn) (r : Rn) : countL (l ++ [r]) = countL l + r.sp.n := by rw [countL_app]; simp [countL]
theorem countL_le {l : List Rn} (h : ∀ r ∈ l, r.may = true) : 0 ≤ countL l ∧ countL l ≤ 64 * l.length := by
  induction l with
  | nil => simp [countL]
  | cons r l ih =>
    have := Spn.may_le (Rn.may_sp (h r List.mem_cons_self))
    have := ih fun r hr => h r (List.mem_cons_of_mem _ hr)
    simp only [countL, List.length_cons]
    omega
set_option maxHeartbeats 4000000 in
theorem count_run {a : AV} {l : List Rn} (hS : Sl 10 isRn a l) (hm : ∀ r ∈ l, r.may = true) (hl : l.length ≤ 1000000) (hf : l.length < fuel) (M : Mem) : callN Try.prog (fsT tbl) fuel (d + 1) (.fn 18) [a] M = some (I64 (countL l), M) := by
  have ll := hS.len
  apply w3_eq
  refine call_gc tf18 rfl (by simp only [zH, fun M => hS.icy M 12 (by omega)]) (by simp [a18]) fun b' ht hx => ?_
  have h0 := hx 0 _ rfl
  clear hx
  simp only [a18, c18] at ht ⊢
  simp (maxSteps := 2000000) (disch := first | omega | assumption | (simp only [DS, Nat.reduceAdd, *]; done) | (simp only [DZ]; omega)) only [RUN, RU, zD, zC, zB, zE, zG, slot, lay, zH, zF, zA, kR, reduceIte, Nat.reduceEqDiff, Nat.reduceBEq, Nat.reduceLT, Nat.reduceAdd, Nat.reduceLeDiff, Nat.reduceSub, Nat.reduceMul, Int.reduceLT, Int.reduceLE, Int.reduceEq, Int.reduceAdd, Int.reduceSub, Int.reduceMul, h0, ll, hS.fz.rows, hS.fz.one, hS.fz.cells, hS.fz.icy, hS.fz.frz]
  refine w_loop (I := fun n t N => ∃ (i : Nat), n = l.length - i ∧ i ≤ l.length ∧ nth undefA t 2 = I64 (countL (l.take i)) ∧ nth undefA t 5 = a ∧ nth undefA t 6 = I64 l.length ∧ nth undefA t 7 = I64 i ∧ Wf N) (n := l.length) (by omega) ?_ ?_
  · refine ⟨0, rfl, Nat.zero_le _, ?_, ?_, ?_, ?_, Wf.mem0⟩ <;> simp (maxSteps := 2000000) (disch := first | omega | assumption | (simp only [DS, Nat.reduceAdd, *]; done) | (simp only [DZ]; omega)) only [RUN, RU, zD, zC, zB, zE, zG, slot, lay, zH, zF, zA, kR, reduceIte, Nat.reduceEqDiff, Nat.reduceBEq, Nat.reduceLT, Nat.reduceAdd, Nat.reduceLeDiff, Nat.reduceSub, Nat.reduceMul, Int.reduceLT, Int.reduceLE, Int.reduceEq, Int.reduceAdd, Int.reduceSub, Int.reduceMul, h0, ll, countL]
    all_goals first | rfl | assumption | done
  · rintro n t N hlt ⟨i, rfl, hi, g2, g5, g6, g7, w⟩
    simp only [ht] at hlt ⊢
    by_cases hc : i < l.length
    · have q1 : decide ((i : Int) < l.length) = true := decide_eq_true (by omega)
      have w1 : IntKind.i64.wrap ((i : Int) + 1) = ((i + 1 : Nat) : Int) := by rw [wrap_i64] <;> omega
      obtain ⟨r, hiad, hr, hrl⟩ := hS.iad i hc
      have hts := countL_snoc (l.take i) l[i]
      rw [← take_snocT l i hc] at hts
      have hb := Spn.may_le (Rn.may_sp (hm l[i] (List.getElem_mem hc)))
      have hcl := countL_le (l := l.take i) (fun r hr => hm r (List.mem_of_mem_take hr))
      rw [List.length_take] at hcl
      generalize l[i] = e at *
      obtain ⟨ra, rfl, hra, hok⟩ := hr
      have ora := hra.one
      have w2 : IntKind.i64.wrap (countL (l.take i) + e.sp.n) = countL (l.take (i + 1)) := by rw [hts, wrap_i64] <;> omega
      simp (maxSteps := 2000000) (disch := first | omega | assumption | (simp only [DS, Nat.reduceAdd, *]; done) | (simp only [DZ]; omega)) only [RUN, RU, zD, zC, zB, zE, zG, slot, lay, zH, zF, zA, kR, reduceIte, Nat.reduceEqDiff, Nat.reduceBEq, Nat.reduceLT, Nat.reduceAdd, Nat.reduceLeDiff, Nat.reduceSub, Nat.reduceMul, Int.reduceLT, Int.reduceLE, Int.reduceEq, Int.reduceAdd, Int.reduceSub, Int.reduceMul, g2, g5, g6, g7, hS.fz.rows, hS.fz.one, hS.fz.cells, hS.fz.icy, hS.fz.frz, q1, hiad, hra.fz.rows, hra.fz.one, hra.fz.cells, hra.fz.icy, hra.fz.frz, w, w1, w2]
      exact ⟨hlt, l.length - (i + 1), by omega, i + 1, rfl, by omega, rfl, rfl⟩
    · obtain rfl : i = l.length := by omega
      have q1 : decide ((l.length : Int) < l.length) = false := decide_eq_false (by omega)
      rw [List.take_length] at g2
      simp (maxSteps := 2000000) (disch := first | omega | assumption | (simp only [DS, Nat.reduceAdd, *]; done) | (simp only [DZ]; omega)) only [RUN, RU, zD, zC, zB, zE, zG, slot, lay, zH, zF, zA, kR, reduceIte, Nat.reduceEqDiff, Nat.reduceBEq, Nat.reduceLT, Nat.reduceAdd, Nat.reduceLeDiff, Nat.reduceSub, Nat.reduceMul, Int.reduceLT, Int.reduceLE, Int.reduceEq, Int.reduceAdd, Int.reduceSub, Int.reduceMul, g2, g5, g6, g7, q1]
def sameT (l m : List Rn) : Bool := eqL rnEq l m
theorem sameT_iff {l m : List Rn} : sameT l m = true ↔ l = m := eqL_eq rnEq_iff
set_option maxHeartbeats 4000000 in
theorem equalf_run {a b : AV} {l m : List Rn} (h1' : Sl 10 isRn a l) (h2' : Sl 10 isRn b m) (hl : l.length ≤ 1000000) (hc : ∀ e ∈ l, e.rs.length ≤ 1000000 ∧ e.rs.length < fuel) (hf : l.length < fuel) (M : Mem) : callN Try.prog (fsT tbl) fuel (d + 3) (.fn 44) [a, b, .fn 45 [] []] M = some (BL (sameT l m), M) := by
  have la := h1'.len
  have lb := h2'.len
  apply w3_eq
  refine call_gc tf44 rfl (by simp (maxSteps := 2000000) (disch := first | omega | assumption | (simp only [DS, Nat.reduceAdd, *]; done) | (simp only [DZ]; omega)) only [RUN, RU, zD, zC, zB, zE, zG, slot, lay, zH, zF, zA, kR, reduceIte, Nat.reduceEqDiff, Nat.reduceBEq, Nat.reduceLT, Nat.reduceAdd, Nat.reduceLeDiff, Nat.reduceSub, Nat.reduceMul, Int.reduceLT, Int.reduceLE, Int.reduceEq, Int.reduceAdd, Int.reduceSub, Int.reduceMul, h1'.fz.rows, h1'.fz.one, h1'.fz.cells, h1'.fz.icy, h1'.fz.frz, h2'.fz.rows, h2'.fz.one, h2'.fz.cells, h2'.fz.icy, h2'.fz.frz, zG, zH]) (by simp [a44]) fun b' ht hx => ?_
  have h0 := hx 0 _ rfl
  have h1 := hx 1 _ rfl
  have h2 := hx 2 _ rfl
  clear hx
  simp only [a44, c44] at ht ⊢
  by_cases q : l.length = m.length
  · have q0 : decide ((l.length : Int) = m.length) = true := decide_eq_true (by omega)
    simp (maxSteps := 2000000) (disch := first | omega | assumption | (simp only [DS, Nat.reduceAdd, *]; done) | (simp only [DZ]; omega)) only [RUN, RU, zD, zC, zB, zE, zG, slot, lay, zH, zF, zA, kR, reduceIte, Nat.reduceEqDiff, Nat.reduceBEq, Nat.reduceLT, Nat.reduceAdd, Nat.reduceLeDiff, Nat.reduceSub, Nat.reduceMul, Int.reduceLT, Int.reduceLE, Int.reduceEq, Int.reduceAdd, Int.reduceSub, Int.reduceMul, h0, h1, h2, la, lb, h1'.fz.rows, h1'.fz.one, h1'.fz.cells, h1'.fz.icy, h1'.fz.frz, h2'.fz.rows, h2'.fz.one, h2'.fz.cells, h2'.fz.icy, h2'.fz.frz, q0]
    refine w_loop (I := fun n t N => ∃ (i : Nat), n = l.length - i ∧ i ≤ l.length ∧ nth undefA t 0 = a ∧ nth undefA t 1 = b ∧ nth undefA t 2 = .fn 45 [] [] ∧ nth undefA t 15 = a ∧ nth undefA t 16 = I64 l.length ∧ nth undefA t 17 = I64 i ∧ Wf N ∧ (∀ j (x1 : j < l.length) (x2 : j < m.length), j < i → rnEq l[j] m[j] = true)) (n := l.length) (by omega) ?_ ?_
    · refine ⟨0, rfl, Nat.zero_le _, ?_, ?_, ?_, ?_, ?_, ?_, Wf.mem0, (fun _ _ _ h => absurd h (by omega))⟩ <;> simp (maxSteps := 2000000) (disch := first | omega | assumption | (simp only [DS, Nat.reduceAdd, *]; done) | (simp only [DZ]; omega)) only [RUN, RU, zD, zC, zB, zE, zG, slot, lay, zH, zF, zA, kR, reduceIte, Nat.reduceEqDiff, Nat.reduceBEq, Nat.reduceLT, Nat.reduceAdd, Nat.reduceLeDiff, Nat.reduceSub, Nat.reduceMul, Int.reduceLT, Int.reduceLE, Int.reduceEq, Int.reduceAdd, Int.reduceSub, Int.reduceMul, h0, h1, h2, la]
      all_goals first | rfl | assumption | done
    · rintro n t N hlt ⟨i, rfl, hi, g0, g1, g2, g15, g16, g17, wN, hj⟩
      simp only [ht] at hlt ⊢
      by_cases hc' : i < l.length
      · have q1 : decide ((i : Int) < l.length) = true := decide_eq_true (by omega)
        have hc2 : i < m.length := by omega
        obtain ⟨r1, i1, hr1, hl1⟩ := h1'.iad i hc'
        obtain ⟨r2, i2, hr2, hl2⟩ := h2'.iad i hc2
        have hcr := hc l[i] (List.getElem_mem hc')
        have w1 : IntKind.i64.wrap ((i : Int) + 1) = ((i + 1 : Nat) : Int) := by rw [wrap_i64] <;> omega
        have qat := fun q2 => eqL_at (p := rnEq) hc' hc2 q2
        have hj' := hj
        have key : rnEq l[i] m[i] = true → ∀ j (x1 : j < l.length) (x2 : j < m.length), j < i + 1 → rnEq l[j] m[j] = true := fun q2 j x1 x2 hj' => by
          rcases Nat.lt_succ_iff_lt_or_eq.1 hj' with h | rfl
          · exact hj j x1 x2 h
          · exact q2
        generalize l[i] = e1 at *
        generalize m[i] = e2 at *
        obtain ⟨ra1, rfl, b1, _⟩ := hr1
        obtain ⟨ra2, rfl, b2, _⟩ := hr2
        have hp := fun M => runsame_run (fuel := fuel) (d := d) b1 b2 (by omega) hcr.2 M
        have o1 := b1.one
        have o3 := b2.one
        cases q2 : rnEq e1 e2 with
        | true =>
          rw [q2] at hp
          simp (maxSteps := 2000000) (disch := first | omega | assumption | (simp only [DS, Nat.reduceAdd, *]; done) | (simp only [DZ]; omega)) only [RUN, RU, zD, zC, zB, zE, zG, slot, lay, zH, zF, zA, kR, reduceIte, Nat.reduceEqDiff, Nat.reduceBEq, Nat.reduceLT, Nat.reduceAdd, Nat.reduceLeDiff, Nat.reduceSub, Nat.reduceMul, Int.reduceLT, Int.reduceLE, Int.reduceEq, Int.reduceAdd, Int.reduceSub, Int.reduceMul, g0, g1, g2, g15, g16, g17, h1'.fz.rows, h1'.fz.one, h1'.fz.cells, h1'.fz.icy, h1'.fz.frz, h2'.fz.rows, h2'.fz.one, h2'.fz.cells, h2'.fz.icy, h2'.fz.frz, q1, i1, i2, w1, b1.fz.rows, b1.fz.one, b1.fz.cells, b1.fz.icy, b1.fz.frz, b2.fz.rows, b2.fz.one, b2.fz.cells, b2.fz.icy, b2.fz.frz, hp, wN]
          exact ⟨hlt, l.length - (i + 1), by omega, i + 1, rfl, by omega, rfl, key q2⟩
        | false =>
          rw [q2] at hp
          have e : sameT l m = false := qat q2
          simp (maxSteps := 2000000) (disch := first | omega | assumption | (simp only [DS, Nat.reduceAdd, *]; done) | (simp only [DZ]; omega)) only [RUN, RU, zD, zC, zB, zE, zG, slot, lay, zH, zF, zA, kR, reduceIte, Nat.reduceEqDiff, Nat.reduceBEq, Nat.reduceLT, Nat.reduceAdd, Nat.reduceLeDiff, Nat.reduceSub, Nat.reduceMul, Int.reduceLT, Int.reduceLE, Int.reduceEq, Int.reduceAdd, Int.reduceSub, Int.reduceMul, g0, g1, g2, g15, g16, g17, h1'.fz.rows, h1'.fz.one, h1'.fz.cells, h1'.fz.icy, h1'.fz.frz, h2'.fz.rows, h2'.fz.one, h2'.fz.cells, h2'.fz.icy, h2'.fz.frz, q1, i1, i2, w1, b1.fz.rows, b1.fz.one, b1.fz.cells, b1.fz.icy, b1.fz.frz, b2.fz.rows, b2.fz.one, b2.fz.cells, b2.fz.icy, b2.fz.frz, hp, wN, e]
      · obtain rfl : i = l.length := by omega
        have q1 : decide ((l.length : Int) < l.length) = false := decide_eq_false (by omega)
        have e : sameT l m = true := eqL_all q fun j x1 x2 _ => hj j x1 x2 x1
        simp (maxSteps := 2000000) (disch := first | omega | assumption | (simp only [DS, Nat.reduceAdd, *]; done) | (simp only [DZ]; omega)) only [RUN, RU, zD, zC, zB, zE, zG, slot, lay, zH, zF, zA, kR, reduceIte, Nat.reduceEqDiff, Nat.reduceBEq, Nat.reduceLT, Nat.reduceAdd, Nat.reduceLeDiff, Nat.reduceSub, Nat.reduceMul, Int.reduceLT, Int.reduceLE, Int.reduceEq, Int.reduceAdd, Int.reduceSub, Int.reduceMul, g0, g1, g2, g15, g16, g17, q1, e]
  · have q0 : decide ((l.length : Int) = m.length) = false := decide_eq_false (by omega)
    have e : sameT l m = false := eqL_ne q
    simp (maxSteps := 2000000) (disch := first | omega | assumption | (simp only [DS, Nat.reduceAdd, *]; done) | (simp only [DZ]; omega)) only [RUN, RU, zD, zC, zB, zE, zG, slot, lay, zH, zF, zA, kR, reduceIte, Nat.reduceEqDiff, Nat.reduceBEq, Nat.reduceLT, Nat.reduceAdd, Nat.reduceLeDiff, Nat.reduceSub, Nat.reduceMul, Int.reduceLT, Int.reduceLE, Int.reduceEq, Int.reduceAdd, Int.reduceSub, Int.reduceMul, h0, h1, h2, la, lb, h1'.fz.rows, h1'.fz.one, h1'.fz.cells, h1'.fz.icy, h1'.fz.frz, h2'.fz.rows, h2'.fz.one, h2'.fz.cells, h2'.fz.icy, h2'.fz.frz, q0, e]
theorem tsame_run {a b : AV} {l m : List Rn} (h1' : Sl 10 isRn a l) (h2' : Sl 10 isRn b m) (hl : l.length ≤ 1000000) (hc : ∀ e ∈ l, e.rs.length ≤ 1000000 ∧ e.rs.length < fuel) (hf : l.length < fuel) (M : Mem) : callN Try.prog (fsT tbl) fuel (d + 4) (.fn 29) [a, b] M = some (BL (sameT l m), M) := by
  have he := fun M => @equalf_run fuel d a b l m h1' h2' hl hc hf M
  apply w3_eq
  refine call_gc tf29 rfl (by simp (maxSteps := 2000000) (disch := first | omega | assumption | (simp only [DS, Nat.reduceAdd, *]; done) | (simp only [DZ]; omega)) only [RUN, RU, zD, zC, zB, zE, zG, slot, lay, zH, zF, zA, kR, reduceIte, Nat.reduceEqDiff, Nat.reduceBEq, Nat.reduceLT, Nat.reduceAdd, Nat.reduceLeDiff, Nat.reduceSub, Nat.reduceMul, Int.reduceLT, Int.reduceLE, Int.reduceEq, Int.reduceAdd, Int.reduceSub, Int.reduceMul, h1'.fz.rows, h1'.fz.one, h1'.fz.cells, h1'.fz.icy, h1'.fz.frz, h2'.fz.rows, h2'.fz.one, h2'.fz.cells, h2'.fz.icy, h2'.fz.frz]) (by simp [a29]) fun b' ht hx => ?_
  have h0 := hx 0 _ rfl
  have h1 := hx 1 _ rfl
  clear hx
  simp only [a29, c29] at ht ⊢
  simp (maxSteps := 2000000) (disch := first | omega | assumption | (simp only [DS, Nat.reduceAdd, *]; done) | (simp only [DZ]; omega)) only [RUN, RU, zD, zC, zB, zE, zG, slot, lay, zH, zF, zA, kR, reduceIte, Nat.reduceEqDiff, Nat.reduceBEq, Nat.reduceLT, Nat.reduceAdd, Nat.reduceLeDiff, Nat.reduceSub, Nat.reduceMul, Int.reduceLT, Int.reduceLE, Int.reduceEq, Int.reduceAdd, Int.reduceSub, Int.reduceMul, h0, h1, h1'.fz.rows, h1'.fz.one, h1'.fz.cells, h1'.fz.icy, h1'.fz.frz, h2'.fz.rows, h2'.fz.one, h2'.fz.cells, h2'.fz.icy, h2'.fz.frz, he]
def whereL : List Rn → Eid → Option (Nat × Int)
  | [], _ => none
  | r :: l, x => match r.sp.has x with
    | some k => some (0, k)
    | none => (whereL l x).map fun p => (p.1 + 1, p.2)
theorem where_none {l : List Rn} {x : Eid} (h : ∀ r ∈ l, r.sp.has x = none) : whereL l x = none := by
  induction l with
  | nil => rfl
  | cons r l ih =>
    unfold whereL
    rw [h r List.mem_cons_self, ih fun r hr => h r (List.mem_cons_of_mem _ hr)]
    rfl
theorem where_at {l : List Rn} {x : Eid} {i : Nat} {k : Int} (hi : i < l.length) (hk : l[i].sp.has x = some k) (h : ∀ j (hj : j < i), l[j].sp.has x = none) : whereL l x = some (i, k) := by
  induction l generalizing i with
  | nil => exact absurd hi (by simp)
  | cons r l ih =>
    unfold whereL
    cases i with
    | zero => rw [show r.sp.has x = some k from hk]
    | succ i =>
      rw [show r.sp.has x = none from h 0 (by omega), ih (i := i) (by simpa using hi) hk fun j hj => h (j + 1) (by omega)]
      rfl
def wN (p : Option (Nat × Int)) : Int := match p with
  | some p => p.1
  | none => -1
def wK (p : Option (Nat × Int)) : Int := match p with
  | some p => p.2
  | none => 0
set_option maxHeartbeats 4000000 in
theorem where_run {a : AV} {l : List Rn} {x : Eid} (hS : Sl 10 isRn a l) (hl : l.length ≤ 1000000) (hf : l.length < fuel) (M : Mem) : callN Try.prog (fsT tbl) fuel (d + 6) (.fn 16) [a, idA x] M = some (.tup [I64 (wN (whereL l x)), I64 (wK (whereL l x))], M) := by
  have ll := hS.len
  apply w3_eq
  refine call_gc tf16 rfl (by simp only [zH, fun M => hS.icy M 12 (by omega), fz_icyA (fz_idR x) (show 1 < 12 by omega)]) (by simp [a16]) fun b' ht hx => ?_
  have h0 := hx 0 _ rfl
  have h1 := hx 1 _ rfl
  clear hx
  simp only [a16, c16] at ht ⊢
  simp (maxSteps := 2000000) (disch := first | omega | assumption | (simp only [DS, Nat.reduceAdd, *]; done) | (simp only [DZ]; omega)) only [RUN, RU, zD, zC, zB, zE, zG, slot, lay, zH, zF, zA, kR, reduceIte, Nat.reduceEqDiff, Nat.reduceBEq, Nat.reduceLT, Nat.reduceAdd, Nat.reduceLeDiff, Nat.reduceSub, Nat.reduceMul, Int.reduceLT, Int.reduceLE, Int.reduceEq, Int.reduceAdd, Int.reduceSub, Int.reduceMul, h0, h1, ll, hS.fz.rows, hS.fz.one, hS.fz.cells, hS.fz.icy, hS.fz.frz]
  refine w_loop (I := fun n t N => ∃ (i : Nat), n = l.length - i ∧ i ≤ l.length ∧ nth undefA t 3 = .ptr 0 0 ∧ nth undefA t 10 = a ∧ nth undefA t 11 = I64 l.length ∧ nth undefA t 12 = I64 i ∧ Wf N ∧ N.get 0 = some (.row false (idR x)) ∧ (∀ j (h : j < l.length), j < i → l[j].sp.has x = none)) (n := l.length) (by omega) ?_ ?_
  · refine ⟨0, rfl, Nat.zero_le _, ?_, ?_, ?_, ?_, Wf.mem0.add _, by simp (maxSteps := 2000000) (disch := first | omega | assumption | (simp only [DS, Nat.reduceAdd, *]; done) | (simp only [DZ]; omega)) only [RUN, RU, zD, zC, zB, zE, zG, slot, lay, zH, zF, zA, kR, reduceIte, Nat.reduceEqDiff, Nat.reduceBEq, Nat.reduceLT, Nat.reduceAdd, Nat.reduceLeDiff, Nat.reduceSub, Nat.reduceMul, Int.reduceLT, Int.reduceLE, Int.reduceEq, Int.reduceAdd, Int.reduceSub, Int.reduceMul], (fun _ _ h => absurd h (by omega))⟩ <;> simp (maxSteps := 2000000) (disch := first | omega | assumption | (simp only [DS, Nat.reduceAdd, *]; done) | (simp only [DZ]; omega)) only [RUN, RU, zD, zC, zB, zE, zG, slot, lay, zH, zF, zA, kR, reduceIte, Nat.reduceEqDiff, Nat.reduceBEq, Nat.reduceLT, Nat.reduceAdd, Nat.reduceLeDiff, Nat.reduceSub, Nat.reduceMul, Int.reduceLT, Int.reduceLE, Int.reduceEq, Int.reduceAdd, Int.reduceSub, Int.reduceMul, h0, h1, ll]
    all_goals first | rfl | assumption | done
  · rintro n t N hlt ⟨i, rfl, hi, g3, g10, g11, g12, w, g, hj⟩
    simp only [ht] at hlt ⊢
    have lN := Mem.get_lt g
    by_cases hc : i < l.length
    · have q1 : decide ((i : Int) < l.length) = true := decide_eq_true (by omega)
      have w1 : IntKind.i64.wrap ((i : Int) + 1) = ((i + 1 : Nat) : Int) := by rw [wrap_i64] <;> omega
      obtain ⟨r, hiad, hr, hrl⟩ := hS.iad i hc
      have wat := fun k (hk : l[i].sp.has x = some k) => where_at hc hk fun j hj' => hj j (by omega) hj'
      have key : l[i].sp.has x = none → ∀ j (h : j < l.length), j < i + 1 → l[j].sp.has x = none := fun q2 j h hj' => by
        rcases Nat.lt_succ_iff_lt_or_eq.1 hj' with h' | rfl
        · exact hj j h h'
        · exact q2
      generalize l[i] = e at *
      obtain ⟨ra, rfl, hra, hok⟩ := hr
      have ora := hra.one
      have hh := fun M => @ids_has fuel d e.sp x M
      cases q : e.sp.has x with
      | none =>
        rw [q] at hh
        simp only [Option.getD_none, Option.isSome_none] at hh
        simp (maxSteps := 2000000) (disch := first | omega | assumption | (simp only [DS, Nat.reduceAdd, *]; done) | (simp only [DZ]; omega)) only [RUN, RU, zD, zC, zB, zE, zG, slot, lay, zH, zF, zA, kR, reduceIte, Nat.reduceEqDiff, Nat.reduceBEq, Nat.reduceLT, Nat.reduceAdd, Nat.reduceLeDiff, Nat.reduceSub, Nat.reduceMul, Int.reduceLT, Int.reduceLE, Int.reduceEq, Int.reduceAdd, Int.reduceSub, Int.reduceMul, g3, g10, g11, g12, hS.fz.rows, hS.fz.one, hS.fz.cells, hS.fz.icy, hS.fz.frz, q1, hiad, hra.fz.rows, hra.fz.one, hra.fz.cells, hra.fz.icy, hra.fz.frz, w, g, w1, hh]
        exact ⟨hlt, l.length - (i + 1), by omega, i + 1, rfl, by omega, rfl, key q⟩
      | some k =>
        rw [q] at hh
        simp only [Option.getD_some, Option.isSome_some] at hh
        rw [wat k q]
        simp (maxSteps := 2000000) (disch := first | omega | assumption | (simp only [DS, Nat.reduceAdd, *]; done) | (simp only [DZ]; omega)) only [RUN, RU, zD, zC, zB, zE, zG, slot, lay, zH, zF, zA, kR, reduceIte, Nat.reduceEqDiff, Nat.reduceBEq, Nat.reduceLT, Nat.reduceAdd, Nat.reduceLeDiff, Nat.reduceSub, Nat.reduceMul, Int.reduceLT, Int.reduceLE, Int.reduceEq, Int.reduceAdd, Int.reduceSub, Int.reduceMul, g3, g10, g11, g12, hS.fz.rows, hS.fz.one, hS.fz.cells, hS.fz.icy, hS.fz.frz, q1, hiad, hra.fz.rows, hra.fz.one, hra.fz.cells, hra.fz.icy, hra.fz.frz, w, g, w1, hh, wN, wK]
    · obtain rfl : i = l.length := by omega
      have q1 : decide ((l.length : Int) < l.length) = false := decide_eq_false (by omega)
      have e : whereL l x = none := where_none fun r hr => by
        obtain ⟨j, hj', rfl⟩ := List.getElem_of_mem hr
        exact hj j hj' hj'
      rw [e]
      simp (maxSteps := 2000000) (disch := first | omega | assumption | (simp only [DS, Nat.reduceAdd, *]; done) | (simp only [DZ]; omega)) only [RUN, RU, zD, zC, zB, zE, zG, slot, lay, zH, zF, zA, kR, reduceIte, Nat.reduceEqDiff, Nat.reduceBEq, Nat.reduceLT, Nat.reduceAdd, Nat.reduceLeDiff, Nat.reduceSub, Nat.reduceMul, Int.reduceLT, Int.reduceLE, Int.reduceEq, Int.reduceAdd, Int.reduceSub, Int.reduceMul, g3, g10, g11, g12, q1, wN, wK]
end Go.Proofs.Ytbomjpdheibmfaa
