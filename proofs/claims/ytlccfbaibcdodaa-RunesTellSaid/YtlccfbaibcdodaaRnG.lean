/-
  runes: Of.
-/
import Derived.Test.YtlccfbaibcdodaaRnC
import Derived.Test.YtlccfbaibcdodaaRnP
set_option linter.unusedSimpArgs false
set_option linter.unusedVariables false
set_option maxRecDepth 100000
namespace Go.Proofs.Ytlccfbaibcdodaa
open Go Go.Ax
variable {fuel : Nat} {M : Mem} {Q : AV → Mem → Prop} {d : Nat}

/-- A text's runes, with so many at most. -/
def ofF : Nat → List UInt8 → Option (List Int)
  | 0, _ => some []
  | f + 1, l => match l with
    | [] => some []
    | c :: tl => match firstL (c :: tl) with
      | none => none
      | some (n, k) => (ofF f ((c :: tl).drop k)).map ((n : Int) :: ·)
def ofL (l : List UInt8) : Option (List Int) := ofF l.length l
def ofM (l : List UInt8) : List Int := match ofL l with | none => [] | some m => if 64 < m.length then [] else m
def ofE (l : List UInt8) : Int := match ofL l with | none => 3 | some m => if 64 < m.length then 4 else 0
theorem ofF_more : ∀ (f g : Nat) (l : List UInt8), l.length ≤ f → l.length ≤ g → ofF f l = ofF g l
  | 0, g, l, h, _ => by
    have : l = [] := List.eq_nil_of_length_eq_zero (by omega)
    subst this
    cases g <;> rfl
  | f + 1, 0, l, _, h => by
    have : l = [] := List.eq_nil_of_length_eq_zero (by omega)
    subst this; rfl
  | f + 1, g + 1, [], _, _ => rfl
  | f + 1, g + 1, c :: tl, h1, h2 => by
    cases hf : firstL (c :: tl) with
    | none => simp only [ofF, hf]
    | some p =>
      obtain ⟨n, k⟩ := p
      have := (firstL_bytes hf).2.2.1
      simp only [ofF, hf]
      rw [ofF_more f g _ (by rw [List.length_drop]; simp only [List.length_cons] at h1 ⊢; omega) (by rw [List.length_drop]; simp only [List.length_cons] at h2 ⊢; omega)]
theorem ofL_nil : ofL [] = some [] := rfl
theorem ofL_eq (l : List UInt8) (h : l ≠ []) : ofL l = match firstL l with | none => none | some (n, k) => (ofL (l.drop k)).map ((n : Int) :: ·) := by
  cases l with
  | nil => exact absurd rfl h
  | cons c tl =>
    show ofF (tl.length + 1) (c :: tl) = _
    cases hf : firstL (c :: tl) with
    | none => simp only [ofF, hf]
    | some p =>
      obtain ⟨n, k⟩ := p
      have := (firstL_bytes hf).2.2.1
      simp only [ofF, hf, ofL]
      rw [ofF_more tl.length _ _ (by rw [List.length_drop]; simp only [List.length_cons]; omega) (Nat.le_refl _)]

def pre (s p : List UInt8) : Bool := decide (s.take p.length = p)
theorem lprefix_run (s p : List UInt8) : ∀ M, callN Try.prog (fsT tbl) fuel (d + 1) (.fn 38) [STR s, STR p] M = some (BL (pre s p), M) := by
  intro M
  apply w3_eq
  refine call_gc tf38 rfl (by simp (maxSteps := 2000000) (disch := first | omega | assumption | (simp only [DS, Nat.reduceAdd, *]; done) | (simp only [DZ]; omega)) only [RUN, RU, footA, feetIn, resultsA, tupOf, frzL, slot, lay, icyL, fillA, repCells, kR, reduceIte, Nat.reduceEqDiff, Nat.reduceBEq, Nat.reduceLT, Nat.reduceAdd, Nat.reduceLeDiff, Nat.reduceSub, Nat.reduceMul, Int.reduceLT, Int.reduceLE, Int.reduceEq, Int.reduceAdd, Int.reduceSub, Int.reduceMul]) (by simp [a38]) fun b ht hx => ?_
  have h0 := hx 0 _ rfl
  have h1 := hx 1 _ rfl
  clear hx
  simp only [a38, c38] at ht ⊢
  have sl := fun t lo hi r x => pSubS (P := Try.prog) (t := t) Try.underlying9 x lo hi r
  have ln := fun t x r => pLenS (P := Try.prog) (t := t) Try.underlying9 x r
  by_cases hp : p.length ≤ s.length
  · have q1 : decide ((p.length : Int) ≤ s.length) = true := decide_eq_true (by omega)
    have st := fun d => sub_to (d := d) hp
    simp (maxSteps := 2000000) (disch := first | omega | assumption | (simp only [DS, Nat.reduceAdd, *]; done) | (simp only [DZ]; omega)) only [RUN, RU, footA, feetIn, resultsA, tupOf, frzL, slot, lay, icyL, fillA, repCells, kR, reduceIte, Nat.reduceEqDiff, Nat.reduceBEq, Nat.reduceLT, Nat.reduceAdd, Nat.reduceLeDiff, Nat.reduceSub, Nat.reduceMul, Int.reduceLT, Int.reduceLE, Int.reduceEq, Int.reduceAdd, Int.reduceSub, Int.reduceMul, h0, h1, sl, ln, psl_str, str_size, q1, st]
    rfl
  · have q1 : decide ((p.length : Int) ≤ s.length) = false := decide_eq_false (by omega)
    have : pre s p = false := by
      simp only [pre, decide_eq_false_iff_not]
      intro h
      have := congrArg List.length h
      rw [List.length_take] at this; omega
    rw [this]
    simp (maxSteps := 2000000) (disch := first | omega | assumption | (simp only [DS, Nat.reduceAdd, *]; done) | (simp only [DZ]; omega)) only [RUN, RU, footA, feetIn, resultsA, tupOf, frzL, slot, lay, icyL, fillA, repCells, kR, reduceIte, Nat.reduceEqDiff, Nat.reduceBEq, Nat.reduceLT, Nat.reduceAdd, Nat.reduceLeDiff, Nat.reduceSub, Nat.reduceMul, Int.reduceLT, Int.reduceLE, Int.reduceEq, Int.reduceAdd, Int.reduceSub, Int.reduceMul, h0, h1, sl, ln, psl_str, str_size, q1]
theorem prefix_run (s p : List UInt8) : ∀ M, callN Try.prog (fsT tbl) fuel (d + 2) (.fn 27) [STR s, STR p] M = some (BL (pre s p), M) := by
  intro M
  apply w3_eq
  refine call_gc tf27 rfl (by simp (maxSteps := 2000000) (disch := first | omega | assumption | (simp only [DS, Nat.reduceAdd, *]; done) | (simp only [DZ]; omega)) only [RUN, RU, footA, feetIn, resultsA, tupOf, frzL, slot, lay, icyL, fillA, repCells, kR, reduceIte, Nat.reduceEqDiff, Nat.reduceBEq, Nat.reduceLT, Nat.reduceAdd, Nat.reduceLeDiff, Nat.reduceSub, Nat.reduceMul, Int.reduceLT, Int.reduceLE, Int.reduceEq, Int.reduceAdd, Int.reduceSub, Int.reduceMul]) (by simp [a27]) fun b ht hx => ?_
  have h0 := hx 0 _ rfl
  have h1 := hx 1 _ rfl
  clear hx
  simp only [a27, c27] at ht ⊢
  have lr := lprefix_run (fuel := fuel) (d := d) s p
  simp (maxSteps := 2000000) (disch := first | omega | assumption | (simp only [DS, Nat.reduceAdd, *]; done) | (simp only [DZ]; omega)) only [RUN, RU, footA, feetIn, resultsA, tupOf, frzL, slot, lay, icyL, fillA, repCells, kR, reduceIte, Nat.reduceEqDiff, Nat.reduceBEq, Nat.reduceLT, Nat.reduceAdd, Nat.reduceLeDiff, Nat.reduceSub, Nat.reduceMul, Int.reduceLT, Int.reduceLE, Int.reduceEq, Int.reduceAdd, Int.reduceSub, Int.reduceMul, h0, h1, lr]

set_option maxHeartbeats 8000000 in
theorem of_run (l : List UInt8) (hl : l.length ≤ 100000) (hf : l.length + 10 < fuel) : ∃ r, Sl 1 isI32 r (ofM l) ∧ ∀ M, callN Try.prog (fsT tbl) fuel (d + 3) (.fn 13) [STR l] M = some (.tup [r, I64 (ofE l)], M) := by
  have ic : ∀ M, icyL (icy 12) M [STR l] = some ([STR l], M) := fun M => by simp (maxSteps := 2000000) (disch := first | omega | assumption | (simp only [DS, Nat.reduceAdd, *]; done) | (simp only [DZ]; omega)) only [RUN, RU, footA, feetIn, resultsA, tupOf, frzL, slot, lay, icyL, fillA, repCells, kR, reduceIte, Nat.reduceEqDiff, Nat.reduceBEq, Nat.reduceLT, Nat.reduceAdd, Nat.reduceLeDiff, Nat.reduceSub, Nat.reduceMul, Int.reduceLT, Int.reduceLE, Int.reduceEq, Int.reduceAdd, Int.reduceSub, Int.reduceMul]
  have key : W3 (callN Try.prog (fsT tbl) fuel (d + 3) (.fn 13) [STR l] mem0) (fun r _ => ∃ r', r = .tup [r', I64 (ofE l)] ∧ Sl 1 isI32 r' (ofM l)) := by
    refine call_gc tf13 rfl (ic mem0) (by simp [a13]) fun b ht hx => ?_
    have h0 := hx 0 _ rfl
    clear hx
    simp only [a13, c13] at ht ⊢
    simp (maxSteps := 2000000) (disch := first | omega | assumption | (simp only [DS, Nat.reduceAdd, *]; done) | (simp only [DZ]; omega)) only [RUN, RU, footA, feetIn, resultsA, tupOf, frzL, slot, lay, icyL, fillA, repCells, kR, reduceIte, Nat.reduceEqDiff, Nat.reduceBEq, Nat.reduceLT, Nat.reduceAdd, Nat.reduceLeDiff, Nat.reduceSub, Nat.reduceMul, Int.reduceLT, Int.reduceLE, Int.reduceEq, Int.reduceAdd, Int.reduceSub, Int.reduceMul, h0, @x_rng, rng_str]
    refine w_loop (I := fun n t N => ∃ (i : Nat) (o : AV) (acc : List Int), n = l.length - i ∧ i ≤ l.length ∧ nth undefA t 0 = STR l ∧ nth undefA t 2 = o ∧ nth undefA t 7 = .ptr 0 0 ∧ Wf N ∧ N.get 0 = some (.siter ⟨l.toArray⟩ i) ∧ SlM N 1 isI32 o acc ∧ rowOf o ≠ some 0 ∧ acc.length ≤ i ∧ ofL l = (ofL (l.drop i)).map (acc ++ ·)) (n := l.length) (by omega) ?_ ?_
    · refine ⟨0, NIL, [], by omega, by omega, ?_, ?_, ?_, by simp (maxSteps := 2000000) (disch := first | omega | assumption | (simp only [DS, Nat.reduceAdd, *]; done) | (simp only [DZ]; omega)) only [RUN, RU, footA, feetIn, resultsA, tupOf, frzL, slot, lay, icyL, fillA, repCells, kR, reduceIte, Nat.reduceEqDiff, Nat.reduceBEq, Nat.reduceLT, Nat.reduceAdd, Nat.reduceLeDiff, Nat.reduceSub, Nat.reduceMul, Int.reduceLT, Int.reduceLE, Int.reduceEq, Int.reduceAdd, Int.reduceSub, Int.reduceMul], by simp (maxSteps := 2000000) (disch := first | omega | assumption | (simp only [DS, Nat.reduceAdd, *]; done) | (simp only [DZ]; omega)) only [RUN, RU, footA, feetIn, resultsA, tupOf, frzL, slot, lay, icyL, fillA, repCells, kR, reduceIte, Nat.reduceEqDiff, Nat.reduceBEq, Nat.reduceLT, Nat.reduceAdd, Nat.reduceLeDiff, Nat.reduceSub, Nat.reduceMul, Int.reduceLT, Int.reduceLE, Int.reduceEq, Int.reduceAdd, Int.reduceSub, Int.reduceMul], SlM.nil, (fun h => by cases h), by simp, ?_⟩
      · simp (maxSteps := 2000000) (disch := first | omega | assumption | (simp only [DS, Nat.reduceAdd, *]; done) | (simp only [DZ]; omega)) only [RUN, RU, footA, feetIn, resultsA, tupOf, frzL, slot, lay, icyL, fillA, repCells, kR, reduceIte, Nat.reduceEqDiff, Nat.reduceBEq, Nat.reduceLT, Nat.reduceAdd, Nat.reduceLeDiff, Nat.reduceSub, Nat.reduceMul, Int.reduceLT, Int.reduceLE, Int.reduceEq, Int.reduceAdd, Int.reduceSub, Int.reduceMul, h0]
      · simp (maxSteps := 2000000) (disch := first | omega | assumption | (simp only [DS, Nat.reduceAdd, *]; done) | (simp only [DZ]; omega)) only [RUN, RU, footA, feetIn, resultsA, tupOf, frzL, slot, lay, icyL, fillA, repCells, kR, reduceIte, Nat.reduceEqDiff, Nat.reduceBEq, Nat.reduceLT, Nat.reduceAdd, Nat.reduceLeDiff, Nat.reduceSub, Nat.reduceMul, Int.reduceLT, Int.reduceLE, Int.reduceEq, Int.reduceAdd, Int.reduceSub, Int.reduceMul, h0]
      · simp (maxSteps := 2000000) (disch := first | omega | assumption | (simp only [DS, Nat.reduceAdd, *]; done) | (simp only [DZ]; omega)) only [RUN, RU, footA, feetIn, resultsA, tupOf, frzL, slot, lay, icyL, fillA, repCells, kR, reduceIte, Nat.reduceEqDiff, Nat.reduceBEq, Nat.reduceLT, Nat.reduceAdd, Nat.reduceLeDiff, Nat.reduceSub, Nat.reduceMul, Int.reduceLT, Int.reduceLE, Int.reduceEq, Int.reduceAdd, Int.reduceSub, Int.reduceMul, h0]
      · simp
    · rintro n t N hl' ⟨i, o, acc, rfl, hi, t0, t2, t7, wfN, g0, hN, ho0, hacc, hof⟩
      simp only [ht] at hl' ⊢
      clear h0 ht b
      have lN := Mem.get_lt g0
      by_cases hlt : i < l.length
      · have hne : l.drop i ≠ [] := by
          intro h; have := congrArg List.length h; rw [List.length_drop] at this; simp at this; omega
        have hdec : Utf8.decode ⟨l.toArray⟩ i = (firstL (l.drop i)).getD (65533, 1) := by
          have := Lib.decodeL_drop ⟨l.toArray⟩ i
          rw [← this]
          show Lib.decodeL (l.drop i) = _
          cases hd : l.drop i with
          | nil => exact absurd hd hne
          | cons c tl => exact first_decode c tl
        have nx := nxt_on (s := ⟨l.toArray⟩) wfN g0 lN (by rw [str_size]; exact hlt)
        rw [hdec] at nx
        rw [ofL_eq _ hne] at hof
        have sl := fun t lo hi r x => pSubS (P := Try.prog) (t := t) Try.underlying9 x lo hi r
        have sf := fun d => sub_from (d := d) (show i ≤ l.length by omega)
        have pr := prefix_run (fuel := fuel) (d := d) (l.drop i) [239, 191, 189]
        cases hfi : firstL (l.drop i) with
        | none =>
          rw [hfi] at nx hof
          simp only [Option.getD_none, goInt] at nx
          have hp : pre (l.drop i) [239, 191, 189] = false := by
            simp only [pre, decide_eq_false_iff_not]
            intro h
            match hd : l.drop i, h with
            | 239 :: 191 :: 189 :: tl, _ => rw [hd, first_odd] at hfi; cases hfi
            | [], h => simp at h
            | [a], h => simp at h
            | [a, b], h => simp at h
            | a :: b :: c :: tl, h =>
              simp only [List.length_cons, List.length_nil, Nat.zero_add, Nat.reduceAdd, List.take_succ_cons, List.take_zero, List.cons.injEq, and_true] at h
              obtain ⟨rfl, rfl, rfl⟩ := h
              rw [hd, first_odd] at hfi; cases hfi
          rw [hp] at pr
          have q1 : ofE l = 3 := by simp [ofE, hof]
          have q2 : ofM l = [] := by simp [ofM, hof]
          rw [q1, q2]
          have qq : decide (((65533 : Nat) : Int) = 65533) = true := by decide
          simp (maxSteps := 2000000) (disch := first | omega | assumption | (simp only [DS, Nat.reduceAdd, *]; done) | (simp only [DZ]; omega)) only [RUN, RU, footA, feetIn, resultsA, tupOf, frzL, slot, lay, icyL, fillA, repCells, kR, reduceIte, Nat.reduceEqDiff, Nat.reduceBEq, Nat.reduceLT, Nat.reduceAdd, Nat.reduceLeDiff, Nat.reduceSub, Nat.reduceMul, Int.reduceLT, Int.reduceLE, Int.reduceEq, Int.reduceAdd, Int.reduceSub, Int.reduceMul, t0, t2, t7, @x_nxt, nx, sl, sf, pr, qq]
          exact ⟨_, rfl, .inl ⟨rfl, rfl⟩⟩
        | some p =>
          obtain ⟨n, k⟩ := p
          obtain ⟨b1, b2, b3, b4⟩ := firstL_bytes hfi
          rw [hfi] at nx hof
          rw [List.length_drop] at b4
          simp only [Option.getD_some, goInt] at nx
          simp only at hof
          have hn : (n : Int) ≤ 1114111 := by simp [isR] at b1; omega
          have hp : decide ((n : Int) = 65533) = true → pre (l.drop i) [239, 191, 189] = true := fun h => by
            have : n = 65533 := by have := of_decide_eq_true h; omega
            subst this
            rw [odd_bytes] at b2
            simp only [pre, decide_eq_true_eq]
            have h3 : k = 3 := by
              rcases Nat.lt_or_ge k (l.length - i + 1) with hk | hk
              · have := congrArg List.length b2
                rw [List.length_take, List.length_drop, Nat.min_eq_left b4] at this
                exact this.symm
              · omega
            subst h3
            exact b2.symm
          have fin : ∀ (o' : AV) (N' : Mem), Wf N' → N'.get 0 = some (.siter ⟨l.toArray⟩ (i + k)) → SlM N' 1 isI32 o' (acc ++ [(n : Int)]) → rowOf o' ≠ some 0 →
              ∃ m, m < l.length - i ∧ ∃ (i' : Nat) (o'' : AV) (acc' : List Int), m = l.length - i' ∧ i' ≤ l.length ∧ o' = o'' ∧ Wf N' ∧ N'.get 0 = some (.siter ⟨l.toArray⟩ i') ∧ SlM N' 1 isI32 o'' acc' ∧ rowOf o'' ≠ some 0 ∧ acc'.length ≤ i' ∧ ofL l = (ofL (l.drop i')).map (acc' ++ ·) := by
            intro o' N' w1 w2 w3 w4
            refine ⟨l.length - (i + k), by omega, i + k, o', acc ++ [(n : Int)], rfl, by omega, rfl, w1, w2, w3, w4, by simp; omega, ?_⟩
            rw [hof, List.drop_drop]
            cases ofL (l.drop (i + k)) <;> simp
          have oo := hN.one
          have oco := hN.cells
          have rlo := rows_lt hN.rl (show N.size ≤ N.size + 1 by omega)
          cases hq : decide ((n : Int) = 65533)
          all_goals
            try rw [hp hq] at pr
            simp (maxSteps := 2000000) (disch := first | omega | assumption | (simp only [DS, Nat.reduceAdd, *]; done) | (simp only [DZ]; omega)) only [RUN, RU, footA, feetIn, resultsA, tupOf, frzL, slot, lay, icyL, fillA, repCells, kR, reduceIte, Nat.reduceEqDiff, Nat.reduceBEq, Nat.reduceLT, Nat.reduceAdd, Nat.reduceLeDiff, Nat.reduceSub, Nat.reduceMul, Int.reduceLT, Int.reduceLE, Int.reduceEq, Int.reduceAdd, Int.reduceSub, Int.reduceMul, t0, t2, t7, @x_nxt, nx, sl, sf, pr, hq, oo, oco, rlo, wfN]
            refine w3_appc (by simp (maxSteps := 2000000) (disch := first | omega | assumption | (simp only [DS, Nat.reduceAdd, *]; done) | (simp only [DZ]; omega)) only [RUN, RU, footA, feetIn, resultsA, tupOf, frzL, slot, lay, icyL, fillA, repCells, kR, reduceIte, Nat.reduceEqDiff, Nat.reduceBEq, Nat.reduceLT, Nat.reduceAdd, Nat.reduceLeDiff, Nat.reduceSub, Nat.reduceMul, Int.reduceLT, Int.reduceLE, Int.reduceEq, Int.reduceAdd, Int.reduceSub, Int.reduceMul, wfN]) (hN.keep fun j hj => ?kp) cel_I32 (l' := [(n : Int)]) (new := [[I32 n]]) (cells_lit (cs := [I32 n]) (n := 1) (st := 1) (get_add_new (wfN.upd _ _) _ _ (Nat.le_refl _) (Nat.lt_succ_self _)) rfl) rfl (.cons ⟨rfl, by omega, by omega⟩ .nil) (by simp) (by omega) (by simp; omega) (by simp; omega) fun o4 M4 m4 wf4 le4 sz4 kp4 nw4 wm4 rl4 on4 oc4 => ?_
            case kp =>
              have := hN.lt j hj
              have : 0 ≠ j := fun e => ho0 (by rw [e]; exact hj)
              simp (maxSteps := 2000000) (disch := first | omega | assumption | (simp only [DS, Nat.reduceAdd, *]; done) | (simp only [DZ]; omega)) only [RUN, RU, footA, feetIn, resultsA, tupOf, frzL, slot, lay, icyL, fillA, repCells, kR, reduceIte, Nat.reduceEqDiff, Nat.reduceBEq, Nat.reduceLT, Nat.reduceAdd, Nat.reduceLeDiff, Nat.reduceSub, Nat.reduceMul, Int.reduceLT, Int.reduceLE, Int.reduceEq, Int.reduceAdd, Int.reduceSub, Int.reduceMul, wfN]
            simp only [add_size, upd_size] at le4 sz4
            have g4 := kp4 0 (by simp only [add_size, upd_size]; omega) ho0
            simp (maxSteps := 2000000) (disch := first | omega | assumption | (simp only [DS, Nat.reduceAdd, *]; done) | (simp only [DZ]; omega)) only [RUN, RU, footA, feetIn, resultsA, tupOf, frzL, slot, lay, icyL, fillA, repCells, kR, reduceIte, Nat.reduceEqDiff, Nat.reduceBEq, Nat.reduceLT, Nat.reduceAdd, Nat.reduceLeDiff, Nat.reduceSub, Nat.reduceMul, Int.reduceLT, Int.reduceLE, Int.reduceEq, Int.reduceAdd, Int.reduceSub, Int.reduceMul, wfN] at g4
            simp (maxSteps := 2000000) (disch := first | omega | assumption | (simp only [DS, Nat.reduceAdd, *]; done) | (simp only [DZ]; omega)) only [RUN, RU, footA, feetIn, resultsA, tupOf, frzL, slot, lay, icyL, fillA, repCells, kR, reduceIte, Nat.reduceEqDiff, Nat.reduceBEq, Nat.reduceLT, Nat.reduceAdd, Nat.reduceLeDiff, Nat.reduceSub, Nat.reduceMul, Int.reduceLT, Int.reduceLE, Int.reduceEq, Int.reduceAdd, Int.reduceSub, Int.reduceMul, t0, t2, t7]
            exact ⟨hl', fin o4 M4 wf4 g4 m4 (fun h => (nw4 0 h).elim (fun h => ho0 h) (fun h => by simp only [add_size, upd_size] at h; omega))⟩
      · have : i = l.length := by omega
        subst this
        rw [List.drop_length, ofL_nil] at hof
        simp only [Option.map_some, List.append_nil] at hof
        have nx := nxt_off (s := ⟨l.toArray⟩) g0 (by rw [str_size]; exact Nat.le_refl _)
        have ln := hN.len
        obtain ⟨r, hSr, hfz⟩ := slm_frz2 hN cel_I32 12 (by omega)
        have hfz := hfz N (fun _ _ => rfl)
        by_cases h64 : 64 < acc.length
        · have q1 : decide ((64 : Int) < acc.length) = true := decide_eq_true (by omega)
          have q2 : ofE l = 4 := by simp [ofE, hof, h64]
          have q3 : ofM l = [] := by simp [ofM, hof, h64]
          rw [q2, q3]
          simp (maxSteps := 2000000) (disch := first | omega | assumption | (simp only [DS, Nat.reduceAdd, *]; done) | (simp only [DZ]; omega)) only [RUN, RU, footA, feetIn, resultsA, tupOf, frzL, slot, lay, icyL, fillA, repCells, kR, reduceIte, Nat.reduceEqDiff, Nat.reduceBEq, Nat.reduceLT, Nat.reduceAdd, Nat.reduceLeDiff, Nat.reduceSub, Nat.reduceMul, Int.reduceLT, Int.reduceLE, Int.reduceEq, Int.reduceAdd, Int.reduceSub, Int.reduceMul, t0, t2, t7, @x_nxt, nx, ln, q1]
          exact ⟨_, rfl, .inl ⟨rfl, rfl⟩⟩
        · have q1 : decide ((64 : Int) < acc.length) = false := decide_eq_false (by omega)
          have q2 : ofE l = 0 := by simp [ofE, hof, h64]
          have q3 : ofM l = acc := by simp [ofM, hof, h64]
          rw [q2, q3]
          simp (maxSteps := 2000000) (disch := first | omega | assumption | (simp only [DS, Nat.reduceAdd, *]; done) | (simp only [DZ]; omega)) only [RUN, RU, footA, feetIn, resultsA, tupOf, frzL, slot, lay, icyL, fillA, repCells, kR, reduceIte, Nat.reduceEqDiff, Nat.reduceBEq, Nat.reduceLT, Nat.reduceAdd, Nat.reduceLeDiff, Nat.reduceSub, Nat.reduceMul, Int.reduceLT, Int.reduceLE, Int.reduceEq, Int.reduceAdd, Int.reduceSub, Int.reduceMul, t0, t2, t7, @x_nxt, nx, ln, q1, hfz]
          exact ⟨_, rfl, hSr⟩
  obtain ⟨r, N, hcl, r', rfl, hSr⟩ := key
  exact ⟨r', hSr, fun M => call_own tf13 rfl hcl (ic mem0) (ic M)⟩
end Go.Proofs.Ytlccfbaibcdodaa
