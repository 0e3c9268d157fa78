/-
  purge: whether an event may be.
-/
import Derived.Test.YtjbninmklbkklaaDoorPuG
set_option linter.unusedSimpArgs false
set_option linter.unusedVariables false
set_option maxRecDepth 100000
namespace Go.Proofs.YtjbninmklbkklaaDoor
open Go Go.Ax
variable {fuel : Nat} {M : Mem} {Q : AV → Mem → Prop} {d : Nat}

theorem call_ext {P : Program} {fs : Nat → Option AFunc} {f : Nat} {af : AFunc} {g : List AV → Option AV} {args : List AV} {r : AV} {n : Nat} (h : fs f = some af) (hg : af.gc = 3) (hb : af.body = .ext g) (hi : icyL (icy 12) M args = some (args, M)) (hr : g args = some r) :
    callN P fs fuel (n + 1) (.fn f) args M = some (r, M) := by
  simp only [callN, h, hg, hi, hb, hr]
theorem ev_icy {e : Ev} {da ca : AV} (h1 : Bs da e.data) (h2 : Sl 1 isInt ca e.crash) (M : Mem) : icyL (icy 11) M (evRow e da ca) = some (evRow e da ca, M) :=
  icyL_same (by omega) (fun x hx M => by
    simp only [evRow, List.mem_cons, List.not_mem_nil, or_false] at hx
    rcases hx with rfl | rfl | rfl | rfl | rfl | rfl | rfl | rfl | rfl | rfl | rfl | rfl | rfl | rfl | rfl | rfl | rfl
    all_goals first | exact icy_sc _ (by omega) | exact h1.icy M 11 (by omega) | exact h2.icy M 11 (by omega)) M
theorem ev_icy1 {e : Ev} {da ca : AV} (h1 : Bs da e.data) (h2 : Sl 1 isInt ca e.crash) (M : Mem) : icy 12 M (.agg (evRow e da ca)) = some (.agg (evRow e da ca), M) := by
  rw [icy_agg _ (by omega), ev_icy h1 h2]
theorem its_run {e : Ev} {da ca : AV} (h1 : Bs da e.data) (h2 : Sl 1 isInt ca e.crash) (M : Mem) : callN Tryd.prog (fsT tbl) fuel (d + 1) (.fn 39) [.agg (evRow e da ca)] M = some (BL (itsK e.kind.toNat), M) := by
  have hk := e.kind.toNat_lt
  refine call_ext tf39 rfl rfl (by simp only [icyL, ev_icy1 h1 h2]) ?_
  unfold extHandles evRow
  have hc : (Nat.beq (([U8 e.lb.lv, U32 e.lb.cats, U8 e.num, I64 e.user, I64 e.k, I64 e.many, STR e.text, U8 e.to.lv, U32 e.to.cats, U8 e.what, da, I64 e.gu, U8 e.gl.lv, U32 e.gl.cats, BL e.gok, ca] : List AV).length) 16 && decide ((0 : Int) ≤ e.kind.toNat) && decide ((e.kind.toNat : Int) ≤ 255)) = true := by
    rw [decide_eq_true (by omega : (0 : Int) ≤ e.kind.toNat), decide_eq_true (by omega : (e.kind.toNat : Int) ≤ 255)]
    rfl
  simp only [hc]
theorem hd_dep : (PT.st [.st [.int .u8, .int .u32], .int .u8]).dep ≤ 10000 := by decide
theorem hd_iss (a b c : Int) : PT.iss [.st [.int .u8, .int .u32], .int .u8] [.int .u8 a, .int .u32 b, .int .u8 c] := by
  simp only [PT.iss, PT.is]
  exact ⟨[.int .u8 a, .int .u32 b], [.int .u8 c], rfl, ⟨[.int .u8 a], [.int .u32 b], rfl, ⟨_, rfl⟩, [.int .u32 b], [], rfl, ⟨_, rfl⟩, rfl⟩, [.int .u8 c], [], rfl, ⟨_, rfl⟩, rfl⟩
/-- Are two handles the same? -/
def pe3E (d : Option AV) (u v : AV) : Option AV := match u, v with
  | .agg [.sc (.int .u8 a), .sc (.int .u32 b), .sc (.int .u8 c)], .agg [.sc (.int .u8 a'), .sc (.int .u32 b'), .sc (.int .u8 c')] => some (BL (decide (a = a') && decide (b = b') && decide (c = c')))
  | _, _ => d
theorem pHdE {t : List AV} (i j : Nat) : pureOp Tryd.prog t (mkO (.binOp .eql 36 (.tmp i) (.tmp j) 36) 4) = pe3E (pureD Tryd.prog t (mkO (.binOp .eql 36 (.tmp i) (.tmp j) 36) 4)) (evalA t (.tmp i)) (evalA t (.tmp j)) := by
  unfold pe3E
  split
  · rename_i a b c a' b' c' h1 h2
    obtain ⟨r, hr, he⟩ := pEqS (P := Tryd.prog) [.st [.int .u8, .int .u32], .int .u8] false 36 36 4 i j (by kernel_rfl) hd_dep (by kernel_rfl) h1 h2 rfl rfl (hd_iss _ _ _) (hd_iss _ _ _)
    have e : r = (decide (a = a') && decide (b = b') && decide (c = c')) := by
      rw [Bool.eq_iff_iff, he]
      simp [and_assoc]
    rw [← e]
    exact hr
  · rfl
theorem pe3E_val (d : Option AV) (a b c a' b' c' : Int) : pe3E d (.agg [U8 a, U32 b, U8 c]) (.agg [U8 a', U32 b', U8 c']) = some (BL (decide (a = a') && decide (b = b') && decide (c = c'))) := rfl
/-- Are two handles the same? -/
def pe3N (d : Option AV) (u v : AV) : Option AV := match u, v with
  | .agg [.sc (.int .u8 a), .sc (.int .u32 b), .sc (.int .u8 c)], .agg [.sc (.int .u8 a'), .sc (.int .u32 b'), .sc (.int .u8 c')] => some (BL (!(decide (a = a') && decide (b = b') && decide (c = c'))))
  | _, _ => d
theorem pHdN {t : List AV} (i j : Nat) : pureOp Tryd.prog t (mkO (.binOp .neq 36 (.tmp i) (.tmp j) 36) 4) = pe3N (pureD Tryd.prog t (mkO (.binOp .neq 36 (.tmp i) (.tmp j) 36) 4)) (evalA t (.tmp i)) (evalA t (.tmp j)) := by
  unfold pe3N
  split
  · rename_i a b c a' b' c' h1 h2
    obtain ⟨r, hr, he⟩ := pEqS (P := Tryd.prog) [.st [.int .u8, .int .u32], .int .u8] true 36 36 4 i j (by kernel_rfl) hd_dep (by kernel_rfl) h1 h2 rfl rfl (hd_iss _ _ _) (hd_iss _ _ _)
    have e : r = (decide (a = a') && decide (b = b') && decide (c = c')) := by
      rw [Bool.eq_iff_iff, he]
      simp [and_assoc]
    rw [← e]
    exact hr
  · rfl
theorem pe3N_val (d : Option AV) (a b c a' b' c' : Int) : pe3N d (.agg [U8 a, U32 b, U8 c]) (.agg [U8 a', U32 b', U8 c']) = some (BL (!(decide (a = a') && decide (b = b') && decide (c = c')))) := rfl

theorem odd_run (n : Int) (M : Mem) : callN Tryd.prog (fsT tbl) fuel (d + 1) (.fn 43) [I64 n] M = some (BL (decide (n < 0) || decide (16777216 ≤ n)), M) := by
  apply w3_eq
  refine call_gc tf43 rfl (by simp (maxSteps := 2000000) (disch := first | omega | assumption | (simp only [DS, Nat.reduceAdd, *]; done) | (simp only [DZ]; omega)) only [RUN, RU, footA, feetIn, resultsA, tupOf, frzL, slot, lay, icyL, fillA, repCells, kR, reduceIte, Nat.reduceEqDiff, Nat.reduceBEq, Nat.reduceLT, Nat.reduceAdd, Nat.reduceLeDiff, Nat.reduceSub, Nat.reduceMul, Int.reduceLT, Int.reduceLE, Int.reduceEq, Int.reduceAdd, Int.reduceSub, Int.reduceMul]) (by simp [a43]) fun b' ht hx => ?_
  have h0 := hx 0 _ rfl
  clear hx
  simp only [a43, c43] at ht ⊢
  by_cases q : n < 0
  · have q1 : decide (n < 0) = true := decide_eq_true q
    simp (maxSteps := 2000000) (disch := first | omega | assumption | (simp only [DS, Nat.reduceAdd, *]; done) | (simp only [DZ]; omega)) only [RUN, RU, footA, feetIn, resultsA, tupOf, frzL, slot, lay, icyL, fillA, repCells, kR, reduceIte, Nat.reduceEqDiff, Nat.reduceBEq, Nat.reduceLT, Nat.reduceAdd, Nat.reduceLeDiff, Nat.reduceSub, Nat.reduceMul, Int.reduceLT, Int.reduceLE, Int.reduceEq, Int.reduceAdd, Int.reduceSub, Int.reduceMul, h0, q1, Bool.true_or]
  · have q1 : decide (n < 0) = false := decide_eq_false q
    simp (maxSteps := 2000000) (disch := first | omega | assumption | (simp only [DS, Nat.reduceAdd, *]; done) | (simp only [DZ]; omega)) only [RUN, RU, footA, feetIn, resultsA, tupOf, frzL, slot, lay, icyL, fillA, repCells, kR, reduceIte, Nat.reduceEqDiff, Nat.reduceBEq, Nat.reduceLT, Nat.reduceAdd, Nat.reduceLeDiff, Nat.reduceSub, Nat.reduceMul, Int.reduceLT, Int.reduceLE, Int.reduceEq, Int.reduceAdd, Int.reduceSub, Int.reduceMul, h0, q1, Bool.false_or]
/-- The place of the first one that is so. -/
def posF {α : Type} (p : α → Bool) (l : List α) : Int := if l.findIdx p < l.length then (l.findIdx p : Int) else -1
theorem posF_any {α : Type} (p : α → Bool) (l : List α) : decide (0 ≤ posF p l) = l.any p := by
  unfold posF
  by_cases h : l.findIdx p < l.length
  · rw [if_pos h, decide_eq_true (by omega)]
    symm
    rw [List.any_eq_true]
    exact ⟨l[l.findIdx p], List.getElem_mem h, List.findIdx_getElem (w := h)⟩
  · rw [if_neg h]
    symm
    rw [show decide ((0 : Int) ≤ -1) = false from rfl, List.any_eq_false]
    intro x hx hp
    exact h (List.findIdx_lt_length_of_exists ⟨x, hx, hp⟩)
theorem posF_at {α : Type} {p : α → Bool} {l : List α} {i : Nat} (hi : i < l.length) (h : ∀ j (hj : j < i), p l[j] = false) (hp : p l[i] = true) : posF p l = i := by
  have e : l.findIdx p = i := by
    rw [List.findIdx_eq hi]
    exact ⟨hp, fun j hj => h j hj⟩
  unfold posF
  rw [e, if_pos hi]
theorem posF_none {α : Type} {p : α → Bool} {l : List α} (h : ∀ j (hj : j < l.length), p l[j] = false) : posF p l = -1 := by
  have : ¬ l.findIdx p < l.length := fun hlt => by
    have := List.findIdx_getElem (w := hlt)
    rw [h _ hlt] at this
    cases this
  unfold posF
  rw [if_neg this]

set_option maxHeartbeats 4000000 in
theorem index_int {p : Int → Bool} {a : AV} {l : List Int} {g : Nat} (hS : Sl 1 isInt a l) (hl : l.length ≤ 1000000) (hf : l.length < fuel) (hp : ∀ r x, isInt r x → x ∈ l → ∀ M, callN Tryd.prog (fsT tbl) fuel d (.fn g) [I64 x] M = some (BL (p x), M)) (M : Mem) :
    callN Tryd.prog (fsT tbl) fuel (d + 1) (.fn 51) [a, .fn g [] []] M = some (I64 (posF p l), M) := by
  have ll := hS.len
  have lr := hS.rows mem0
  apply w3_eq
  refine call_gc tf51 rfl (by simp (maxSteps := 2000000) (disch := first | omega | assumption | (simp only [DS, Nat.reduceAdd, *]; done) | (simp only [DZ]; omega)) only [RUN, RU, footA, feetIn, resultsA, tupOf, frzL, slot, lay, icyL, fillA, repCells, kR, reduceIte, Nat.reduceEqDiff, Nat.reduceBEq, Nat.reduceLT, Nat.reduceAdd, Nat.reduceLeDiff, Nat.reduceSub, Nat.reduceMul, Int.reduceLT, Int.reduceLE, Int.reduceEq, Int.reduceAdd, Int.reduceSub, Int.reduceMul, hS.icy]) (by simp [a51]) fun b' ht hx => ?_
  have h0 := hx 0 _ rfl
  have h1 := hx 1 _ rfl
  clear hx
  simp only [a51, c51] at ht ⊢
  simp (maxSteps := 2000000) (disch := first | omega | assumption | (simp only [DS, Nat.reduceAdd, *]; done) | (simp only [DZ]; omega)) only [RUN, RU, footA, feetIn, resultsA, tupOf, frzL, slot, lay, icyL, fillA, repCells, kR, reduceIte, Nat.reduceEqDiff, Nat.reduceBEq, Nat.reduceLT, Nat.reduceAdd, Nat.reduceLeDiff, Nat.reduceSub, Nat.reduceMul, Int.reduceLT, Int.reduceLE, Int.reduceEq, Int.reduceAdd, Int.reduceSub, Int.reduceMul, h0, h1, ll, lr]
  refine w_loop (I := fun n t M => ∃ i : Nat, n = l.length - i ∧ i ≤ l.length ∧ (∀ j (hj : j < l.length), j < i → p l[j] = false) ∧ nth undefA t 8 = I64 i ∧ nth undefA t 7 = I64 l.length ∧ nth undefA t 0 = a ∧ nth undefA t 1 = .fn g [] [] ∧ M = mem0) (n := l.length) hf ?_ ?_
  · refine ⟨0, rfl, by omega, (fun j hj h => absurd h (Nat.not_lt_zero _)), ?_, ?_, ?_, ?_, rfl⟩ <;> simp (maxSteps := 2000000) (disch := first | omega | assumption | (simp only [DS, Nat.reduceAdd, *]; done) | (simp only [DZ]; omega)) only [RUN, RU, footA, feetIn, resultsA, tupOf, frzL, slot, lay, icyL, fillA, repCells, kR, reduceIte, Nat.reduceEqDiff, Nat.reduceBEq, Nat.reduceLT, Nat.reduceAdd, Nat.reduceLeDiff, Nat.reduceSub, Nat.reduceMul, Int.reduceLT, Int.reduceLE, Int.reduceEq, Int.reduceAdd, Int.reduceSub, Int.reduceMul, h0, h1, ll, lr]
    all_goals first | rfl | assumption
  · rintro n t M' hlt ⟨i, rfl, hi, hall, g8, g7, g0, g1, rfl⟩
    simp only [ht] at hlt ⊢
    by_cases hc : i < l.length
    · have q1 : decide ((i : Int) < l.length) = true := decide_eq_true (by omega)
      obtain ⟨r, hiad, hr, hrl⟩ := hS.iad i hc
      have hpc := hp _ _ hr (List.getElem_mem hc)
      obtain rfl : r = [I64 l[i]] := hr
      have w1 : IntKind.i64.wrap ((i : Int) + 1) = ((i + 1 : Nat) : Int) := by rw [wrap_i64] <;> omega
      cases hb : p l[i] with
      | true =>
        rw [hb] at hpc
        have hpos := posF_at hc (fun j hj => hall j (by omega) hj) hb
        simp (maxSteps := 2000000) (disch := first | omega | assumption | (simp only [DS, Nat.reduceAdd, *]; done) | (simp only [DZ]; omega)) only [RUN, RU, footA, feetIn, resultsA, tupOf, frzL, slot, lay, icyL, fillA, repCells, kR, reduceIte, Nat.reduceEqDiff, Nat.reduceBEq, Nat.reduceLT, Nat.reduceAdd, Nat.reduceLeDiff, Nat.reduceSub, Nat.reduceMul, Int.reduceLT, Int.reduceLE, Int.reduceEq, Int.reduceAdd, Int.reduceSub, Int.reduceMul, g8, g7, g0, g1, q1, hiad, hpc, lr, w1, hpos ]
      | false =>
        rw [hb] at hpc
        simp (maxSteps := 2000000) (disch := first | omega | assumption | (simp only [DS, Nat.reduceAdd, *]; done) | (simp only [DZ]; omega)) only [RUN, RU, footA, feetIn, resultsA, tupOf, frzL, slot, lay, icyL, fillA, repCells, kR, reduceIte, Nat.reduceEqDiff, Nat.reduceBEq, Nat.reduceLT, Nat.reduceAdd, Nat.reduceLeDiff, Nat.reduceSub, Nat.reduceMul, Int.reduceLT, Int.reduceLE, Int.reduceEq, Int.reduceAdd, Int.reduceSub, Int.reduceMul, g8, g7, g0, g1, q1, hiad, hpc, lr, w1 ]
        refine ⟨hlt, l.length - (i + 1), by omega, i + 1, rfl, by omega, fun j hj hji => ?_, rfl⟩
        by_cases e : j = i
        · subst e; exact hb
        · exact hall j hj (by omega)
    · obtain rfl : i = l.length := by omega
      have q1 : decide ((l.length : Int) < l.length) = false := decide_eq_false (by omega)
      have hpos := posF_none (p := p) (l := l) fun j hj => hall j hj hj
      simp (maxSteps := 2000000) (disch := first | omega | assumption | (simp only [DS, Nat.reduceAdd, *]; done) | (simp only [DZ]; omega)) only [RUN, RU, footA, feetIn, resultsA, tupOf, frzL, slot, lay, icyL, fillA, repCells, kR, reduceIte, Nat.reduceEqDiff, Nat.reduceBEq, Nat.reduceLT, Nat.reduceAdd, Nat.reduceLeDiff, Nat.reduceSub, Nat.reduceMul, Int.reduceLT, Int.reduceLE, Int.reduceEq, Int.reduceAdd, Int.reduceSub, Int.reduceMul, g8, g7, g0, g1, q1, hpos]
theorem has_int {p : Int → Bool} {a : AV} {l : List Int} {g : Nat} (hS : Sl 1 isInt a l) (hl : l.length ≤ 1000000) (hf : l.length < fuel) (hp : ∀ r x, isInt r x → x ∈ l → ∀ M, callN Tryd.prog (fsT tbl) fuel d (.fn g) [I64 x] M = some (BL (p x), M)) (M : Mem) :
    callN Tryd.prog (fsT tbl) fuel (d + 2) (.fn 44) [a, .fn g [] []] M = some (BL (l.any p), M) := by
  have hi := fun M => index_int hS hl hf hp M
  have hpos := posF_any p l
  apply w3_eq
  refine call_gc tf44 rfl (by simp (maxSteps := 2000000) (disch := first | omega | assumption | (simp only [DS, Nat.reduceAdd, *]; done) | (simp only [DZ]; omega)) only [RUN, RU, footA, feetIn, resultsA, tupOf, frzL, slot, lay, icyL, fillA, repCells, kR, reduceIte, Nat.reduceEqDiff, Nat.reduceBEq, Nat.reduceLT, Nat.reduceAdd, Nat.reduceLeDiff, Nat.reduceSub, Nat.reduceMul, Int.reduceLT, Int.reduceLE, Int.reduceEq, Int.reduceAdd, Int.reduceSub, Int.reduceMul, hS.icy]) (by simp [a44]) fun b' ht hx => ?_
  have h0 := hx 0 _ rfl
  have h1 := hx 1 _ rfl
  clear hx
  simp only [a44, c44] at ht ⊢
  simp (maxSteps := 2000000) (disch := first | omega | assumption | (simp only [DS, Nat.reduceAdd, *]; done) | (simp only [DZ]; omega)) only [RUN, RU, footA, feetIn, resultsA, tupOf, frzL, slot, lay, icyL, fillA, repCells, kR, reduceIte, Nat.reduceEqDiff, Nat.reduceBEq, Nat.reduceLT, Nat.reduceAdd, Nat.reduceLeDiff, Nat.reduceSub, Nat.reduceMul, Int.reduceLT, Int.reduceLE, Int.reduceEq, Int.reduceAdd, Int.reduceSub, Int.reduceMul, h0, h1, hi, hpos]

set_option maxHeartbeats 4000000 in
theorem index_ev {p : Ev → Bool} {a : AV} {l : List Ev} {g : Nat} (hS : Sl 17 isEv a l) (hl : l.length ≤ 1000000) (hf : l.length < fuel) (hp : ∀ r x, isEv r x → x ∈ l → ∀ M, callN Tryd.prog (fsT tbl) fuel d (.fn g) [.agg r] M = some (BL (p x), M)) (M : Mem) :
    callN Tryd.prog (fsT tbl) fuel (d + 1) (.fn 41) [a, .fn g [] []] M = some (I64 (posF p l), M) := by
  have ll := hS.len
  have lr := hS.rows mem0
  apply w3_eq
  refine call_gc tf41 rfl (by simp (maxSteps := 2000000) (disch := first | omega | assumption | (simp only [DS, Nat.reduceAdd, *]; done) | (simp only [DZ]; omega)) only [RUN, RU, footA, feetIn, resultsA, tupOf, frzL, slot, lay, icyL, fillA, repCells, kR, reduceIte, Nat.reduceEqDiff, Nat.reduceBEq, Nat.reduceLT, Nat.reduceAdd, Nat.reduceLeDiff, Nat.reduceSub, Nat.reduceMul, Int.reduceLT, Int.reduceLE, Int.reduceEq, Int.reduceAdd, Int.reduceSub, Int.reduceMul, hS.icy]) (by simp [a41]) fun b' ht hx => ?_
  have h0 := hx 0 _ rfl
  have h1 := hx 1 _ rfl
  clear hx
  simp only [a41, c41] at ht ⊢
  simp (maxSteps := 2000000) (disch := first | omega | assumption | (simp only [DS, Nat.reduceAdd, *]; done) | (simp only [DZ]; omega)) only [RUN, RU, footA, feetIn, resultsA, tupOf, frzL, slot, lay, icyL, fillA, repCells, kR, reduceIte, Nat.reduceEqDiff, Nat.reduceBEq, Nat.reduceLT, Nat.reduceAdd, Nat.reduceLeDiff, Nat.reduceSub, Nat.reduceMul, Int.reduceLT, Int.reduceLE, Int.reduceEq, Int.reduceAdd, Int.reduceSub, Int.reduceMul, h0, h1, ll, lr]
  refine w_loop (I := fun n t M => ∃ i : Nat, n = l.length - i ∧ i ≤ l.length ∧ (∀ j (hj : j < l.length), j < i → p l[j] = false) ∧ nth undefA t 8 = I64 i ∧ nth undefA t 7 = I64 l.length ∧ nth undefA t 0 = a ∧ nth undefA t 1 = .fn g [] [] ∧ M = mem0) (n := l.length) hf ?_ ?_
  · refine ⟨0, rfl, by omega, (fun j hj h => absurd h (Nat.not_lt_zero _)), ?_, ?_, ?_, ?_, rfl⟩ <;> simp (maxSteps := 2000000) (disch := first | omega | assumption | (simp only [DS, Nat.reduceAdd, *]; done) | (simp only [DZ]; omega)) only [RUN, RU, footA, feetIn, resultsA, tupOf, frzL, slot, lay, icyL, fillA, repCells, kR, reduceIte, Nat.reduceEqDiff, Nat.reduceBEq, Nat.reduceLT, Nat.reduceAdd, Nat.reduceLeDiff, Nat.reduceSub, Nat.reduceMul, Int.reduceLT, Int.reduceLE, Int.reduceEq, Int.reduceAdd, Int.reduceSub, Int.reduceMul, h0, h1, ll, lr]
    all_goals first | rfl | assumption
  · rintro n t M' hlt ⟨i, rfl, hi, hall, g8, g7, g0, g1, rfl⟩
    simp only [ht] at hlt ⊢
    by_cases hc : i < l.length
    · have q1 : decide ((i : Int) < l.length) = true := decide_eq_true (by omega)
      obtain ⟨r, hiad, hr, hrl⟩ := hS.iad i hc
      have hsl : slot r 0 17 = r := slot_all _ _ hrl.symm
      have hdp : Go.Ax.part r 0 17 true = some (.agg r) := by rw [part_ag _ _ _ (by omega), hsl]
      have hpc := hp _ _ hr (List.getElem_mem hc)
      have w1 : IntKind.i64.wrap ((i : Int) + 1) = ((i + 1 : Nat) : Int) := by rw [wrap_i64] <;> omega
      cases hb : p l[i] with
      | true =>
        rw [hb] at hpc
        have hpos := posF_at hc (fun j hj => hall j (by omega) hj) hb
        simp (maxSteps := 2000000) (disch := first | omega | assumption | (simp only [DS, Nat.reduceAdd, *]; done) | (simp only [DZ]; omega)) only [RUN, RU, footA, feetIn, resultsA, tupOf, frzL, slot, lay, icyL, fillA, repCells, kR, reduceIte, Nat.reduceEqDiff, Nat.reduceBEq, Nat.reduceLT, Nat.reduceAdd, Nat.reduceLeDiff, Nat.reduceSub, Nat.reduceMul, Int.reduceLT, Int.reduceLE, Int.reduceEq, Int.reduceAdd, Int.reduceSub, Int.reduceMul, g8, g7, g0, g1, q1, hiad, hpc, lr, w1, hpos , hdp, hrl]
      | false =>
        rw [hb] at hpc
        simp (maxSteps := 2000000) (disch := first | omega | assumption | (simp only [DS, Nat.reduceAdd, *]; done) | (simp only [DZ]; omega)) only [RUN, RU, footA, feetIn, resultsA, tupOf, frzL, slot, lay, icyL, fillA, repCells, kR, reduceIte, Nat.reduceEqDiff, Nat.reduceBEq, Nat.reduceLT, Nat.reduceAdd, Nat.reduceLeDiff, Nat.reduceSub, Nat.reduceMul, Int.reduceLT, Int.reduceLE, Int.reduceEq, Int.reduceAdd, Int.reduceSub, Int.reduceMul, g8, g7, g0, g1, q1, hiad, hpc, lr, w1 , hdp, hrl]
        refine ⟨hlt, l.length - (i + 1), by omega, i + 1, rfl, by omega, fun j hj hji => ?_, rfl⟩
        by_cases e : j = i
        · subst e; exact hb
        · exact hall j hj (by omega)
    · obtain rfl : i = l.length := by omega
      have q1 : decide ((l.length : Int) < l.length) = false := decide_eq_false (by omega)
      have hpos := posF_none (p := p) (l := l) fun j hj => hall j hj hj
      simp (maxSteps := 2000000) (disch := first | omega | assumption | (simp only [DS, Nat.reduceAdd, *]; done) | (simp only [DZ]; omega)) only [RUN, RU, footA, feetIn, resultsA, tupOf, frzL, slot, lay, icyL, fillA, repCells, kR, reduceIte, Nat.reduceEqDiff, Nat.reduceBEq, Nat.reduceLT, Nat.reduceAdd, Nat.reduceLeDiff, Nat.reduceSub, Nat.reduceMul, Int.reduceLT, Int.reduceLE, Int.reduceEq, Int.reduceAdd, Int.reduceSub, Int.reduceMul, g8, g7, g0, g1, q1, hpos]
theorem has_ev {p : Ev → Bool} {a : AV} {l : List Ev} {g : Nat} (hS : Sl 17 isEv a l) (hl : l.length ≤ 1000000) (hf : l.length < fuel) (hp : ∀ r x, isEv r x → x ∈ l → ∀ M, callN Tryd.prog (fsT tbl) fuel d (.fn g) [.agg r] M = some (BL (p x), M)) (M : Mem) :
    callN Tryd.prog (fsT tbl) fuel (d + 2) (.fn 27) [a, .fn g [] []] M = some (BL (l.any p), M) := by
  have hi := fun M => index_ev hS hl hf hp M
  have hpos := posF_any p l
  apply w3_eq
  refine call_gc tf27 rfl (by simp (maxSteps := 2000000) (disch := first | omega | assumption | (simp only [DS, Nat.reduceAdd, *]; done) | (simp only [DZ]; omega)) only [RUN, RU, footA, feetIn, resultsA, tupOf, frzL, slot, lay, icyL, fillA, repCells, kR, reduceIte, Nat.reduceEqDiff, Nat.reduceBEq, Nat.reduceLT, Nat.reduceAdd, Nat.reduceLeDiff, Nat.reduceSub, Nat.reduceMul, Int.reduceLT, Int.reduceLE, Int.reduceEq, Int.reduceAdd, Int.reduceSub, Int.reduceMul, hS.icy]) (by simp [a27]) fun b' ht hx => ?_
  have h0 := hx 0 _ rfl
  have h1 := hx 1 _ rfl
  clear hx
  simp only [a27, c27] at ht ⊢
  simp (maxSteps := 2000000) (disch := first | omega | assumption | (simp only [DS, Nat.reduceAdd, *]; done) | (simp only [DZ]; omega)) only [RUN, RU, footA, feetIn, resultsA, tupOf, frzL, slot, lay, icyL, fillA, repCells, kR, reduceIte, Nat.reduceEqDiff, Nat.reduceBEq, Nat.reduceLT, Nat.reduceAdd, Nat.reduceLeDiff, Nat.reduceSub, Nat.reduceMul, Int.reduceLT, Int.reduceLE, Int.reduceEq, Int.reduceAdd, Int.reduceSub, Int.reduceMul, h0, h1, hi, hpos]

def Ev.may (e : Ev) : Bool := decide ((1 : Int) ≤ e.kind.toNat) && decide ((e.kind.toNat : Int) ≤ 20) && ((decide (e.lb.lv = 0) && decide (e.lb.cats = 0) && decide (e.num = 0)) || (itsK e.kind.toNat && hdMay e.lb e.num)) && decide ((e.text.length : Int) ≤ 400) && decide ((e.data.length : Int) ≤ 1100) && decide ((e.crash.length : Int) ≤ 3) && !(e.crash.any fun n => decide (n < 0) || decide (16777216 ≤ n))
end Go.Proofs.YtjbninmklbkklaaDoor
