/-
  link: put.
-/
import Derived.Test.YtbemomagabjbnaaLkE
set_option linter.unusedSimpArgs false
set_option linter.unusedVariables false
set_option maxRecDepth 100000
namespace Go.Proofs.Ytbemomagabjbnaa
open Go Go.Ax
variable {fuel : Nat} {M : Mem} {Q : AV → Mem → Prop} {d : Nat}

/-- An end in memory of its own; its items lie at K and above. -/
structure Own (M : Mem) (u K : Nat) (e : End) : Prop where
  wf : Wf M
  le : K ≤ M.size
  ex : ∃ o, M.get u = some (.row false [I64 e.ep, I64 e.nx, o, I64 e.want, I64 e.since, BL e.owe]) ∧ SlM M 2 isItem o e.out ∧ ∀ id, rowOf o = some id → K ≤ id ∧ id ≠ u

set_option maxHeartbeats 4000000 in
theorem put_run {u K : Nat} {e : End} (h : Own M u K e) {ab : AV} {body : List UInt8} (hb : Bs ab body) (hn : e.out.length ≤ 1000) (hx1 : -1000000000 ≤ e.nx) (hx2 : e.nx ≤ 1000000000)
    (k1 : 900 < body.length → Q (I64 4) M) (k2 : body.length ≤ 900 → (32 ≤ e.out.length ∨ 16777216 ≤ e.nx + 1) → Q (I64 9) M)
    (k3 : body.length ≤ 900 → e.out.length < 32 → e.nx + 1 < 16777216 → ∀ M', Own M' u K { e with nx := e.nx + 1, out := e.out ++ [⟨e.nx, body⟩] } → M.size ≤ M'.size → (∀ j, j < K → j ≠ u → M'.get j = M.get j) → Q (I64 0) M') :
    W3 (callN Try.prog (fsT tbl) fuel (d + 2) (.fn 27) [.ptr u 0, ab] M) Q := by
  obtain ⟨wf, hK, o, hu, hS, hoK⟩ := h
  have hou : rowOf o ≠ some u := fun h => (hoK u h).2 rfl
  obtain ⟨ep, nx, out, want, since, owe⟩ := e
  simp only at *
  have lu := Mem.get_lt hu
  have o1 := hS.one
  have b1 := hb.one
  have w1 : IntKind.i64.wrap (nx + 1) = nx + 1 := by rw [wrap_i64] <;> omega
  have hlen := hS.len
  have hbl := hb.len
  refine call_0 tf27 rfl (by simp [a27]) fun b ht hx => ?_
  have h0 := hx 0 _ rfl
  have h1 := hx 1 _ rfl
  clear hx
  simp only [a27, c27] at ht ⊢
  by_cases hc1 : 900 < body.length
  · have kk := k1 hc1
    have q1 : decide ((900 : Int) < body.length) = true := by simp; omega
    simp (maxSteps := 2000000) (disch := first | omega | assumption | (simp only [DS, Nat.reduceAdd, *]; done) | (simp only [DZ]; omega)) only [RUN, RU, footA, feetIn, resultsA, tupOf, frzL, slot, lay, icyL, fillA, repCells, kR, reduceIte, Nat.reduceEqDiff, Nat.reduceBEq, Nat.reduceLT, Nat.reduceAdd, Nat.reduceLeDiff, Nat.reduceSub, Nat.reduceMul, Int.reduceLT, Int.reduceLE, Int.reduceEq, Int.reduceAdd, Int.reduceSub, Int.reduceMul, *]
  have q1 : decide ((900 : Int) < body.length) = false := by simp; omega
  by_cases hc2 : 32 ≤ out.length
  · have kk := k2 (by omega) (.inl hc2)
    have q2 : decide ((32 : Int) ≤ out.length) = true := by simp; omega
    simp (maxSteps := 2000000) (disch := first | omega | assumption | (simp only [DS, Nat.reduceAdd, *]; done) | (simp only [DZ]; omega)) only [RUN, RU, footA, feetIn, resultsA, tupOf, frzL, slot, lay, icyL, fillA, repCells, kR, reduceIte, Nat.reduceEqDiff, Nat.reduceBEq, Nat.reduceLT, Nat.reduceAdd, Nat.reduceLeDiff, Nat.reduceSub, Nat.reduceMul, Int.reduceLT, Int.reduceLE, Int.reduceEq, Int.reduceAdd, Int.reduceSub, Int.reduceMul, *]
  have q2 : decide ((32 : Int) ≤ out.length) = false := by simp; omega
  by_cases hc3 : 16777216 ≤ nx + 1
  · have kk := k2 (by omega) (.inr hc3)
    have q3 : decide ((16777216 : Int) ≤ nx + 1) = true := by simp; omega
    simp (maxSteps := 2000000) (disch := first | omega | assumption | (simp only [DS, Nat.reduceAdd, *]; done) | (simp only [DZ]; omega)) only [RUN, RU, footA, feetIn, resultsA, tupOf, frzL, slot, lay, icyL, fillA, repCells, kR, reduceIte, Nat.reduceEqDiff, Nat.reduceBEq, Nat.reduceLT, Nat.reduceAdd, Nat.reduceLeDiff, Nat.reduceSub, Nat.reduceMul, Int.reduceLT, Int.reduceLE, Int.reduceEq, Int.reduceAdd, Int.reduceSub, Int.reduceMul, *]
  have q3 : decide ((16777216 : Int) ≤ nx + 1) = false := by simp; omega
  obtain ⟨rb, hrb, hcl⟩ := bclone_run (fuel := fuel) (d := d) hb (by omega)
  have b2 := hrb.one
  have cb := hrb.cells
  have gy : (M.add (.row false [I64 nx, rb])).get M.size = some (.row false [I64 nx, rb]) := get_add_new wf _ _ (Nat.le_refl _) (by omega)
  have hS' : SlM (M.add (.row false [I64 nx, rb])) 2 isItem o out := hS.keep fun id h => get_add wf _ _ (hS.lt id h)
  obtain ⟨o', M1, hap, hS1, wf1, s1, s2, kp, new, _⟩ := hS'.appO (wf.add _) (y := .sl M.size 0 1 (some 1) 2) (l' := [⟨nx, body⟩]) (new := [[I64 nx, rb]]) (bytes := 32) (cells_lit gy rfl) rfl (.cons ⟨rb, rfl, hrb⟩ .nil) (by simp) (by simp only [List.flatten_cons, List.flatten_nil, List.append_nil, List.all_cons, List.all_nil, one_sc_int, b2, Bool.and_true]) (by omega) (by simp; omega) (by simp; omega)
  rw [add_size] at s1 s2 kp
  have lim := hS.lt
  have gu := kp u (by omega) hou
  rw [get_add wf _ _ lu, hu] at gu
  have o2 := hS1.one
  have co2 := hS1.cells
  have hfin : ∀ M', M' = (M1.upd u (.row false [I64 ep, I64 nx, o', I64 want, I64 since, BL owe])).upd u (.row false [I64 ep, I64 (nx + 1), o', I64 want, I64 since, BL owe]) → Q (I64 0) M' := by
    rintro _ rfl
    have hne : ∀ id, rowOf o' = some id → id ≠ u := fun id h => by
      rcases new id h with h' | h'
      · exact fun e => hou (e ▸ h')
      · rw [add_size] at h'; omega
    refine k3 (by omega) (by omega) (by omega) _ ⟨by rw [wf_upd, wf_upd]; exact wf1, by rw [upd_size, upd_size]; omega, o', ?_, ?_, fun id h => ⟨?_, hne id h⟩⟩ (by rw [upd_size, upd_size]; omega) fun j hj hju => ?_
    · rw [get_upd_eq (by rw [wf_upd]; exact wf1) _ _ (by rw [upd_size]; omega)]
    · exact hS1.keep fun id h => by rw [get_upd_ne (by rw [wf_upd]; exact wf1) _ _ _ (fun e => hne id h e.symm), get_upd_ne wf1 _ _ _ (fun e => hne id h e.symm)]
    · rcases new id h with h' | h'
      · exact (hoK id h').1
      · rw [add_size] at h'; omega
    · rw [get_upd_ne (by rw [wf_upd]; exact wf1) _ _ _ (fun e => hju e.symm), get_upd_ne wf1 _ _ _ (fun e => hju e.symm), kp j (by omega) (fun h => by have := (hoK j h).1; omega), get_add wf _ _ (by omega)]
  clear hx1 hx2 k1 k2 k3 hoK
  have kk := hfin _ rfl
  rcases hS with ⟨rfl, hnil⟩ | ⟨id, rows, cap, rfl, hcap, hg, hA, hr⟩
  · clear hnil
    simp (maxSteps := 2000000) (disch := first | omega | assumption | (simp only [DS, Nat.reduceAdd, *]; done) | (simp only [DZ]; omega)) only [RUN, RU, footA, feetIn, resultsA, tupOf, frzL, slot, lay, icyL, fillA, repCells, kR, reduceIte, Nat.reduceEqDiff, Nat.reduceBEq, Nat.reduceLT, Nat.reduceAdd, Nat.reduceLeDiff, Nat.reduceSub, Nat.reduceMul, Int.reduceLT, Int.reduceLE, Int.reduceEq, Int.reduceAdd, Int.reduceSub, Int.reduceMul, *]
  · have lid := Mem.get_lt hg
    simp (maxSteps := 2000000) (disch := first | omega | assumption | (simp only [DS, Nat.reduceAdd, *]; done) | (simp only [DZ]; omega)) only [RUN, RU, footA, feetIn, resultsA, tupOf, frzL, slot, lay, icyL, fillA, repCells, kR, reduceIte, Nat.reduceEqDiff, Nat.reduceBEq, Nat.reduceLT, Nat.reduceAdd, Nat.reduceLeDiff, Nat.reduceSub, Nat.reduceMul, Int.reduceLT, Int.reduceLE, Int.reduceEq, Int.reduceAdd, Int.reduceSub, Int.reduceMul, *]
end Go.Proofs.Ytbemomagabjbnaa
