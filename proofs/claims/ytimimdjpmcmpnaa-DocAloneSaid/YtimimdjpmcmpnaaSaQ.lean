/-
  Histories: sees, all.
-/
import Derived.Test.YtimimdjpmcmpnaaSaP
import Derived.Test.YtimimdjpmcmpnaaEf
set_option linter.unusedSimpArgs false
set_option linter.unusedVariables false
set_option maxRecDepth 100000
namespace Go.Proofs.Ytimimdjpmcmpnaa
open Go Go.Ax
variable {fuel : Nat} {M : Mem} {Q : AV → Mem → Prop} {d : Nat} {x : Eid} {l : List Op} {o : Op} {ra ops : AV} {B id m : Nat}

def thereL (l : List Op) : List Eid := l.flatMap fun o => if o.kd = 1 then o.sp.ids else []
/-- A history in memory. -/
structure IsHist (N : Mem) (B id m : Nat) (ops : AV) (l : List Op) : Prop where
  hg : N.get id = some (.row false [ops, .mp m])
  sm : SlM N 17 isOp ops l
  mg : ∃ obj, N.get m = some obj ∧ IsSet idA (BL true) obj (thereL l)
  ib : B ≤ id
  mb : B ≤ m
  ob : ∀ j, rowOf ops = some j → B ≤ j
  ne : id ≠ m
  n1 : rowOf ops ≠ some id
  n2 : rowOf ops ≠ some m
theorem IsHist.keep {N : Mem} (h : IsHist M B id m ops l) (k : ∀ j, j < M.size → N.get j = M.get j) : IsHist N B id m ops l := by
  obtain ⟨obj, h1, h2⟩ := h.mg
  exact ⟨(k _ (Mem.get_lt h.hg)).trans h.hg, h.sm.keep fun j hj => k j (h.sm.lt j hj), ⟨obj, (k _ (Mem.get_lt h1)).trans h1, h2⟩, h.ib, h.mb, h.ob, h.ne, h.n1, h.n2⟩
def seesB (l : List Op) (o : Op) (x : Eid) : Bool := decide (x ∈ thereL l) && x.hd.lb.leq o.hd.lb
theorem ite_BL (p : Prop) [Decidable p] : (if p then BL true else .sc (.bool false)) = BL (decide p) := by
  by_cases h : p <;> simp [h]
theorem sees_0 (hH : IsHist M B id m ops l) (hR : Sl 1 isI32 ra o.rs) (wf : Wf M) (hw : M.wm ≤ M.size) (k : ∀ N, Kept M N → Q (BL (seesB l o x)) N) :
    W3 (callN Try.prog (fsT tbl) fuel (d + 2) (.fn 59) [.ptr id 0, .agg (opR o ra), idA x] M) Q := by
  have ora := hR.one
  have hg := hH.hg
  obtain ⟨obj, mg, hset⟩ := hH.mg
  have li := Mem.get_lt hg
  have lm := Mem.get_lt mg
  have om := hH.sm.one
  have mg2 : ((M.add (.row false (opR o ra))).add (.row false (idR x))).get m = some obj := by
    rw [get_add (wf.add _) _ _ (by rw [add_size]; omega), get_add wf _ _ lm]; exact mg
  have hlk := lk_set idKey (z := .bool false) mg2 hset x
  rw [ite_BL] at hlk
  have hle := fun M => @leq_run fuel d x.hd.lb o.hd.lb M
  have one_mp : oneA (.mp m) = true := rfl
  have kk := (((Kept.refl wf).add (.row false (opR o ra))).add (.row false (idR x)))
  unfold seesB at k
  refine call_0 tf59 rfl (by simp [a59]) fun b' ht hx => ?_
  have h0 := hx 0 _ rfl
  have h1 := hx 1 _ rfl
  have h2 := hx 2 _ rfl
  clear hx
  simp only [a59, c59] at ht ⊢
  cases q : decide (x ∈ thereL l) with
  | false =>
    rw [q] at hlk
    simp only [q, Bool.false_and] at k
    simp (maxSteps := 2000000) (disch := first | omega | assumption | (simp only [DS, Nat.reduceAdd, *]; done) | (simp only [DZ]; omega)) only [RUN, RU, footA, feetIn, resultsA, tupOf, frzL, slot, lay, icyL, fillA, repCells, kR, reduceIte, Nat.reduceEqDiff, Nat.reduceBEq, Nat.reduceLT, Nat.reduceAdd, Nat.reduceLeDiff, Nat.reduceSub, Nat.reduceMul, Int.reduceLT, Int.reduceLE, Int.reduceEq, Int.reduceAdd, Int.reduceSub, Int.reduceMul, h0, h1, h2, hR.fz.rows, hR.fz.one, hR.fz.cells, hR.fz.icy, hR.fz.frz, wf, hg, x_lk, hlk]
    exact k _ kk
  | true =>
    rw [q] at hlk
    simp only [q, Bool.true_and] at k
    simp (maxSteps := 2000000) (disch := first | omega | assumption | (simp only [DS, Nat.reduceAdd, *]; done) | (simp only [DZ]; omega)) only [RUN, RU, footA, feetIn, resultsA, tupOf, frzL, slot, lay, icyL, fillA, repCells, kR, reduceIte, Nat.reduceEqDiff, Nat.reduceBEq, Nat.reduceLT, Nat.reduceAdd, Nat.reduceLeDiff, Nat.reduceSub, Nat.reduceMul, Int.reduceLT, Int.reduceLE, Int.reduceEq, Int.reduceAdd, Int.reduceSub, Int.reduceMul, h0, h1, h2, hR.fz.rows, hR.fz.one, hR.fz.cells, hR.fz.icy, hR.fz.frz, wf, hg, x_lk, hlk, hle]
    exact k _ kk
theorem all1_0 {bh bo : Nat} (hH : IsHist M B id m ops l) (hR : Sl 1 isI32 ra o.rs) (wf : Wf M) (hw : M.wm ≤ M.size) (hb : M.get bh = some (.row false [.ptr id 0])) (hbo : M.get bo = some (.row false (opR o ra))) (k : ∀ N, Kept M N → Q (BL (!seesB l o x)) N) :
    W3 (callN Try.prog (fsT tbl) fuel (d + 3) (.fn 81) [idA x, .ptr bh 0, .ptr bo 0] M) Q := by
  have ora := hR.one
  have lb := Mem.get_lt hb
  have lbo := Mem.get_lt hbo
  have li := Mem.get_lt hH.hg
  refine call_0 tf81 rfl (by simp [a81]) fun b' ht hx => ?_
  have h0 := hx 0 _ rfl
  have h1 := hx 1 _ rfl
  have h2 := hx 2 _ rfl
  clear hx
  simp only [a81, c81] at ht ⊢
  simp (maxSteps := 2000000) (disch := first | omega | assumption | (simp only [DS, Nat.reduceAdd, *]; done) | (simp only [DZ]; omega)) only [RUN, RU, footA, feetIn, resultsA, tupOf, frzL, slot, lay, icyL, fillA, repCells, kR, reduceIte, Nat.reduceEqDiff, Nat.reduceBEq, Nat.reduceLT, Nat.reduceAdd, Nat.reduceLeDiff, Nat.reduceSub, Nat.reduceMul, Int.reduceLT, Int.reduceLE, Int.reduceEq, Int.reduceAdd, Int.reduceSub, Int.reduceMul, h0, h1, h2, hR.fz.rows, hR.fz.one, hR.fz.cells, hR.fz.icy, hR.fz.frz, wf, hb, hbo]
  refine sees_0 (d := d) (B := B) (m := m) (ops := ops) (hH.keep fun j hj => get_add wf _ _ hj) hR (wf.add _) (by rw [add_size]; show M.wm ≤ _; omega) fun N hN => ?_
  simp (maxSteps := 2000000) (disch := first | omega | assumption | (simp only [DS, Nat.reduceAdd, *]; done) | (simp only [DZ]; omega)) only [RUN, RU, footA, feetIn, resultsA, tupOf, frzL, slot, lay, icyL, fillA, repCells, kR, reduceIte, Nat.reduceEqDiff, Nat.reduceBEq, Nat.reduceLT, Nat.reduceAdd, Nat.reduceLeDiff, Nat.reduceSub, Nat.reduceMul, Int.reduceLT, Int.reduceLE, Int.reduceEq, Int.reduceAdd, Int.reduceSub, Int.reduceMul, h0, h1, h2]
  exact k _ (((Kept.refl wf).add _).trans hN)
def allB (l : List Op) (o : Op) : Bool := o.sp.ids.all fun x => seesB l o x
theorem any_not' {α : Type} (p : α → Bool) (l : List α) : (l.any fun x => !p x) = !l.all p := by
  induction l with
  | nil => rfl
  | cons x l ih => simp only [List.any_cons, List.all_cons, ih, Bool.not_and]
theorem all_0 (hH : IsHist M B id m ops l) (hR : Sl 1 isI32 ra o.rs) (ho : o.ok) (hm : o.may = true) (hf : 300 < fuel) (wf : Wf M) (hw : M.wm ≤ M.size) (k : ∀ N, Kept M N → Q (BL (allB l o)) N) :
    W3 (callN Try.prog (fsT tbl) fuel (d + 7) (.fn 62) [.ptr id 0, .agg (opR o ra)] M) Q := by
  have ora := hR.one
  have li := Mem.get_lt hH.hg
  have hb := Spn.may_le (may_sp hm)
  obtain ⟨r, hr, hn⟩ := names_run (fuel := fuel) (d := d) ho.2.2.2.1 (may_sp hm) (by omega)
  have il := ids_len o.sp
  have ea : (o.sp.ids.any fun x => !seesB l o x) = !allB l o := any_not' _ _
  refine call_0 tf62 rfl (by simp [a62]) fun b' ht hx => ?_
  have h0 := hx 0 _ rfl
  have h1 := hx 1 _ rfl
  clear hx
  simp only [a62, c62] at ht ⊢
  simp (maxSteps := 2000000) (disch := first | omega | assumption | (simp only [DS, Nat.reduceAdd, *]; done) | (simp only [DZ]; omega)) only [RUN, RU, footA, feetIn, resultsA, tupOf, frzL, slot, lay, icyL, fillA, repCells, kR, reduceIte, Nat.reduceEqDiff, Nat.reduceBEq, Nat.reduceLT, Nat.reduceAdd, Nat.reduceLeDiff, Nat.reduceSub, Nat.reduceMul, Int.reduceLT, Int.reduceLE, Int.reduceEq, Int.reduceAdd, Int.reduceSub, Int.reduceMul, h0, h1, hR.fz.rows, hR.fz.one, hR.fz.cells, hR.fz.icy, hR.fz.frz, hr.fz.rows, hr.fz.one, hr.fz.cells, hr.fz.icy, hr.fz.frz, wf, hn]
  have kA := ((Kept.refl wf).add (.row false [.ptr id 0])).add (.row false (opR o ra))
  have wA := kA.wf
  have gA : ((M.add (.row false [.ptr id 0])).add (.row false (opR o ra))).get M.size = some (.row false [.ptr id 0]) := by simp (maxSteps := 2000000) (disch := first | omega | assumption | (simp only [DS, Nat.reduceAdd, *]; done) | (simp only [DZ]; omega)) only [RUN, RU, footA, feetIn, resultsA, tupOf, frzL, slot, lay, icyL, fillA, repCells, kR, reduceIte, Nat.reduceEqDiff, Nat.reduceBEq, Nat.reduceLT, Nat.reduceAdd, Nat.reduceLeDiff, Nat.reduceSub, Nat.reduceMul, Int.reduceLT, Int.reduceLE, Int.reduceEq, Int.reduceAdd, Int.reduceSub, Int.reduceMul, wf]
  have gB : ((M.add (.row false [.ptr id 0])).add (.row false (opR o ra))).get (M.size + 1) = some (.row false (opR o ra)) := by simp (maxSteps := 2000000) (disch := first | omega | assumption | (simp only [DS, Nat.reduceAdd, *]; done) | (simp only [DZ]; omega)) only [RUN, RU, footA, feetIn, resultsA, tupOf, frzL, slot, lay, icyL, fillA, repCells, kR, reduceIte, Nat.reduceEqDiff, Nat.reduceBEq, Nat.reduceLT, Nat.reduceAdd, Nat.reduceLeDiff, Nat.reduceSub, Nat.reduceMul, Int.reduceLT, Int.reduceLE, Int.reduceEq, Int.reduceAdd, Int.reduceSub, Int.reduceMul, wf]
  have sA : ((M.add (.row false [.ptr id 0])).add (.row false (opR o ra))).size = M.size + 2 := rfl
  generalize (M.add (.row false [.ptr id 0])).add (.row false (opR o ra)) = X at *
  refine has_0 (st := 4) (ag := true) (n := d + 4) (first := []) (cap := [.ptr M.size 0, .ptr (M.size + 1) 0]) tf60 tf80 (by simp) fz_Eid hr (by omega) (by omega) (p := fun x => !seesB l o x) wA (fun n hn => by rw [sA] at hn; simp (maxSteps := 2000000) (disch := first | omega | assumption | (simp only [DS, Nat.reduceAdd, *]; done) | (simp only [DZ]; omega)) only [RUN, RU, footA, feetIn, resultsA, tupOf, frzL, slot, lay, icyL, fillA, repCells, kR, reduceIte, Nat.reduceEqDiff, Nat.reduceBEq, Nat.reduceLT, Nat.reduceAdd, Nat.reduceLeDiff, Nat.reduceSub, Nat.reduceMul, Int.reduceLT, Int.reduceLE, Int.reduceEq, Int.reduceAdd, Int.reduceSub, Int.reduceMul]) (fun r x hr _ N Q' hk hQ => ?_) fun N hk => ?_
  · obtain ⟨rfl, _⟩ := hr
    refine all1_0 (d := d + 1) (B := B) (m := m) (ops := ops) (hH.keep fun j hj => (hk.get j (by omega)).trans (kA.get j hj)) hR hk.wf (by rw [hk.wm, kA.wm]; have := hk.le; omega) ((hk.get _ (by omega)).trans gA) ((hk.get _ (by omega)).trans gB) fun N' hk' => hQ N' (hk.trans hk')
  · rw [ea]
    simp (maxSteps := 2000000) (disch := first | omega | assumption | (simp only [DS, Nat.reduceAdd, *]; done) | (simp only [DZ]; omega)) only [RUN, RU, footA, feetIn, resultsA, tupOf, frzL, slot, lay, icyL, fillA, repCells, kR, reduceIte, Nat.reduceEqDiff, Nat.reduceBEq, Nat.reduceLT, Nat.reduceAdd, Nat.reduceLeDiff, Nat.reduceSub, Nat.reduceMul, Int.reduceLT, Int.reduceLE, Int.reduceEq, Int.reduceAdd, Int.reduceSub, Int.reduceMul, h0, h1]
    rw [Bool.not_not]
    exact k _ (kA.trans hk)
end Go.Proofs.Ytimimdjpmcmpnaa
