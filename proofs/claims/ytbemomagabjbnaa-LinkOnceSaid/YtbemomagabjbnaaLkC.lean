/-
  link: clones, and link.Twin.
-/
import Derived.Test.YtbemomagabjbnaaLkA
set_option linter.unusedSimpArgs false
set_option linter.unusedVariables false
set_option maxRecDepth 100000
namespace Go.Proofs.Ytbemomagabjbnaa
open Go Go.Ax
variable {fuel : Nat} {M : Mem} {Q : AV → Mem → Prop} {d : Nat}

theorem cel_Item : Cel isItem := fun r x h y hy => by
  obtain ⟨a, rfl, hb⟩ := h
  simp at hy
  rcases hy with rfl | rfl
  · exact ⟨rfl, fun M k hk => frz_sc _ hk⟩
  · exact ⟨hb.one, fun M k hk => hb.frz M 0 k hk⟩

theorem bclone_run {a : AV} {l : List UInt8} (hS : Bs a l) (hl : l.length ≤ 4294967296) : ∃ r, Bs r l ∧ ∀ M, callN Try.prog (fsT tbl) fuel (d + 1) (.fn 39) [a] M = some (r, M) :=
  clone_gc cel_U8 tf39 Try.underlying32 hS (by omega) hl

theorem iclone_run {a : AV} {l : List Item} (hS : Sl 2 isItem a l) (hl : l.length ≤ 100000) (wf : Wf M)
    (k : ∀ a' M', Wf M' → M.size ≤ M'.size → (∀ j, j < M.size → M'.get j = M.get j) → SlM M' 2 isItem a' l → (∀ id, rowOf a' = some id → M.size ≤ id) → M'.wm = M.wm → M'.dirty = M.dirty → Q a' M') : W3 (callN Try.prog (fsT tbl) fuel (d + 1) (.fn 62) [a] M) Q :=
  clone_0 cel_Item tf62 Try.underlying22 hS (by omega) (by omega) wf k

set_option maxHeartbeats 4000000 in
theorem twin_run (e : End) (ae : AV) (he : IsEnd ae e) (hf : 1000 < fuel) (hn : e.out.length ≤ 32) (hb : ∀ x ∈ e.out, x.body.length ≤ 900) (wf : Wf M)
    (k : ∀ o' M', Wf M' → M.size ≤ M'.size → (∀ j, j < M.size → M'.get j = M.get j) → SlM M' 2 isItem o' e.out → (∀ id, rowOf o' = some id → M.size ≤ id) → Q (.agg [I64 e.ep, I64 e.nx, o', I64 e.want, I64 e.since, BL e.owe]) M') :
    W3 (callN Try.prog (fsT tbl) fuel (d + 2) (.fn 44) [ae] M) Q := by
  obtain ⟨o, rfl, hS⟩ := he
  obtain ⟨ep, nx, out, want, since, owe⟩ := e
  simp only at hS hn hb
  have o1 := hS.one
  refine call_0 tf44 rfl (by simp [a44]) fun b ht hx => ?_
  have h0 := hx 0 _ rfl
  clear hx
  simp only [a44, c44] at ht ⊢
  simp (maxSteps := 2000000) (disch := first | omega | assumption | (simp only [DS, Nat.reduceAdd, *]; done) | (simp only [DZ]; omega)) only [RUN, RU, footA, feetIn, resultsA, tupOf, frzL, slot, lay, icyL, fillA, repCells, kR, reduceIte, Nat.reduceEqDiff, Nat.reduceBEq, Nat.reduceLT, Nat.reduceAdd, Nat.reduceLeDiff, Nat.reduceSub, Nat.reduceMul, Int.reduceLT, Int.reduceLE, Int.reduceEq, Int.reduceAdd, Int.reduceSub, Int.reduceMul, *]
  refine iclone_run hS (by omega) (by rw [wf_add, wf_add]; exact wf) ?_
  rintro o' M1 wf1 s1 keep hSM new _ _
  simp only [add_size] at s1 new
  have g0 := keep M.size (by simp only [add_size]; omega)
  have g1 := keep (M.size + 1) (by simp only [add_size]; omega)
  simp (maxSteps := 2000000) (disch := first | omega | assumption | (simp only [DS, Nat.reduceAdd, *]; done) | (simp only [DZ]; omega)) only [RUN, RU, footA, feetIn, resultsA, tupOf, frzL, slot, lay, icyL, fillA, repCells, kR, reduceIte, Nat.reduceEqDiff, Nat.reduceBEq, Nat.reduceLT, Nat.reduceAdd, Nat.reduceLeDiff, Nat.reduceSub, Nat.reduceMul, Int.reduceLT, Int.reduceLE, Int.reduceEq, Int.reduceAdd, Int.reduceSub, Int.reduceMul] at g0 g1
  have gk : ∀ j, j < M.size → M1.get j = M.get j := fun j hj => by
    rw [keep j (by simp only [add_size]; omega), get_add (wf.add _) _ _ (by rw [add_size]; omega), get_add wf _ _ hj]
  clear keep
  have o1' := hSM.one
  rcases hSM with ⟨rfl, rfl⟩ | ⟨id, rows, cap, rfl, hcap, hg, hA, hr⟩
  · have kk := k NIL
    simp (maxSteps := 2000000) (disch := first | omega | assumption | (simp only [DS, Nat.reduceAdd, *]; done) | (simp only [DZ]; omega)) only [RUN, RU, footA, feetIn, resultsA, tupOf, frzL, slot, lay, icyL, fillA, repCells, kR, reduceIte, Nat.reduceEqDiff, Nat.reduceBEq, Nat.reduceLT, Nat.reduceAdd, Nat.reduceLeDiff, Nat.reduceSub, Nat.reduceMul, Int.reduceLT, Int.reduceLE, Int.reduceEq, Int.reduceAdd, Int.reduceSub, Int.reduceMul, cells_slice, *]
    refine w_loop1 (by omega) ?_
    simp (maxSteps := 2000000) (disch := first | omega | assumption | (simp only [DS, Nat.reduceAdd, *]; done) | (simp only [DZ]; omega)) only [RUN, RU, footA, feetIn, resultsA, tupOf, frzL, slot, lay, icyL, fillA, repCells, kR, reduceIte, Nat.reduceEqDiff, Nat.reduceBEq, Nat.reduceLT, Nat.reduceAdd, Nat.reduceLeDiff, Nat.reduceSub, Nat.reduceMul, Int.reduceLT, Int.reduceLE, Int.reduceEq, Int.reduceAdd, Int.reduceSub, Int.reduceMul, cells_slice, List.length_nil, *]
    refine kk _ ?_ ?_ (fun j hj => ?_) .nil (fun id h => by cases h)
    · simp only [wf_upd]; exact wf1
    · simp only [upd_size]; omega
    · rw [get_upd_ne (by rw [wf_upd]; exact wf1) _ _ _ (by omega), get_upd_ne wf1 _ _ _ (by omega), gk j hj]
  · have hid := new id rfl
    have hlen := hA.length_eq
    simp (maxSteps := 2000000) (disch := first | omega | assumption | (simp only [DS, Nat.reduceAdd, *]; done) | (simp only [DZ]; omega)) only [RUN, RU, footA, feetIn, resultsA, tupOf, frzL, slot, lay, icyL, fillA, repCells, kR, reduceIte, Nat.reduceEqDiff, Nat.reduceBEq, Nat.reduceLT, Nat.reduceAdd, Nat.reduceLeDiff, Nat.reduceSub, Nat.reduceMul, Int.reduceLT, Int.reduceLE, Int.reduceEq, Int.reduceAdd, Int.reduceSub, Int.reduceMul, cells_sl, *]
    refine w_loop (I := fun n t N => ∃ (i : Nat) (rows' : List (List AV)), i ≤ out.length ∧ n = out.length - i ∧ nth undefA t 1 = .ptr M.size 0 ∧ nth undefA t 2 = .ptr (M.size + 1) 0 ∧ nth undefA t 10 = .sl id 0 out.length cap 2 ∧ nth undefA t 11 = I64 out.length ∧ nth undefA t 12 = I64 i ∧
      Wf N ∧ M1.size ≤ N.size ∧ (∀ j, j < M.size → N.get j = M.get j) ∧ N.get M.size = some (.row false [I64 ep, I64 nx, .sl id 0 out.length cap 2, I64 want, I64 since, BL owe]) ∧
      N.get (M.size + 1) = some (.row false [I64 0, I64 0, NIL, I64 0, I64 0, BL false]) ∧ N.get id = some (.row false rows'.flatten) ∧ rows'.length = out.length ∧ All2 isItem rows' out ∧ (∀ r ∈ rows', r.length = 2)) (n := out.length) (by omega) ?_ ?_
    · refine ⟨0, rows, by omega, by omega, ?_, ?_, ?_, ?_, ?_, ?_, ?_, ?_, ?_, ?_, ?_, ?_, ?_, ?_⟩
      all_goals try simp (maxSteps := 2000000) (disch := first | omega | assumption | (simp only [DS, Nat.reduceAdd, *]; done) | (simp only [DZ]; omega)) only [RUN, RU, footA, feetIn, resultsA, tupOf, frzL, slot, lay, icyL, fillA, repCells, kR, reduceIte, Nat.reduceEqDiff, Nat.reduceBEq, Nat.reduceLT, Nat.reduceAdd, Nat.reduceLeDiff, Nat.reduceSub, Nat.reduceMul, Int.reduceLT, Int.reduceLE, Int.reduceEq, Int.reduceAdd, Int.reduceSub, Int.reduceMul, *]
      · rfl
      · exact Nat.le_refl _
      · intro j hj
        rw [get_upd_ne wf1 _ _ _ (by omega), gk j hj]
      · exact hr
    · rintro n t N hl ⟨i, rows', hi, hn', h1, h2, h10, h11, h12, wfN, sN, kN, q0, q1, qi, hrl, hA', hr'⟩
      simp only [ht] at hl ⊢
      clear h0 ht b g0 g1 hg gk
      by_cases hlt : i < out.length
      · have hc : decide ((i : Int) < out.length) = true := by simp; omega
        have hir : i < rows.length := by omega
        have hir' : i < rows'.length := by omega
        have hgi : rows'[i]? = some rows'[i] := by simp [hir']
        have hsl := flat_slot hr' i _ hgi
        have hIt := hA'.get hir' hlt
        obtain ⟨ab, hrow, hbs⟩ := hIt
        obtain ⟨rb, hrb, hcl⟩ := bclone_run (fuel := fuel) (d := d) hbs (by have := hb out[i] (List.getElem_mem hlt); omega)
        have lid := Mem.get_lt qi
        have cb := hrb.cells
        have b1 := hbs.one
        have b2 := hrb.one
        have w1 : IntKind.i64.wrap ((i : Int) + 1) = ((i + 1 : Nat) : Int) := by rw [wrap_i64] <;> omega
        have hlay := flat_lay (st := 2) (off := 1) (new := [rb]) hr' hgi (by simp)
        have hfl := flat_len hr'
        rw [hrow] at hsl hlay
        have hpt : Ax.part rows'.flatten (i * 2) 2 true = some (.agg [I64 out[i].seq, ab]) := by
          rw [part_ag _ _ _ (by omega), hsl]
        simp (maxSteps := 2000000) (disch := first | omega | assumption | (simp only [DS, Nat.reduceAdd, *]; done) | (simp only [DZ]; omega)) only [RUN, RU, footA, feetIn, resultsA, tupOf, frzL, slot, lay, icyL, fillA, repCells, kR, reduceIte, Nat.reduceEqDiff, Nat.reduceBEq, Nat.reduceLT, Nat.reduceAdd, Nat.reduceLeDiff, Nat.reduceSub, Nat.reduceMul, Int.reduceLT, Int.reduceLE, Int.reduceEq, Int.reduceAdd, Int.reduceSub, Int.reduceMul, hcl, *]
        simp only [lay, List.length_cons, List.length_nil, Nat.zero_add, List.take_succ_cons, List.take_zero, List.drop_succ_cons, List.drop_zero, List.cons_append, List.nil_append, Nat.reduceAdd] at hlay
        refine ⟨out.length - (i + 1), by omega, i + 1, rows'.set i [I64 out[i].seq, rb], by omega, rfl, rfl, by omega, fun j hj => ?_, ?_, by simp; omega, hA'.set hlt ⟨rb, rfl, hrb⟩, fun r hr => ?_⟩
        · rw [get_upd_ne (by rw [wf_upd, wf_add]; exact wfN) _ _ _ (by omega), get_upd_ne (by rw [wf_add]; exact wfN) _ _ _ (by omega), get_add wfN _ _ (by omega), kN j hj]
        · rw [← hlay]
        · rcases List.mem_or_eq_of_mem_set hr with h | h
          · exact hr' r h
          · subst h; rfl
      · have hc : decide ((i : Int) < out.length) = false := by simp; omega
        have kk := k (.sl id 0 out.length cap 2)
        simp (maxSteps := 2000000) (disch := first | omega | assumption | (simp only [DS, Nat.reduceAdd, *]; done) | (simp only [DZ]; omega)) only [RUN, RU, footA, feetIn, resultsA, tupOf, frzL, slot, lay, icyL, fillA, repCells, kR, reduceIte, Nat.reduceEqDiff, Nat.reduceBEq, Nat.reduceLT, Nat.reduceAdd, Nat.reduceLeDiff, Nat.reduceSub, Nat.reduceMul, Int.reduceLT, Int.reduceLE, Int.reduceEq, Int.reduceAdd, Int.reduceSub, Int.reduceMul, *]
        refine kk _ ?_ ?_ (fun j hj => ?_) (.inr ⟨id, rows', cap, by rw [hrl], by rw [hrl, ← hlen]; exact hcap, ?_, hA', hr'⟩) (fun id' h => by cases h; omega)
        · simp only [wf_upd]; exact wfN
        · simp only [upd_size]; omega
        · rw [get_upd_ne wfN _ _ _ (by omega), kN j hj]
        · rw [get_upd_ne wfN _ _ _ (by omega), qi]
end Go.Proofs.Ytbemomagabjbnaa
