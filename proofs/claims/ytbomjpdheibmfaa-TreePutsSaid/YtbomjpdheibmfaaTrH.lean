/-
  Texts: do elements stand in their order?
-/
import Derived.Test.YtbomjpdheibmfaaTrG
import Derived.Test.YtbomjpdheibmfaaEf
set_option linter.unusedSimpArgs false
set_option linter.unusedVariables false
set_option maxRecDepth 100000
namespace Go.Proofs.Ytbomjpdheibmfaa
open Go Go.Ax
variable {fuel : Nat} {M : Mem} {Q : AV → Mem → Prop} {d : Nat}
theorem elements_0 {a : AV} {l : List Rn} (hS : Sl 10 isRn a l) (wf : Wf M) (k : Q (.fn 42 [] [.ptr M.size 0]) (M.add (.row false [a]))) :
    W3 (callN Try.prog (fsT tbl) fuel (d + 1) (.fn 23) [a] M) Q := by
  have oa := hS.one
  refine call_0 tf23 rfl (by simp [a23]) fun b' ht hx => ?_
  have h0 := hx 0 _ rfl
  clear hx
  simp only [a23, c23] at ht ⊢
  simp (maxSteps := 2000000) (disch := first | omega | assumption | (simp only [DS, Nat.reduceAdd, *]; done) | (simp only [DZ]; omega)) only [RUN, RU, zD, zC, zB, zE, zG, slot, lay, zH, zF, zA, kR, reduceIte, Nat.reduceEqDiff, Nat.reduceBEq, Nat.reduceLT, Nat.reduceAdd, Nat.reduceLeDiff, Nat.reduceSub, Nat.reduceMul, Int.reduceLT, Int.reduceLE, Int.reduceEq, Int.reduceAdd, Int.reduceSub, Int.reduceMul, h0, hS.fz.rows, hS.fz.one, hS.fz.cells, hS.fz.icy, hS.fz.frz, wf]
  exact k
theorem rn_ok {a : AV} {l : List Rn} (hS : Sl 10 isRn a l) : ∀ r ∈ l, r.ok := by
  intro r hr
  obtain ⟨i, hi, rfl⟩ := List.getElem_of_mem hr
  obtain ⟨_, _, ⟨_, _, _, hok⟩, _⟩ := hS.iad i hi
  exact hok
theorem els_ok {l : List Rn} (h : ∀ r ∈ l, r.ok) (hm : ∀ r ∈ l, r.may = true) : ∀ x ∈ elsL l, x.1.ok := by
  intro x hx
  obtain ⟨r, hr, hx⟩ := List.mem_flatMap.1 hx
  obtain ⟨i, hi, rfl⟩ := List.mem_map.1 hx
  rw [List.mem_range] at hi
  have hb := Spn.may_le (Rn.may_sp (hm r hr))
  have hk := h r hr
  refine ⟨hk.1.1.1, ?_⟩
  simp only [Spn.at, i64R]
  omega
theorem els_length {l : List Rn} (hm : ∀ r ∈ l, r.may = true) : (elsL l).length ≤ 64 * l.length := by
  have := countL_le hm
  have e := count_els hm
  rw [← prs_elsR]
  unfold prs
  rw [List.length_map]
  omega
theorem els1_at {X : Mem} {tm : List AV} {a : AV} {l : List Rn} (hS : Sl 10 isRn a l) (hl : l.length ≤ 1000) (hm : ∀ r ∈ l, r.may = true) (hf : 64 * l.length + 1000 < fuel) (w : Wf X) (h2 : nth undefA tm 2 = .ptr 0 0) (h3 : nth undefA tm 3 = .ptr 1 0) (h4 : nth undefA tm 4 = .ptr 3 0) (hlen : tm.length = 63) (hX : X.size = 5) (g0 : X.get 0 = some (.row false [BL false])) (g1 : X.get 1 = some (.row false [NIL])) (g2 : X.get 2 = some (.map [] 0)) (g3 : X.get 3 = some (.row false [.mp 2])) (g4 : X.get 4 = some (.row false [a]))
    (kt : Ord (elsL l) → ∀ u O N, OI tm (elsL l) O N → Q u N) (ks : ¬Ord (elsL l) → ∀ u N, OS tm N → Q u N) :
    W3 (callN Try.prog (fsT tbl) fuel (d + 8) (.fn 42) ([] ++ [.yl (X.size + 1)] ++ [.ptr 4 0]) ((X.add (.dfr false)).add (.loop .ready none tm [12, 13] cO1 cO2 X.size))) Q := by
  have w1 := w.add (.dfr false)
  have hel := els_length hm
  have heo := els_ok (rn_ok hS) hm
  have e : X.size + 1 = 6 := by omega
  have u : ∀ j, j < 5 → ((X.add (.dfr false)).add (.loop .ready none tm [12, 13] cO1 cO2 X.size)).get j = X.get j := fun j hj => by
    rw [get_add w1 _ _ (by rw [add_size]; omega), get_add w _ _ (by omega)]
  have hJ0 : OI tm [] (fun j => j = 1 ∨ j = 2 ∨ j = 6) ((X.add (.dfr false)).add (.loop .ready none tm [12, 13] cO1 cO2 X.size)) := by
    refine ⟨w1.add _, by simp only [add_size]; omega, (u 0 (by omega)).trans g0, ⟨NIL, (u 1 (by omega)).trans g1, SlP.nil, fun j hj => by cases hj⟩, ⟨_, (u 2 (by omega)).trans g2, IsSet.nil _ _⟩, (u 3 (by omega)).trans g3, ?_, ?_, .inl rfl, .inr (.inl rfl), .inr (.inr rfl), ?_, Ord.nil⟩
    · rw [get_add w1 _ _ (by rw [add_size]; omega), ← hX]
      exact get_add_new w _ _ (Nat.le_refl _) (Nat.lt_succ_self _)
    · have := get_add_new w1 (.loop .ready none tm [12, 13] cO1 cO2 X.size) 6 (by rw [add_size]; omega) (by rw [add_size]; omega)
      rw [hX] at this ⊢
      exact this
    · intro j hj
      simp only [add_size]
      rcases hj with rfl | rfl | rfl <;> omega
  have key := els1_run (d := d) (fuel := fuel) (Q := Q) (J := OI tm) (S := fun N => OS tm N ∧ ¬Ord (elsL l)) (id := 6) (p := 4) hS (by omega) hm (by omega) (w1.add _) ((u 4 (by omega)).trans g4) hJ0 (fun pre O N N' h wf le k => h.keep wf le k) (fun pre O N h j hj => (h.ol j hj).1) (fun pre x post O N he h wf le => ?_) (fun u N O h _ _ => kt h.od u O N h) (fun u N h => ks h.2 u N h.1)
  · rw [← e] at key
    exact key
  · have hxm : x ∈ elsL l := by rw [he]; simp
    have hpl : pre.length ≤ (elsL l).length := by rw [he]; simp
    obtain ⟨v, N', hc, hv⟩ := oyield (fuel := fuel) (d := d) (B := ((X.add (.dfr false)).add (.loop .ready none tm [12, 13] cO1 cO2 X.size)).size) h h2 h3 h4 hlen (heo x hxm) (by omega) (by omega)
    refine ⟨v, N', hc, ?_⟩
    rcases hv with ⟨rfl, hv⟩ | ⟨rfl, hv, ho⟩
    · exact .inl ⟨rfl, hv⟩
    · refine .inr ⟨rfl, hv, fun k => ?_⟩
      rw [k pre x post he] at ho
      cases ho
open Classical in
set_option maxHeartbeats 4000000 in
theorem ordered_run {a : AV} {l : List Rn} (hS : Sl 10 isRn a l) (hl : l.length ≤ 1000) (hm : ∀ r ∈ l, r.may = true) (hf : 64 * l.length + 1000 < fuel) (M : Mem) : callN Try.prog (fsT tbl) fuel (d + 9) (.fn 28) [a] M = some (BL (decide (Ord (elsL l))), M) := by
  have oa := hS.one
  have hel := els_length hm
  have heo := els_ok (rn_ok hS) hm
  apply w3_eq
  refine call_gc tf28 rfl (by simp only [zH, fun M => hS.icy M 12 (by omega)]) (by simp [a28]) fun b' ht hx => ?_
  have h0 := hx 0 _ rfl
  clear hx
  simp only [a28, c28] at ht ⊢
  have cm : cellsA (.mp 2) = [.mp 2] := rfl
  have om : oneA (.mp 2) = true := rfl
  have sm : scs (.map none) = [.sc (.map none)] := rfl
  simp (maxSteps := 2000000) (disch := first | omega | assumption | (simp only [DS, Nat.reduceAdd, *]; done) | (simp only [DZ]; omega)) only [RUN, RU, zD, zC, zB, zE, zG, slot, lay, zH, zF, zA, kR, reduceIte, Nat.reduceEqDiff, Nat.reduceBEq, Nat.reduceLT, Nat.reduceAdd, Nat.reduceLeDiff, Nat.reduceSub, Nat.reduceMul, Int.reduceLT, Int.reduceLE, Int.reduceEq, Int.reduceAdd, Int.reduceSub, Int.reduceMul, h0, hS.fz.rows, hS.fz.one, hS.fz.cells, hS.fz.icy, hS.fz.frz, x_mkmap, cm, om, sm]
  refine elements_0 hS (by simp (maxSteps := 2000000) (disch := first | omega | assumption | (simp only [DS, Nat.reduceAdd, *]; done) | (simp only [DZ]; omega)) only [RUN, RU, zD, zC, zB, zE, zG, slot, lay, zH, zF, zA, kR, reduceIte, Nat.reduceEqDiff, Nat.reduceBEq, Nat.reduceLT, Nat.reduceAdd, Nat.reduceLeDiff, Nat.reduceSub, Nat.reduceMul, Int.reduceLT, Int.reduceLE, Int.reduceEq, Int.reduceAdd, Int.reduceSub, Int.reduceMul]) ?_
  simp (maxSteps := 2000000) (disch := first | omega | assumption | (simp only [DS, Nat.reduceAdd, *]; done) | (simp only [DZ]; omega)) only [RUN, RU, zD, zC, zB, zE, zG, slot, lay, zH, zF, zA, kR, reduceIte, Nat.reduceEqDiff, Nat.reduceBEq, Nat.reduceLT, Nat.reduceAdd, Nat.reduceLeDiff, Nat.reduceSub, Nat.reduceMul, Int.reduceLT, Int.reduceLE, Int.reduceEq, Int.reduceAdd, Int.reduceSub, Int.reduceMul, h0, hS.fz.rows, hS.fz.one, hS.fz.cells, hS.fz.icy, hS.fz.frz]
  refine w_rangeE (g := 42) (first := []) (cap := [.ptr 4 0]) (by simp (maxSteps := 2000000) (disch := first | omega | assumption | (simp only [DS, Nat.reduceAdd, *]; done) | (simp only [DZ]; omega)) only [RUN, RU, zD, zC, zB, zE, zG, slot, lay, zH, zF, zA, kR, reduceIte, Nat.reduceEqDiff, Nat.reduceBEq, Nat.reduceLT, Nat.reduceAdd, Nat.reduceLeDiff, Nat.reduceSub, Nat.reduceMul, Int.reduceLT, Int.reduceLE, Int.reduceEq, Int.reduceAdd, Int.reduceSub, Int.reduceMul]) (by simp (maxSteps := 2000000) (disch := first | omega | assumption | (simp only [DS, Nat.reduceAdd, *]; done) | (simp only [DZ]; omega)) only [RUN, RU, zD, zC, zB, zE, zG, slot, lay, zH, zF, zA, kR, reduceIte, Nat.reduceEqDiff, Nat.reduceBEq, Nat.reduceLT, Nat.reduceAdd, Nat.reduceLeDiff, Nat.reduceSub, Nat.reduceMul, Int.reduceLT, Int.reduceLE, Int.reduceEq, Int.reduceAdd, Int.reduceSub, Int.reduceMul]) ?_
  refine els1_at (d := d) hS hl hm hf ?_ ?_ ?_ ?_ ?_ ?_ ?_ ?_ ?_ ?_ ?_ (fun ho u O N h => ?_) (fun ho u N h => ?_)
  · simp (maxSteps := 2000000) (disch := first | omega | assumption | (simp only [DS, Nat.reduceAdd, *]; done) | (simp only [DZ]; omega)) only [RUN, RU, zD, zC, zB, zE, zG, slot, lay, zH, zF, zA, kR, reduceIte, Nat.reduceEqDiff, Nat.reduceBEq, Nat.reduceLT, Nat.reduceAdd, Nat.reduceLeDiff, Nat.reduceSub, Nat.reduceMul, Int.reduceLT, Int.reduceLE, Int.reduceEq, Int.reduceAdd, Int.reduceSub, Int.reduceMul]
  · simp (maxSteps := 2000000) (disch := first | omega | assumption | (simp only [DS, Nat.reduceAdd, *]; done) | (simp only [DZ]; omega)) only [RUN, RU, zD, zC, zB, zE, zG, slot, lay, zH, zF, zA, kR, reduceIte, Nat.reduceEqDiff, Nat.reduceBEq, Nat.reduceLT, Nat.reduceAdd, Nat.reduceLeDiff, Nat.reduceSub, Nat.reduceMul, Int.reduceLT, Int.reduceLE, Int.reduceEq, Int.reduceAdd, Int.reduceSub, Int.reduceMul]
  · simp (maxSteps := 2000000) (disch := first | omega | assumption | (simp only [DS, Nat.reduceAdd, *]; done) | (simp only [DZ]; omega)) only [RUN, RU, zD, zC, zB, zE, zG, slot, lay, zH, zF, zA, kR, reduceIte, Nat.reduceEqDiff, Nat.reduceBEq, Nat.reduceLT, Nat.reduceAdd, Nat.reduceLeDiff, Nat.reduceSub, Nat.reduceMul, Int.reduceLT, Int.reduceLE, Int.reduceEq, Int.reduceAdd, Int.reduceSub, Int.reduceMul]
  · simp (maxSteps := 2000000) (disch := first | omega | assumption | (simp only [DS, Nat.reduceAdd, *]; done) | (simp only [DZ]; omega)) only [RUN, RU, zD, zC, zB, zE, zG, slot, lay, zH, zF, zA, kR, reduceIte, Nat.reduceEqDiff, Nat.reduceBEq, Nat.reduceLT, Nat.reduceAdd, Nat.reduceLeDiff, Nat.reduceSub, Nat.reduceMul, Int.reduceLT, Int.reduceLE, Int.reduceEq, Int.reduceAdd, Int.reduceSub, Int.reduceMul]
  · rw [St_len]; exact ht
  · simp (maxSteps := 2000000) (disch := first | omega | assumption | (simp only [DS, Nat.reduceAdd, *]; done) | (simp only [DZ]; omega)) only [RUN, RU, zD, zC, zB, zE, zG, slot, lay, zH, zF, zA, kR, reduceIte, Nat.reduceEqDiff, Nat.reduceBEq, Nat.reduceLT, Nat.reduceAdd, Nat.reduceLeDiff, Nat.reduceSub, Nat.reduceMul, Int.reduceLT, Int.reduceLE, Int.reduceEq, Int.reduceAdd, Int.reduceSub, Int.reduceMul]
  · simp (maxSteps := 2000000) (disch := first | omega | assumption | (simp only [DS, Nat.reduceAdd, *]; done) | (simp only [DZ]; omega)) only [RUN, RU, zD, zC, zB, zE, zG, slot, lay, zH, zF, zA, kR, reduceIte, Nat.reduceEqDiff, Nat.reduceBEq, Nat.reduceLT, Nat.reduceAdd, Nat.reduceLeDiff, Nat.reduceSub, Nat.reduceMul, Int.reduceLT, Int.reduceLE, Int.reduceEq, Int.reduceAdd, Int.reduceSub, Int.reduceMul]
  · simp (maxSteps := 2000000) (disch := first | omega | assumption | (simp only [DS, Nat.reduceAdd, *]; done) | (simp only [DZ]; omega)) only [RUN, RU, zD, zC, zB, zE, zG, slot, lay, zH, zF, zA, kR, reduceIte, Nat.reduceEqDiff, Nat.reduceBEq, Nat.reduceLT, Nat.reduceAdd, Nat.reduceLeDiff, Nat.reduceSub, Nat.reduceMul, Int.reduceLT, Int.reduceLE, Int.reduceEq, Int.reduceAdd, Int.reduceSub, Int.reduceMul]
  · simp (maxSteps := 2000000) (disch := first | omega | assumption | (simp only [DS, Nat.reduceAdd, *]; done) | (simp only [DZ]; omega)) only [RUN, RU, zD, zC, zB, zE, zG, slot, lay, zH, zF, zA, kR, reduceIte, Nat.reduceEqDiff, Nat.reduceBEq, Nat.reduceLT, Nat.reduceAdd, Nat.reduceLeDiff, Nat.reduceSub, Nat.reduceMul, Int.reduceLT, Int.reduceLE, Int.reduceEq, Int.reduceAdd, Int.reduceSub, Int.reduceMul]
  · simp (maxSteps := 2000000) (disch := first | omega | assumption | (simp only [DS, Nat.reduceAdd, *]; done) | (simp only [DZ]; omega)) only [RUN, RU, zD, zC, zB, zE, zG, slot, lay, zH, zF, zA, kR, reduceIte, Nat.reduceEqDiff, Nat.reduceBEq, Nat.reduceLT, Nat.reduceAdd, Nat.reduceLeDiff, Nat.reduceSub, Nat.reduceMul, Int.reduceLT, Int.reduceLE, Int.reduceEq, Int.reduceAdd, Int.reduceSub, Int.reduceMul]
  · simp (maxSteps := 2000000) (disch := first | omega | assumption | (simp only [DS, Nat.reduceAdd, *]; done) | (simp only [DZ]; omega)) only [RUN, RU, zD, zC, zB, zE, zG, slot, lay, zH, zF, zA, kR, reduceIte, Nat.reduceEqDiff, Nat.reduceBEq, Nat.reduceLT, Nat.reduceAdd, Nat.reduceLeDiff, Nat.reduceSub, Nat.reduceMul, Int.reduceLT, Int.reduceLE, Int.reduceEq, Int.reduceAdd, Int.reduceSub, Int.reduceMul]
  · have wf := h.wf
    have sz := h.sz
    have l0 := Mem.get_lt h.g0
    have l5 := Mem.get_lt h.g5
    have e6 : (mem0.add (.row false [BL false])).size = 1 := rfl
    refine ⟨wf, by simp only [add_size, upd_size, mem0_size]; omega, _, _, _, _, _, _, _, .inl rfl, h.g6, ?_⟩
    generalize hX : N.upd _ _ = X
    have wX : Wf X := by rw [← hX]; exact wf.upd _ _
    have sX : X.size = N.size := by rw [← hX]; rfl
    have gX : ∀ j, j ≠ 6 → X.get j = N.get j := fun j hj => by rw [← hX]; exact get_upd_ne wf _ _ _ (fun e => hj e.symm)
    have x0 := (gX 0 (by omega)).trans h.g0
    have x5 := (gX 5 (by omega)).trans h.g5
    have hd : decide (Ord (elsL l)) = true := decide_eq_true ho
    rw [hd]
    simp (maxSteps := 2000000) (disch := first | omega | assumption | (simp only [DS, Nat.reduceAdd, *]; done) | (simp only [DZ]; omega)) only [RUN, RU, zD, zC, zB, zE, zG, slot, lay, zH, zF, zA, kR, reduceIte, Nat.reduceEqDiff, Nat.reduceBEq, Nat.reduceLT, Nat.reduceAdd, Nat.reduceLeDiff, Nat.reduceSub, Nat.reduceMul, Int.reduceLT, Int.reduceLE, Int.reduceEq, Int.reduceAdd, Int.reduceSub, Int.reduceMul, x0, wX, Option.getD_none, Option.getD_some]
    refine fin_mark (by simp (maxSteps := 2000000) (disch := first | omega | assumption | (simp only [DS, Nat.reduceAdd, *]; done) | (simp only [DZ]; omega)) only [RUN, RU, zD, zC, zB, zE, zG, slot, lay, zH, zF, zA, kR, reduceIte, Nat.reduceEqDiff, Nat.reduceBEq, Nat.reduceLT, Nat.reduceAdd, Nat.reduceLeDiff, Nat.reduceSub, Nat.reduceMul, Int.reduceLT, Int.reduceLE, Int.reduceEq, Int.reduceAdd, Int.reduceSub, Int.reduceMul, wX]) (by simp (maxSteps := 2000000) (disch := first | omega | assumption | (simp only [DS, Nat.reduceAdd, *]; done) | (simp only [DZ]; omega)) only [RUN, RU, zD, zC, zB, zE, zG, slot, lay, zH, zF, zA, kR, reduceIte, Nat.reduceEqDiff, Nat.reduceBEq, Nat.reduceLT, Nat.reduceAdd, Nat.reduceLeDiff, Nat.reduceSub, Nat.reduceMul, Int.reduceLT, Int.reduceLE, Int.reduceEq, Int.reduceAdd, Int.reduceSub, Int.reduceMul, wX, x5]) ?_
    simp (maxSteps := 2000000) (disch := first | omega | assumption | (simp only [DS, Nat.reduceAdd, *]; done) | (simp only [DZ]; omega)) only [RUN, RU, zD, zC, zB, zE, zG, slot, lay, zH, zF, zA, kR, reduceIte, Nat.reduceEqDiff, Nat.reduceBEq, Nat.reduceLT, Nat.reduceAdd, Nat.reduceLeDiff, Nat.reduceSub, Nat.reduceMul, Int.reduceLT, Int.reduceLE, Int.reduceEq, Int.reduceAdd, Int.reduceSub, Int.reduceMul, x0, wX]
  · have wf := h.wf
    have sz := h.sz
    have l0 := Mem.get_lt h.g0
    have l5 := Mem.get_lt h.g5
    refine ⟨wf, by simp only [add_size, upd_size, mem0_size]; omega, _, _, _, _, _, _, _, .inr rfl, h.g6, ?_⟩
    generalize hX : N.upd _ _ = X
    have wX : Wf X := by rw [← hX]; exact wf.upd _ _
    have sX : X.size = N.size := by rw [← hX]; rfl
    have gX : ∀ j, j ≠ 6 → X.get j = N.get j := fun j hj => by rw [← hX]; exact get_upd_ne wf _ _ _ (fun e => hj e.symm)
    have x0 := (gX 0 (by omega)).trans h.g0
    have x5 := (gX 5 (by omega)).trans h.g5
    have hd : decide (Ord (elsL l)) = false := decide_eq_false ho
    rw [hd]
    simp (maxSteps := 2000000) (disch := first | omega | assumption | (simp only [DS, Nat.reduceAdd, *]; done) | (simp only [DZ]; omega)) only [RUN, RU, zD, zC, zB, zE, zG, slot, lay, zH, zF, zA, kR, reduceIte, Nat.reduceEqDiff, Nat.reduceBEq, Nat.reduceLT, Nat.reduceAdd, Nat.reduceLeDiff, Nat.reduceSub, Nat.reduceMul, Int.reduceLT, Int.reduceLE, Int.reduceEq, Int.reduceAdd, Int.reduceSub, Int.reduceMul, x0, wX, Option.getD_none, Option.getD_some]
    refine fin_mark (by simp (maxSteps := 2000000) (disch := first | omega | assumption | (simp only [DS, Nat.reduceAdd, *]; done) | (simp only [DZ]; omega)) only [RUN, RU, zD, zC, zB, zE, zG, slot, lay, zH, zF, zA, kR, reduceIte, Nat.reduceEqDiff, Nat.reduceBEq, Nat.reduceLT, Nat.reduceAdd, Nat.reduceLeDiff, Nat.reduceSub, Nat.reduceMul, Int.reduceLT, Int.reduceLE, Int.reduceEq, Int.reduceAdd, Int.reduceSub, Int.reduceMul, wX]) (by simp (maxSteps := 2000000) (disch := first | omega | assumption | (simp only [DS, Nat.reduceAdd, *]; done) | (simp only [DZ]; omega)) only [RUN, RU, zD, zC, zB, zE, zG, slot, lay, zH, zF, zA, kR, reduceIte, Nat.reduceEqDiff, Nat.reduceBEq, Nat.reduceLT, Nat.reduceAdd, Nat.reduceLeDiff, Nat.reduceSub, Nat.reduceMul, Int.reduceLT, Int.reduceLE, Int.reduceEq, Int.reduceAdd, Int.reduceSub, Int.reduceMul, wX, x5]) ?_
    simp (maxSteps := 2000000) (disch := first | omega | assumption | (simp only [DS, Nat.reduceAdd, *]; done) | (simp only [DZ]; omega)) only [RUN, RU, zD, zC, zB, zE, zG, slot, lay, zH, zF, zA, kR, reduceIte, Nat.reduceEqDiff, Nat.reduceBEq, Nat.reduceLT, Nat.reduceAdd, Nat.reduceLeDiff, Nat.reduceSub, Nat.reduceMul, Int.reduceLT, Int.reduceLE, Int.reduceEq, Int.reduceAdd, Int.reduceSub, Int.reduceMul, x0, wX]
end Go.Proofs.Ytbomjpdheibmfaa
