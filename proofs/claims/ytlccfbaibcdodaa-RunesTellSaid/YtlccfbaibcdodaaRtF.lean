/-
  runes: Hide, in the caller's memory.
-/
import Derived.Test.YtlccfbaibcdodaaRtD
set_option linter.unusedSimpArgs false
set_option linter.unusedVariables false
set_option maxRecDepth 100000
namespace Go.Proofs.Ytlccfbaibcdodaa
open Go Go.Ax
variable {fuel : Nat} {M : Mem} {Q : AV → Mem → Prop} {d : Nat}

/-- A slice of ours that has been handed to a call: it is read only from then on. -/
def SlF {α : Type} (M : Mem) (st : Nat) (T : List AV → α → Prop) (a : AV) (l : List α) : Prop :=
  (a = NIL ∧ l = []) ∨ ∃ (id : Nat) (rows : List (List AV)) (cap : Option Nat), a = .sl id 0 rows.length cap st ∧ M.get id = some (.fro rows.flatten) ∧ All2 T rows l ∧ ∀ r ∈ rows, r.length = st
section
variable {α : Type} {st : Nat} {T : List AV → α → Prop} {a : AV} {l : List α}
theorem SlF.keep {N : Mem} (h : SlF M st T a l) (k : ∀ id, rowOf a = some id → N.get id = M.get id) : SlF N st T a l := by
  rcases h with h | ⟨id, rows, cap, rfl, hg, hA, hr⟩
  · exact .inl h
  · exact .inr ⟨id, rows, cap, rfl, (k id rfl).trans hg, hA, hr⟩
theorem SlF.len (h : SlF M st T a l) (N : Mem) : lenO N a = some (.sc (.int .i64 l.length), N) := by
  rcases h with ⟨rfl, rfl⟩ | ⟨id, rows, cap, rfl, hg, hA, hr⟩
  · rfl
  · show some (AV.sc (goInt rows.length), N) = _
    rw [hA.length_eq]; rfl
theorem SlF.lt (h : SlF M st T a l) : ∀ id, rowOf a = some id → id < M.size := by
  rintro id hid
  rcases h with ⟨rfl, rfl⟩ | ⟨id', rows, cap, rfl, hg, hA, hr⟩
  · cases hid
  · cases hid; exact Mem.get_lt hg
theorem SlF.rows (h : SlF M st T a l) {n : Nat} (hn : M.size ≤ n) : ((rowsOf a).all fun i => Nat.blt i n) = true := by
  rcases h with ⟨rfl, rfl⟩ | ⟨id', rows, cap, rfl, hg, hA, hr⟩
  · rfl
  · have := Mem.get_lt hg
    simp only [rowsOf, List.all_cons, List.all_nil, Bool.and_true]
    exact blt_t (by omega)
theorem SlF.icy (h : SlF M st T a l) (hT : CelI T) {k : Nat} (hk : 1 < k) : ∃ a', Sl st T a' l ∧ ∀ N, (∀ j, rowOf a = some j → N.get j = M.get j) → Go.Ax.icy k N a = some (a', N) := by
  obtain ⟨k, rfl⟩ : ∃ j, k = j + 1 := ⟨k - 1, by omega⟩
  rcases h with ⟨rfl, rfl⟩ | ⟨id, rows, cap, rfl, hg, hA, hr⟩
  · exact ⟨NIL, .inl ⟨rfl, rfl⟩, fun N _ => rfl⟩
  · have hfl := flat_len hr
    have hcs : ∀ N, icyL (Go.Ax.icy k) N rows.flatten = some (rows.flatten, N) := icyL_same (by omega) fun x hx N => hT.flat hA x hx N k (by omega)
    have hble : Nat.ble (0 + rows.length * st) rows.flatten.length = true := ble_t (by omega)
    have hsl : slot rows.flatten 0 (rows.length * st) = rows.flatten := slot_all _ _ hfl.symm
    refine ⟨.pv rows.flatten rows.length cap st, .inr ⟨rows, cap, rfl, hA, hr⟩, fun N hN => ?_⟩
    have hN := (hN id rfl).trans hg
    have hrd : N.rd id = some rows.flatten := by rw [rd_get, hN]; rfl
    simp only [Go.Ax.icy, hrd, hble, hcs, hN, hsl]
theorem SlF.open (h : SlF M st T a l) : ∃ rows : List (List AV), (∀ N, (∀ j, rowOf a = some j → N.get j = M.get j) → cellsOf N a = some rows.flatten) ∧ lenA a = some l.length ∧ All2 T rows l ∧ ∀ r ∈ rows, r.length = st := by
  rcases h with ⟨rfl, rfl⟩ | ⟨id, rows, cap, rfl, hg, hA, hr⟩
  · exact ⟨[], fun N _ => rfl, rfl, .nil, by simp⟩
  · have hfl := flat_len hr
    refine ⟨rows, fun N hN => ?_, by simp only [lenA]; rw [hA.length_eq], hA, hr⟩
    have hN := (hN id rfl).trans hg
    have hrd : N.rd id = some rows.flatten := by rw [rd_get, hN]; rfl
    simp only [cellsOf, hrd, Nat.ble_eq_true_of_le (show 0 + rows.length * st ≤ rows.flatten.length by omega)]
    rw [slot_all _ _ hfl.symm]
/-- Handed to a call, it is read only. -/
theorem SlM.handF (h : SlM M st T a l) (wf : Wf M) (hT : CelI T) {k : Nat} (hk : 1 < k) : ∃ a' M', Go.Ax.icy k M a = some (a', M') ∧ Sl st T a' l ∧ Wf M' ∧ M'.size = M.size ∧ (∀ j, rowOf a ≠ some j → M'.get j = M.get j) ∧ SlF M' st T a l := by
  rcases h with ⟨rfl, rfl⟩ | ⟨id, rows, cap, rfl, hc, hg, hA, hr⟩
  · obtain ⟨k, rfl⟩ : ∃ j, k = j + 1 := ⟨k - 1, by omega⟩
    exact ⟨NIL, M, rfl, .inl ⟨rfl, rfl⟩, wf, rfl, fun _ _ => rfl, .inl ⟨rfl, rfl⟩⟩
  · have hfl := flat_len hr
    have lid := Mem.get_lt hg
    obtain ⟨k, rfl⟩ : ∃ j, k = j + 1 := ⟨k - 1, by omega⟩
    have hcs : ∀ N, icyL (Go.Ax.icy k) N rows.flatten = some (rows.flatten, N) := icyL_same (by omega) fun x hx N => hT.flat hA x hx N k (by omega)
    have hble : Nat.ble (0 + rows.length * st) rows.flatten.length = true := ble_t (by omega)
    have hsl : slot rows.flatten 0 (rows.length * st) = rows.flatten := slot_all _ _ hfl.symm
    refine ⟨.pv rows.flatten rows.length cap st, M.upd id (.fro rows.flatten), ?_, .inr ⟨rows, cap, rfl, hA, hr⟩, wf.upd _ _, rfl, fun j hj => get_upd_ne wf _ _ _ (fun e => hj (by rw [e]; rfl)), .inr ⟨id, rows, cap, rfl, get_upd_eq wf _ _ lid, hA, hr⟩⟩
    simp only [Go.Ax.icy, rd_row hg, hble, hcs, hg, put_upd wf lid, hsl]
end
/-- A clone of it. -/
theorem clone_F {a : AV} {l : List Int} (hS : SlF M 1 isI32 a l) (hl : l.length ≤ 100000) (wf : Wf M)
    (k : ∀ a' M', Wf M' → M.size ≤ M'.size → (∀ j, j < M.size → M'.get j = M.get j) → SlM M' 1 isI32 a' l → (∀ id, rowOf a' = some id → M.size ≤ id) → Q a' M') : W3 (callN Try.prog (fsT tbl) fuel (d + 1) (.fn 25) [a] M) Q := by
  have hu := Try.underlying22
  have hrl := hS.rows (n := M.size + 1) (by omega)
  have hrl0 := hS.rows (n := M.size) (by omega)
  rcases id hS with ⟨rfl, rfl⟩ | ⟨id, rows, cap, rfl, hg, hA, hr⟩
  · have k1 := k NIL M wf (Nat.le_refl _) (fun _ _ => rfl) .nil (fun id h => by cases h)
    refine call_0 tf25 rfl (by simp [a25]) fun b ht hx => ?_
    have h0 := hx 0 _ rfl
    clear hx
    simp only [a25, c25] at ht ⊢
    simp (maxSteps := 2000000) (disch := first | omega | assumption | (simp only [DS, Nat.reduceAdd, *]; done) | (simp only [DZ]; omega)) only [RUN, RU, footA, feetIn, resultsA, tupOf, frzL, slot, lay, icyL, fillA, repCells, kR, reduceIte, Nat.reduceEqDiff, Nat.reduceBEq, Nat.reduceLT, Nat.reduceAdd, Nat.reduceLeDiff, Nat.reduceSub, Nat.reduceMul, Int.reduceLT, Int.reduceLE, Int.reduceEq, Int.reduceAdd, Int.reduceSub, Int.reduceMul, pNil hu, h0, k1]
  · obtain ⟨rows', hcl, hla, hA', hr'⟩ := hS.open
    have lid := Mem.get_lt hg
    refine call_0 tf25 rfl (by simp [a25]) fun b ht hx => ?_
    have h0 := hx 0 _ rfl
    clear hx
    simp only [a25, c25] at ht ⊢
    simp (maxSteps := 2000000) (disch := first | omega | assumption | (simp only [DS, Nat.reduceAdd, *]; done) | (simp only [DZ]; omega)) only [RUN, RU, footA, feetIn, resultsA, tupOf, frzL, slot, lay, icyL, fillA, repCells, kR, reduceIte, Nat.reduceEqDiff, Nat.reduceBEq, Nat.reduceLT, Nat.reduceAdd, Nat.reduceLeDiff, Nat.reduceSub, Nat.reduceMul, Int.reduceLT, Int.reduceLE, Int.reduceEq, Int.reduceAdd, Int.reduceSub, Int.reduceMul, h0, wf, hrl, hrl0]
    refine w3_appc (X := M.add (.row false [])) (l := ([] : List Int)) (wf.add _) (.inr ⟨M.size, [], some 0, rfl, .inr rfl, get_add_new wf _ _ (Nat.le_refl _) (by omega), .nil, by simp⟩) cel_I32 (hcl _ fun j hj => by cases hj; exact get_add wf _ _ lid) hla hA' hr' (by omega) (by simp; omega) (by simp; omega) fun a' M' m w le sz kp nw wm rl on oc => ?_
    rw [add_size] at le kp nw
    simp (maxSteps := 2000000) (disch := first | omega | assumption | (simp only [DS, Nat.reduceAdd, *]; done) | (simp only [DZ]; omega)) only [RUN, RU, footA, feetIn, resultsA, tupOf, frzL, slot, lay, icyL, fillA, repCells, kR, reduceIte, Nat.reduceEqDiff, Nat.reduceBEq, Nat.reduceLT, Nat.reduceAdd, Nat.reduceLeDiff, Nat.reduceSub, Nat.reduceMul, Int.reduceLT, Int.reduceLE, Int.reduceEq, Int.reduceAdd, Int.reduceSub, Int.reduceMul, h0]
    refine k a' M' w (by omega) (fun j hj => ?_) (by simpa using m) (fun id' hid => ?_)
    · rw [kp j (by omega) (fun h => by cases h; omega), get_add wf _ _ hj]
    · rcases nw id' hid with h | h
      · cases h; omega
      · omega
set_option maxHeartbeats 8000000 in
theorem hide0_run {a aw : AV} {l : List Int} {w : List Bool} (hS : SlF M 1 isI32 a l) (hW : Sl 1 isBool aw w) (hf : 1000 < fuel) (wf : Wf M)
    (k : ∀ p N, Wf N → M.size ≤ N.size → (∀ j, j < M.size → N.get j = M.get j) → SlM N 1 isI32 p (hideM l w) → (∀ id, rowOf p = some id → M.size ≤ id) → Q (.tup [p, I64 (hideE l w)]) N) :
    W3 (callN Try.prog (fsT tbl) fuel (d + 6) (.fn 9) [a, aw] M) Q := by
  have celI : CelI isI32 := fun r x h y hy M k hk => by
    obtain ⟨rfl, _⟩ := h
    simp at hy; subst hy
    exact icy_sc _ hk
  obtain ⟨a', hS', hicy⟩ := hS.icy celI (k := 12) (by omega)
  have hrl0 := hS.rows (n := M.size) (by omega)
  have icM : icyL (icy 12) M [a] = some ([a'], M) := by simp only [icyL, hicy M (fun _ _ => rfl)]
  have icm' : ∀ M, icyL (icy 12) M [a'] = some ([a'], M) := fun M => by simp (maxSteps := 2000000) (disch := first | omega | assumption | (simp only [DS, Nat.reduceAdd, *]; done) | (simp only [DZ]; omega)) only [RUN, RU, footA, feetIn, resultsA, tupOf, frzL, slot, lay, icyL, fillA, repCells, kR, reduceIte, Nat.reduceEqDiff, Nat.reduceBEq, Nat.reduceLT, Nat.reduceAdd, Nat.reduceLeDiff, Nat.reduceSub, Nat.reduceMul, Int.reduceLT, Int.reduceLE, Int.reduceEq, Int.reduceAdd, Int.reduceSub, Int.reduceMul, hS'.icy]
  have hck := call_own tf8 rfl (check_run (fuel := fuel) (d := d) hS' (by omega) mem0) (icm' mem0) icM
  have hlen := hS.len
  have hwlen := hW.len
  refine call_0 tf9 rfl (by simp [a9]) fun b ht hx => ?_
  have h0 := hx 0 _ rfl
  have h1 := hx 1 _ rfl
  clear hx
  simp only [a9, c9] at ht ⊢
  by_cases hc : chk l = 0
  rotate_left
  · have q1 : decide (chk l = 0) = false := decide_eq_false hc
    have e1 : hideM l w = [] := by simp [hideM, hc]
    have e2 : hideE l w = chk l := by simp [hideE, hc]
    rw [e1, e2] at k
    simp (maxSteps := 2000000) (disch := first | omega | assumption | (simp only [DS, Nat.reduceAdd, *]; done) | (simp only [DZ]; omega)) only [RUN, RU, footA, feetIn, resultsA, tupOf, frzL, slot, lay, icyL, fillA, repCells, kR, reduceIte, Nat.reduceEqDiff, Nat.reduceBEq, Nat.reduceLT, Nat.reduceAdd, Nat.reduceLeDiff, Nat.reduceSub, Nat.reduceMul, Int.reduceLT, Int.reduceLE, Int.reduceEq, Int.reduceAdd, Int.reduceSub, Int.reduceMul, h0, h1, hrl0, hck, q1]
    exact k NIL M wf (Nat.le_refl _) (fun _ _ => rfl) SlM.nil (fun id h => by cases h)
  have q1 : decide (chk l = 0) = true := decide_eq_true hc
  have h64 : l.length ≤ 64 := (chk_ok hc).1
  by_cases hw : w.length = l.length
  rotate_left
  · have q2 : decide ((w.length : Int) = l.length) = false := decide_eq_false (by omega)
    have e1 : hideM l w = [] := by simp [hideM, hc, hw]
    have e2 : hideE l w = 2 := by simp [hideE, hc, hw]
    rw [e1, e2] at k
    simp (maxSteps := 2000000) (disch := first | omega | assumption | (simp only [DS, Nat.reduceAdd, *]; done) | (simp only [DZ]; omega)) only [RUN, RU, footA, feetIn, resultsA, tupOf, frzL, slot, lay, icyL, fillA, repCells, kR, reduceIte, Nat.reduceEqDiff, Nat.reduceBEq, Nat.reduceLT, Nat.reduceAdd, Nat.reduceLeDiff, Nat.reduceSub, Nat.reduceMul, Int.reduceLT, Int.reduceLE, Int.reduceEq, Int.reduceAdd, Int.reduceSub, Int.reduceMul, h0, h1, hrl0, hck, q1, hlen, hwlen, q2]
    exact k NIL M wf (Nat.le_refl _) (fun _ _ => rfl) SlM.nil (fun id h => by cases h)
  have q2 : decide ((w.length : Int) = l.length) = true := decide_eq_true (by omega)
  have e1 : hideM l w = hid l w := by simp [hideM, hc, hw]
  have e2 : hideE l w = 0 := by simp [hideE, hc, hw]
  rw [e1, e2] at k
  simp (maxSteps := 2000000) (disch := first | omega | assumption | (simp only [DS, Nat.reduceAdd, *]; done) | (simp only [DZ]; omega)) only [RUN, RU, footA, feetIn, resultsA, tupOf, frzL, slot, lay, icyL, fillA, repCells, kR, reduceIte, Nat.reduceEqDiff, Nat.reduceBEq, Nat.reduceLT, Nat.reduceAdd, Nat.reduceLeDiff, Nat.reduceSub, Nat.reduceMul, Int.reduceLT, Int.reduceLE, Int.reduceEq, Int.reduceAdd, Int.reduceSub, Int.reduceMul, h0, h1, hrl0, hck, q1, hlen, hwlen, q2]
  refine clone_F hS (by omega) wf ?_
  rintro o M1 wf1 s1 kp1 hSM ho1
  simp (maxSteps := 2000000) (disch := first | omega | assumption | (simp only [DS, Nat.reduceAdd, *]; done) | (simp only [DZ]; omega)) only [RUN, RU, footA, feetIn, resultsA, tupOf, frzL, slot, lay, icyL, fillA, repCells, kR, reduceIte, Nat.reduceEqDiff, Nat.reduceBEq, Nat.reduceLT, Nat.reduceAdd, Nat.reduceLeDiff, Nat.reduceSub, Nat.reduceMul, Int.reduceLT, Int.reduceLE, Int.reduceEq, Int.reduceAdd, Int.reduceSub, Int.reduceMul, h0, h1, hwlen]
  refine w_loop (I := fun n t N => ∃ i : Nat, i ≤ w.length ∧ n = w.length - i ∧ nth undefA t 7 = o ∧ nth undefA t 22 = aw ∧ nth undefA t 23 = I64 w.length ∧ nth undefA t 24 = I64 i ∧ Wf N ∧ M.size ≤ N.size ∧ (∀ j, j < M.size → N.get j = M.get j) ∧ SlM N 1 isI32 o (hidTo i l w)) (n := w.length) (by omega) ?_ ?_
  · refine ⟨0, by omega, by omega, ?_, ?_, ?_, ?_, wf1, s1, kp1, by rw [hidTo_zero]; exact hSM⟩
    all_goals simp (maxSteps := 2000000) (disch := first | omega | assumption | (simp only [DS, Nat.reduceAdd, *]; done) | (simp only [DZ]; omega)) only [RUN, RU, footA, feetIn, resultsA, tupOf, frzL, slot, lay, icyL, fillA, repCells, kR, reduceIte, Nat.reduceEqDiff, Nat.reduceBEq, Nat.reduceLT, Nat.reduceAdd, Nat.reduceLeDiff, Nat.reduceSub, Nat.reduceMul, Int.reduceLT, Int.reduceLE, Int.reduceEq, Int.reduceAdd, Int.reduceSub, Int.reduceMul]
    rfl
  · rintro n t N hl' ⟨i, hi, hn, t7, t22, t23, t24, wfN, sN, kpN, hN⟩
    simp only [ht] at hl' ⊢
    clear h0 h1 ht b hSM
    by_cases hlt : i < w.length
    · have hc' : decide ((i : Int) < w.length) = true := by simp; omega
      have w1 : IntKind.i64.wrap ((i : Int) + 1) = ((i + 1 : Nat) : Int) := by rw [wrap_i64] <;> omega
      have hll : i < l.length := by omega
      obtain ⟨r, hr, rfl, _⟩ := hW.iad i hlt
      have hwi : w[i]? = some w[i] := by simp [hlt]
      cases hb : w[i]
      · simp (maxSteps := 2000000) (disch := first | omega | assumption | (simp only [DS, Nat.reduceAdd, *]; done) | (simp only [DZ]; omega)) only [RUN, RU, footA, feetIn, resultsA, tupOf, frzL, slot, lay, icyL, fillA, repCells, kR, reduceIte, Nat.reduceEqDiff, Nat.reduceBEq, Nat.reduceLT, Nat.reduceAdd, Nat.reduceLeDiff, Nat.reduceSub, Nat.reduceMul, Int.reduceLT, Int.reduceLE, Int.reduceEq, Int.reduceAdd, Int.reduceSub, Int.reduceMul, t7, t22, t23, t24, hc', hr, hb, w1]
        refine ⟨hl', w.length - (i + 1), by omega, i + 1, by omega, rfl, rfl, wfN, sN, kpN, ?_⟩
        rw [show hidTo (i + 1) l w = hidTo i l w from List.ext_getElem? fun j => by
          rw [hidTo_get, hidTo_get]
          by_cases e : j = i
          · subst e; simp [hwi, hb]
          · simp [show j < i + 1 ↔ j < i by omega]]
        exact hN
      · rcases hN with ⟨rfl, hn0⟩ | ⟨id, rows, cap, rfl, hcap, hg, hA, hrr⟩
        · have := congrArg List.length hn0
          rw [hidTo_len, List.length_nil] at this; omega
        · have hrl := hA.length_eq
          rw [hidTo_len] at hrl
          have lid := Mem.get_lt hg
          have hid0 := ho1 id rfl
          have hfl := flat_len hrr
          have hir : i < rows.length := by omega
          have hgi : rows[i]? = some rows[i] := by simp [hir]
          have hlay := flat_lay (st := 1) (off := 0) (new := [I32 (-1)]) hrr hgi (by simp)
          have hri : rows[i].length = 1 := hrr _ (List.getElem_mem hir)
          simp (maxSteps := 2000000) (disch := first | omega | assumption | (simp only [DS, Nat.reduceAdd, *]; done) | (simp only [DZ]; omega)) only [RUN, RU, footA, feetIn, resultsA, tupOf, frzL, slot, lay, icyL, fillA, repCells, kR, reduceIte, Nat.reduceEqDiff, Nat.reduceBEq, Nat.reduceLT, Nat.reduceAdd, Nat.reduceLeDiff, Nat.reduceSub, Nat.reduceMul, Int.reduceLT, Int.reduceLE, Int.reduceEq, Int.reduceAdd, Int.reduceSub, Int.reduceMul, t7, t22, t23, t24, hc', hr, hb, w1, hg, wfN, hir, hfl]
          refine ⟨hl', w.length - (i + 1), by omega, i + 1, by omega, rfl, rfl, sN, fun j hj => by rw [get_upd_ne wfN _ _ _ (by omega)]; exact kpN j hj, .inr ⟨id, rows.set i [I32 (-1)], cap, by simp, by simpa using hcap, ?_, ?_, ?_⟩⟩
          · rw [get_upd_eq wfN _ _ lid]
            obtain ⟨x, hx⟩ : ∃ x, rows[i] = [x] := by
              match hm : rows[i], hri with
              | [x], _ => exact ⟨x, rfl⟩
            rw [hx] at hlay
            simp only [lay, Nat.mul_one, Nat.add_zero, List.length_cons, List.length_nil, List.take_zero, List.nil_append, List.drop_succ_cons, List.drop_zero, Nat.zero_add, List.append_nil, List.drop_nil] at hlay ⊢
            rw [hlay]
          · refine all2_mk (by simp [hidTo_len, hrl]) fun j x y hx hy => ?_
            rw [hidTo_get] at hy
            rw [List.getElem?_set] at hx
            by_cases e : i = j
            · subst e
              rw [if_pos rfl, if_pos hir] at hx
              cases hx
              rw [List.getElem?_eq_getElem hll] at hy
              simp [hwi, hb] at hy
              subst hy
              exact ⟨rfl, by omega, by omega⟩
            · rw [if_neg e] at hx
              refine all2_at hA hx ?_
              rw [hidTo_get, ← hy]
              congr 1; funext z
              simp [show j < i + 1 ↔ j < i by omega]
          · intro r hr'
            rcases List.mem_or_eq_of_mem_set hr' with h | h
            · exact hrr r h
            · subst h; rfl
    · have hc' : decide ((i : Int) < w.length) = false := by simp; omega
      have hil : i = l.length := by omega
      subst hil
      simp (maxSteps := 2000000) (disch := first | omega | assumption | (simp only [DS, Nat.reduceAdd, *]; done) | (simp only [DZ]; omega)) only [RUN, RU, footA, feetIn, resultsA, tupOf, frzL, slot, lay, icyL, fillA, repCells, kR, reduceIte, Nat.reduceEqDiff, Nat.reduceBEq, Nat.reduceLT, Nat.reduceAdd, Nat.reduceLeDiff, Nat.reduceSub, Nat.reduceMul, Int.reduceLT, Int.reduceLE, Int.reduceEq, Int.reduceAdd, Int.reduceSub, Int.reduceMul, t7, t22, t23, t24, hc']
      exact k o N wfN sN kpN hN ho1
end Go.Proofs.Ytlccfbaibcdodaa
