/-
  purge: Purge.
-/
import Derived.Test.YtjbninmklbkklaaDoorPuK
set_option linter.unusedSimpArgs false
set_option linter.unusedVariables false
set_option maxRecDepth 100000
namespace Go.Proofs.YtjbninmklbkklaaDoor
open Go Go.Ax
variable {fuel : Nat} {M : Mem} {Q : AV → Mem → Prop} {d : Nat}

def cY1 : ACode := (.region [⟨some 9, .alloc 44 (.agg #[(.int .u8 0), (.int .u8 0), (.int .u32 0), (.int .u8 0), (.int .i64 0), (.int .i64 0), (.int .i64 0), (.string ⟨#[]⟩), (.int .u8 0), (.int .u32 0), (.int .u8 0), (.slice none 0 0), (.int .i64 0), (.int .u8 0), (.int .u32 0), (.bool false), (.slice none 0 0)]), none, []⟩, ⟨none, .store 17 (.tmp 9) (.tmp 23), none, []⟩] false)
def cY2 : ACode := (.block 1 (.region [⟨some 24, .load 1 false (.tmp 8), none, [1, 2]⟩, ⟨some 25, .load 17 true (.tmp 9), none, [0]⟩, ⟨some 26, .bsl 44 17 (.agg #[(.int .u8 0), (.int .u8 0), (.int .u32 0), (.int .u8 0), (.int .i64 0), (.int .i64 0), (.int .i64 0), (.string ⟨#[]⟩), (.int .u8 0), (.int .u32 0), (.int .u8 0), (.slice none 0 0), (.int .i64 0), (.int .u8 0), (.int .u32 0), (.bool false), (.slice none 0 0)]) 1 [(0, 17, (.tmp 25))], none, [0]⟩, ⟨some 27, .app 44 17 144 (.agg #[(.int .u8 0), (.int .u8 0), (.int .u32 0), (.int .u8 0), (.int .i64 0), (.int .i64 0), (.int .i64 0), (.string ⟨#[]⟩), (.int .u8 0), (.int .u32 0), (.int .u8 0), (.slice none 0 0), (.int .i64 0), (.int .u8 0), (.int .u32 0), (.bool false), (.slice none 0 0)]) (.tmp 24) (.tmp 26), none, []⟩, ⟨none, .store 1 (.tmp 8) (.tmp 27), none, []⟩] false))
def cYT : ACode := (.seq (.region [⟨some 28, .load 1 false (.tmp 8), none, []⟩, ⟨some 4, .mov (.tmp 28), none, []⟩, ⟨some 5, .mov (.const (.int .i64 0)), none, []⟩] false) .ret)
set_option maxHeartbeats 8000000 in
/-- What comes of an event that is handed on: it stands behind the others. -/
theorem yield_run {id df : Nat} {tm r : List AV} {o : AV} {out : List Ev} {e : Ev} (wf : Wf M) (hg : M.get id = some (.loop .ready none tm [23] cY1 cY2 df)) (h8 : nth undefA tm 8 = .ptr 1 0) (hlen : tm.length = 29) (h1 : M.get 1 = some (.row false [o])) (hid : id ≠ 1) (hm : SlM M 17 isEv o out) (ho1 : rowOf o ≠ some 1) (hoi : rowOf o ≠ some id) (hr : isEv r e) (hn : out.length ≤ 100000)
    (k : ∀ o' N, Wf N → M.size ≤ N.size → N.get 1 = some (.row false [o']) → SlM N 17 isEv o' (out ++ [e]) → N.get id = some (.loop .ready none tm [23] cY1 cY2 df) → (∀ j, j < M.size → j ≠ 1 → j ≠ id → rowOf o ≠ some j → N.get j = M.get j) → (∀ j, rowOf o' = some j → rowOf o = some j ∨ M.size ≤ j) → Q (BL true) N) :
    W3 (callN Tryd.prog (fsT tbl) fuel (d + 1) (.yl id) [.agg r] M) Q := by
  obtain ⟨da, ca, rfl, d1, c1⟩ := hr
  have l1 := Mem.get_lt h1
  have li := Mem.get_lt hg
  have od := d1.one
  have oc := c1.one
  have cd := d1.cells
  have cc := c1.cells
  have oo := hm.one
  have oco := hm.cells
  have rlo := rows_lt hm.rl (show M.size ≤ M.size + 1 + 1 by omega)
  refine call_yl hg rfl ?_
  have e1 : setAll tm [23] [.agg (evRow e da ca)] = St tm [(23, .agg (evRow e da ca))] := rfl
  rw [e1]
  unfold cY1 cY2 evRow at *
  have zid : id ≠ M.size := by omega
  simp (maxSteps := 2000000) (disch := first | omega | assumption | (simp only [DS, Nat.reduceAdd, *]; done) | (simp only [DZ]; omega)) only [RUN, RU, footA, feetIn, resultsA, tupOf, frzL, slot, lay, icyL, fillA, repCells, kR, reduceIte, Nat.reduceEqDiff, Nat.reduceBEq, Nat.reduceLT, Nat.reduceAdd, Nat.reduceLeDiff, Nat.reduceSub, Nat.reduceMul, Int.reduceLT, Int.reduceLE, Int.reduceEq, Int.reduceAdd, Int.reduceSub, Int.reduceMul, h8, od, oc, cd, cc]
  refine ⟨wf, tm, [23], _, _, df, hg, ?_⟩
  simp (maxSteps := 2000000) (disch := first | omega | assumption | (simp only [DS, Nat.reduceAdd, *]; done) | (simp only [DZ]; omega)) only [RUN, RU, footA, feetIn, resultsA, tupOf, frzL, slot, lay, icyL, fillA, repCells, kR, reduceIte, Nat.reduceEqDiff, Nat.reduceBEq, Nat.reduceLT, Nat.reduceAdd, Nat.reduceLeDiff, Nat.reduceSub, Nat.reduceMul, Int.reduceLT, Int.reduceLE, Int.reduceEq, Int.reduceAdd, Int.reduceSub, Int.reduceMul, h8, od, oc, cd, cc, h1, oo, oco, rlo]
  have s1 : 1 < M.size + 1 := by omega
  refine w3_appc (by simp (maxSteps := 2000000) (disch := first | omega | assumption | (simp only [DS, Nat.reduceAdd, *]; done) | (simp only [DZ]; omega)) only [RUN, RU, footA, feetIn, resultsA, tupOf, frzL, slot, lay, icyL, fillA, repCells, kR, reduceIte, Nat.reduceEqDiff, Nat.reduceBEq, Nat.reduceLT, Nat.reduceAdd, Nat.reduceLeDiff, Nat.reduceSub, Nat.reduceMul, Int.reduceLT, Int.reduceLE, Int.reduceEq, Int.reduceAdd, Int.reduceSub, Int.reduceMul, wf]) (hm.keep fun j hj => ?kp) cel_Ev (l' := [e]) (new := [evRow e da ca]) (cells_lit (cs := evRow e da ca) (n := 1) (st := 17) (get_add_new ?wfx _ _ (Nat.le_refl _) (Nat.lt_succ_self _)) rfl) rfl (.cons ⟨da, ca, rfl, d1, c1⟩ .nil) (by simp [evRow]) (by omega) (by simp; omega) (by simp; omega) fun o4 M4 m4 wf4 le4 sz4 kp4 nw4 wm4 rl4 on4 oc4 => ?_
  case wfx => simp (maxSteps := 2000000) (disch := first | omega | assumption | (simp only [DS, Nat.reduceAdd, *]; done) | (simp only [DZ]; omega)) only [RUN, RU, footA, feetIn, resultsA, tupOf, frzL, slot, lay, icyL, fillA, repCells, kR, reduceIte, Nat.reduceEqDiff, Nat.reduceBEq, Nat.reduceLT, Nat.reduceAdd, Nat.reduceLeDiff, Nat.reduceSub, Nat.reduceMul, Int.reduceLT, Int.reduceLE, Int.reduceEq, Int.reduceAdd, Int.reduceSub, Int.reduceMul, wf]
  case kp =>
    have := hm.lt j hj
    have : id ≠ j := fun e => hoi (by rw [e]; exact hj)
    simp (maxSteps := 2000000) (disch := first | omega | assumption | (simp only [DS, Nat.reduceAdd, *]; done) | (simp only [DZ]; omega)) only [RUN, RU, footA, feetIn, resultsA, tupOf, frzL, slot, lay, icyL, fillA, repCells, kR, reduceIte, Nat.reduceEqDiff, Nat.reduceBEq, Nat.reduceLT, Nat.reduceAdd, Nat.reduceLeDiff, Nat.reduceSub, Nat.reduceMul, Int.reduceLT, Int.reduceLE, Int.reduceEq, Int.reduceAdd, Int.reduceSub, Int.reduceMul]
  simp only [add_size, upd_size] at le4 sz4
  have g1 := kp4 1 (by simp only [add_size, upd_size]; omega) ho1
  have gi := kp4 id (by simp only [add_size, upd_size]; omega) hoi
  have kk : ∀ j, j < M.size → j ≠ 1 → j ≠ id → rowOf o ≠ some j → M4.get j = M.get j := fun j a1 a2 a3 a4 => by
    rw [kp4 j (by simp only [add_size, upd_size]; omega) a4]
    simp (maxSteps := 2000000) (disch := first | omega | assumption | (simp only [DS, Nat.reduceAdd, *]; done) | (simp only [DZ]; omega)) only [RUN, RU, footA, feetIn, resultsA, tupOf, frzL, slot, lay, icyL, fillA, repCells, kR, reduceIte, Nat.reduceEqDiff, Nat.reduceBEq, Nat.reduceLT, Nat.reduceAdd, Nat.reduceLeDiff, Nat.reduceSub, Nat.reduceMul, Int.reduceLT, Int.reduceLE, Int.reduceEq, Int.reduceAdd, Int.reduceSub, Int.reduceMul]
  simp (maxSteps := 2000000) (disch := first | omega | assumption | (simp only [DS, Nat.reduceAdd, *]; done) | (simp only [DZ]; omega)) only [RUN, RU, footA, feetIn, resultsA, tupOf, frzL, slot, lay, icyL, fillA, repCells, kR, reduceIte, Nat.reduceEqDiff, Nat.reduceBEq, Nat.reduceLT, Nat.reduceAdd, Nat.reduceLeDiff, Nat.reduceSub, Nat.reduceMul, Int.reduceLT, Int.reduceLE, Int.reduceEq, Int.reduceAdd, Int.reduceSub, Int.reduceMul, h1] at g1 gi
  clear kp4
  have s4 : 1 < M4.size := by omega
  have si : id < M4.size := by omega
  have hid' : (1 : Nat) ≠ id := fun e => hid e.symm
  simp (maxSteps := 2000000) (disch := first | omega | assumption | (simp only [DS, Nat.reduceAdd, *]; done) | (simp only [DZ]; omega)) only [RUN, RU, footA, feetIn, resultsA, tupOf, frzL, slot, lay, icyL, fillA, repCells, kR, reduceIte, Nat.reduceEqDiff, Nat.reduceBEq, Nat.reduceLT, Nat.reduceAdd, Nat.reduceLeDiff, Nat.reduceSub, Nat.reduceMul, Int.reduceLT, Int.reduceLE, Int.reduceEq, Int.reduceAdd, Int.reduceSub, Int.reduceMul, h8, g1, gi, on4, oc4, rl4, wf4]
  refine ⟨_, _, _, _, _, _, _, rfl, ?_⟩
  have nr4 : ∀ j, rowOf o4 = some j → rowOf o = some j ∨ M.size ≤ j := fun j hj => (nw4 j hj).imp (fun h => h) (fun h => by simp only [add_size, upd_size] at h; omega)
  have n1 : rowOf o4 ≠ some 1 := fun h => (nr4 1 h).elim (fun h => ho1 h) (fun h => by omega)
  have ni : rowOf o4 ≠ some id := fun h => (nr4 id h).elim (fun h => hoi h) (fun h => by omega)
  refine k o4 _ ((wf4.upd _ _).upd _ _) (by rw [upd_size, upd_size]; omega) (by simp (maxSteps := 2000000) (disch := first | omega | assumption | (simp only [DS, Nat.reduceAdd, *]; done) | (simp only [DZ]; omega)) only [RUN, RU, footA, feetIn, resultsA, tupOf, frzL, slot, lay, icyL, fillA, repCells, kR, reduceIte, Nat.reduceEqDiff, Nat.reduceBEq, Nat.reduceLT, Nat.reduceAdd, Nat.reduceLeDiff, Nat.reduceSub, Nat.reduceMul, Int.reduceLT, Int.reduceLE, Int.reduceEq, Int.reduceAdd, Int.reduceSub, Int.reduceMul, wf4]) (m4.keep fun j hj => ?_) (by simp (maxSteps := 2000000) (disch := first | omega | assumption | (simp only [DS, Nat.reduceAdd, *]; done) | (simp only [DZ]; omega)) only [RUN, RU, footA, feetIn, resultsA, tupOf, frzL, slot, lay, icyL, fillA, repCells, kR, reduceIte, Nat.reduceEqDiff, Nat.reduceBEq, Nat.reduceLT, Nat.reduceAdd, Nat.reduceLeDiff, Nat.reduceSub, Nat.reduceMul, Int.reduceLT, Int.reduceLE, Int.reduceEq, Int.reduceAdd, Int.reduceSub, Int.reduceMul, wf4]) (fun j a1 a2 a3 a4 => ?_) nr4
  · have b1 : (1 : Nat) ≠ j := fun e => n1 (by rw [e]; exact hj)
    have b2 : id ≠ j := fun e => ni (by rw [e]; exact hj)
    simp (maxSteps := 2000000) (disch := first | omega | assumption | (simp only [DS, Nat.reduceAdd, *]; done) | (simp only [DZ]; omega)) only [RUN, RU, footA, feetIn, resultsA, tupOf, frzL, slot, lay, icyL, fillA, repCells, kR, reduceIte, Nat.reduceEqDiff, Nat.reduceBEq, Nat.reduceLT, Nat.reduceAdd, Nat.reduceLeDiff, Nat.reduceSub, Nat.reduceMul, Int.reduceLT, Int.reduceLE, Int.reduceEq, Int.reduceAdd, Int.reduceSub, Int.reduceMul, wf4]
  · have b1 : (1 : Nat) ≠ j := fun e => a2 e.symm
    have b2 : id ≠ j := fun e => a3 e.symm
    have := kk j a1 a2 a3 a4
    simp (maxSteps := 2000000) (disch := first | omega | assumption | (simp only [DS, Nat.reduceAdd, *]; done) | (simp only [DZ]; omega)) only [RUN, RU, footA, feetIn, resultsA, tupOf, frzL, slot, lay, icyL, fillA, repCells, kR, reduceIte, Nat.reduceEqDiff, Nat.reduceBEq, Nat.reduceLT, Nat.reduceAdd, Nat.reduceLeDiff, Nat.reduceSub, Nat.reduceMul, Int.reduceLT, Int.reduceLE, Int.reduceEq, Int.reduceAdd, Int.reduceSub, Int.reduceMul, wf4, this]
theorem take_snoc {α : Type} (l : List α) (i : Nat) (h : i < l.length) : l.take (i + 1) = l.take i ++ [l[i]] := by
  rw [List.take_add_one, List.getElem?_eq_getElem h]; rfl
theorem leftF_snoc (v : Lb) (l : List Ev) (e : Ev) : leftF v (l ++ [e]) = leftF v l ++ (match e.left v with | some x => [x] | none => []) := by
  unfold leftF
  rw [List.filterMap_append]
  cases h : e.left v <;> simp [List.filterMap_cons, h]
theorem leftF_len (v : Lb) (l : List Ev) : (leftF v l).length ≤ l.length := List.length_filterMap_le _ _
set_option maxHeartbeats 16000000 in
theorem left1_run {a : AV} {v : Lb} {l : List Ev} {id df : Nat} {tm : List AV} (hS : Sl 17 isEv a l) (hl : l.length ≤ 100000) (hd : ∀ e ∈ l, e.data.length ≤ 100000 ∧ e.crash.length ≤ 100000) (hf : l.length + 100 < fuel) (wf : Wf M) (hg : M.get id = some (.loop .ready none tm [23] cY1 cY2 df)) (h8 : nth undefA tm 8 = .ptr 1 0) (hlen : tm.length = 29) (h1 : M.get 1 = some (.row false [NIL])) (h2 : M.get 2 = some (.row false [a])) (h3 : M.get 3 = some (.row false [U8 v.lv, U32 v.cats])) (i1 : id ≠ 1) (i2 : id ≠ 2) (i3 : id ≠ 3)
    (k : ∀ u o N, Wf N → M.size ≤ N.size → N.get 1 = some (.row false [o]) → SlM N 17 isEv o (leftF v l) → (∀ j, rowOf o = some j → M.size ≤ j) → N.get id = some (.loop .ready none tm [23] cY1 cY2 df) → (∀ j, j < M.size → j ≠ 1 → j ≠ id → N.get j = M.get j) → Q u N) :
    W3 (callN Tryd.prog (fsT tbl) fuel (d + 5) (.fn 38) [.yl id, .ptr 2 0, .ptr 3 0] M) Q := by
  have ll := hS.len
  have lr := hS.rows mem0
  have l1 := Mem.get_lt h1
  have l2 := Mem.get_lt h2
  have l3 := Mem.get_lt h3
  have li := Mem.get_lt hg
  refine call_0 tf38 rfl (by simp [a38]) fun b ht hx => ?_
  have x0 := hx 0 _ rfl
  have x1 := hx 1 _ rfl
  have x2 := hx 2 _ rfl
  clear hx
  simp only [a38, c38] at ht ⊢
  simp (maxSteps := 2000000) (disch := first | omega | assumption | (simp only [DS, Nat.reduceAdd, *]; done) | (simp only [DZ]; omega)) only [RUN, RU, footA, feetIn, resultsA, tupOf, frzL, slot, lay, icyL, fillA, repCells, kR, reduceIte, Nat.reduceEqDiff, Nat.reduceBEq, Nat.reduceLT, Nat.reduceAdd, Nat.reduceLeDiff, Nat.reduceSub, Nat.reduceMul, Int.reduceLT, Int.reduceLE, Int.reduceEq, Int.reduceAdd, Int.reduceSub, Int.reduceMul, x0, x1, x2, h2, ll, lr]
  refine w_loop (I := fun n t M' => ∃ (i : Nat) (o : AV), n = l.length - i ∧ i ≤ l.length ∧ nth undefA t 8 = I64 i ∧ nth undefA t 7 = I64 l.length ∧ nth undefA t 6 = a ∧ nth undefA t 0 = .yl id ∧ nth undefA t 1 = .ptr 2 0 ∧ nth undefA t 2 = .ptr 3 0 ∧ Wf M' ∧ M.size ≤ M'.size ∧ M'.get 1 = some (.row false [o]) ∧ SlM M' 17 isEv o (leftF v (l.take i)) ∧ (∀ j, rowOf o = some j → M.size ≤ j) ∧ M'.get id = some (.loop .ready none tm [23] cY1 cY2 df) ∧ (∀ j, j < M.size → j ≠ 1 → j ≠ id → M'.get j = M.get j)) (n := l.length) (by omega) ?_ ?_
  · refine ⟨0, NIL, rfl, by omega, ?_, ?_, ?_, ?_, ?_, ?_, wf, Nat.le_refl _, h1, SlM.nil, (fun j h => by cases h), hg, fun j _ _ _ => rfl⟩ <;> simp (maxSteps := 2000000) (disch := first | omega | assumption | (simp only [DS, Nat.reduceAdd, *]; done) | (simp only [DZ]; omega)) only [RUN, RU, footA, feetIn, resultsA, tupOf, frzL, slot, lay, icyL, fillA, repCells, kR, reduceIte, Nat.reduceEqDiff, Nat.reduceBEq, Nat.reduceLT, Nat.reduceAdd, Nat.reduceLeDiff, Nat.reduceSub, Nat.reduceMul, Int.reduceLT, Int.reduceLE, Int.reduceEq, Int.reduceAdd, Int.reduceSub, Int.reduceMul, x0, x1, x2, h2, ll, lr]
    all_goals first | rfl | assumption
  · rintro n t M' hlt ⟨i, o, rfl, hi, g8, g7, g6, g0, g1, g2, wf', ls, m1, hm, hno, mi, hk⟩
    simp only [ht] at hlt ⊢
    by_cases hc : i < l.length
    · have q1 : decide ((i : Int) < l.length) = true := decide_eq_true (by omega)
      obtain ⟨r, hiad, hr, hrl⟩ := hS.iad i hc
      obtain ⟨he1, he2⟩ := hd l[i] (List.getElem_mem hc)
      have m3 : M'.get 3 = some (.row false [U8 v.lv, U32 v.cats]) := (hk 3 l3 (by omega) (fun e => i3 e.symm)).trans h3
      have z1 : 1 < M'.size := by omega
      have z3 : 3 < M'.size := by omega
      have zi : id < M'.size := by omega
      have zi' : id ≠ M'.size := by omega
      have w1 : IntKind.i64.wrap ((i : Int) + 1) = ((i + 1 : Nat) : Int) := by rw [wrap_i64] <;> omega
      have hsn := leftF_snoc v (l.take i) l[i]
      rw [← take_snoc l i hc] at hsn
      have hll := leftF_len v (l.take i)
      rw [List.length_take] at hll
      generalize l[i] = e at *
      obtain ⟨r', hr', htw⟩ := twin_run (fuel := fuel) (d := d + 2) hr he1 he2
      obtain ⟨da, ca, rfl, d1, c1⟩ := hr
      have hits := fun M => @its_run fuel (d + 3) e da ca d1 c1 M
      have hle := fun M => @leq_run fuel (d + 3) e.lb v M
      have lca := c1.len
      have od := d1.one
      have oc := c1.one
      have cd := d1.cells
      have cc := c1.cells
      have rd := d1.rows mem0
      have rc := c1.rows mem0
      have fin : ∀ (o' : AV) (N : Mem) (out : List Ev), leftF v (l.take (i + 1)) = out → Wf N → M'.size ≤ N.size → N.get 1 = some (.row false [o']) → SlM N 17 isEv o' out → N.get id = some (.loop .ready none tm [23] cY1 cY2 df) → (∀ j, j < M'.size → j ≠ 1 → j ≠ id → rowOf o ≠ some j → N.get j = M'.get j) → (∀ j, rowOf o' = some j → rowOf o = some j ∨ M'.size ≤ j) →
          Wf N ∧ M.size ≤ N.size ∧ N.get 1 = some (.row false [o']) ∧ SlM N 17 isEv o' (leftF v (l.take (i + 1))) ∧ (∀ j, rowOf o' = some j → M.size ≤ j) ∧ N.get id = some (.loop .ready none tm [23] cY1 cY2 df) ∧ (∀ j, j < M.size → j ≠ 1 → j ≠ id → N.get j = M.get j) := by
        intro o' N out ho a1 a2 a3 a4 a5 a6 a7
        refine ⟨a1, by omega, a3, by rw [ho]; exact a4, fun j hj => ?_, a5, fun j b1 b2 b3 => ?_⟩
        · rcases a7 j hj with h | h
          · exact hno j h
          · omega
        · rw [a6 j (by omega) b2 b3 (fun h => by have := hno j h; omega)]
          exact hk j b1 b2 b3
      unfold evRow at *
      by_cases hcond : (itsK e.kind.toNat && !e.lb.leq v) = true
      · simp only [Bool.and_eq_true, Bool.not_eq_true'] at hcond
        obtain ⟨c1', c2'⟩ := hcond
        rw [c1'] at hits
        rw [c2'] at hle
        by_cases hz : e.crash.length = 0
        · have q2 : decide ((e.crash.length : Int) = 0) = true := decide_eq_true (by omega)
          have hel : e.left v = none := by unfold Ev.left; rw [c1', c2']; simp [hz]
          rw [hel] at hsn
          have hsn' : leftF v (l.take (i + 1)) = leftF v (l.take i) := by rw [hsn]; exact List.append_nil _
          simp (maxSteps := 2000000) (disch := first | omega | assumption | (simp only [DS, Nat.reduceAdd, *]; done) | (simp only [DZ]; omega)) only [RUN, RU, footA, feetIn, resultsA, tupOf, frzL, slot, lay, icyL, fillA, repCells, kR, reduceIte, Nat.reduceEqDiff, Nat.reduceBEq, Nat.reduceLT, Nat.reduceAdd, Nat.reduceLeDiff, Nat.reduceSub, Nat.reduceMul, Int.reduceLT, Int.reduceLE, Int.reduceEq, Int.reduceAdd, Int.reduceSub, Int.reduceMul, g8, g7, g6, g0, g1, g2, q1, hiad, od, oc, cd, cc, rd, rc, hits, m3, lca, lr, w1, hle, q2]
          refine ⟨hlt, l.length - (i + 1), by omega, i + 1, o, rfl, by omega, rfl, wf', by omega, m1, ?_, hno, mi, ?_⟩
          · rw [hsn']
            exact hm.keep fun j hj => by
              have := hm.lt j hj
              simp (maxSteps := 2000000) (disch := first | omega | assumption | (simp only [DS, Nat.reduceAdd, *]; done) | (simp only [DZ]; omega)) only [RUN, RU, footA, feetIn, resultsA, tupOf, frzL, slot, lay, icyL, fillA, repCells, kR, reduceIte, Nat.reduceEqDiff, Nat.reduceBEq, Nat.reduceLT, Nat.reduceAdd, Nat.reduceLeDiff, Nat.reduceSub, Nat.reduceMul, Int.reduceLT, Int.reduceLE, Int.reduceEq, Int.reduceAdd, Int.reduceSub, Int.reduceMul, wf']
          · intro j b1 b2 b3
            have := hk j b1 b2 b3
            simp (maxSteps := 2000000) (disch := first | omega | assumption | (simp only [DS, Nat.reduceAdd, *]; done) | (simp only [DZ]; omega)) only [RUN, RU, footA, feetIn, resultsA, tupOf, frzL, slot, lay, icyL, fillA, repCells, kR, reduceIte, Nat.reduceEqDiff, Nat.reduceBEq, Nat.reduceLT, Nat.reduceAdd, Nat.reduceLeDiff, Nat.reduceSub, Nat.reduceMul, Int.reduceLT, Int.reduceLE, Int.reduceEq, Int.reduceAdd, Int.reduceSub, Int.reduceMul, wf', this]
        · have q2 : decide ((e.crash.length : Int) = 0) = false := decide_eq_false (by omega)
          have hel : e.left v = some { zeroEv with kind := 20, crash := e.crash } := by unfold Ev.left; rw [c1', c2']; simp [hz]
          have hr2 : isEv [U8 20, U8 0, U32 0, U8 0, I64 0, I64 0, I64 0, .sc (.string ⟨#[]⟩), U8 0, U32 0, U8 0, NIL, I64 0, U8 0, U32 0, BL false, ca] { zeroEv with kind := 20, crash := e.crash } := ⟨NIL, ca, rfl, .inl ⟨rfl, rfl⟩, c1⟩
          clear htw hr'
          obtain ⟨r', hr', htw⟩ := twin_run (fuel := fuel) (d := d + 2) hr2 (Nat.zero_le _) he2
          have hsn' : leftF v (l.take (i + 1)) = leftF v (l.take i) ++ [{ zeroEv with kind := 20, crash := e.crash }] := by rw [hsn, hel]
          have ho1 : rowOf o ≠ some 1 := fun h => by have := hno 1 h; omega
          have hoi : rowOf o ≠ some id := fun h => by have := hno id h; omega
          simp (maxSteps := 2000000) (disch := first | omega | assumption | (simp only [DS, Nat.reduceAdd, *]; done) | (simp only [DZ]; omega)) only [RUN, RU, footA, feetIn, resultsA, tupOf, frzL, slot, lay, icyL, fillA, repCells, kR, reduceIte, Nat.reduceEqDiff, Nat.reduceBEq, Nat.reduceLT, Nat.reduceAdd, Nat.reduceLeDiff, Nat.reduceSub, Nat.reduceMul, Int.reduceLT, Int.reduceLE, Int.reduceEq, Int.reduceAdd, Int.reduceSub, Int.reduceMul, g8, g7, g6, g0, g1, g2, q1, hiad, od, oc, cd, cc, rd, rc, hits, m3, lca, lr, w1, hle, q2, htw]
          refine yield_run (df := df) (e := { zeroEv with kind := 20, crash := e.crash }) (out := leftF v (l.take i)) (by simp (maxSteps := 2000000) (disch := first | omega | assumption | (simp only [DS, Nat.reduceAdd, *]; done) | (simp only [DZ]; omega)) only [RUN, RU, footA, feetIn, resultsA, tupOf, frzL, slot, lay, icyL, fillA, repCells, kR, reduceIte, Nat.reduceEqDiff, Nat.reduceBEq, Nat.reduceLT, Nat.reduceAdd, Nat.reduceLeDiff, Nat.reduceSub, Nat.reduceMul, Int.reduceLT, Int.reduceLE, Int.reduceEq, Int.reduceAdd, Int.reduceSub, Int.reduceMul, wf']) (by simp (maxSteps := 2000000) (disch := first | omega | assumption | (simp only [DS, Nat.reduceAdd, *]; done) | (simp only [DZ]; omega)) only [RUN, RU, footA, feetIn, resultsA, tupOf, frzL, slot, lay, icyL, fillA, repCells, kR, reduceIte, Nat.reduceEqDiff, Nat.reduceBEq, Nat.reduceLT, Nat.reduceAdd, Nat.reduceLeDiff, Nat.reduceSub, Nat.reduceMul, Int.reduceLT, Int.reduceLE, Int.reduceEq, Int.reduceAdd, Int.reduceSub, Int.reduceMul, mi]) h8 hlen (by simp (maxSteps := 2000000) (disch := first | omega | assumption | (simp only [DS, Nat.reduceAdd, *]; done) | (simp only [DZ]; omega)) only [RUN, RU, footA, feetIn, resultsA, tupOf, frzL, slot, lay, icyL, fillA, repCells, kR, reduceIte, Nat.reduceEqDiff, Nat.reduceBEq, Nat.reduceLT, Nat.reduceAdd, Nat.reduceLeDiff, Nat.reduceSub, Nat.reduceMul, Int.reduceLT, Int.reduceLE, Int.reduceEq, Int.reduceAdd, Int.reduceSub, Int.reduceMul, m1]) i1 (hm.keep fun j hj => ?kp1) ho1 hoi hr' (by omega) (fun o' N wN lN n1 nm ni nk nn => ?main1)
          case kp1 =>
            have := hm.lt j hj
            simp (maxSteps := 2000000) (disch := first | omega | assumption | (simp only [DS, Nat.reduceAdd, *]; done) | (simp only [DZ]; omega)) only [RUN, RU, footA, feetIn, resultsA, tupOf, frzL, slot, lay, icyL, fillA, repCells, kR, reduceIte, Nat.reduceEqDiff, Nat.reduceBEq, Nat.reduceLT, Nat.reduceAdd, Nat.reduceLeDiff, Nat.reduceSub, Nat.reduceMul, Int.reduceLT, Int.reduceLE, Int.reduceEq, Int.reduceAdd, Int.reduceSub, Int.reduceMul, wf']
          case main1 =>
            simp only [add_size, upd_size] at lN nn nk
            obtain ⟨f1, f2, f3, f4, f5, f6, f7⟩ := fin o' N _ hsn' wN (by omega) n1 nm ni (fun j a1 a2 a3 a4 => by
              rw [nk j (by omega) a2 a3 a4]
              simp (maxSteps := 2000000) (disch := first | omega | assumption | (simp only [DS, Nat.reduceAdd, *]; done) | (simp only [DZ]; omega)) only [RUN, RU, footA, feetIn, resultsA, tupOf, frzL, slot, lay, icyL, fillA, repCells, kR, reduceIte, Nat.reduceEqDiff, Nat.reduceBEq, Nat.reduceLT, Nat.reduceAdd, Nat.reduceLeDiff, Nat.reduceSub, Nat.reduceMul, Int.reduceLT, Int.reduceLE, Int.reduceEq, Int.reduceAdd, Int.reduceSub, Int.reduceMul, wf']) (fun j hj => (nn j hj).imp (fun h => h) (fun h => by omega))
            simp (maxSteps := 2000000) (disch := first | omega | assumption | (simp only [DS, Nat.reduceAdd, *]; done) | (simp only [DZ]; omega)) only [RUN, RU, footA, feetIn, resultsA, tupOf, frzL, slot, lay, icyL, fillA, repCells, kR, reduceIte, Nat.reduceEqDiff, Nat.reduceBEq, Nat.reduceLT, Nat.reduceAdd, Nat.reduceLeDiff, Nat.reduceSub, Nat.reduceMul, Int.reduceLT, Int.reduceLE, Int.reduceEq, Int.reduceAdd, Int.reduceSub, Int.reduceMul, g8, g7, g6, g0, g1, g2, q1, hiad, od, oc, cd, cc, rd, rc, hits, m3, lca, lr, w1, hle, q2, htw]
            exact ⟨hlt, l.length - (i + 1), by omega, i + 1, o', rfl, by omega, rfl, f1, f2, f3, f4, f5, f6, f7⟩
      · have hel : e.left v = some e := by unfold Ev.left; rw [if_neg hcond]
        cases c1' : itsK e.kind.toNat with
        | false =>
          rw [c1'] at hits
          have hsn' : leftF v (l.take (i + 1)) = leftF v (l.take i) ++ [e] := by rw [hsn, hel]
          have ho1 : rowOf o ≠ some 1 := fun h => by have := hno 1 h; omega
          have hoi : rowOf o ≠ some id := fun h => by have := hno id h; omega
          simp (maxSteps := 2000000) (disch := first | omega | assumption | (simp only [DS, Nat.reduceAdd, *]; done) | (simp only [DZ]; omega)) only [RUN, RU, footA, feetIn, resultsA, tupOf, frzL, slot, lay, icyL, fillA, repCells, kR, reduceIte, Nat.reduceEqDiff, Nat.reduceBEq, Nat.reduceLT, Nat.reduceAdd, Nat.reduceLeDiff, Nat.reduceSub, Nat.reduceMul, Int.reduceLT, Int.reduceLE, Int.reduceEq, Int.reduceAdd, Int.reduceSub, Int.reduceMul, g8, g7, g6, g0, g1, g2, q1, hiad, od, oc, cd, cc, rd, rc, hits, m3, lca, lr, w1, htw]
          refine yield_run (df := df) (e := e) (out := leftF v (l.take i)) (by simp (maxSteps := 2000000) (disch := first | omega | assumption | (simp only [DS, Nat.reduceAdd, *]; done) | (simp only [DZ]; omega)) only [RUN, RU, footA, feetIn, resultsA, tupOf, frzL, slot, lay, icyL, fillA, repCells, kR, reduceIte, Nat.reduceEqDiff, Nat.reduceBEq, Nat.reduceLT, Nat.reduceAdd, Nat.reduceLeDiff, Nat.reduceSub, Nat.reduceMul, Int.reduceLT, Int.reduceLE, Int.reduceEq, Int.reduceAdd, Int.reduceSub, Int.reduceMul, wf']) (by simp (maxSteps := 2000000) (disch := first | omega | assumption | (simp only [DS, Nat.reduceAdd, *]; done) | (simp only [DZ]; omega)) only [RUN, RU, footA, feetIn, resultsA, tupOf, frzL, slot, lay, icyL, fillA, repCells, kR, reduceIte, Nat.reduceEqDiff, Nat.reduceBEq, Nat.reduceLT, Nat.reduceAdd, Nat.reduceLeDiff, Nat.reduceSub, Nat.reduceMul, Int.reduceLT, Int.reduceLE, Int.reduceEq, Int.reduceAdd, Int.reduceSub, Int.reduceMul, mi]) h8 hlen (by simp (maxSteps := 2000000) (disch := first | omega | assumption | (simp only [DS, Nat.reduceAdd, *]; done) | (simp only [DZ]; omega)) only [RUN, RU, footA, feetIn, resultsA, tupOf, frzL, slot, lay, icyL, fillA, repCells, kR, reduceIte, Nat.reduceEqDiff, Nat.reduceBEq, Nat.reduceLT, Nat.reduceAdd, Nat.reduceLeDiff, Nat.reduceSub, Nat.reduceMul, Int.reduceLT, Int.reduceLE, Int.reduceEq, Int.reduceAdd, Int.reduceSub, Int.reduceMul, m1]) i1 (hm.keep fun j hj => ?kp2) ho1 hoi hr' (by omega) (fun o' N wN lN n1 nm ni nk nn => ?main2)
          case kp2 =>
            have := hm.lt j hj
            simp (maxSteps := 2000000) (disch := first | omega | assumption | (simp only [DS, Nat.reduceAdd, *]; done) | (simp only [DZ]; omega)) only [RUN, RU, footA, feetIn, resultsA, tupOf, frzL, slot, lay, icyL, fillA, repCells, kR, reduceIte, Nat.reduceEqDiff, Nat.reduceBEq, Nat.reduceLT, Nat.reduceAdd, Nat.reduceLeDiff, Nat.reduceSub, Nat.reduceMul, Int.reduceLT, Int.reduceLE, Int.reduceEq, Int.reduceAdd, Int.reduceSub, Int.reduceMul, wf']
          case main2 =>
            simp only [add_size, upd_size] at lN nn nk
            obtain ⟨f1, f2, f3, f4, f5, f6, f7⟩ := fin o' N _ hsn' wN (by omega) n1 nm ni (fun j a1 a2 a3 a4 => by
              rw [nk j (by omega) a2 a3 a4]
              simp (maxSteps := 2000000) (disch := first | omega | assumption | (simp only [DS, Nat.reduceAdd, *]; done) | (simp only [DZ]; omega)) only [RUN, RU, footA, feetIn, resultsA, tupOf, frzL, slot, lay, icyL, fillA, repCells, kR, reduceIte, Nat.reduceEqDiff, Nat.reduceBEq, Nat.reduceLT, Nat.reduceAdd, Nat.reduceLeDiff, Nat.reduceSub, Nat.reduceMul, Int.reduceLT, Int.reduceLE, Int.reduceEq, Int.reduceAdd, Int.reduceSub, Int.reduceMul, wf']) (fun j hj => (nn j hj).imp (fun h => h) (fun h => by omega))
            simp (maxSteps := 2000000) (disch := first | omega | assumption | (simp only [DS, Nat.reduceAdd, *]; done) | (simp only [DZ]; omega)) only [RUN, RU, footA, feetIn, resultsA, tupOf, frzL, slot, lay, icyL, fillA, repCells, kR, reduceIte, Nat.reduceEqDiff, Nat.reduceBEq, Nat.reduceLT, Nat.reduceAdd, Nat.reduceLeDiff, Nat.reduceSub, Nat.reduceMul, Int.reduceLT, Int.reduceLE, Int.reduceEq, Int.reduceAdd, Int.reduceSub, Int.reduceMul, g8, g7, g6, g0, g1, g2, q1, hiad, od, oc, cd, cc, rd, rc, hits, m3, lca, lr, w1, htw]
            exact ⟨hlt, l.length - (i + 1), by omega, i + 1, o', rfl, by omega, rfl, f1, f2, f3, f4, f5, f6, f7⟩
        | true =>
          rw [c1'] at hits
          have c2' : e.lb.leq v = true := by
            rw [c1'] at hcond
            simpa using hcond
          rw [c2'] at hle
          have hsn' : leftF v (l.take (i + 1)) = leftF v (l.take i) ++ [e] := by rw [hsn, hel]
          have ho1 : rowOf o ≠ some 1 := fun h => by have := hno 1 h; omega
          have hoi : rowOf o ≠ some id := fun h => by have := hno id h; omega
          simp (maxSteps := 2000000) (disch := first | omega | assumption | (simp only [DS, Nat.reduceAdd, *]; done) | (simp only [DZ]; omega)) only [RUN, RU, footA, feetIn, resultsA, tupOf, frzL, slot, lay, icyL, fillA, repCells, kR, reduceIte, Nat.reduceEqDiff, Nat.reduceBEq, Nat.reduceLT, Nat.reduceAdd, Nat.reduceLeDiff, Nat.reduceSub, Nat.reduceMul, Int.reduceLT, Int.reduceLE, Int.reduceEq, Int.reduceAdd, Int.reduceSub, Int.reduceMul, g8, g7, g6, g0, g1, g2, q1, hiad, od, oc, cd, cc, rd, rc, hits, m3, lca, lr, w1, hle, htw]
          refine yield_run (df := df) (e := e) (out := leftF v (l.take i)) (by simp (maxSteps := 2000000) (disch := first | omega | assumption | (simp only [DS, Nat.reduceAdd, *]; done) | (simp only [DZ]; omega)) only [RUN, RU, footA, feetIn, resultsA, tupOf, frzL, slot, lay, icyL, fillA, repCells, kR, reduceIte, Nat.reduceEqDiff, Nat.reduceBEq, Nat.reduceLT, Nat.reduceAdd, Nat.reduceLeDiff, Nat.reduceSub, Nat.reduceMul, Int.reduceLT, Int.reduceLE, Int.reduceEq, Int.reduceAdd, Int.reduceSub, Int.reduceMul, wf']) (by simp (maxSteps := 2000000) (disch := first | omega | assumption | (simp only [DS, Nat.reduceAdd, *]; done) | (simp only [DZ]; omega)) only [RUN, RU, footA, feetIn, resultsA, tupOf, frzL, slot, lay, icyL, fillA, repCells, kR, reduceIte, Nat.reduceEqDiff, Nat.reduceBEq, Nat.reduceLT, Nat.reduceAdd, Nat.reduceLeDiff, Nat.reduceSub, Nat.reduceMul, Int.reduceLT, Int.reduceLE, Int.reduceEq, Int.reduceAdd, Int.reduceSub, Int.reduceMul, mi]) h8 hlen (by simp (maxSteps := 2000000) (disch := first | omega | assumption | (simp only [DS, Nat.reduceAdd, *]; done) | (simp only [DZ]; omega)) only [RUN, RU, footA, feetIn, resultsA, tupOf, frzL, slot, lay, icyL, fillA, repCells, kR, reduceIte, Nat.reduceEqDiff, Nat.reduceBEq, Nat.reduceLT, Nat.reduceAdd, Nat.reduceLeDiff, Nat.reduceSub, Nat.reduceMul, Int.reduceLT, Int.reduceLE, Int.reduceEq, Int.reduceAdd, Int.reduceSub, Int.reduceMul, m1]) i1 (hm.keep fun j hj => ?kp3) ho1 hoi hr' (by omega) (fun o' N wN lN n1 nm ni nk nn => ?main3)
          case kp3 =>
            have := hm.lt j hj
            simp (maxSteps := 2000000) (disch := first | omega | assumption | (simp only [DS, Nat.reduceAdd, *]; done) | (simp only [DZ]; omega)) only [RUN, RU, footA, feetIn, resultsA, tupOf, frzL, slot, lay, icyL, fillA, repCells, kR, reduceIte, Nat.reduceEqDiff, Nat.reduceBEq, Nat.reduceLT, Nat.reduceAdd, Nat.reduceLeDiff, Nat.reduceSub, Nat.reduceMul, Int.reduceLT, Int.reduceLE, Int.reduceEq, Int.reduceAdd, Int.reduceSub, Int.reduceMul, wf']
          case main3 =>
            simp only [add_size, upd_size] at lN nn nk
            obtain ⟨f1, f2, f3, f4, f5, f6, f7⟩ := fin o' N _ hsn' wN (by omega) n1 nm ni (fun j a1 a2 a3 a4 => by
              rw [nk j (by omega) a2 a3 a4]
              simp (maxSteps := 2000000) (disch := first | omega | assumption | (simp only [DS, Nat.reduceAdd, *]; done) | (simp only [DZ]; omega)) only [RUN, RU, footA, feetIn, resultsA, tupOf, frzL, slot, lay, icyL, fillA, repCells, kR, reduceIte, Nat.reduceEqDiff, Nat.reduceBEq, Nat.reduceLT, Nat.reduceAdd, Nat.reduceLeDiff, Nat.reduceSub, Nat.reduceMul, Int.reduceLT, Int.reduceLE, Int.reduceEq, Int.reduceAdd, Int.reduceSub, Int.reduceMul, wf']) (fun j hj => (nn j hj).imp (fun h => h) (fun h => by omega))
            simp (maxSteps := 2000000) (disch := first | omega | assumption | (simp only [DS, Nat.reduceAdd, *]; done) | (simp only [DZ]; omega)) only [RUN, RU, footA, feetIn, resultsA, tupOf, frzL, slot, lay, icyL, fillA, repCells, kR, reduceIte, Nat.reduceEqDiff, Nat.reduceBEq, Nat.reduceLT, Nat.reduceAdd, Nat.reduceLeDiff, Nat.reduceSub, Nat.reduceMul, Int.reduceLT, Int.reduceLE, Int.reduceEq, Int.reduceAdd, Int.reduceSub, Int.reduceMul, g8, g7, g6, g0, g1, g2, q1, hiad, od, oc, cd, cc, rd, rc, hits, m3, lca, lr, w1, hle, htw]
            exact ⟨hlt, l.length - (i + 1), by omega, i + 1, o', rfl, by omega, rfl, f1, f2, f3, f4, f5, f6, f7⟩
    · obtain rfl : i = l.length := by omega
      have q1 : decide ((l.length : Int) < l.length) = false := decide_eq_false (by omega)
      rw [List.take_length] at hm
      simp (maxSteps := 2000000) (disch := first | omega | assumption | (simp only [DS, Nat.reduceAdd, *]; done) | (simp only [DZ]; omega)) only [RUN, RU, footA, feetIn, resultsA, tupOf, frzL, slot, lay, icyL, fillA, repCells, kR, reduceIte, Nat.reduceEqDiff, Nat.reduceBEq, Nat.reduceLT, Nat.reduceAdd, Nat.reduceLeDiff, Nat.reduceSub, Nat.reduceMul, Int.reduceLT, Int.reduceLE, Int.reduceEq, Int.reduceAdd, Int.reduceSub, Int.reduceMul, g8, g7, g6, g0, g1, g2, q1]
      exact k _ o M' wf' ls m1 hm hno mi hk
set_option maxHeartbeats 8000000 in
theorem left1_go {a : AV} {v : Lb} {l : List Ev} {tm R0 : List AV} (hS : Sl 17 isEv a l) (hl : l.length ≤ 100000) (hd : ∀ e ∈ l, e.data.length ≤ 100000 ∧ e.crash.length ≤ 100000) (hf : l.length + 100 < fuel) (h8 : nth undefA tm 8 = .ptr 1 0) (hlen : tm.length = 29)
    (k : ∀ u o N, Wf N → 6 ≤ N.size → N.get 1 = some (.row false [o]) → SlM N 17 isEv o (leftF v l) → (∀ j, rowOf o = some j → 6 ≤ j) → N.get 4 = some (.dfr false) → N.get 5 = some (.loop .ready none tm [23] cY1 cY2 4) → Q u N) :
    W3 (callN Tryd.prog (fsT tbl) fuel (d + 5) (.fn 38) [.yl 5, .ptr 2 0, .ptr 3 0] ((((((mem0.add (.row false R0)).add (.row false [NIL])).add (.row false [a])).add (.row false [U8 v.lv, U32 v.cats])).add (.dfr false)).add (.loop .ready none tm [23] cY1 cY2 4))) Q := by
  have n4 : ((((((mem0.add (.row false R0)).add (.row false [NIL])).add (.row false [a])).add (.row false [U8 v.lv, U32 v.cats])).add (.dfr false)).add (.loop .ready none tm [23] cY1 cY2 4)).get 4 = some (.dfr false) := by simp (maxSteps := 2000000) (disch := first | omega | assumption | (simp only [DS, Nat.reduceAdd, *]; done) | (simp only [DZ]; omega)) only [RUN, RU, footA, feetIn, resultsA, tupOf, frzL, slot, lay, icyL, fillA, repCells, kR, reduceIte, Nat.reduceEqDiff, Nat.reduceBEq, Nat.reduceLT, Nat.reduceAdd, Nat.reduceLeDiff, Nat.reduceSub, Nat.reduceMul, Int.reduceLT, Int.reduceLE, Int.reduceEq, Int.reduceAdd, Int.reduceSub, Int.reduceMul]
  refine left1_run (d := d) (id := 5) (df := 4) (a := a) (v := v) hS hl hd hf (by simp (maxSteps := 2000000) (disch := first | omega | assumption | (simp only [DS, Nat.reduceAdd, *]; done) | (simp only [DZ]; omega)) only [RUN, RU, footA, feetIn, resultsA, tupOf, frzL, slot, lay, icyL, fillA, repCells, kR, reduceIte, Nat.reduceEqDiff, Nat.reduceBEq, Nat.reduceLT, Nat.reduceAdd, Nat.reduceLeDiff, Nat.reduceSub, Nat.reduceMul, Int.reduceLT, Int.reduceLE, Int.reduceEq, Int.reduceAdd, Int.reduceSub, Int.reduceMul]) (by simp (maxSteps := 2000000) (disch := first | omega | assumption | (simp only [DS, Nat.reduceAdd, *]; done) | (simp only [DZ]; omega)) only [RUN, RU, footA, feetIn, resultsA, tupOf, frzL, slot, lay, icyL, fillA, repCells, kR, reduceIte, Nat.reduceEqDiff, Nat.reduceBEq, Nat.reduceLT, Nat.reduceAdd, Nat.reduceLeDiff, Nat.reduceSub, Nat.reduceMul, Int.reduceLT, Int.reduceLE, Int.reduceEq, Int.reduceAdd, Int.reduceSub, Int.reduceMul]) h8 hlen (by simp (maxSteps := 2000000) (disch := first | omega | assumption | (simp only [DS, Nat.reduceAdd, *]; done) | (simp only [DZ]; omega)) only [RUN, RU, footA, feetIn, resultsA, tupOf, frzL, slot, lay, icyL, fillA, repCells, kR, reduceIte, Nat.reduceEqDiff, Nat.reduceBEq, Nat.reduceLT, Nat.reduceAdd, Nat.reduceLeDiff, Nat.reduceSub, Nat.reduceMul, Int.reduceLT, Int.reduceLE, Int.reduceEq, Int.reduceAdd, Int.reduceSub, Int.reduceMul]) (by simp (maxSteps := 2000000) (disch := first | omega | assumption | (simp only [DS, Nat.reduceAdd, *]; done) | (simp only [DZ]; omega)) only [RUN, RU, footA, feetIn, resultsA, tupOf, frzL, slot, lay, icyL, fillA, repCells, kR, reduceIte, Nat.reduceEqDiff, Nat.reduceBEq, Nat.reduceLT, Nat.reduceAdd, Nat.reduceLeDiff, Nat.reduceSub, Nat.reduceMul, Int.reduceLT, Int.reduceLE, Int.reduceEq, Int.reduceAdd, Int.reduceSub, Int.reduceMul]) (by simp (maxSteps := 2000000) (disch := first | omega | assumption | (simp only [DS, Nat.reduceAdd, *]; done) | (simp only [DZ]; omega)) only [RUN, RU, footA, feetIn, resultsA, tupOf, frzL, slot, lay, icyL, fillA, repCells, kR, reduceIte, Nat.reduceEqDiff, Nat.reduceBEq, Nat.reduceLT, Nat.reduceAdd, Nat.reduceLeDiff, Nat.reduceSub, Nat.reduceMul, Int.reduceLT, Int.reduceLE, Int.reduceEq, Int.reduceAdd, Int.reduceSub, Int.reduceMul]) (by omega) (by omega) (by omega) (fun u o N wN lN n1 nm hno ni nk => ?_)
  simp only [add_size, mem0_size, Nat.reduceAdd] at lN hno nk
  exact k u o N wN lN n1 nm hno ((nk 4 (by omega) (by omega) (by omega)).trans n4) ni
set_option maxHeartbeats 8000000 in
theorem tail_ok {v : Lb} {l : List Ev} {t : List AV} {o : AV} {N : Mem} {call : Tg → List AV → Mem → Option (AV × Mem)} (h8 : nth undefA t 8 = .ptr 1 0) (hlen : t.length = 29) (wN : Wf N) (lN : 6 ≤ N.size) (n1 : N.get 1 = some (.row false [o])) (nm : SlM N 17 isEv o (leftF v l)) (hno : ∀ j, rowOf o = some j → 6 ≤ j) (n4 : N.get 4 = some (.dfr false)) :
    W (execCode Tryd.prog fuel call none cYT ⟨t, [4]⟩ N) (fin [.tmp 4, .tmp 5] fun r => ∃ r_1, Sl 17 isEv r_1 (leftF v l) ∧ r = .tup [r_1, I64 0]) := by
  obtain ⟨ro, hSr, hfr⟩ := slm_frz2 nm cel_Ev 12 (by omega)
  have hfr4 : frz (N.upd 4 (.dfr true)) 0 12 o = some ro := hfr _ fun id h => by
    have := hno id h
    rw [get_upd_ne wN _ _ _ (by omega)]
  show W (execCode Tryd.prog fuel call none cYT ⟨St t [], [4]⟩ N) _
  have s1 : 1 < N.size := by omega
  unfold cYT
  simp (maxSteps := 2000000) (disch := first | omega | assumption | (simp only [DS, Nat.reduceAdd, *]; done) | (simp only [DZ]; omega)) only [RUN, RU, footA, feetIn, resultsA, tupOf, frzL, slot, lay, icyL, fillA, repCells, kR, reduceIte, Nat.reduceEqDiff, Nat.reduceBEq, Nat.reduceLT, Nat.reduceAdd, Nat.reduceLeDiff, Nat.reduceSub, Nat.reduceMul, Int.reduceLT, Int.reduceLE, Int.reduceEq, Int.reduceAdd, Int.reduceSub, Int.reduceMul, h8, n1, wN]
  refine fin_mark wN n4 ?_
  simp (maxSteps := 2000000) (disch := first | omega | assumption | (simp only [DS, Nat.reduceAdd, *]; done) | (simp only [DZ]; omega)) only [RUN, RU, footA, feetIn, resultsA, tupOf, frzL, slot, lay, icyL, fillA, repCells, kR, reduceIte, Nat.reduceEqDiff, Nat.reduceBEq, Nat.reduceLT, Nat.reduceAdd, Nat.reduceLeDiff, Nat.reduceSub, Nat.reduceMul, Int.reduceLT, Int.reduceLE, Int.reduceEq, Int.reduceAdd, Int.reduceSub, Int.reduceMul, hfr4]
  exact ⟨ro, hSr, rfl⟩
def purgeF (v : Lb) (l : List Ev) : List Ev × Int := if chk l ≠ 0 then ([], chk l) else if v.may then (leftF v l, 0) else ([], 8)
theorem chk_may {l : List Ev} (h : chk l = 0) : l.length ≤ 2048 ∧ ∀ e ∈ l, e.may = true := by
  unfold chk at h
  split at h
  · cases h
  · split at h
    · cases h
    · rename_i h1 h2
      refine ⟨by omega, fun e he => ?_⟩
      cases hm : e.may with
      | true => rfl
      | false => exact absurd (List.any_eq_true.2 ⟨e, he, by rw [hm]; rfl⟩) h2
theorem may_len {e : Ev} (h : e.may = true) : e.data.length ≤ 1100 ∧ e.crash.length ≤ 3 := by
  simp only [Ev.may, Bool.and_eq_true, decide_eq_true_eq] at h
  omega
set_option maxHeartbeats 16000000 in
theorem purge_run {a : AV} {l : List Ev} (v : Lb) (hS : Sl 17 isEv a l) (hl : l.length ≤ 100000) (hf : l.length + 3000 < fuel) : ∃ r, Sl 17 isEv r (purgeF v l).1 ∧ ∀ M, callN Tryd.prog (fsT tbl) fuel (d + 12) (.fn 9) [a, lbA v] M = some (.tup [r, I64 (purgeF v l).2], M) := by
  have ll := hS.len
  have lr := hS.rows mem0
  have lo := hS.one
  have lc := hS.cells
  have ic : ∀ M, icyL (icy 12) M [a, lbA v] = some ([a, lbA v], M) := fun M => by simp (maxSteps := 2000000) (disch := first | omega | assumption | (simp only [DS, Nat.reduceAdd, *]; done) | (simp only [DZ]; omega)) only [RUN, RU, footA, feetIn, resultsA, tupOf, frzL, slot, lay, icyL, fillA, repCells, kR, reduceIte, Nat.reduceEqDiff, Nat.reduceBEq, Nat.reduceLT, Nat.reduceAdd, Nat.reduceLeDiff, Nat.reduceSub, Nat.reduceMul, Int.reduceLT, Int.reduceLE, Int.reduceEq, Int.reduceAdd, Int.reduceSub, Int.reduceMul, hS.icy]
  have hck := fun M => check_run (fuel := fuel) (d := d + 3) hS (by omega) (by omega) M
  have hlc := fun M => @lcheck_run fuel (d + 10) v M
  have hlf := fun M wf => @left_run fuel M (d + 10) a v wf lo lc lr
  have z0 : decide ((0 : Int) = 0) = true := rfl
  have z8 : decide ((8 : Int) = 0) = false := rfl
  have key : W3 (callN Tryd.prog (fsT tbl) fuel (d + 12) (.fn 9) [a, lbA v] mem0) (fun r' _ => ∃ r, Sl 17 isEv r (purgeF v l).1 ∧ r' = .tup [r, I64 (purgeF v l).2]) := by
    refine call_gc tf9 rfl (ic mem0) (by simp [a9]) fun b' ht hx => ?_
    have h0 := hx 0 _ rfl
    have h1 := hx 1 _ rfl
    clear hx
    simp only [a9, c9] at ht ⊢
    by_cases hc : chk l = 0
    · rw [hc] at hck
      cases hm : v.may with
      | false =>
        simp only [hm, Bool.false_eq_true, if_false] at hlc
        have hp : purgeF v l = ([], 8) := by unfold purgeF; rw [if_neg (by simpa using hc), hm]; rfl
        rw [hp]
        simp (maxSteps := 2000000) (disch := first | omega | assumption | (simp only [DS, Nat.reduceAdd, *]; done) | (simp only [DZ]; omega)) only [RUN, RU, footA, feetIn, resultsA, tupOf, frzL, slot, lay, icyL, fillA, repCells, kR, reduceIte, Nat.reduceEqDiff, Nat.reduceBEq, Nat.reduceLT, Nat.reduceAdd, Nat.reduceLeDiff, Nat.reduceSub, Nat.reduceMul, Int.reduceLT, Int.reduceLE, Int.reduceEq, Int.reduceAdd, Int.reduceSub, Int.reduceMul, h0, h1, lr, hck, hlc, z0, z8]
        exact ⟨_, .inl ⟨rfl, rfl⟩, rfl⟩
      | true =>
        simp only [hm, if_true] at hlc
        have hp : purgeF v l = (leftF v l, 0) := by unfold purgeF; rw [if_neg (by simpa using hc), hm]; rfl
        rw [hp]
        simp (maxSteps := 2000000) (disch := first | omega | assumption | (simp only [DS, Nat.reduceAdd, *]; done) | (simp only [DZ]; omega)) only [RUN, RU, footA, feetIn, resultsA, tupOf, frzL, slot, lay, icyL, fillA, repCells, kR, reduceIte, Nat.reduceEqDiff, Nat.reduceBEq, Nat.reduceLT, Nat.reduceAdd, Nat.reduceLeDiff, Nat.reduceSub, Nat.reduceMul, Int.reduceLT, Int.reduceLE, Int.reduceEq, Int.reduceAdd, Int.reduceSub, Int.reduceMul, h0, h1, lr, hck, hlc, z0, hlf]
        refine w_range (g := 38) (first := []) (cap := [.ptr 2 0, .ptr 3 0]) (by simp (maxSteps := 2000000) (disch := first | omega | assumption | (simp only [DS, Nat.reduceAdd, *]; done) | (simp only [DZ]; omega)) only [RUN, RU, footA, feetIn, resultsA, tupOf, frzL, slot, lay, icyL, fillA, repCells, kR, reduceIte, Nat.reduceEqDiff, Nat.reduceBEq, Nat.reduceLT, Nat.reduceAdd, Nat.reduceLeDiff, Nat.reduceSub, Nat.reduceMul, Int.reduceLT, Int.reduceLE, Int.reduceEq, Int.reduceAdd, Int.reduceSub, Int.reduceMul]) (by simp (maxSteps := 2000000) (disch := first | omega | assumption | (simp only [DS, Nat.reduceAdd, *]; done) | (simp only [DZ]; omega)) only [RUN, RU, footA, feetIn, resultsA, tupOf, frzL, slot, lay, icyL, fillA, repCells, kR, reduceIte, Nat.reduceEqDiff, Nat.reduceBEq, Nat.reduceLT, Nat.reduceAdd, Nat.reduceLeDiff, Nat.reduceSub, Nat.reduceMul, Int.reduceLT, Int.reduceLE, Int.reduceEq, Int.reduceAdd, Int.reduceSub, Int.reduceMul]) ?_
        have hb := fun e he => may_len ((chk_may hc).2 e he)
        refine left1_go (d := d + 6) (a := a) (v := v) hS (by omega) (fun e he => by have := hb e he; omega) (by omega) (by simp (maxSteps := 2000000) (disch := first | omega | assumption | (simp only [DS, Nat.reduceAdd, *]; done) | (simp only [DZ]; omega)) only [RUN, RU, footA, feetIn, resultsA, tupOf, frzL, slot, lay, icyL, fillA, repCells, kR, reduceIte, Nat.reduceEqDiff, Nat.reduceBEq, Nat.reduceLT, Nat.reduceAdd, Nat.reduceLeDiff, Nat.reduceSub, Nat.reduceMul, Int.reduceLT, Int.reduceLE, Int.reduceEq, Int.reduceAdd, Int.reduceSub, Int.reduceMul]) (by rw [St_len]; exact ht) (fun u o N wN lN n1 nm hno n4 ni => ?_)
        refine ⟨wN, lN, _, _, _, _, _, ni, ?_⟩
        refine tail_ok (by simp (maxSteps := 2000000) (disch := first | omega | assumption | (simp only [DS, Nat.reduceAdd, *]; done) | (simp only [DZ]; omega)) only [RUN, RU, footA, feetIn, resultsA, tupOf, frzL, slot, lay, icyL, fillA, repCells, kR, reduceIte, Nat.reduceEqDiff, Nat.reduceBEq, Nat.reduceLT, Nat.reduceAdd, Nat.reduceLeDiff, Nat.reduceSub, Nat.reduceMul, Int.reduceLT, Int.reduceLE, Int.reduceEq, Int.reduceAdd, Int.reduceSub, Int.reduceMul]) (by rw [St_len]; exact ht) (wN.upd _ _) lN ?_ (nm.keep fun j hj => ?_) hno ?_
        · rw [get_upd_ne wN _ _ _ (by simp only [add_size, mem0_size]; omega)]; exact n1
        · have := hno j hj
          rw [get_upd_ne wN _ _ _ (by simp only [add_size, mem0_size]; omega)]
        · rw [get_upd_ne wN _ _ _ (by simp only [add_size, mem0_size]; omega)]; exact n4
    · have q : decide (chk l = 0) = false := decide_eq_false hc
      have hp : purgeF v l = ([], chk l) := by unfold purgeF; rw [if_pos hc]
      rw [hp]
      simp (maxSteps := 2000000) (disch := first | omega | assumption | (simp only [DS, Nat.reduceAdd, *]; done) | (simp only [DZ]; omega)) only [RUN, RU, footA, feetIn, resultsA, tupOf, frzL, slot, lay, icyL, fillA, repCells, kR, reduceIte, Nat.reduceEqDiff, Nat.reduceBEq, Nat.reduceLT, Nat.reduceAdd, Nat.reduceLeDiff, Nat.reduceSub, Nat.reduceMul, Int.reduceLT, Int.reduceLE, Int.reduceEq, Int.reduceAdd, Int.reduceSub, Int.reduceMul, h0, h1, lr, hck, q]
      exact ⟨_, .inl ⟨rfl, rfl⟩, rfl⟩
  obtain ⟨r', N, hk, r, hr, rfl⟩ := key
  exact ⟨r, hr, fun M => call_own tf9 rfl hk (ic mem0) (ic M)⟩
end Go.Proofs.YtjbninmklbkklaaDoor
