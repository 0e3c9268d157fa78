/-
  purge: what is left of a script, handed on and gathered in the caller's memory.
-/
import Derived.Test.YtjbninmklbkklaaDoorPvB
import Derived.Test.YtjbninmklbkklaaDoorPvD
set_option linter.unusedSimpArgs false
set_option linter.unusedVariables false
set_option maxRecDepth 100000
namespace Go.Proofs.YtjbninmklbkklaaDoor
open Go Go.Ax
variable {fuel : Nat} {M : Mem} {Q : AV → Mem → Prop} {d : Nat}

def cY1 : ACode := (.region [⟨some 9, .alloc 44 (.agg #[(.int .u8 0), (.int .u8 0), (.int .u32 0), (.int .u8 0), (.int .i64 0), (.int .i64 0), (.int .i64 0), (.string ⟨#[]⟩), (.int .u8 0), (.int .u32 0), (.int .u8 0), (.slice none 0 0), (.int .i64 0), (.int .u8 0), (.int .u32 0), (.bool false), (.slice none 0 0)]), none, []⟩, ⟨none, .store 17 (.tmp 9) (.tmp 23), none, []⟩] false)
def cY2 : ACode := (.block 1 (.region [⟨some 24, .load 1 false (.tmp 8), none, [1, 2]⟩, ⟨some 25, .load 17 true (.tmp 9), none, [0]⟩, ⟨some 26, .bsl 44 17 (.agg #[(.int .u8 0), (.int .u8 0), (.int .u32 0), (.int .u8 0), (.int .i64 0), (.int .i64 0), (.int .i64 0), (.string ⟨#[]⟩), (.int .u8 0), (.int .u32 0), (.int .u8 0), (.slice none 0 0), (.int .i64 0), (.int .u8 0), (.int .u32 0), (.bool false), (.slice none 0 0)]) 1 [(0, 17, (.tmp 25))], none, [0]⟩, ⟨some 27, .app 44 17 144 (.agg #[(.int .u8 0), (.int .u8 0), (.int .u32 0), (.int .u8 0), (.int .i64 0), (.int .i64 0), (.int .i64 0), (.string ⟨#[]⟩), (.int .u8 0), (.int .u32 0), (.int .u8 0), (.slice none 0 0), (.int .i64 0), (.int .u8 0), (.int .u32 0), (.bool false), (.slice none 0 0)]) (.tmp 24) (.tmp 26), none, []⟩, ⟨none, .store 1 (.tmp 8) (.tmp 27), none, []⟩] false))
def cYT : ACode := (.seq (.region [⟨some 28, .load 1 false (.tmp 8), none, []⟩, ⟨some 4, .mov (.tmp 28), none, []⟩, ⟨some 5, .mov (.const (.int .i64 0)), none, []⟩] false) .ret)
set_option maxHeartbeats 8000000 in
/-- What comes of an event that is handed on: it stands behind the others. -/
theorem yield0 {id df c B : Nat} {tm : List AV} {o : AV} {out : List Ev} {x : EvR} (wf : Wf M) (hg : M.get id = some (.loop .ready none tm [23] cY1 cY2 df)) (h8 : nth undefA tm 8 = .ptr c 0) (hlen : tm.length = 29) (h1 : M.get c = some (.row false [o])) (hid : id ≠ c) (hR : RR M B o out) (hcB : c < B) (hiB : id < B) (hBM : B ≤ M.size) (hx : isEvR (evRow x.e x.da x.ca) x) (hin : InR M B x) (hne : ∀ j, rowOf o = some j → rowOf x.da ≠ some j ∧ rowOf x.ca ≠ some j) (hn : out.length ≤ 100000)
    (k : ∀ o' N, Wf N → M.size ≤ N.size → N.get c = some (.row false [o']) → RR N B o' (out ++ [x.e]) → N.get id = some (.loop .ready none tm [23] cY1 cY2 df) → (∀ j, j < B → j ≠ c → j ≠ id → N.get j = M.get j) → Q (BL true) N) :
    W3 (callN Tryd.prog (fsT tbl) fuel (d + 1) (.yl id) [.agg (evRow x.e x.da x.ca)] M) Q := by
  have l1 := Mem.get_lt h1
  have li := Mem.get_lt hg
  have hx' := hx
  obtain ⟨_, od, oc, cd, cc⟩ := hx'
  have oo := hR.one
  have oco := hR.cells
  have rlo := hR.rows (show M.size ≤ M.size + 1 + 1 by omega)
  have rd := rows_lt hin.1.rl (Nat.le_refl M.size)
  have rc := rows_lt hin.2.1.rl (Nat.le_refl M.size)
  have rd1 := rows_lt hin.1.rl (show M.size ≤ M.size + 1 by omega)
  have rc1 := rows_lt hin.2.1.rl (show M.size ≤ M.size + 1 by omega)
  refine call_yl hg rfl ?_
  have e1 : setAll tm [23] [.agg (evRow x.e x.da x.ca)] = St tm [(23, .agg (evRow x.e x.da x.ca))] := rfl
  rw [e1]
  have ex : evRow x.e x.da x.ca = [U8 x.e.kind.toNat, U8 x.e.lb.lv, U32 x.e.lb.cats, U8 x.e.num, I64 x.e.user, I64 x.e.k, I64 x.e.many, STR x.e.text, U8 x.e.to.lv, U32 x.e.to.cats, U8 x.e.what, x.da, I64 x.e.gu, U8 x.e.gl.lv, U32 x.e.gl.cats, BL x.e.gok, x.ca] := rfl
  rw [ex]
  unfold cY1 cY2 at *
  have zid : id ≠ M.size := by omega
  have zc : c ≠ M.size := by omega
  have zid' : M.size ≠ id := by omega
  have zc' : M.size ≠ c := by omega
  have hid' : c ≠ id := fun e => hid e.symm
  simp (maxSteps := 2000000) (disch := first | omega | assumption | (simp only [DS, Nat.reduceAdd, *]; done) | (simp only [DZ]; omega)) only [RUN, RU, footA, feetIn, resultsA, tupOf, frzL, slot, lay, icyL, fillA, repCells, kR, reduceIte, Nat.reduceEqDiff, Nat.reduceBEq, Nat.reduceLT, Nat.reduceAdd, Nat.reduceLeDiff, Nat.reduceSub, Nat.reduceMul, Int.reduceLT, Int.reduceLE, Int.reduceEq, Int.reduceAdd, Int.reduceSub, Int.reduceMul, h8, od, oc, cd, cc, rd, rc, rd1, rc1]
  refine ⟨wf, tm, [23], _, _, df, hg, ?_⟩
  simp (maxSteps := 2000000) (disch := first | omega | assumption | (simp only [DS, Nat.reduceAdd, *]; done) | (simp only [DZ]; omega)) only [RUN, RU, footA, feetIn, resultsA, tupOf, frzL, slot, lay, icyL, fillA, repCells, kR, reduceIte, Nat.reduceEqDiff, Nat.reduceBEq, Nat.reduceLT, Nat.reduceAdd, Nat.reduceLeDiff, Nat.reduceSub, Nat.reduceMul, Int.reduceLT, Int.reduceLE, Int.reduceEq, Int.reduceAdd, Int.reduceSub, Int.reduceMul, h8, od, oc, cd, cc, rd, rc, rd1, rc1, h1, oo, oco, rlo]
  rw [← ex]
  -- the memory ahead of the append
  generalize hX : ((M.add _).upd M.size _).upd id _ = X
  have wX : Wf X := by rw [← hX]; exact ((wf.add _).upd _ _).upd _ _
  have sX : X.size = M.size + 1 := by rw [← hX]; rfl
  have gX : ∀ j, j < M.size → j ≠ id → X.get j = M.get j := fun j a b => by
    rw [← hX, get_upd_ne ((wf.add _).upd _ _) _ _ _ (fun e => b e.symm), get_upd_ne (wf.add _) _ _ _ (by omega), get_add wf _ _ a]
  have giX : X.get id = some (.loop .busy none tm [23] cY1 cY2 df) := by
    rw [← hX, get_upd_eq ((wf.add _).upd _ _) _ _ (by rw [upd_size, add_size]; omega)]; rfl
  rw [← sX]
  have inX : InR X B x := hin.keep fun j hj => gX j (hin.lt j hj) (by have := hj.elim (hin.2.2.1 j) (hin.2.2.2 j); omega)
  refine RR.app (B := B) wX (hR.keep fun j a b => gX j b (by omega)) hx inX hne (by omega) (by omega) fun o' M' hR' w' le kp nw => ?_
  have ro : ∀ j, j < B → rowOf o ≠ some j := fun j hj h => by have := hR.lt j h; omega
  have gc' := (kp c (by omega) (ro c hcB)).trans ((gX c l1 hid').trans h1)
  have gi' := (kp id (by omega) (ro id hiB)).trans giX
  have oo' := hR'.one
  have oco' := hR'.cells
  have rlo' := hR'.rows (Nat.le_refl M'.size)
  have c' : c < M'.size := by omega
  have i' : id < M'.size := by omega
  simp (maxSteps := 2000000) (disch := first | omega | assumption | (simp only [DS, Nat.reduceAdd, *]; done) | (simp only [DZ]; omega)) only [RUN, RU, footA, feetIn, resultsA, tupOf, frzL, slot, lay, icyL, fillA, repCells, kR, reduceIte, Nat.reduceEqDiff, Nat.reduceBEq, Nat.reduceLT, Nat.reduceAdd, Nat.reduceLeDiff, Nat.reduceSub, Nat.reduceMul, Int.reduceLT, Int.reduceLE, Int.reduceEq, Int.reduceAdd, Int.reduceSub, Int.reduceMul, h8, gc', gi', oo', oco', rlo', w']
  refine ⟨_, _, _, _, _, _, _, rfl, ?_⟩
  refine k o' _ ((w'.upd _ _).upd _ _) (by simp only [upd_size]; omega) (by simp (maxSteps := 2000000) (disch := first | omega | assumption | (simp only [DS, Nat.reduceAdd, *]; done) | (simp only [DZ]; omega)) only [RUN, RU, footA, feetIn, resultsA, tupOf, frzL, slot, lay, icyL, fillA, repCells, kR, reduceIte, Nat.reduceEqDiff, Nat.reduceBEq, Nat.reduceLT, Nat.reduceAdd, Nat.reduceLeDiff, Nat.reduceSub, Nat.reduceMul, Int.reduceLT, Int.reduceLE, Int.reduceEq, Int.reduceAdd, Int.reduceSub, Int.reduceMul, w']) (hR'.keep fun j a b => ?_) (by simp (maxSteps := 2000000) (disch := first | omega | assumption | (simp only [DS, Nat.reduceAdd, *]; done) | (simp only [DZ]; omega)) only [RUN, RU, footA, feetIn, resultsA, tupOf, frzL, slot, lay, icyL, fillA, repCells, kR, reduceIte, Nat.reduceEqDiff, Nat.reduceBEq, Nat.reduceLT, Nat.reduceAdd, Nat.reduceLeDiff, Nat.reduceSub, Nat.reduceMul, Int.reduceLT, Int.reduceLE, Int.reduceEq, Int.reduceAdd, Int.reduceSub, Int.reduceMul, w']; rfl) (fun j a b b' => ?_)
  · rw [get_upd_ne (w'.upd _ _) _ _ _ (by omega), get_upd_ne w' _ _ _ (by omega)]
  · rw [get_upd_ne (w'.upd _ _) _ _ _ (fun e => b' e.symm), get_upd_ne w' _ _ _ (fun e => b e.symm), kp j (by omega) (ro j a), gX j (by omega) b']
theorem take_snoc {α : Type} (l : List α) (i : Nat) (h : i < l.length) : l.take (i + 1) = l.take i ++ [l[i]] := by
  rw [List.take_add_one, List.getElem?_eq_getElem h]; rfl
theorem leftF_snoc (v : Lb) (l : List Ev) (e : Ev) : leftF v (l ++ [e]) = leftF v l ++ (match e.left v with | some x => [x] | none => []) := by
  unfold leftF
  rw [List.filterMap_append]
  cases h : e.left v <;> simp [List.filterMap_cons, h]
theorem leftF_len (v : Lb) (l : List Ev) : (leftF v l).length ≤ l.length := List.length_filterMap_le _ _
set_option maxHeartbeats 16000000 in
theorem left1_0 {a : AV} {v : Lb} {l : List Ev} {id df c p q B : Nat} {tm : List AV} (hS : Sl 17 isEv a l) (hl : l.length ≤ 100000) (hd : ∀ e ∈ l, e.data.length ≤ 140737488355328 ∧ e.crash.length ≤ 17592186044416) (hf : l.length + 100 < fuel) (wf : Wf M) (hg : M.get id = some (.loop .ready none tm [23] cY1 cY2 df)) (h8 : nth undefA tm 8 = .ptr c 0) (hlen : tm.length = 29) (h1 : M.get c = some (.row false [NIL])) (h2 : M.get p = some (.row false [a])) (h3 : M.get q = some (.row false [U8 v.lv, U32 v.cats])) (i1 : id ≠ c) (i2 : id ≠ p) (i3 : id ≠ q) (c2 : c ≠ p) (c3 : c ≠ q) (hB : M.size = B)
    (k : ∀ u o N, Wf N → B ≤ N.size → N.get c = some (.row false [o]) → RR N B o (leftF v l) → N.get id = some (.loop .ready none tm [23] cY1 cY2 df) → (∀ j, j < B → j ≠ c → j ≠ id → N.get j = M.get j) → Q u N) :
    W3 (callN Tryd.prog (fsT tbl) fuel (d + 5) (.fn 38) [.yl id, .ptr p 0, .ptr q 0] M) Q := by
  have ll := hS.len
  have lr := hS.rows mem0
  have l1 := Mem.get_lt h1
  have l2 := Mem.get_lt h2
  have l3 := Mem.get_lt h3
  have li := Mem.get_lt hg
  refine call_0 tf38 rfl (by simp [a38]) fun b ht hx => ?_
  have x0 := hx 0 _ rfl
  have x1 := hx 1 _ rfl
  have x2 := hx 2 _ rfl
  clear hx
  simp only [a38, c38] at ht ⊢
  simp (maxSteps := 2000000) (disch := first | omega | assumption | (simp only [DS, Nat.reduceAdd, *]; done) | (simp only [DZ]; omega)) only [RUN, RU, footA, feetIn, resultsA, tupOf, frzL, slot, lay, icyL, fillA, repCells, kR, reduceIte, Nat.reduceEqDiff, Nat.reduceBEq, Nat.reduceLT, Nat.reduceAdd, Nat.reduceLeDiff, Nat.reduceSub, Nat.reduceMul, Int.reduceLT, Int.reduceLE, Int.reduceEq, Int.reduceAdd, Int.reduceSub, Int.reduceMul, x0, x1, x2, h2, ll, lr]
  refine w_loop (I := fun n t M' => ∃ (i : Nat) (o : AV), n = l.length - i ∧ i ≤ l.length ∧ nth undefA t 8 = I64 i ∧ nth undefA t 7 = I64 l.length ∧ nth undefA t 6 = a ∧ nth undefA t 0 = .yl id ∧ nth undefA t 1 = .ptr p 0 ∧ nth undefA t 2 = .ptr q 0 ∧ Wf M' ∧ B ≤ M'.size ∧ M'.get c = some (.row false [o]) ∧ RR M' B o (leftF v (l.take i)) ∧ M'.get id = some (.loop .ready none tm [23] cY1 cY2 df) ∧ (∀ j, j < B → j ≠ c → j ≠ id → M'.get j = M.get j)) (n := l.length) (by omega) ?_ ?_
  · refine ⟨0, NIL, rfl, by omega, ?_, ?_, ?_, ?_, ?_, ?_, wf, by omega, h1, RR.nil _ _, hg, fun j _ _ _ => rfl⟩ <;> simp (maxSteps := 2000000) (disch := first | omega | assumption | (simp only [DS, Nat.reduceAdd, *]; done) | (simp only [DZ]; omega)) only [RUN, RU, footA, feetIn, resultsA, tupOf, frzL, slot, lay, icyL, fillA, repCells, kR, reduceIte, Nat.reduceEqDiff, Nat.reduceBEq, Nat.reduceLT, Nat.reduceAdd, Nat.reduceLeDiff, Nat.reduceSub, Nat.reduceMul, Int.reduceLT, Int.reduceLE, Int.reduceEq, Int.reduceAdd, Int.reduceSub, Int.reduceMul, x0, x1, x2, h2, ll, lr]
    all_goals first | rfl | assumption
  · rintro n t M' hlt ⟨i, o, rfl, hi, g8, g7, g6, g0, g1, g2, wf', ls, m1, hR, mi, hk⟩
    simp only [ht] at hlt ⊢
    clear x0 x1 x2 ht b
    by_cases hc : i < l.length
    · have q1 : decide ((i : Int) < l.length) = true := decide_eq_true (by omega)
      obtain ⟨r, hiad, hr, hrl⟩ := hS.iad i hc
      obtain ⟨he1, he2⟩ := hd l[i] (List.getElem_mem hc)
      have m3 : M'.get q = some (.row false [U8 v.lv, U32 v.cats]) := (hk q (by omega) (fun e => c3 e.symm) (fun e => i3 e.symm)).trans h3
      have z3 : q < M'.size := by omega
      have zi : id < M'.size := by omega
      have zi' : id ≠ M'.size := by omega
      have w1 : IntKind.i64.wrap ((i : Int) + 1) = ((i + 1 : Nat) : Int) := by rw [wrap_i64] <;> omega
      have hsn := leftF_snoc v (l.take i) l[i]
      rw [← take_snoc l i hc] at hsn
      have hll := leftF_len v (l.take i)
      rw [List.length_take] at hll
      generalize l[i] = e at *
      have hev := hr
      obtain ⟨da, ca, hrow, d1, c1⟩ := hr
      have hev' : isEv (evRow e da ca) e := ⟨da, ca, rfl, d1, c1⟩
      subst hrow
      have hits := fun M => @its_run fuel (d + 3) e da ca d1 c1 M
      have hle := fun M => @leq_run fuel (d + 3) e.lb v M
      have lca := c1.len
      have od := d1.one
      have oc := c1.one
      have cd := d1.cells
      have cc := c1.cells
      have rd := d1.rows mem0
      have rc := c1.rows mem0
      unfold evRow at hiad hits
      by_cases hcond : (itsK e.kind.toNat && !e.lb.leq v) = true
      · simp only [Bool.and_eq_true, Bool.not_eq_true'] at hcond
        obtain ⟨c1', c2'⟩ := hcond
        rw [c1'] at hits
        rw [c2'] at hle
        by_cases hz : e.crash.length = 0
        · have q2 : decide ((e.crash.length : Int) = 0) = true := decide_eq_true (by omega)
          have hel : e.left v = none := by unfold Ev.left; rw [c1', c2']; simp [hz]
          rw [hel] at hsn
          have hsn' : leftF v (l.take (i + 1)) = leftF v (l.take i) := by rw [hsn]; exact List.append_nil _
          simp (maxSteps := 2000000) (disch := first | omega | assumption | (simp only [DS, Nat.reduceAdd, *]; done) | (simp only [DZ]; omega)) only [RUN, RU, footA, feetIn, resultsA, tupOf, frzL, slot, lay, icyL, fillA, repCells, kR, reduceIte, Nat.reduceEqDiff, Nat.reduceBEq, Nat.reduceLT, Nat.reduceAdd, Nat.reduceLeDiff, Nat.reduceSub, Nat.reduceMul, Int.reduceLT, Int.reduceLE, Int.reduceEq, Int.reduceAdd, Int.reduceSub, Int.reduceMul, g8, g7, g6, g0, g1, g2, q1, hiad, od, oc, cd, cc, rd, rc, hits, m3, lca, lr, w1, hle, q2]
          have zc' : M'.size ≠ c := by omega
          have zid' : M'.size ≠ id := by omega
          refine ⟨hlt, l.length - (i + 1), by omega, i + 1, o, rfl, by omega, rfl, wf', by omega, m1, ?_, mi, ?_⟩
          · rw [hsn']
            exact hR.keep fun j a b => by
              have : M'.size ≠ j := by omega
              simp (maxSteps := 2000000) (disch := first | omega | assumption | (simp only [DS, Nat.reduceAdd, *]; done) | (simp only [DZ]; omega)) only [RUN, RU, footA, feetIn, resultsA, tupOf, frzL, slot, lay, icyL, fillA, repCells, kR, reduceIte, Nat.reduceEqDiff, Nat.reduceBEq, Nat.reduceLT, Nat.reduceAdd, Nat.reduceLeDiff, Nat.reduceSub, Nat.reduceMul, Int.reduceLT, Int.reduceLE, Int.reduceEq, Int.reduceAdd, Int.reduceSub, Int.reduceMul, wf']
          · intro j b1 b2 b3
            have := hk j b1 b2 b3
            have hjn : M'.size ≠ j := by omega
            have hj : j < M'.size := by omega
            simp (maxSteps := 2000000) (disch := first | omega | assumption | (simp only [DS, Nat.reduceAdd, *]; done) | (simp only [DZ]; omega)) only [RUN, RU, footA, feetIn, resultsA, tupOf, frzL, slot, lay, icyL, fillA, repCells, kR, reduceIte, Nat.reduceEqDiff, Nat.reduceBEq, Nat.reduceLT, Nat.reduceAdd, Nat.reduceLeDiff, Nat.reduceSub, Nat.reduceMul, Int.reduceLT, Int.reduceLE, Int.reduceEq, Int.reduceAdd, Int.reduceSub, Int.reduceMul, wf', this]
        · have q2 : decide ((e.crash.length : Int) = 0) = false := decide_eq_false (by omega)
          have hel : e.left v = some { zeroEv with kind := 20, crash := e.crash } := by unfold Ev.left; rw [c1', c2']; simp [hz]
          have hr2 : isEv [U8 20, U8 0, U32 0, U8 0, I64 0, I64 0, I64 0, .sc (.string ⟨#[]⟩), U8 0, U32 0, U8 0, NIL, I64 0, U8 0, U32 0, BL false, ca] { zeroEv with kind := 20, crash := e.crash } := ⟨NIL, ca, rfl, .inl ⟨rfl, rfl⟩, c1⟩
          have hsa : leftF v (l.take (i + 1)) = leftF v (l.take i) ++ [{ zeroEv with kind := 20, crash := e.crash }] := by rw [hsn, hel]
          have hz2 : ({ zeroEv with kind := 20, crash := e.crash } : Ev).data.length ≤ 140737488355328 := Nat.zero_le _
          have hz3 : ({ zeroEv with kind := 20, crash := e.crash } : Ev).crash.length ≤ 17592186044416 := he2
          simp (maxSteps := 2000000) (disch := first | omega | assumption | (simp only [DS, Nat.reduceAdd, *]; done) | (simp only [DZ]; omega)) only [RUN, RU, footA, feetIn, resultsA, tupOf, frzL, slot, lay, icyL, fillA, repCells, kR, reduceIte, Nat.reduceEqDiff, Nat.reduceBEq, Nat.reduceLT, Nat.reduceAdd, Nat.reduceLeDiff, Nat.reduceSub, Nat.reduceMul, Int.reduceLT, Int.reduceLE, Int.reduceEq, Int.reduceAdd, Int.reduceSub, Int.reduceMul, g8, g7, g6, g0, g1, g2, q1, hiad, od, oc, cd, cc, rd, rc, hits, m3, lca, lr, w1, hle, q2]
          refine twin0 (d := d + 2) hr2 hz2 hz3 (by simp (maxSteps := 2000000) (disch := first | omega | assumption | (simp only [DS, Nat.reduceAdd, *]; done) | (simp only [DZ]; omega)) only [RUN, RU, footA, feetIn, resultsA, tupOf, frzL, slot, lay, icyL, fillA, repCells, kR, reduceIte, Nat.reduceEqDiff, Nat.reduceBEq, Nat.reduceLT, Nat.reduceAdd, Nat.reduceLeDiff, Nat.reduceSub, Nat.reduceMul, Int.reduceLT, Int.reduceLE, Int.reduceEq, Int.reduceAdd, Int.reduceSub, Int.reduceMul, wf']) fun x N2 w2 s2 k2 xe hx hin => ?_
          simp only [add_size, upd_size] at s2 k2 hin
          have low : ∀ j, j < M'.size → N2.get j = M'.get j := fun j hj => by
            have hjn : M'.size ≠ j := by omega
            rw [k2 j (by omega)]
            simp (maxSteps := 2000000) (disch := first | omega | assumption | (simp only [DS, Nat.reduceAdd, *]; done) | (simp only [DZ]; omega)) only [RUN, RU, footA, feetIn, resultsA, tupOf, frzL, slot, lay, icyL, fillA, repCells, kR, reduceIte, Nat.reduceEqDiff, Nat.reduceBEq, Nat.reduceLT, Nat.reduceAdd, Nat.reduceLeDiff, Nat.reduceSub, Nat.reduceMul, Int.reduceLT, Int.reduceLE, Int.reduceEq, Int.reduceAdd, Int.reduceSub, Int.reduceMul, wf']
          have R2 : RR N2 B o (leftF v (l.take i)) := hR.keep fun j a b => low j b
          have hx' := hx
          obtain ⟨_, od', oc', cd', cc'⟩ := hx'
          have rd' := rows_lt hin.1.rl (Nat.le_refl N2.size)
          have rc' := rows_lt hin.2.1.rl (Nat.le_refl N2.size)
          have ex : evRow x.e x.da x.ca = [U8 x.e.kind.toNat, U8 x.e.lb.lv, U32 x.e.lb.cats, U8 x.e.num, I64 x.e.user, I64 x.e.k, I64 x.e.many, STR x.e.text, U8 x.e.to.lv, U32 x.e.to.cats, U8 x.e.what, x.da, I64 x.e.gu, U8 x.e.gl.lv, U32 x.e.gl.cats, BL x.e.gok, x.ca] := rfl
          rw [ex]
          simp (maxSteps := 2000000) (disch := first | omega | assumption | (simp only [DS, Nat.reduceAdd, *]; done) | (simp only [DZ]; omega)) only [RUN, RU, footA, feetIn, resultsA, tupOf, frzL, slot, lay, icyL, fillA, repCells, kR, reduceIte, Nat.reduceEqDiff, Nat.reduceBEq, Nat.reduceLT, Nat.reduceAdd, Nat.reduceLeDiff, Nat.reduceSub, Nat.reduceMul, Int.reduceLT, Int.reduceLE, Int.reduceEq, Int.reduceAdd, Int.reduceSub, Int.reduceMul, g8, g7, g6, g0, g1, g2, rd', rc']
          rw [← ex]
          refine yield0 (d := d + 3) (df := df) (B := B) w2 ((low id (by omega)).trans mi) h8 hlen ((low c (by omega)).trans m1) i1 R2 (by omega) (by omega) (by omega) hx (hin.mono (by omega)) (fun j hj => ?hnehsax) (by omega) (fun o' N wN lN n1 nR ni nk => ?mnhsax)
          case hnehsax =>
            have := hR.lt j hj
            exact ⟨fun h => by have := hin.2.2.1 j h; omega, fun h => by have := hin.2.2.2 j h; omega⟩
          case mnhsax =>
            rw [xe] at nR
            simp (maxSteps := 2000000) (disch := first | omega | assumption | (simp only [DS, Nat.reduceAdd, *]; done) | (simp only [DZ]; omega)) only [RUN, RU, footA, feetIn, resultsA, tupOf, frzL, slot, lay, icyL, fillA, repCells, kR, reduceIte, Nat.reduceEqDiff, Nat.reduceBEq, Nat.reduceLT, Nat.reduceAdd, Nat.reduceLeDiff, Nat.reduceSub, Nat.reduceMul, Int.reduceLT, Int.reduceLE, Int.reduceEq, Int.reduceAdd, Int.reduceSub, Int.reduceMul, g8, g7, g6, g0, g1, g2, w1]
            exact ⟨hlt, l.length - (i + 1), by omega, i + 1, o', rfl, by omega, rfl, wN, by omega, n1, by rw [hsa]; exact nR, ni, fun j a b b' => by rw [nk j a b b', low j (by omega), hk j a b b']⟩
      · have hel : e.left v = some e := by unfold Ev.left; rw [if_neg hcond]
        cases c1' : itsK e.kind.toNat with
        | false =>
          rw [c1'] at hits
          have hsb : leftF v (l.take (i + 1)) = leftF v (l.take i) ++ [e] := by rw [hsn, hel]
          simp (maxSteps := 2000000) (disch := first | omega | assumption | (simp only [DS, Nat.reduceAdd, *]; done) | (simp only [DZ]; omega)) only [RUN, RU, footA, feetIn, resultsA, tupOf, frzL, slot, lay, icyL, fillA, repCells, kR, reduceIte, Nat.reduceEqDiff, Nat.reduceBEq, Nat.reduceLT, Nat.reduceAdd, Nat.reduceLeDiff, Nat.reduceSub, Nat.reduceMul, Int.reduceLT, Int.reduceLE, Int.reduceEq, Int.reduceAdd, Int.reduceSub, Int.reduceMul, g8, g7, g6, g0, g1, g2, q1, hiad, od, oc, cd, cc, rd, rc, hits, m3, lca, lr, w1]
          refine twin0 (d := d + 2) hev' (by omega) (by omega) (by simp (maxSteps := 2000000) (disch := first | omega | assumption | (simp only [DS, Nat.reduceAdd, *]; done) | (simp only [DZ]; omega)) only [RUN, RU, footA, feetIn, resultsA, tupOf, frzL, slot, lay, icyL, fillA, repCells, kR, reduceIte, Nat.reduceEqDiff, Nat.reduceBEq, Nat.reduceLT, Nat.reduceAdd, Nat.reduceLeDiff, Nat.reduceSub, Nat.reduceMul, Int.reduceLT, Int.reduceLE, Int.reduceEq, Int.reduceAdd, Int.reduceSub, Int.reduceMul, wf']) fun x N2 w2 s2 k2 xe hx hin => ?_
          simp only [add_size, upd_size] at s2 k2 hin
          have low : ∀ j, j < M'.size → N2.get j = M'.get j := fun j hj => by
            have hjn : M'.size ≠ j := by omega
            rw [k2 j (by omega)]
            simp (maxSteps := 2000000) (disch := first | omega | assumption | (simp only [DS, Nat.reduceAdd, *]; done) | (simp only [DZ]; omega)) only [RUN, RU, footA, feetIn, resultsA, tupOf, frzL, slot, lay, icyL, fillA, repCells, kR, reduceIte, Nat.reduceEqDiff, Nat.reduceBEq, Nat.reduceLT, Nat.reduceAdd, Nat.reduceLeDiff, Nat.reduceSub, Nat.reduceMul, Int.reduceLT, Int.reduceLE, Int.reduceEq, Int.reduceAdd, Int.reduceSub, Int.reduceMul, wf']
          have R2 : RR N2 B o (leftF v (l.take i)) := hR.keep fun j a b => low j b
          have hx' := hx
          obtain ⟨_, od', oc', cd', cc'⟩ := hx'
          have rd' := rows_lt hin.1.rl (Nat.le_refl N2.size)
          have rc' := rows_lt hin.2.1.rl (Nat.le_refl N2.size)
          have ex : evRow x.e x.da x.ca = [U8 x.e.kind.toNat, U8 x.e.lb.lv, U32 x.e.lb.cats, U8 x.e.num, I64 x.e.user, I64 x.e.k, I64 x.e.many, STR x.e.text, U8 x.e.to.lv, U32 x.e.to.cats, U8 x.e.what, x.da, I64 x.e.gu, U8 x.e.gl.lv, U32 x.e.gl.cats, BL x.e.gok, x.ca] := rfl
          rw [ex]
          simp (maxSteps := 2000000) (disch := first | omega | assumption | (simp only [DS, Nat.reduceAdd, *]; done) | (simp only [DZ]; omega)) only [RUN, RU, footA, feetIn, resultsA, tupOf, frzL, slot, lay, icyL, fillA, repCells, kR, reduceIte, Nat.reduceEqDiff, Nat.reduceBEq, Nat.reduceLT, Nat.reduceAdd, Nat.reduceLeDiff, Nat.reduceSub, Nat.reduceMul, Int.reduceLT, Int.reduceLE, Int.reduceEq, Int.reduceAdd, Int.reduceSub, Int.reduceMul, g8, g7, g6, g0, g1, g2, rd', rc']
          rw [← ex]
          refine yield0 (d := d + 3) (df := df) (B := B) w2 ((low id (by omega)).trans mi) h8 hlen ((low c (by omega)).trans m1) i1 R2 (by omega) (by omega) (by omega) hx (hin.mono (by omega)) (fun j hj => ?hnehsbx) (by omega) (fun o' N wN lN n1 nR ni nk => ?mnhsbx)
          case hnehsbx =>
            have := hR.lt j hj
            exact ⟨fun h => by have := hin.2.2.1 j h; omega, fun h => by have := hin.2.2.2 j h; omega⟩
          case mnhsbx =>
            rw [xe] at nR
            simp (maxSteps := 2000000) (disch := first | omega | assumption | (simp only [DS, Nat.reduceAdd, *]; done) | (simp only [DZ]; omega)) only [RUN, RU, footA, feetIn, resultsA, tupOf, frzL, slot, lay, icyL, fillA, repCells, kR, reduceIte, Nat.reduceEqDiff, Nat.reduceBEq, Nat.reduceLT, Nat.reduceAdd, Nat.reduceLeDiff, Nat.reduceSub, Nat.reduceMul, Int.reduceLT, Int.reduceLE, Int.reduceEq, Int.reduceAdd, Int.reduceSub, Int.reduceMul, g8, g7, g6, g0, g1, g2, w1]
            exact ⟨hlt, l.length - (i + 1), by omega, i + 1, o', rfl, by omega, rfl, wN, by omega, n1, by rw [hsb]; exact nR, ni, fun j a b b' => by rw [nk j a b b', low j (by omega), hk j a b b']⟩
        | true =>
          rw [c1'] at hits
          have c2' : e.lb.leq v = true := by
            rw [c1'] at hcond
            simpa using hcond
          rw [c2'] at hle
          have hsc : leftF v (l.take (i + 1)) = leftF v (l.take i) ++ [e] := by rw [hsn, hel]
          simp (maxSteps := 2000000) (disch := first | omega | assumption | (simp only [DS, Nat.reduceAdd, *]; done) | (simp only [DZ]; omega)) only [RUN, RU, footA, feetIn, resultsA, tupOf, frzL, slot, lay, icyL, fillA, repCells, kR, reduceIte, Nat.reduceEqDiff, Nat.reduceBEq, Nat.reduceLT, Nat.reduceAdd, Nat.reduceLeDiff, Nat.reduceSub, Nat.reduceMul, Int.reduceLT, Int.reduceLE, Int.reduceEq, Int.reduceAdd, Int.reduceSub, Int.reduceMul, g8, g7, g6, g0, g1, g2, q1, hiad, od, oc, cd, cc, rd, rc, hits, m3, lca, lr, w1, hle]
          refine twin0 (d := d + 2) hev' (by omega) (by omega) (by simp (maxSteps := 2000000) (disch := first | omega | assumption | (simp only [DS, Nat.reduceAdd, *]; done) | (simp only [DZ]; omega)) only [RUN, RU, footA, feetIn, resultsA, tupOf, frzL, slot, lay, icyL, fillA, repCells, kR, reduceIte, Nat.reduceEqDiff, Nat.reduceBEq, Nat.reduceLT, Nat.reduceAdd, Nat.reduceLeDiff, Nat.reduceSub, Nat.reduceMul, Int.reduceLT, Int.reduceLE, Int.reduceEq, Int.reduceAdd, Int.reduceSub, Int.reduceMul, wf']) fun x N2 w2 s2 k2 xe hx hin => ?_
          simp only [add_size, upd_size] at s2 k2 hin
          have low : ∀ j, j < M'.size → N2.get j = M'.get j := fun j hj => by
            have hjn : M'.size ≠ j := by omega
            rw [k2 j (by omega)]
            simp (maxSteps := 2000000) (disch := first | omega | assumption | (simp only [DS, Nat.reduceAdd, *]; done) | (simp only [DZ]; omega)) only [RUN, RU, footA, feetIn, resultsA, tupOf, frzL, slot, lay, icyL, fillA, repCells, kR, reduceIte, Nat.reduceEqDiff, Nat.reduceBEq, Nat.reduceLT, Nat.reduceAdd, Nat.reduceLeDiff, Nat.reduceSub, Nat.reduceMul, Int.reduceLT, Int.reduceLE, Int.reduceEq, Int.reduceAdd, Int.reduceSub, Int.reduceMul, wf']
          have R2 : RR N2 B o (leftF v (l.take i)) := hR.keep fun j a b => low j b
          have hx' := hx
          obtain ⟨_, od', oc', cd', cc'⟩ := hx'
          have rd' := rows_lt hin.1.rl (Nat.le_refl N2.size)
          have rc' := rows_lt hin.2.1.rl (Nat.le_refl N2.size)
          have ex : evRow x.e x.da x.ca = [U8 x.e.kind.toNat, U8 x.e.lb.lv, U32 x.e.lb.cats, U8 x.e.num, I64 x.e.user, I64 x.e.k, I64 x.e.many, STR x.e.text, U8 x.e.to.lv, U32 x.e.to.cats, U8 x.e.what, x.da, I64 x.e.gu, U8 x.e.gl.lv, U32 x.e.gl.cats, BL x.e.gok, x.ca] := rfl
          rw [ex]
          simp (maxSteps := 2000000) (disch := first | omega | assumption | (simp only [DS, Nat.reduceAdd, *]; done) | (simp only [DZ]; omega)) only [RUN, RU, footA, feetIn, resultsA, tupOf, frzL, slot, lay, icyL, fillA, repCells, kR, reduceIte, Nat.reduceEqDiff, Nat.reduceBEq, Nat.reduceLT, Nat.reduceAdd, Nat.reduceLeDiff, Nat.reduceSub, Nat.reduceMul, Int.reduceLT, Int.reduceLE, Int.reduceEq, Int.reduceAdd, Int.reduceSub, Int.reduceMul, g8, g7, g6, g0, g1, g2, rd', rc']
          rw [← ex]
          refine yield0 (d := d + 3) (df := df) (B := B) w2 ((low id (by omega)).trans mi) h8 hlen ((low c (by omega)).trans m1) i1 R2 (by omega) (by omega) (by omega) hx (hin.mono (by omega)) (fun j hj => ?hnehscx) (by omega) (fun o' N wN lN n1 nR ni nk => ?mnhscx)
          case hnehscx =>
            have := hR.lt j hj
            exact ⟨fun h => by have := hin.2.2.1 j h; omega, fun h => by have := hin.2.2.2 j h; omega⟩
          case mnhscx =>
            rw [xe] at nR
            simp (maxSteps := 2000000) (disch := first | omega | assumption | (simp only [DS, Nat.reduceAdd, *]; done) | (simp only [DZ]; omega)) only [RUN, RU, footA, feetIn, resultsA, tupOf, frzL, slot, lay, icyL, fillA, repCells, kR, reduceIte, Nat.reduceEqDiff, Nat.reduceBEq, Nat.reduceLT, Nat.reduceAdd, Nat.reduceLeDiff, Nat.reduceSub, Nat.reduceMul, Int.reduceLT, Int.reduceLE, Int.reduceEq, Int.reduceAdd, Int.reduceSub, Int.reduceMul, g8, g7, g6, g0, g1, g2, w1]
            exact ⟨hlt, l.length - (i + 1), by omega, i + 1, o', rfl, by omega, rfl, wN, by omega, n1, by rw [hsc]; exact nR, ni, fun j a b b' => by rw [nk j a b b', low j (by omega), hk j a b b']⟩
    · obtain rfl : i = l.length := by omega
      have q1 : decide ((l.length : Int) < l.length) = false := decide_eq_false (by omega)
      rw [List.take_length] at hR
      simp (maxSteps := 2000000) (disch := first | omega | assumption | (simp only [DS, Nat.reduceAdd, *]; done) | (simp only [DZ]; omega)) only [RUN, RU, footA, feetIn, resultsA, tupOf, frzL, slot, lay, icyL, fillA, repCells, kR, reduceIte, Nat.reduceEqDiff, Nat.reduceBEq, Nat.reduceLT, Nat.reduceAdd, Nat.reduceLeDiff, Nat.reduceSub, Nat.reduceMul, Int.reduceLT, Int.reduceLE, Int.reduceEq, Int.reduceAdd, Int.reduceSub, Int.reduceMul, g8, g7, g6, g0, g1, g2, q1]
      exact k _ o M' wf' ls m1 hR mi hk
end Go.Proofs.YtjbninmklbkklaaDoor

