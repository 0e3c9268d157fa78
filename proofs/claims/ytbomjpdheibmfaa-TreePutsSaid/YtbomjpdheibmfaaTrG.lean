/-
  Texts: what is asked of each element: does it stand in its order?
-/
import Derived.Test.YtbomjpdheibmfaaTrF
import Derived.Test.YtbomjpdheibmfaaSbP
import Derived.Test.YtbomjpdheibmfaaTpE
import Derived.Test.YtbomjpdheibmfaaEf
set_option linter.unusedSimpArgs false
set_option linter.unusedVariables false
set_option maxRecDepth 100000
namespace Go.Proofs.Ytbomjpdheibmfaa
open Go Go.Ax
variable {fuel : Nat} {M : Mem} {Q : AV → Mem → Prop} {d : Nat}
def cO1 : ACode := (.seq (.region [⟨some 5, .alloc 29 (.agg #[(.int .u8 0), (.int .u32 0), (.int .u8 0), (.int .i64 0)]), none, []⟩, ⟨none, .store 4 (.tmp 5) (.tmp 12), none, []⟩] false) (.region [⟨some 6, .alloc 29 (.agg #[(.int .u8 0), (.int .u32 0), (.int .u8 0), (.int .i64 0)]), none, []⟩, ⟨none, .store 4 (.tmp 6) (.tmp 13), none, []⟩] false))
def cO2 : ACode := (.block 1 (.scope (.seq (.region [⟨some 7, .alloc 29 (.agg #[(.int .u8 0), (.int .u32 0), (.int .u8 0), (.int .i64 0)]), none, []⟩] false) (.seq .label (.seq (.block 2 (.loop (.seq (.seq (.region [⟨some 14, .load 1 false (.tmp 3), none, []⟩, ⟨some 15, .len (.tmp 14), none, []⟩, ⟨some 16, .pur (mkO (.binOp .gtr 3 (.tmp 15) (.const (.int .i64 0)) 3) 4), none, []⟩] false) (.cond (.tmp 16) .skip (.exit 2))) (.block 3 (.seq (.region [⟨some 17, .load 1 false (.tmp 3), none, [1, 2, 3, 6]⟩, ⟨some 18, .load 1 false (.tmp 3), none, [0, 6]⟩, ⟨some 19, .len (.tmp 18), none, [0, 6]⟩, ⟨some 20, .pur (mkO (.binOp .sub 3 (.tmp 19) (.const (.int .i64 1)) 3) 3), none, [0, 6]⟩, ⟨some 21, .iad 4 (.tmp 17) (.tmp 20), none, [6]⟩, ⟨some 22, .load 4 true (.tmp 21), none, [6]⟩, ⟨some 8, .alloc 29 (.agg #[(.int .u8 0), (.int .u32 0), (.int .u8 0), (.int .i64 0)]), none, [0, 1, 2, 3, 4, 5]⟩, ⟨none, .store 4 (.tmp 8) (.tmp 22), none, []⟩] false) (.seq (.seq (.region [⟨some 23, .load 4 true (.tmp 8), none, [1]⟩, ⟨some 24, .load 4 true (.tmp 6), none, [0]⟩, ⟨some 25, .pur (mkO (.binOp .eql 29 (.tmp 23) (.tmp 24) 29) 4), none, []⟩] false) (.cond (.tmp 25) (.exit 2) .skip)) (.region [⟨some 26, .load 4 true (.tmp 8), none, [1, 2, 3, 4, 5]⟩, ⟨some 27, .load 1 false (.tmp 3), none, [0, 2, 3, 4, 6]⟩, ⟨some 28, .load 1 false (.tmp 3), none, [0, 1, 6]⟩, ⟨some 29, .len (.tmp 28), none, [0, 1, 6]⟩, ⟨some 30, .pur (mkO (.binOp .sub 3 (.tmp 29) (.const (.int .i64 1)) 3) 3), none, [0, 1, 6]⟩, ⟨some 31, .slc 4 (.tmp 27) none (some (.tmp 30)) none, none, [0, 6]⟩, ⟨none, .store 4 (.tmp 7) (.tmp 26), none, [1, 2, 3, 4, 5]⟩, ⟨none, .store 1 (.tmp 3) (.tmp 31), none, []⟩] true))))))) (.seq (.seq (.region [⟨some 32, .load 1 false (.tmp 3), none, []⟩, ⟨some 33, .len (.tmp 32), none, []⟩, ⟨some 34, .pur (mkO (.binOp .eql 3 (.tmp 33) (.const (.int .i64 0)) 3) 4), none, []⟩, ⟨some 35, .mov (.tmp 34), none, []⟩, ⟨some 36, .load 4 true (.tmp 6), some (35, true), [5]⟩, ⟨some 37, .build (.agg #[(.int .u8 0), (.int .u32 0), (.int .u8 0), (.int .i64 0)]) [], some (35, true), [4]⟩, ⟨some 38, .pur (mkO (.binOp .neq 29 (.tmp 36) (.tmp 37) 29) 4), some (35, true), []⟩, ⟨some 39, .pick (.tmp 35) (.tmp 38) (.const (.bool false)), none, []⟩, ⟨some 40, .mov (.tmp 39), none, []⟩, ⟨some 41, .load 4 true (.tmp 7), some (40, false), [10]⟩, ⟨some 42, .build (.agg #[(.int .u8 0), (.int .u32 0), (.int .u8 0), (.int .i64 0)]) [], some (40, false), [9]⟩, ⟨some 43, .pur (mkO (.binOp .neq 29 (.tmp 41) (.tmp 42) 29) 4), some (40, false), []⟩, ⟨some 44, .mov (.tmp 43), some (40, false), []⟩, ⟨some 45, .load 4 true (.tmp 5), some (44, true), [14]⟩, ⟨some 46, .load 4 true (.tmp 7), some (44, true), [13]⟩, ⟨some 47, .call (.func 9) [(.tmp 45), (.tmp 46)], some (44, true), []⟩, ⟨some 48, .pur (mkO (.unOp .not 4 (.tmp 47)) 4), some (44, true), []⟩, ⟨some 49, .pick (.tmp 44) (.tmp 48) (.const (.bool false)), some (40, false), []⟩, ⟨some 50, .pick (.tmp 40) (.const (.bool true)) (.tmp 49), none, []⟩, ⟨some 51, .mov (.tmp 50), none, []⟩, ⟨some 52, .load 1 false (.tmp 4), some (51, false), [21]⟩, ⟨some 53, .load 4 true (.tmp 5), some (51, false), [20]⟩, ⟨some 54, .lookup 29 (.int .i64 0) (.tmp 52) (.tmp 53) false, some (51, false), []⟩, ⟨some 55, .pur (mkO (.binOp .gtr 3 (.tmp 54) (.const (.int .i64 0)) 3) 4), some (51, false), []⟩, ⟨some 56, .pick (.tmp 51) (.const (.bool true)) (.tmp 55), none, []⟩] false) (.cond (.tmp 56) (.seq (.region [⟨none, .store 1 (.tmp 2) (.const (.bool false)), none, []⟩] false) .ret) .skip)) (.seq (.region [⟨some 57, .load 1 false (.tmp 4), none, [1]⟩, ⟨some 58, .load 4 true (.tmp 5), none, [0]⟩, ⟨none, .mupd 29 (.tmp 57) (.tmp 58) (.const (.int .i64 1)), none, []⟩] false) (.region [⟨some 59, .load 1 false (.tmp 3), none, [1, 2]⟩, ⟨some 60, .load 4 true (.tmp 5), none, [0]⟩, ⟨some 61, .bsl 29 4 (.agg #[(.int .u8 0), (.int .u32 0), (.int .u8 0), (.int .i64 0)]) 1 [(0, 4, (.tmp 60))], none, [0]⟩, ⟨some 62, .app 29 4 24 (.agg #[(.int .u8 0), (.int .u32 0), (.int .u8 0), (.int .i64 0)]) (.tmp 59) (.tmp 61), none, []⟩, ⟨none, .store 1 (.tmp 3) (.tmp 62), none, []⟩] false))))))))
structure OI (tm : List AV) (pre : List (Eid × Eid)) (O : Nat → Prop) (N : Mem) : Prop where
  wf : Wf N
  sz : 7 ≤ N.size
  g0 : N.get 0 = some (.row false [BL false])
  g1 : ∃ o, N.get 1 = some (.row false [o]) ∧ SlP N 4 isEid o (stk pre).reverse ∧ ∀ j, rowOf o = some j → O j ∧ 7 ≤ j
  g2 : ∃ obj, N.get 2 = some obj ∧ IsSet idA (I64 1) obj (pre.map (·.1))
  g3 : N.get 3 = some (.row false [.mp 2])
  g5 : N.get 5 = some (.dfr false)
  g6 : N.get 6 = some (.loop .ready none tm [12, 13] cO1 cO2 5)
  o1 : O 1
  o2 : O 2
  o6 : O 6
  ol : ∀ j, O j → j < N.size ∧ (j = 1 ∨ j = 2 ∨ 6 ≤ j)
  od : Ord pre
theorem OI.keep {tm : List AV} {pre : List (Eid × Eid)} {O : Nat → Prop} {N N' : Mem} (h : OI tm pre O N) (wf : Wf N') (hs : N.size ≤ N'.size) (k : ∀ j, j < N.size → N'.get j = N.get j) : OI tm pre O N' := by
  have := h.sz
  obtain ⟨o, h1, h2, h3⟩ := h.g1
  obtain ⟨obj, h4, h5⟩ := h.g2
  exact ⟨wf, by omega, (k 0 (by omega)).trans h.g0, ⟨o, (k 1 (by omega)).trans h1, h2.keep fun j hj => k j (h2.lt j hj), h3⟩, ⟨obj, (k 2 (by omega)).trans h4, h5⟩, (k 3 (by omega)).trans h.g3, (k 5 (by omega)).trans h.g5, (k 6 (by omega)).trans h.g6, h.o1, h.o2, h.o6, fun j hj => ⟨by have := (h.ol j hj).1; omega, (h.ol j hj).2⟩, h.od⟩
structure OS (tm : List AV) (N : Mem) : Prop where
  wf : Wf N
  sz : 7 ≤ N.size
  g0 : N.get 0 = some (.row false [BL false])
  g5 : N.get 5 = some (.dfr false)
  g6 : N.get 6 = some (.loop .done (some .ret) tm [12, 13] cO1 cO2 5)
theorem isEid_fz : FzT isEid := fun r x h y hy => by
  obtain ⟨rfl, _⟩ := h
  exact fz_idR x y hy
theorem popT_len (af : Eid) : ∀ (s : List Eid) (el : Eid), (popT af s el).2.length ≤ s.length
  | [], _ => Nat.le_refl _
  | t :: s, el => by
    rw [popT]
    split
    · exact Nat.le_refl _
    · exact Nat.le_trans (popT_len af s t) (Nat.le_succ _)
theorem stk_len (l : List (Eid × Eid)) : (stk l).length ≤ l.length := by
  refine snoc_ind (P := fun l => (stk l).length ≤ l.length) (Nat.le_refl _) (fun l x ih => ?_) l
  rw [stk_snoc, List.length_cons, List.length_append]
  have := popT_len x.2 (stk l) Eid.z
  simp only [List.length_singleton]
  omega
theorem z01 : decide ((0 : Int) < 1) = true := rfl
theorem z0lt : decide ((0 : Int) < 0) = false := rfl
set_option maxHeartbeats 16000000 in
theorem oyield {B : Nat} {tm : List AV} {pre : List (Eid × Eid)} {O : Nat → Prop} {x : Eid × Eid} (h : OI tm pre O M) (h2 : nth undefA tm 2 = .ptr 0 0) (h3' : nth undefA tm 3 = .ptr 1 0) (h4' : nth undefA tm 4 = .ptr 3 0) (hlen : tm.length = 63) (hx : x.1.ok) (hn : pre.length ≤ 100000) (hf : pre.length + 10 < fuel) :
    W3 (callN Try.prog (fsT tbl) fuel (d + 7) (.yl 6) [idA x.1, idA x.2] M) (fun v N' => (v = BL true ∧ Yl (OI tm) (pre ++ [x]) O B M N') ∨ (v = BL false ∧ OS tm N' ∧ ordS x (stk pre) (pre.map (·.1)) = false)) := by
  obtain ⟨o, g1, sp, ro⟩ := h.g1
  obtain ⟨obj, gm2, hset⟩ := h.g2
  have wf := h.wf
  have sz := h.sz
  have hsl := stk_len pre
  have g0 := h.g0
  have g3 := h.g3
  have g6 := h.g6
  have oo := sp.one
  refine call_ylE g6 rfl ?_
  have e1 : setAll tm [12, 13] [idA x.1, idA x.2] = St tm [(13, idA x.2), (12, idA x.1)] := rfl
  rw [e1]
  unfold cO1 cO2
  simp (maxSteps := 2000000) (disch := first | omega | assumption | (simp only [DS, Nat.reduceAdd, *]; done) | (simp only [DZ]; omega)) only [RUN, RU, zD, zC, zB, zE, zG, slot, lay, zH, zF, zA, kR, reduceIte, Nat.reduceEqDiff, Nat.reduceBEq, Nat.reduceLT, Nat.reduceAdd, Nat.reduceLeDiff, Nat.reduceSub, Nat.reduceMul, Int.reduceLT, Int.reduceLE, Int.reduceEq, Int.reduceAdd, Int.reduceSub, Int.reduceMul, h2, h3', h4', wf]
  refine ⟨tm, [12, 13], _, _, 5, g6, ?_⟩
  generalize hX : ((((((M.add _).upd M.size _).add _).upd (M.size + 1) _).upd 6 _).add _) = X
  have wX : Wf X := by rw [← hX]; exact ((((((wf.add _).upd _ _).add _).upd _ _).upd _ _).add _)
  have sX : X.size = M.size + 1 + 1 + 1 := by rw [← hX]; rfl
  have gX : ∀ j, j < M.size → j ≠ 6 → X.get j = M.get j := fun j a b => by
    rw [← hX, get_add (((((wf.add _).upd _ _).add _).upd _ _).upd _ _) _ _ (by simp only [upd_size, add_size]; omega), get_upd_ne ((((wf.add _).upd _ _).add _).upd _ _) _ _ _ (fun e => b e.symm), get_upd_ne (((wf.add _).upd _ _).add _) _ _ _ (by omega), get_add ((wf.add _).upd _ _) _ _ (by simp only [upd_size, add_size]; omega), get_upd_ne (wf.add _) _ _ _ (by omega), get_add wf _ _ a]
  have x6 : X.get 6 = some (.loop .busy none tm [12, 13] cO1 cO2 5) := by
    rw [← hX, get_add (((((wf.add _).upd _ _).add _).upd _ _).upd _ _) _ _ (by simp only [upd_size, add_size]; omega), get_upd_eq ((((wf.add _).upd _ _).add _).upd _ _) _ _ (by simp only [upd_size, add_size]; omega)]
  have xa : X.get M.size = some (.row false (idR x.1)) := by
    rw [← hX, get_add (((((wf.add _).upd _ _).add _).upd _ _).upd _ _) _ _ (by simp only [upd_size, add_size]; omega), get_upd_ne ((((wf.add _).upd _ _).add _).upd _ _) _ _ _ (by omega), get_upd_ne (((wf.add _).upd _ _).add _) _ _ _ (by omega), get_add ((wf.add _).upd _ _) _ _ (by simp only [upd_size, add_size]; omega), get_upd_eq (wf.add _) _ _ (by simp only [add_size]; omega)]
  have xb : X.get (M.size + 1) = some (.row false (idR x.2)) := by
    rw [← hX, get_add (((((wf.add _).upd _ _).add _).upd _ _).upd _ _) _ _ (by simp only [upd_size, add_size]; omega), get_upd_ne ((((wf.add _).upd _ _).add _).upd _ _) _ _ _ (by omega), get_upd_eq (((wf.add _).upd _ _).add _) _ _ (by simp only [upd_size, add_size]; omega)]
  have xc : X.get (M.size + 1 + 1) = some (.row false (idR Eid.z)) := by
    rw [← hX]
    exact get_add_new (((((wf.add _).upd _ _).add _).upd _ _).upd _ _) _ _ (by simp only [upd_size, add_size]; omega) (by simp only [upd_size, add_size]; omega)
  clear hX
  have spX : SlP X 4 isEid o (stk pre).reverse := sp.keep fun j hj => gX j (sp.lt j hj) (by have := ro j hj; omega)
  refine w_loop (I := fun n t N => ∃ (i : Nat) (o' : AV), n = (stk pre).length - i ∧ i ≤ (stk pre).length ∧ nth undefA t 2 = .ptr 0 0 ∧ nth undefA t 3 = .ptr 1 0 ∧ nth undefA t 4 = .ptr 3 0 ∧ nth undefA t 5 = .ptr M.size 0 ∧ nth undefA t 6 = .ptr (M.size + 1) 0 ∧ nth undefA t 7 = .ptr (M.size + 1 + 1) 0 ∧ Wf N ∧ X.size ≤ N.size ∧ (∀ j, j < M.size → j ≠ 1 → N.get j = X.get j) ∧ N.get 1 = some (.row false [o']) ∧ SlP N 4 isEid o' ((stk pre).drop i).reverse ∧ rowOf o' = rowOf o ∧ N.get M.size = some (.row false (idR x.1)) ∧ N.get (M.size + 1) = some (.row false (idR x.2)) ∧ N.get (M.size + 1 + 1) = some (.row false (idR (((stk pre).take i).getLast?.getD Eid.z))) ∧ (∀ t ∈ (stk pre).take i, t ≠ x.2)) (n := (stk pre).length) (by omega) ?_ ?_
  · refine ⟨0, o, rfl, Nat.zero_le _, ?_, ?_, ?_, ?_, ?_, ?_, wX, Nat.le_refl _, (fun _ _ _ => rfl), ((gX 1 (by omega) (by omega)).trans g1), (by rw [List.drop_zero]; exact spX), rfl, xa, xb, (by rw [List.take_zero]; exact xc), (fun t ht => absurd ht (by simp))⟩ <;> simp (maxSteps := 2000000) (disch := first | omega | assumption | (simp only [DS, Nat.reduceAdd, *]; done) | (simp only [DZ]; omega)) only [RUN, RU, zD, zC, zB, zE, zG, slot, lay, zH, zF, zA, kR, reduceIte, Nat.reduceEqDiff, Nat.reduceBEq, Nat.reduceLT, Nat.reduceAdd, Nat.reduceLeDiff, Nat.reduceSub, Nat.reduceMul, Int.reduceLT, Int.reduceLE, Int.reduceEq, Int.reduceAdd, Int.reduceSub, Int.reduceMul, h2, h3', h4']
    all_goals first | rfl | assumption | done
  · rintro n t N hlt ⟨i, o', rfl, hi, g2, g3, g4, g5, g6, g7, w, le, kk, c1, spN, ro', ca, cb, cc, hm⟩
    simp only [hlen] at hlt ⊢
    have olen := spN.len
    have oo' := spN.one
    rw [List.length_reverse, List.length_drop] at olen
    have l1 := Mem.get_lt c1
    have la := Mem.get_lt ca
    have lb := Mem.get_lt cb
    have lc := Mem.get_lt cc
    by_cases hc : i < (stk pre).length
    · have q1 : decide ((0 : Int) < ((stk pre).length - i : Nat)) = true := decide_eq_true (by omega)
      have hil : (stk pre).length - i - 1 < ((stk pre).drop i).reverse.length := by rw [List.length_reverse, List.length_drop]; omega
      obtain ⟨rid, cs, r, hrow, lrid, hgr, hiad, hr, hrl, hpt⟩ := spN.at hil
      have w1 : IntKind.i64.wrap (((stk pre).length - i : Nat) - 1) = ((stk pre).length - i - 1 : Nat) := by rw [wrap_i64] <;> omega
      obtain ⟨oc, hslc, spc, roc⟩ := spN.cut (by omega) (n := (stk pre).length - i - 1) (by omega)
      have hel : ((stk pre).drop i).reverse[(stk pre).length - i - 1] = (stk pre)[i] := by
        rw [List.getElem_reverse, List.getElem_drop]
        congr 1
        rw [List.length_drop]; omega
      rw [hel] at hr
      obtain ⟨rfl, hrok⟩ := hr
      simp (maxSteps := 2000000) (disch := first | omega | assumption | (simp only [DS, Nat.reduceAdd, *]; done) | (simp only [DZ]; omega)) only [RUN, RU, zD, zC, zB, zE, zG, slot, lay, zH, zF, zA, kR, reduceIte, Nat.reduceEqDiff, Nat.reduceBEq, Nat.reduceLT, Nat.reduceAdd, Nat.reduceLeDiff, Nat.reduceSub, Nat.reduceMul, Int.reduceLT, Int.reduceLE, Int.reduceEq, Int.reduceAdd, Int.reduceSub, Int.reduceMul, g2, g3, g4, g5, g6, g7, olen, q1, w1, c1, hiad, hgr, hpt, oo', ca, cb, cc, w, ↓pIdE, peIdE_val, ↓pIdN, peIdN_val, ↓pHdE, peHdE_val, ↓pHdN, peHdN_val, ↓pLbE, peLbE_val, ↓pLbN, peLbN_val, ↓pSpE, peSpE_val, ↓pSpN, peSpN_val, ETA]
      by_cases hte : (stk pre)[i] = x.2
      · have q2 : decide ((stk pre)[i] = x.2) = true := decide_eq_true hte
        have hpop := popT_eq (el := Eid.z) (q := (stk pre).drop i) hm (.inr ⟨(stk pre).drop (i + 1), by rw [List.drop_eq_getElem_cons hc, hte]⟩)
        rw [List.take_append_drop] at hpop
        have hne : decide (((((stk pre).length - i : Nat) : Int)) = 0) = false := decide_eq_false (by omega)
        have hqz : decide ((stk pre).drop i = []) = false := decide_eq_false (fun e => by have := congrArg List.length e; rw [List.length_drop] at this; simp at this; omega)
        simp (maxSteps := 2000000) (disch := first | omega | assumption | (simp only [DS, Nat.reduceAdd, *]; done) | (simp only [DZ]; omega)) only [RUN, RU, zD, zC, zB, zE, zG, slot, lay, zH, zF, zA, kR, reduceIte, Nat.reduceEqDiff, Nat.reduceBEq, Nat.reduceLT, Nat.reduceAdd, Nat.reduceLeDiff, Nat.reduceSub, Nat.reduceMul, Int.reduceLT, Int.reduceLE, Int.reduceEq, Int.reduceAdd, Int.reduceSub, Int.reduceMul, g2, g3, g4, g5, g6, g7, olen, q1, q2, c1, hiad, hgr, hpt, oo', ca, cb, cc, w, ↓pIdE, peIdE_val, ↓pIdN, peIdN_val, ↓pHdE, peHdE_val, ↓pHdN, peHdN_val, ↓pLbE, peLbE_val, ↓pLbN, peLbN_val, ↓pSpE, peSpE_val, ↓pSpN, peSpN_val, ETA]
        generalize hY : (N.add _).upd N.size _ = Y
        have wY : Wf Y := by rw [← hY]; exact (w.add _).upd _ _
        have lY : N.size ≤ Y.size := by rw [← hY, upd_size, add_size]; omega
        have kY : ∀ j, j < N.size → Y.get j = N.get j := fun j hj => by
          rw [← hY, get_upd_ne (w.add _) _ _ _ (by omega), get_add w _ _ hj]
        clear hY
        have y0 : Y.get 0 = some (.row false [BL false]) := (kY 0 (by omega)).trans ((kk 0 (by omega) (by omega)).trans ((gX 0 (by omega) (by omega)).trans h.g0))
        have y1 := (kY 1 (by omega)).trans c1
        have y2 := (kY 2 (by omega)).trans ((kk 2 (by omega) (by omega)).trans ((gX 2 (by omega) (by omega)).trans gm2))
        have y3 := (kY 3 (by omega)).trans ((kk 3 (by omega) (by omega)).trans ((gX 3 (by omega) (by omega)).trans h.g3))
        have y6 := (kY 6 (by omega)).trans ((kk 6 (by omega) (by omega)).trans x6)
        have ya := (kY _ (by omega)).trans ca
        have yb := (kY _ (by omega)).trans cb
        have yc := (kY _ (by omega)).trans cc
        have yj : ∀ j, j < M.size → j ≠ 1 → j ≠ 6 → Y.get j = M.get j := fun j a b c => (kY j (by omega)).trans ((kk j a b).trans (gX j a c))
        have spY : SlP Y 4 isEid o' ((stk pre).drop i).reverse := spN.keep fun j hj => kY j (spN.lt j hj)
        clear kY kk w c1 ca cb cc spN l1 la lb lc
        have l1 := Mem.get_lt y1
        have la := Mem.get_lt ya
        have lb := Mem.get_lt yb
        have lc := Mem.get_lt yc
        have l2 := Mem.get_lt y2
        have l3 := Mem.get_lt y3
        have l0 := Mem.get_lt y0
        have hlk := lk_set idKey (z := .int .i64 0) y2 hset x.1
        unfold ordS
        rw [hpop]
        simp only [hqz]
        have hql : ((stk pre).drop i).length ≤ pre.length := by rw [List.length_drop]; omega
        generalize (stk pre).drop i = q at *
        generalize ((stk pre).take i).getLast?.getD Eid.z = el at *
        have hls := fun M => @less_run fuel (d + 4) x.1 el M
        have c2 : True := trivial
        cases c3 : decide (el = Eid.z)
        · cases c4 : x.1.less el
          · rw [c4] at hls
            simp (maxSteps := 2000000) (disch := first | omega | assumption | (simp only [DS, Nat.reduceAdd, *]; done) | (simp only [DZ]; omega)) only [RUN, RU, zD, zC, zB, zE, zG, slot, lay, zH, zF, zA, kR, reduceIte, Nat.reduceEqDiff, Nat.reduceBEq, Nat.reduceLT, Nat.reduceAdd, Nat.reduceLeDiff, Nat.reduceSub, Nat.reduceMul, Int.reduceLT, Int.reduceLE, Int.reduceEq, Int.reduceAdd, Int.reduceSub, Int.reduceMul, g2, g3, g4, g5, g6, g7, hne, oo', y0, y1, y3, ya, yb, yc, wY, ↓pIdE, peIdE_val, ↓pIdN, peIdN_val, ↓pHdE, peHdE_val, ↓pHdN, peHdN_val, ↓pLbE, peLbE_val, ↓pLbN, peLbN_val, ↓pSpE, peSpE_val, ↓pSpN, peSpN_val, ETA, c2, c3, hls]
            have os : OS tm ((Y.upd 0 (.row false [BL false])).upd 6 (.loop .done (some .ret) tm [12, 13] cO1 cO2 5)) := by
              refine ⟨(wY.upd _ _).upd _ _, by simp only [upd_size]; omega, ?_, ?_, ?_⟩
              · rw [get_upd_ne (wY.upd _ _) _ _ _ (by omega)]
                exact get_upd_eq wY _ _ l0
              · rw [get_upd_ne (wY.upd _ _) _ _ _ (by omega), get_upd_ne wY _ _ _ (by omega)]
                exact (yj 5 (by omega) (by omega) (by omega)).trans h.g5
              · exact get_upd_eq (wY.upd _ _) _ _ (by simp only [upd_size]; omega)
            refine ⟨_, _, _, _, _, _, _, y6, .inr (.inr ?_)⟩
            first
            | exact os
            | exact ⟨os, by simp [*]⟩
          · rw [c4] at hls
            by_cases c5 : x.1 ∈ pre.map (·.1)
            · simp only [c5, if_true] at hlk
              simp (maxSteps := 2000000) (disch := first | omega | assumption | (simp only [DS, Nat.reduceAdd, *]; done) | (simp only [DZ]; omega)) only [RUN, RU, zD, zC, zB, zE, zG, slot, lay, zH, zF, zA, kR, reduceIte, Nat.reduceEqDiff, Nat.reduceBEq, Nat.reduceLT, Nat.reduceAdd, Nat.reduceLeDiff, Nat.reduceSub, Nat.reduceMul, Int.reduceLT, Int.reduceLE, Int.reduceEq, Int.reduceAdd, Int.reduceSub, Int.reduceMul, g2, g3, g4, g5, g6, g7, hne, oo', y0, y1, y3, ya, yb, yc, wY, ↓pIdE, peIdE_val, ↓pIdN, peIdN_val, ↓pHdE, peHdE_val, ↓pHdN, peHdN_val, ↓pLbE, peLbE_val, ↓pLbN, peLbN_val, ↓pSpE, peSpE_val, ↓pSpN, peSpN_val, ETA, c2, c3, hls, x_lk, hlk, z01, z0lt]
              have os : OS tm ((Y.upd 0 (.row false [BL false])).upd 6 (.loop .done (some .ret) tm [12, 13] cO1 cO2 5)) := by
                refine ⟨(wY.upd _ _).upd _ _, by simp only [upd_size]; omega, ?_, ?_, ?_⟩
                · rw [get_upd_ne (wY.upd _ _) _ _ _ (by omega)]
                  exact get_upd_eq wY _ _ l0
                · rw [get_upd_ne (wY.upd _ _) _ _ _ (by omega), get_upd_ne wY _ _ _ (by omega)]
                  exact (yj 5 (by omega) (by omega) (by omega)).trans h.g5
                · exact get_upd_eq (wY.upd _ _) _ _ (by simp only [upd_size]; omega)
              refine ⟨_, _, _, _, _, _, _, y6, .inr (.inr ?_)⟩
              first
              | exact os
              | exact ⟨os, by simp [*]⟩
            · simp only [c5, if_false] at hlk
              simp (maxSteps := 2000000) (disch := first | omega | assumption | (simp only [DS, Nat.reduceAdd, *]; done) | (simp only [DZ]; omega)) only [RUN, RU, zD, zC, zB, zE, zG, slot, lay, zH, zF, zA, kR, reduceIte, Nat.reduceEqDiff, Nat.reduceBEq, Nat.reduceLT, Nat.reduceAdd, Nat.reduceLeDiff, Nat.reduceSub, Nat.reduceMul, Int.reduceLT, Int.reduceLE, Int.reduceEq, Int.reduceAdd, Int.reduceSub, Int.reduceMul, g2, g3, g4, g5, g6, g7, hne, oo', y0, y1, y3, ya, yb, yc, wY, ↓pIdE, peIdE_val, ↓pIdN, peIdN_val, ↓pHdE, peHdE_val, ↓pHdN, peHdN_val, ↓pLbE, peLbE_val, ↓pLbN, peLbN_val, ↓pSpE, peSpE_val, ↓pSpN, peSpN_val, ETA, c2, c3, hls, x_lk, hlk, z01, z0lt, x_mu]
              refine mu_set idKey wY l2 y2 hset x.1 fun obj' hset' => ?_
              simp only [c5, if_false] at hset'
              simp (maxSteps := 2000000) (disch := first | omega | assumption | (simp only [DS, Nat.reduceAdd, *]; done) | (simp only [DZ]; omega)) only [RUN, RU, zD, zC, zB, zE, zG, slot, lay, zH, zF, zA, kR, reduceIte, Nat.reduceEqDiff, Nat.reduceBEq, Nat.reduceLT, Nat.reduceAdd, Nat.reduceLeDiff, Nat.reduceSub, Nat.reduceMul, Int.reduceLT, Int.reduceLE, Int.reduceEq, Int.reduceAdd, Int.reduceSub, Int.reduceMul, g2, g3, g4, g5, g6, g7, oo', y1, y3, ya, yb, yc, wY]
              refine ⟨spY.rows (by omega), SlP.app1 (bytes := 24) (x := x.1) (wY.upd 2 obj') (spY.keep fun j hj => get_upd_ne wY _ _ _ (by have := (ro j (ro' ▸ hj)).2; omega)) isEid_fz ⟨rfl, hx⟩ rfl (by omega) (by rw [List.length_reverse]; omega) (by rw [List.length_reverse]; omega) fun o2 M2 sp2 w2 le2 kp2 nw2 rl2 on2 oc2 => ?_⟩
              rw [upd_size] at le2 kp2 nw2
              have hS : ordS x (stk pre) (pre.map (·.1)) = true := by
                unfold ordS
                rw [hpop]
                simp [*]
              have hst : (stk (pre ++ [x])).reverse = q.reverse ++ [x.1] := by rw [stk_snoc, hpop, List.reverse_cons]
              have ro2 : ∀ j, rowOf o' = some j → O j ∧ 7 ≤ j := fun j hj => ro j (ro' ▸ hj)
              have k2 : ∀ j, j < M.size → j ≠ 1 → j ≠ 2 → j ≠ 6 → rowOf o' ≠ some j → M2.get j = M.get j := fun j a b c e f => by
                rw [kp2 j (by omega) f, get_upd_ne wY _ _ _ (fun e => c e.symm)]
                exact yj j a b e
              have m6 : M2.get 6 = some (.loop .busy none tm [12, 13] cO1 cO2 5) := by
                rw [kp2 6 (by omega) (fun e => by have := (ro2 6 e).2; omega), get_upd_ne wY _ _ _ (by omega)]
                exact y6
              have m2 : M2.get 2 = some obj' := by
                rw [kp2 2 (by omega) (fun e => by have := (ro2 2 e).2; omega)]
                exact get_upd_eq wY _ _ l2
              have m1 : 1 < M2.size := by omega
              have n1 : M2.get 1 = some (.row false [o']) := by
                rw [kp2 1 (by omega) (fun e => by have := (ro2 1 e).2; omega), get_upd_ne wY _ _ _ (by omega)]
                exact y1
              simp (maxSteps := 2000000) (disch := first | omega | assumption | (simp only [DS, Nat.reduceAdd, *]; done) | (simp only [DZ]; omega)) only [RUN, RU, zD, zC, zB, zE, zG, slot, lay, zH, zF, zA, kR, reduceIte, Nat.reduceEqDiff, Nat.reduceBEq, Nat.reduceLT, Nat.reduceAdd, Nat.reduceLeDiff, Nat.reduceSub, Nat.reduceMul, Int.reduceLT, Int.reduceLE, Int.reduceEq, Int.reduceAdd, Int.reduceSub, Int.reduceMul, g2, g3, g4, g5, g6, g7, on2, oc2, rl2, w2, m6, n1]
              have yl : Yl (OI tm) (pre ++ [x]) O B M ((M2.upd 1 (.row false [o2])).upd 6 (.loop .ready none tm [12, 13] cO1 cO2 5)) := by
                have wZ := w2.upd 1 (.row false [o2])
                have zk : ∀ j, j ≠ 1 → j ≠ 6 → ((M2.upd 1 (.row false [o2])).upd 6 (.loop .ready none tm [12, 13] cO1 cO2 5)).get j = M2.get j := fun j a b => by
                  rw [get_upd_ne wZ _ _ _ (fun e => b e.symm), get_upd_ne w2 _ _ _ (fun e => a e.symm)]
                have nro : ∀ j, j < 7 → rowOf o' ≠ some j := fun j hj e => by have := (ro2 j e).2; omega
                have no2 : ∀ j, rowOf o2 = some j → 7 ≤ j ∧ (O j ∨ M.size ≤ j) := fun j hj => by
                  rcases nw2 j hj with e | e
                  · exact ⟨(ro2 j e).2, .inl (ro2 j e).1⟩
                  · exact ⟨by omega, .inr (by omega)⟩
                refine ⟨⟨fun j => O j ∨ rowOf o2 = some j, ⟨wZ.upd _ _, by simp only [upd_size]; omega, ?_, ⟨o2, ?_, ?_, fun j hj => ⟨.inr hj, (no2 j hj).1⟩⟩, ⟨obj', ?_, ?_⟩, ?_, ?_, ?_, .inl h.o1, .inl h.o2, .inl h.o6, ?_, h.od.snoc hS⟩, ?_⟩, wZ.upd _ _, by simp only [upd_size]; omega, ?_⟩
                · rw [zk 0 (by omega) (by omega), k2 0 (by omega) (by omega) (by omega) (by omega) (nro 0 (by omega))]; exact h.g0
                · rw [get_upd_ne wZ _ _ _ (by omega)]; exact get_upd_eq w2 _ _ m1
                · rw [hst]
                  exact sp2.keep fun j hj => zk j (by have := (no2 j hj).1; omega) (by have := (no2 j hj).1; omega)
                · rw [zk 2 (by omega) (by omega)]; exact m2
                · rw [List.map_append]; exact hset'
                · rw [zk 3 (by omega) (by omega), k2 3 (by omega) (by omega) (by omega) (by omega) (nro 3 (by omega))]; exact h.g3
                · rw [zk 5 (by omega) (by omega), k2 5 (by omega) (by omega) (by omega) (by omega) (nro 5 (by omega))]; exact h.g5
                · exact get_upd_eq wZ _ _ (by simp only [upd_size]; omega)
                · intro j hj
                  simp only [upd_size]
                  rcases hj with hj | hj
                  · exact ⟨by have := (h.ol j hj).1; omega, (h.ol j hj).2⟩
                  · exact ⟨sp2.lt j hj, .inr (.inr (by have := (no2 j hj).1; omega))⟩
                · rintro j (hj | hj)
                  · exact .inl hj
                  · exact (no2 j hj).2
                · intro j hj hO
                  have h1 : j ≠ 1 := fun e => hO (e ▸ h.o1)
                  have h2 : j ≠ 2 := fun e => hO (e ▸ h.o2)
                  have h6 : j ≠ 6 := fun e => hO (e ▸ h.o6)
                  rw [zk j h1 h6]
                  exact k2 j hj h1 h2 h6 fun e => hO (ro2 j e).1
              exact ⟨_, _, _, _, _, _, _, rfl, .inl (.inl yl)⟩
        · skip
          by_cases c5 : x.1 ∈ pre.map (·.1)
          · simp only [c5, if_true] at hlk
            simp (maxSteps := 2000000) (disch := first | omega | assumption | (simp only [DS, Nat.reduceAdd, *]; done) | (simp only [DZ]; omega)) only [RUN, RU, zD, zC, zB, zE, zG, slot, lay, zH, zF, zA, kR, reduceIte, Nat.reduceEqDiff, Nat.reduceBEq, Nat.reduceLT, Nat.reduceAdd, Nat.reduceLeDiff, Nat.reduceSub, Nat.reduceMul, Int.reduceLT, Int.reduceLE, Int.reduceEq, Int.reduceAdd, Int.reduceSub, Int.reduceMul, g2, g3, g4, g5, g6, g7, hne, oo', y0, y1, y3, ya, yb, yc, wY, ↓pIdE, peIdE_val, ↓pIdN, peIdN_val, ↓pHdE, peHdE_val, ↓pHdN, peHdN_val, ↓pLbE, peLbE_val, ↓pLbN, peLbN_val, ↓pSpE, peSpE_val, ↓pSpN, peSpN_val, ETA, c2, c3, hls, x_lk, hlk, z01, z0lt]
            have os : OS tm ((Y.upd 0 (.row false [BL false])).upd 6 (.loop .done (some .ret) tm [12, 13] cO1 cO2 5)) := by
              refine ⟨(wY.upd _ _).upd _ _, by simp only [upd_size]; omega, ?_, ?_, ?_⟩
              · rw [get_upd_ne (wY.upd _ _) _ _ _ (by omega)]
                exact get_upd_eq wY _ _ l0
              · rw [get_upd_ne (wY.upd _ _) _ _ _ (by omega), get_upd_ne wY _ _ _ (by omega)]
                exact (yj 5 (by omega) (by omega) (by omega)).trans h.g5
              · exact get_upd_eq (wY.upd _ _) _ _ (by simp only [upd_size]; omega)
            refine ⟨_, _, _, _, _, _, _, y6, .inr (.inr ?_)⟩
            first
            | exact os
            | exact ⟨os, by simp [*]⟩
          · simp only [c5, if_false] at hlk
            simp (maxSteps := 2000000) (disch := first | omega | assumption | (simp only [DS, Nat.reduceAdd, *]; done) | (simp only [DZ]; omega)) only [RUN, RU, zD, zC, zB, zE, zG, slot, lay, zH, zF, zA, kR, reduceIte, Nat.reduceEqDiff, Nat.reduceBEq, Nat.reduceLT, Nat.reduceAdd, Nat.reduceLeDiff, Nat.reduceSub, Nat.reduceMul, Int.reduceLT, Int.reduceLE, Int.reduceEq, Int.reduceAdd, Int.reduceSub, Int.reduceMul, g2, g3, g4, g5, g6, g7, hne, oo', y0, y1, y3, ya, yb, yc, wY, ↓pIdE, peIdE_val, ↓pIdN, peIdN_val, ↓pHdE, peHdE_val, ↓pHdN, peHdN_val, ↓pLbE, peLbE_val, ↓pLbN, peLbN_val, ↓pSpE, peSpE_val, ↓pSpN, peSpN_val, ETA, c2, c3, hls, x_lk, hlk, z01, z0lt, x_mu]
            refine mu_set idKey wY l2 y2 hset x.1 fun obj' hset' => ?_
            simp only [c5, if_false] at hset'
            simp (maxSteps := 2000000) (disch := first | omega | assumption | (simp only [DS, Nat.reduceAdd, *]; done) | (simp only [DZ]; omega)) only [RUN, RU, zD, zC, zB, zE, zG, slot, lay, zH, zF, zA, kR, reduceIte, Nat.reduceEqDiff, Nat.reduceBEq, Nat.reduceLT, Nat.reduceAdd, Nat.reduceLeDiff, Nat.reduceSub, Nat.reduceMul, Int.reduceLT, Int.reduceLE, Int.reduceEq, Int.reduceAdd, Int.reduceSub, Int.reduceMul, g2, g3, g4, g5, g6, g7, oo', y1, y3, ya, yb, yc, wY]
            refine ⟨spY.rows (by omega), SlP.app1 (bytes := 24) (x := x.1) (wY.upd 2 obj') (spY.keep fun j hj => get_upd_ne wY _ _ _ (by have := (ro j (ro' ▸ hj)).2; omega)) isEid_fz ⟨rfl, hx⟩ rfl (by omega) (by rw [List.length_reverse]; omega) (by rw [List.length_reverse]; omega) fun o2 M2 sp2 w2 le2 kp2 nw2 rl2 on2 oc2 => ?_⟩
            rw [upd_size] at le2 kp2 nw2
            have hS : ordS x (stk pre) (pre.map (·.1)) = true := by
              unfold ordS
              rw [hpop]
              simp [*]
            have hst : (stk (pre ++ [x])).reverse = q.reverse ++ [x.1] := by rw [stk_snoc, hpop, List.reverse_cons]
            have ro2 : ∀ j, rowOf o' = some j → O j ∧ 7 ≤ j := fun j hj => ro j (ro' ▸ hj)
            have k2 : ∀ j, j < M.size → j ≠ 1 → j ≠ 2 → j ≠ 6 → rowOf o' ≠ some j → M2.get j = M.get j := fun j a b c e f => by
              rw [kp2 j (by omega) f, get_upd_ne wY _ _ _ (fun e => c e.symm)]
              exact yj j a b e
            have m6 : M2.get 6 = some (.loop .busy none tm [12, 13] cO1 cO2 5) := by
              rw [kp2 6 (by omega) (fun e => by have := (ro2 6 e).2; omega), get_upd_ne wY _ _ _ (by omega)]
              exact y6
            have m2 : M2.get 2 = some obj' := by
              rw [kp2 2 (by omega) (fun e => by have := (ro2 2 e).2; omega)]
              exact get_upd_eq wY _ _ l2
            have m1 : 1 < M2.size := by omega
            have n1 : M2.get 1 = some (.row false [o']) := by
              rw [kp2 1 (by omega) (fun e => by have := (ro2 1 e).2; omega), get_upd_ne wY _ _ _ (by omega)]
              exact y1
            simp (maxSteps := 2000000) (disch := first | omega | assumption | (simp only [DS, Nat.reduceAdd, *]; done) | (simp only [DZ]; omega)) only [RUN, RU, zD, zC, zB, zE, zG, slot, lay, zH, zF, zA, kR, reduceIte, Nat.reduceEqDiff, Nat.reduceBEq, Nat.reduceLT, Nat.reduceAdd, Nat.reduceLeDiff, Nat.reduceSub, Nat.reduceMul, Int.reduceLT, Int.reduceLE, Int.reduceEq, Int.reduceAdd, Int.reduceSub, Int.reduceMul, g2, g3, g4, g5, g6, g7, on2, oc2, rl2, w2, m6, n1]
            have yl : Yl (OI tm) (pre ++ [x]) O B M ((M2.upd 1 (.row false [o2])).upd 6 (.loop .ready none tm [12, 13] cO1 cO2 5)) := by
              have wZ := w2.upd 1 (.row false [o2])
              have zk : ∀ j, j ≠ 1 → j ≠ 6 → ((M2.upd 1 (.row false [o2])).upd 6 (.loop .ready none tm [12, 13] cO1 cO2 5)).get j = M2.get j := fun j a b => by
                rw [get_upd_ne wZ _ _ _ (fun e => b e.symm), get_upd_ne w2 _ _ _ (fun e => a e.symm)]
              have nro : ∀ j, j < 7 → rowOf o' ≠ some j := fun j hj e => by have := (ro2 j e).2; omega
              have no2 : ∀ j, rowOf o2 = some j → 7 ≤ j ∧ (O j ∨ M.size ≤ j) := fun j hj => by
                rcases nw2 j hj with e | e
                · exact ⟨(ro2 j e).2, .inl (ro2 j e).1⟩
                · exact ⟨by omega, .inr (by omega)⟩
              refine ⟨⟨fun j => O j ∨ rowOf o2 = some j, ⟨wZ.upd _ _, by simp only [upd_size]; omega, ?_, ⟨o2, ?_, ?_, fun j hj => ⟨.inr hj, (no2 j hj).1⟩⟩, ⟨obj', ?_, ?_⟩, ?_, ?_, ?_, .inl h.o1, .inl h.o2, .inl h.o6, ?_, h.od.snoc hS⟩, ?_⟩, wZ.upd _ _, by simp only [upd_size]; omega, ?_⟩
              · rw [zk 0 (by omega) (by omega), k2 0 (by omega) (by omega) (by omega) (by omega) (nro 0 (by omega))]; exact h.g0
              · rw [get_upd_ne wZ _ _ _ (by omega)]; exact get_upd_eq w2 _ _ m1
              · rw [hst]
                exact sp2.keep fun j hj => zk j (by have := (no2 j hj).1; omega) (by have := (no2 j hj).1; omega)
              · rw [zk 2 (by omega) (by omega)]; exact m2
              · rw [List.map_append]; exact hset'
              · rw [zk 3 (by omega) (by omega), k2 3 (by omega) (by omega) (by omega) (by omega) (nro 3 (by omega))]; exact h.g3
              · rw [zk 5 (by omega) (by omega), k2 5 (by omega) (by omega) (by omega) (by omega) (nro 5 (by omega))]; exact h.g5
              · exact get_upd_eq wZ _ _ (by simp only [upd_size]; omega)
              · intro j hj
                simp only [upd_size]
                rcases hj with hj | hj
                · exact ⟨by have := (h.ol j hj).1; omega, (h.ol j hj).2⟩
                · exact ⟨sp2.lt j hj, .inr (.inr (by have := (no2 j hj).1; omega))⟩
              · rintro j (hj | hj)
                · exact .inl hj
                · exact (no2 j hj).2
              · intro j hj hO
                have h1 : j ≠ 1 := fun e => hO (e ▸ h.o1)
                have h2 : j ≠ 2 := fun e => hO (e ▸ h.o2)
                have h6 : j ≠ 6 := fun e => hO (e ▸ h.o6)
                rw [zk j h1 h6]
                exact k2 j hj h1 h2 h6 fun e => hO (ro2 j e).1
            exact ⟨_, _, _, _, _, _, _, rfl, .inl (.inl yl)⟩
      · have q2 : decide ((stk pre)[i] = x.2) = false := decide_eq_false hte
        simp (maxSteps := 2000000) (disch := first | omega | assumption | (simp only [DS, Nat.reduceAdd, *]; done) | (simp only [DZ]; omega)) only [RUN, RU, zD, zC, zB, zE, zG, slot, lay, zH, zF, zA, kR, reduceIte, Nat.reduceEqDiff, Nat.reduceBEq, Nat.reduceLT, Nat.reduceAdd, Nat.reduceLeDiff, Nat.reduceSub, Nat.reduceMul, Int.reduceLT, Int.reduceLE, Int.reduceEq, Int.reduceAdd, Int.reduceSub, Int.reduceMul, g2, g3, g4, g5, g6, g7, olen, q1, q2, w1, c1, hiad, hgr, hpt, oo', ca, cb, cc, w, ↓pIdE, peIdE_val, ↓pIdN, peIdN_val, ↓pHdE, peHdE_val, ↓pHdN, peHdN_val, ↓pLbE, peLbE_val, ↓pLbN, peLbN_val, ↓pSpE, peSpE_val, ↓pSpN, peSpN_val, ETA]
        refine ⟨spN.rows (by omega), ?_⟩
        rw [hslc _ (fun id hid => by
          have := spN.lt id hid
          rw [get_upd_ne (w.add _) _ _ _ (by omega), get_add w _ _ this])]
        have oco := spc.one
        have occ := spc.cells
        have ocr := fun m hm => spc.rows (m := m) hm
        simp (maxSteps := 2000000) (disch := first | omega | assumption | (simp only [DS, Nat.reduceAdd, *]; done) | (simp only [DZ]; omega)) only [RUN, RU, zD, zC, zB, zE, zG, slot, lay, zH, zF, zA, kR, reduceIte, Nat.reduceEqDiff, Nat.reduceBEq, Nat.reduceLT, Nat.reduceAdd, Nat.reduceLeDiff, Nat.reduceSub, Nat.reduceMul, Int.reduceLT, Int.reduceLE, Int.reduceEq, Int.reduceAdd, Int.reduceSub, Int.reduceMul, g2, g3, g4, g5, g6, g7, oco, occ, ocr, c1, ca, cb, cc, w]
        have ror := spN.row1 hrow
        have rid7 : 7 ≤ rid ∧ rid < M.size := by
          have e : rowOf o = some rid := ro' ▸ hrow
          exact ⟨(ro rid e).2, sp.lt rid e⟩
        refine ⟨?_, hlt, (stk pre).length - (i + 1), by omega, i + 1, oc, rfl, by omega, by omega, fun j a b => ?_, rfl, ?_, roc.trans ro', ?_, ?_⟩
        · have e1 : ¬(M.size + 1 + 1 = 1) := by omega
          have e2 : ¬(M.size + 1 + 1 = rid) := by omega
          rw [ror]
          simp [FP.apart, disj, FP.reads, FP.writes, fpOf, e1, e2]
        · rw [get_upd_ne (((w.add _).upd _ _).upd _ _) _ _ _ (by omega), get_upd_ne ((w.add _).upd _ _) _ _ _ (by omega), get_upd_ne (w.add _) _ _ _ (by omega), get_add w _ _ (by omega)]
          exact kk j a b
        · have e : ((stk pre).drop i).reverse.take ((stk pre).length - i - 1) = ((stk pre).drop (i + 1)).reverse := by
            rw [List.take_reverse, List.drop_drop, List.length_drop]
            congr 2
            omega
          rw [← e]
          refine spc.keep fun j hj => ?_
          rw [roc, hrow] at hj
          injection hj with hj
          subst hj
          rw [get_upd_ne (((w.add _).upd _ _).upd _ _) _ _ _ (by omega), get_upd_ne ((w.add _).upd _ _) _ _ _ (by omega), get_upd_ne (w.add _) _ _ _ (by omega), get_add w _ _ (by omega)]
        · have e : ((stk pre).take (i + 1)).getLast?.getD Eid.z = (stk pre)[i] := by
            rw [take_snocT _ _ hc, List.getLast?_concat]; rfl
          rw [e]
        · intro t ht
          rw [take_snocT _ _ hc] at ht
          rcases List.mem_append.1 ht with ht | ht
          · exact hm t ht
          · rw [List.mem_singleton] at ht; subst ht; exact hte
    · obtain rfl : i = (stk pre).length := by omega
      have q1 : decide ((0 : Int) < ((stk pre).length - (stk pre).length : Nat)) = false := decide_eq_false (by omega)
      have hne : decide (((((stk pre).length - (stk pre).length : Nat) : Int)) = 0) = true := decide_eq_true (by omega)
      have hqz : decide ((stk pre).drop (stk pre).length = []) = true := decide_eq_true (List.drop_length)
      have hpop := popT_eq (el := Eid.z) (q := (stk pre).drop (stk pre).length) hm (.inl List.drop_length)
      rw [List.take_append_drop] at hpop
      simp (maxSteps := 2000000) (disch := first | omega | assumption | (simp only [DS, Nat.reduceAdd, *]; done) | (simp only [DZ]; omega)) only [RUN, RU, zD, zC, zB, zE, zG, slot, lay, zH, zF, zA, kR, reduceIte, Nat.reduceEqDiff, Nat.reduceBEq, Nat.reduceLT, Nat.reduceAdd, Nat.reduceLeDiff, Nat.reduceSub, Nat.reduceMul, Int.reduceLT, Int.reduceLE, Int.reduceEq, Int.reduceAdd, Int.reduceSub, Int.reduceMul, g2, g3, g4, g5, g6, g7, olen, q1, c1, oo', ca, cb, cc, w, ↓pIdE, peIdE_val, ↓pIdN, peIdN_val, ↓pHdE, peHdE_val, ↓pHdN, peHdN_val, ↓pLbE, peLbE_val, ↓pLbN, peLbN_val, ↓pSpE, peSpE_val, ↓pSpN, peSpN_val, ETA]
      obtain ⟨Y, hY⟩ : ∃ Y, Y = N := ⟨N, rfl⟩
      rw [← hY]
      have wY : Wf Y := by rw [hY]; exact w
      have lY : N.size ≤ Y.size := by rw [hY]; omega
      have kY : ∀ j, j < N.size → Y.get j = N.get j := fun j hj => by rw [hY]
      clear hY
      have y0 : Y.get 0 = some (.row false [BL false]) := (kY 0 (by omega)).trans ((kk 0 (by omega) (by omega)).trans ((gX 0 (by omega) (by omega)).trans h.g0))
      have y1 := (kY 1 (by omega)).trans c1
      have y2 := (kY 2 (by omega)).trans ((kk 2 (by omega) (by omega)).trans ((gX 2 (by omega) (by omega)).trans gm2))
      have y3 := (kY 3 (by omega)).trans ((kk 3 (by omega) (by omega)).trans ((gX 3 (by omega) (by omega)).trans h.g3))
      have y6 := (kY 6 (by omega)).trans ((kk 6 (by omega) (by omega)).trans x6)
      have ya := (kY _ (by omega)).trans ca
      have yb := (kY _ (by omega)).trans cb
      have yc := (kY _ (by omega)).trans cc
      have yj : ∀ j, j < M.size → j ≠ 1 → j ≠ 6 → Y.get j = M.get j := fun j a b c => (kY j (by omega)).trans ((kk j a b).trans (gX j a c))
      have spY : SlP Y 4 isEid o' ((stk pre).drop (stk pre).length).reverse := spN.keep fun j hj => kY j (spN.lt j hj)
      clear kY kk w c1 ca cb cc spN l1 la lb lc
      have l1 := Mem.get_lt y1
      have la := Mem.get_lt ya
      have lb := Mem.get_lt yb
      have lc := Mem.get_lt yc
      have l2 := Mem.get_lt y2
      have l3 := Mem.get_lt y3
      have l0 := Mem.get_lt y0
      have hlk := lk_set idKey (z := .int .i64 0) y2 hset x.1
      unfold ordS
      rw [hpop]
      simp only [hqz]
      have hql : ((stk pre).drop (stk pre).length).length ≤ pre.length := by rw [List.length_drop]; omega
      generalize (stk pre).drop (stk pre).length = q at *
      generalize ((stk pre).take (stk pre).length).getLast?.getD Eid.z = el at *
      have hls := fun M => @less_run fuel (d + 4) x.1 el M
      cases c2 : decide (x.2 = Eid.z)
      · simp (maxSteps := 2000000) (disch := first | omega | assumption | (simp only [DS, Nat.reduceAdd, *]; done) | (simp only [DZ]; omega)) only [RUN, RU, zD, zC, zB, zE, zG, slot, lay, zH, zF, zA, kR, reduceIte, Nat.reduceEqDiff, Nat.reduceBEq, Nat.reduceLT, Nat.reduceAdd, Nat.reduceLeDiff, Nat.reduceSub, Nat.reduceMul, Int.reduceLT, Int.reduceLE, Int.reduceEq, Int.reduceAdd, Int.reduceSub, Int.reduceMul, g2, g3, g4, g5, g6, g7, hne, oo', y0, y1, y3, ya, yb, yc, wY, ↓pIdE, peIdE_val, ↓pIdN, peIdN_val, ↓pHdE, peHdE_val, ↓pHdN, peHdN_val, ↓pLbE, peLbE_val, ↓pLbN, peLbN_val, ↓pSpE, peSpE_val, ↓pSpN, peSpN_val, ETA, c2]
        have os : OS tm ((Y.upd 0 (.row false [BL false])).upd 6 (.loop .done (some .ret) tm [12, 13] cO1 cO2 5)) := by
          refine ⟨(wY.upd _ _).upd _ _, by simp only [upd_size]; omega, ?_, ?_, ?_⟩
          · rw [get_upd_ne (wY.upd _ _) _ _ _ (by omega)]
            exact get_upd_eq wY _ _ l0
          · rw [get_upd_ne (wY.upd _ _) _ _ _ (by omega), get_upd_ne wY _ _ _ (by omega)]
            exact (yj 5 (by omega) (by omega) (by omega)).trans h.g5
          · exact get_upd_eq (wY.upd _ _) _ _ (by simp only [upd_size]; omega)
        refine ⟨_, _, _, _, _, _, _, y6, .inr (.inr ?_)⟩
        first
        | exact os
        | exact ⟨os, by simp [*]⟩
      · skip
        cases c3 : decide (el = Eid.z)
        · cases c4 : x.1.less el
          · rw [c4] at hls
            simp (maxSteps := 2000000) (disch := first | omega | assumption | (simp only [DS, Nat.reduceAdd, *]; done) | (simp only [DZ]; omega)) only [RUN, RU, zD, zC, zB, zE, zG, slot, lay, zH, zF, zA, kR, reduceIte, Nat.reduceEqDiff, Nat.reduceBEq, Nat.reduceLT, Nat.reduceAdd, Nat.reduceLeDiff, Nat.reduceSub, Nat.reduceMul, Int.reduceLT, Int.reduceLE, Int.reduceEq, Int.reduceAdd, Int.reduceSub, Int.reduceMul, g2, g3, g4, g5, g6, g7, hne, oo', y0, y1, y3, ya, yb, yc, wY, ↓pIdE, peIdE_val, ↓pIdN, peIdN_val, ↓pHdE, peHdE_val, ↓pHdN, peHdN_val, ↓pLbE, peLbE_val, ↓pLbN, peLbN_val, ↓pSpE, peSpE_val, ↓pSpN, peSpN_val, ETA, c2, c3, hls]
            have os : OS tm ((Y.upd 0 (.row false [BL false])).upd 6 (.loop .done (some .ret) tm [12, 13] cO1 cO2 5)) := by
              refine ⟨(wY.upd _ _).upd _ _, by simp only [upd_size]; omega, ?_, ?_, ?_⟩
              · rw [get_upd_ne (wY.upd _ _) _ _ _ (by omega)]
                exact get_upd_eq wY _ _ l0
              · rw [get_upd_ne (wY.upd _ _) _ _ _ (by omega), get_upd_ne wY _ _ _ (by omega)]
                exact (yj 5 (by omega) (by omega) (by omega)).trans h.g5
              · exact get_upd_eq (wY.upd _ _) _ _ (by simp only [upd_size]; omega)
            refine ⟨_, _, _, _, _, _, _, y6, .inr (.inr ?_)⟩
            first
            | exact os
            | exact ⟨os, by simp [*]⟩
          · rw [c4] at hls
            by_cases c5 : x.1 ∈ pre.map (·.1)
            · simp only [c5, if_true] at hlk
              simp (maxSteps := 2000000) (disch := first | omega | assumption | (simp only [DS, Nat.reduceAdd, *]; done) | (simp only [DZ]; omega)) only [RUN, RU, zD, zC, zB, zE, zG, slot, lay, zH, zF, zA, kR, reduceIte, Nat.reduceEqDiff, Nat.reduceBEq, Nat.reduceLT, Nat.reduceAdd, Nat.reduceLeDiff, Nat.reduceSub, Nat.reduceMul, Int.reduceLT, Int.reduceLE, Int.reduceEq, Int.reduceAdd, Int.reduceSub, Int.reduceMul, g2, g3, g4, g5, g6, g7, hne, oo', y0, y1, y3, ya, yb, yc, wY, ↓pIdE, peIdE_val, ↓pIdN, peIdN_val, ↓pHdE, peHdE_val, ↓pHdN, peHdN_val, ↓pLbE, peLbE_val, ↓pLbN, peLbN_val, ↓pSpE, peSpE_val, ↓pSpN, peSpN_val, ETA, c2, c3, hls, x_lk, hlk, z01, z0lt]
              have os : OS tm ((Y.upd 0 (.row false [BL false])).upd 6 (.loop .done (some .ret) tm [12, 13] cO1 cO2 5)) := by
                refine ⟨(wY.upd _ _).upd _ _, by simp only [upd_size]; omega, ?_, ?_, ?_⟩
                · rw [get_upd_ne (wY.upd _ _) _ _ _ (by omega)]
                  exact get_upd_eq wY _ _ l0
                · rw [get_upd_ne (wY.upd _ _) _ _ _ (by omega), get_upd_ne wY _ _ _ (by omega)]
                  exact (yj 5 (by omega) (by omega) (by omega)).trans h.g5
                · exact get_upd_eq (wY.upd _ _) _ _ (by simp only [upd_size]; omega)
              refine ⟨_, _, _, _, _, _, _, y6, .inr (.inr ?_)⟩
              first
              | exact os
              | exact ⟨os, by simp [*]⟩
            · simp only [c5, if_false] at hlk
              simp (maxSteps := 2000000) (disch := first | omega | assumption | (simp only [DS, Nat.reduceAdd, *]; done) | (simp only [DZ]; omega)) only [RUN, RU, zD, zC, zB, zE, zG, slot, lay, zH, zF, zA, kR, reduceIte, Nat.reduceEqDiff, Nat.reduceBEq, Nat.reduceLT, Nat.reduceAdd, Nat.reduceLeDiff, Nat.reduceSub, Nat.reduceMul, Int.reduceLT, Int.reduceLE, Int.reduceEq, Int.reduceAdd, Int.reduceSub, Int.reduceMul, g2, g3, g4, g5, g6, g7, hne, oo', y0, y1, y3, ya, yb, yc, wY, ↓pIdE, peIdE_val, ↓pIdN, peIdN_val, ↓pHdE, peHdE_val, ↓pHdN, peHdN_val, ↓pLbE, peLbE_val, ↓pLbN, peLbN_val, ↓pSpE, peSpE_val, ↓pSpN, peSpN_val, ETA, c2, c3, hls, x_lk, hlk, z01, z0lt, x_mu]
              refine mu_set idKey wY l2 y2 hset x.1 fun obj' hset' => ?_
              simp only [c5, if_false] at hset'
              simp (maxSteps := 2000000) (disch := first | omega | assumption | (simp only [DS, Nat.reduceAdd, *]; done) | (simp only [DZ]; omega)) only [RUN, RU, zD, zC, zB, zE, zG, slot, lay, zH, zF, zA, kR, reduceIte, Nat.reduceEqDiff, Nat.reduceBEq, Nat.reduceLT, Nat.reduceAdd, Nat.reduceLeDiff, Nat.reduceSub, Nat.reduceMul, Int.reduceLT, Int.reduceLE, Int.reduceEq, Int.reduceAdd, Int.reduceSub, Int.reduceMul, g2, g3, g4, g5, g6, g7, oo', y1, y3, ya, yb, yc, wY]
              refine ⟨spY.rows (by omega), SlP.app1 (bytes := 24) (x := x.1) (wY.upd 2 obj') (spY.keep fun j hj => get_upd_ne wY _ _ _ (by have := (ro j (ro' ▸ hj)).2; omega)) isEid_fz ⟨rfl, hx⟩ rfl (by omega) (by rw [List.length_reverse]; omega) (by rw [List.length_reverse]; omega) fun o2 M2 sp2 w2 le2 kp2 nw2 rl2 on2 oc2 => ?_⟩
              rw [upd_size] at le2 kp2 nw2
              have hS : ordS x (stk pre) (pre.map (·.1)) = true := by
                unfold ordS
                rw [hpop]
                simp [*]
              have hst : (stk (pre ++ [x])).reverse = q.reverse ++ [x.1] := by rw [stk_snoc, hpop, List.reverse_cons]
              have ro2 : ∀ j, rowOf o' = some j → O j ∧ 7 ≤ j := fun j hj => ro j (ro' ▸ hj)
              have k2 : ∀ j, j < M.size → j ≠ 1 → j ≠ 2 → j ≠ 6 → rowOf o' ≠ some j → M2.get j = M.get j := fun j a b c e f => by
                rw [kp2 j (by omega) f, get_upd_ne wY _ _ _ (fun e => c e.symm)]
                exact yj j a b e
              have m6 : M2.get 6 = some (.loop .busy none tm [12, 13] cO1 cO2 5) := by
                rw [kp2 6 (by omega) (fun e => by have := (ro2 6 e).2; omega), get_upd_ne wY _ _ _ (by omega)]
                exact y6
              have m2 : M2.get 2 = some obj' := by
                rw [kp2 2 (by omega) (fun e => by have := (ro2 2 e).2; omega)]
                exact get_upd_eq wY _ _ l2
              have m1 : 1 < M2.size := by omega
              have n1 : M2.get 1 = some (.row false [o']) := by
                rw [kp2 1 (by omega) (fun e => by have := (ro2 1 e).2; omega), get_upd_ne wY _ _ _ (by omega)]
                exact y1
              simp (maxSteps := 2000000) (disch := first | omega | assumption | (simp only [DS, Nat.reduceAdd, *]; done) | (simp only [DZ]; omega)) only [RUN, RU, zD, zC, zB, zE, zG, slot, lay, zH, zF, zA, kR, reduceIte, Nat.reduceEqDiff, Nat.reduceBEq, Nat.reduceLT, Nat.reduceAdd, Nat.reduceLeDiff, Nat.reduceSub, Nat.reduceMul, Int.reduceLT, Int.reduceLE, Int.reduceEq, Int.reduceAdd, Int.reduceSub, Int.reduceMul, g2, g3, g4, g5, g6, g7, on2, oc2, rl2, w2, m6, n1]
              have yl : Yl (OI tm) (pre ++ [x]) O B M ((M2.upd 1 (.row false [o2])).upd 6 (.loop .ready none tm [12, 13] cO1 cO2 5)) := by
                have wZ := w2.upd 1 (.row false [o2])
                have zk : ∀ j, j ≠ 1 → j ≠ 6 → ((M2.upd 1 (.row false [o2])).upd 6 (.loop .ready none tm [12, 13] cO1 cO2 5)).get j = M2.get j := fun j a b => by
                  rw [get_upd_ne wZ _ _ _ (fun e => b e.symm), get_upd_ne w2 _ _ _ (fun e => a e.symm)]
                have nro : ∀ j, j < 7 → rowOf o' ≠ some j := fun j hj e => by have := (ro2 j e).2; omega
                have no2 : ∀ j, rowOf o2 = some j → 7 ≤ j ∧ (O j ∨ M.size ≤ j) := fun j hj => by
                  rcases nw2 j hj with e | e
                  · exact ⟨(ro2 j e).2, .inl (ro2 j e).1⟩
                  · exact ⟨by omega, .inr (by omega)⟩
                refine ⟨⟨fun j => O j ∨ rowOf o2 = some j, ⟨wZ.upd _ _, by simp only [upd_size]; omega, ?_, ⟨o2, ?_, ?_, fun j hj => ⟨.inr hj, (no2 j hj).1⟩⟩, ⟨obj', ?_, ?_⟩, ?_, ?_, ?_, .inl h.o1, .inl h.o2, .inl h.o6, ?_, h.od.snoc hS⟩, ?_⟩, wZ.upd _ _, by simp only [upd_size]; omega, ?_⟩
                · rw [zk 0 (by omega) (by omega), k2 0 (by omega) (by omega) (by omega) (by omega) (nro 0 (by omega))]; exact h.g0
                · rw [get_upd_ne wZ _ _ _ (by omega)]; exact get_upd_eq w2 _ _ m1
                · rw [hst]
                  exact sp2.keep fun j hj => zk j (by have := (no2 j hj).1; omega) (by have := (no2 j hj).1; omega)
                · rw [zk 2 (by omega) (by omega)]; exact m2
                · rw [List.map_append]; exact hset'
                · rw [zk 3 (by omega) (by omega), k2 3 (by omega) (by omega) (by omega) (by omega) (nro 3 (by omega))]; exact h.g3
                · rw [zk 5 (by omega) (by omega), k2 5 (by omega) (by omega) (by omega) (by omega) (nro 5 (by omega))]; exact h.g5
                · exact get_upd_eq wZ _ _ (by simp only [upd_size]; omega)
                · intro j hj
                  simp only [upd_size]
                  rcases hj with hj | hj
                  · exact ⟨by have := (h.ol j hj).1; omega, (h.ol j hj).2⟩
                  · exact ⟨sp2.lt j hj, .inr (.inr (by have := (no2 j hj).1; omega))⟩
                · rintro j (hj | hj)
                  · exact .inl hj
                  · exact (no2 j hj).2
                · intro j hj hO
                  have h1 : j ≠ 1 := fun e => hO (e ▸ h.o1)
                  have h2 : j ≠ 2 := fun e => hO (e ▸ h.o2)
                  have h6 : j ≠ 6 := fun e => hO (e ▸ h.o6)
                  rw [zk j h1 h6]
                  exact k2 j hj h1 h2 h6 fun e => hO (ro2 j e).1
              exact ⟨_, _, _, _, _, _, _, rfl, .inl (.inl yl)⟩
        · skip
          by_cases c5 : x.1 ∈ pre.map (·.1)
          · simp only [c5, if_true] at hlk
            simp (maxSteps := 2000000) (disch := first | omega | assumption | (simp only [DS, Nat.reduceAdd, *]; done) | (simp only [DZ]; omega)) only [RUN, RU, zD, zC, zB, zE, zG, slot, lay, zH, zF, zA, kR, reduceIte, Nat.reduceEqDiff, Nat.reduceBEq, Nat.reduceLT, Nat.reduceAdd, Nat.reduceLeDiff, Nat.reduceSub, Nat.reduceMul, Int.reduceLT, Int.reduceLE, Int.reduceEq, Int.reduceAdd, Int.reduceSub, Int.reduceMul, g2, g3, g4, g5, g6, g7, hne, oo', y0, y1, y3, ya, yb, yc, wY, ↓pIdE, peIdE_val, ↓pIdN, peIdN_val, ↓pHdE, peHdE_val, ↓pHdN, peHdN_val, ↓pLbE, peLbE_val, ↓pLbN, peLbN_val, ↓pSpE, peSpE_val, ↓pSpN, peSpN_val, ETA, c2, c3, hls, x_lk, hlk, z01, z0lt]
            have os : OS tm ((Y.upd 0 (.row false [BL false])).upd 6 (.loop .done (some .ret) tm [12, 13] cO1 cO2 5)) := by
              refine ⟨(wY.upd _ _).upd _ _, by simp only [upd_size]; omega, ?_, ?_, ?_⟩
              · rw [get_upd_ne (wY.upd _ _) _ _ _ (by omega)]
                exact get_upd_eq wY _ _ l0
              · rw [get_upd_ne (wY.upd _ _) _ _ _ (by omega), get_upd_ne wY _ _ _ (by omega)]
                exact (yj 5 (by omega) (by omega) (by omega)).trans h.g5
              · exact get_upd_eq (wY.upd _ _) _ _ (by simp only [upd_size]; omega)
            refine ⟨_, _, _, _, _, _, _, y6, .inr (.inr ?_)⟩
            first
            | exact os
            | exact ⟨os, by simp [*]⟩
          · simp only [c5, if_false] at hlk
            simp (maxSteps := 2000000) (disch := first | omega | assumption | (simp only [DS, Nat.reduceAdd, *]; done) | (simp only [DZ]; omega)) only [RUN, RU, zD, zC, zB, zE, zG, slot, lay, zH, zF, zA, kR, reduceIte, Nat.reduceEqDiff, Nat.reduceBEq, Nat.reduceLT, Nat.reduceAdd, Nat.reduceLeDiff, Nat.reduceSub, Nat.reduceMul, Int.reduceLT, Int.reduceLE, Int.reduceEq, Int.reduceAdd, Int.reduceSub, Int.reduceMul, g2, g3, g4, g5, g6, g7, hne, oo', y0, y1, y3, ya, yb, yc, wY, ↓pIdE, peIdE_val, ↓pIdN, peIdN_val, ↓pHdE, peHdE_val, ↓pHdN, peHdN_val, ↓pLbE, peLbE_val, ↓pLbN, peLbN_val, ↓pSpE, peSpE_val, ↓pSpN, peSpN_val, ETA, c2, c3, hls, x_lk, hlk, z01, z0lt, x_mu]
            refine mu_set idKey wY l2 y2 hset x.1 fun obj' hset' => ?_
            simp only [c5, if_false] at hset'
            simp (maxSteps := 2000000) (disch := first | omega | assumption | (simp only [DS, Nat.reduceAdd, *]; done) | (simp only [DZ]; omega)) only [RUN, RU, zD, zC, zB, zE, zG, slot, lay, zH, zF, zA, kR, reduceIte, Nat.reduceEqDiff, Nat.reduceBEq, Nat.reduceLT, Nat.reduceAdd, Nat.reduceLeDiff, Nat.reduceSub, Nat.reduceMul, Int.reduceLT, Int.reduceLE, Int.reduceEq, Int.reduceAdd, Int.reduceSub, Int.reduceMul, g2, g3, g4, g5, g6, g7, oo', y1, y3, ya, yb, yc, wY]
            refine ⟨spY.rows (by omega), SlP.app1 (bytes := 24) (x := x.1) (wY.upd 2 obj') (spY.keep fun j hj => get_upd_ne wY _ _ _ (by have := (ro j (ro' ▸ hj)).2; omega)) isEid_fz ⟨rfl, hx⟩ rfl (by omega) (by rw [List.length_reverse]; omega) (by rw [List.length_reverse]; omega) fun o2 M2 sp2 w2 le2 kp2 nw2 rl2 on2 oc2 => ?_⟩
            rw [upd_size] at le2 kp2 nw2
            have hS : ordS x (stk pre) (pre.map (·.1)) = true := by
              unfold ordS
              rw [hpop]
              simp [*]
            have hst : (stk (pre ++ [x])).reverse = q.reverse ++ [x.1] := by rw [stk_snoc, hpop, List.reverse_cons]
            have ro2 : ∀ j, rowOf o' = some j → O j ∧ 7 ≤ j := fun j hj => ro j (ro' ▸ hj)
            have k2 : ∀ j, j < M.size → j ≠ 1 → j ≠ 2 → j ≠ 6 → rowOf o' ≠ some j → M2.get j = M.get j := fun j a b c e f => by
              rw [kp2 j (by omega) f, get_upd_ne wY _ _ _ (fun e => c e.symm)]
              exact yj j a b e
            have m6 : M2.get 6 = some (.loop .busy none tm [12, 13] cO1 cO2 5) := by
              rw [kp2 6 (by omega) (fun e => by have := (ro2 6 e).2; omega), get_upd_ne wY _ _ _ (by omega)]
              exact y6
            have m2 : M2.get 2 = some obj' := by
              rw [kp2 2 (by omega) (fun e => by have := (ro2 2 e).2; omega)]
              exact get_upd_eq wY _ _ l2
            have m1 : 1 < M2.size := by omega
            have n1 : M2.get 1 = some (.row false [o']) := by
              rw [kp2 1 (by omega) (fun e => by have := (ro2 1 e).2; omega), get_upd_ne wY _ _ _ (by omega)]
              exact y1
            simp (maxSteps := 2000000) (disch := first | omega | assumption | (simp only [DS, Nat.reduceAdd, *]; done) | (simp only [DZ]; omega)) only [RUN, RU, zD, zC, zB, zE, zG, slot, lay, zH, zF, zA, kR, reduceIte, Nat.reduceEqDiff, Nat.reduceBEq, Nat.reduceLT, Nat.reduceAdd, Nat.reduceLeDiff, Nat.reduceSub, Nat.reduceMul, Int.reduceLT, Int.reduceLE, Int.reduceEq, Int.reduceAdd, Int.reduceSub, Int.reduceMul, g2, g3, g4, g5, g6, g7, on2, oc2, rl2, w2, m6, n1]
            have yl : Yl (OI tm) (pre ++ [x]) O B M ((M2.upd 1 (.row false [o2])).upd 6 (.loop .ready none tm [12, 13] cO1 cO2 5)) := by
              have wZ := w2.upd 1 (.row false [o2])
              have zk : ∀ j, j ≠ 1 → j ≠ 6 → ((M2.upd 1 (.row false [o2])).upd 6 (.loop .ready none tm [12, 13] cO1 cO2 5)).get j = M2.get j := fun j a b => by
                rw [get_upd_ne wZ _ _ _ (fun e => b e.symm), get_upd_ne w2 _ _ _ (fun e => a e.symm)]
              have nro : ∀ j, j < 7 → rowOf o' ≠ some j := fun j hj e => by have := (ro2 j e).2; omega
              have no2 : ∀ j, rowOf o2 = some j → 7 ≤ j ∧ (O j ∨ M.size ≤ j) := fun j hj => by
                rcases nw2 j hj with e | e
                · exact ⟨(ro2 j e).2, .inl (ro2 j e).1⟩
                · exact ⟨by omega, .inr (by omega)⟩
              refine ⟨⟨fun j => O j ∨ rowOf o2 = some j, ⟨wZ.upd _ _, by simp only [upd_size]; omega, ?_, ⟨o2, ?_, ?_, fun j hj => ⟨.inr hj, (no2 j hj).1⟩⟩, ⟨obj', ?_, ?_⟩, ?_, ?_, ?_, .inl h.o1, .inl h.o2, .inl h.o6, ?_, h.od.snoc hS⟩, ?_⟩, wZ.upd _ _, by simp only [upd_size]; omega, ?_⟩
              · rw [zk 0 (by omega) (by omega), k2 0 (by omega) (by omega) (by omega) (by omega) (nro 0 (by omega))]; exact h.g0
              · rw [get_upd_ne wZ _ _ _ (by omega)]; exact get_upd_eq w2 _ _ m1
              · rw [hst]
                exact sp2.keep fun j hj => zk j (by have := (no2 j hj).1; omega) (by have := (no2 j hj).1; omega)
              · rw [zk 2 (by omega) (by omega)]; exact m2
              · rw [List.map_append]; exact hset'
              · rw [zk 3 (by omega) (by omega), k2 3 (by omega) (by omega) (by omega) (by omega) (nro 3 (by omega))]; exact h.g3
              · rw [zk 5 (by omega) (by omega), k2 5 (by omega) (by omega) (by omega) (by omega) (nro 5 (by omega))]; exact h.g5
              · exact get_upd_eq wZ _ _ (by simp only [upd_size]; omega)
              · intro j hj
                simp only [upd_size]
                rcases hj with hj | hj
                · exact ⟨by have := (h.ol j hj).1; omega, (h.ol j hj).2⟩
                · exact ⟨sp2.lt j hj, .inr (.inr (by have := (no2 j hj).1; omega))⟩
              · rintro j (hj | hj)
                · exact .inl hj
                · exact (no2 j hj).2
              · intro j hj hO
                have h1 : j ≠ 1 := fun e => hO (e ▸ h.o1)
                have h2 : j ≠ 2 := fun e => hO (e ▸ h.o2)
                have h6 : j ≠ 6 := fun e => hO (e ▸ h.o6)
                rw [zk j h1 h6]
                exact k2 j hj h1 h2 h6 fun e => hO (ro2 j e).1
            exact ⟨_, _, _, _, _, _, _, rfl, .inl (.inl yl)⟩
end Go.Proofs.Ytbomjpdheibmfaa
