/-
  Texts: Insert.
-/
import Derived.Test.YtbomjpdheibmfaaTrK
import Derived.Test.YtbomjpdheibmfaaEf
set_option linter.unusedSimpArgs false
set_option linter.unusedVariables false
set_option maxRecDepth 100000
namespace Go.Proofs.Ytbomjpdheibmfaa
open Go Go.Ax
variable {fuel : Nat} {M : Mem} {Q : AV → Mem → Prop} {d : Nat}
theorem ins0_0 {X : Mem} {o : AV} {r : List AV} {x : Rn} (wf : Wf X) (h : SlN X 10 isRn o []) (hx : isRn r x) (hr : r.length = 10)
    (k : ∀ o' M', SlM M' 10 isRn o' [x] → Wf M' → X.size ≤ M'.size → (∀ j, j < X.size → rowOf o ≠ some j → M'.get j = X.get j) → (∀ id, rowOf o' = some id → rowOf o = some id ∨ X.size ≤ id) → M'.wm = X.wm → Q o' M') :
    W3 (callN Try.prog (fsT tbl) fuel (d + 1) (.fn 21) [o, I64 0, .sl X.size 0 1 (some 1) 10] (X.add (.row false r))) Q := by
  have sm := h.slm
  have oo := sm.one
  have ol := sm.len
  have z10 : decide ((1 : Int) = 0) = false := rfl
  have ge : ∀ N, lenO N (.sl X.size 0 1 (some 1) 10) = some (I64 1, N) := fun _ => rfl
  have hs : ∀ N, (∀ j, rowOf o = some j → N.get j = X.get j) → ∃ v, slcO N 10 o (some (I64 0)) none none = some (v, N) ∧ oneA v = true := fun N hN => by
    rcases h with ⟨_, rfl | ⟨id, rfl, hg⟩⟩ | ⟨hn, _⟩
    · exact ⟨_, rfl, rfl⟩
    · exact ⟨_, rfl, rfl⟩
    · exact absurd rfl hn
  obtain ⟨v, hsv, ov⟩ := hs (X.add (.row false r)) (fun j hj => get_add wf _ _ (sm.lt j hj))
  refine call_0 tf21 rfl (by simp [a21]) fun b' ht hx => ?_
  have h0 := hx 0 _ rfl
  have h1 := hx 1 _ rfl
  have h2 := hx 2 _ rfl
  clear hx
  simp only [a21, c21] at ht ⊢
  have ol0 : ∀ N, lenO N o = some (I64 0, N) := ol
  have rlo := rows_lt sm.rl (show X.size ≤ X.size + 1 by omega)
  simp (maxSteps := 2000000) (disch := first | omega | assumption | (simp only [DS, Nat.reduceAdd, *]; done) | (simp only [DZ]; omega)) only [RUN, RU, zD, zC, zB, zE, zG, slot, lay, zH, zF, zA, kR, reduceIte, Nat.reduceEqDiff, Nat.reduceBEq, Nat.reduceLT, Nat.reduceAdd, Nat.reduceLeDiff, Nat.reduceSub, Nat.reduceMul, Int.reduceLT, Int.reduceLE, Int.reduceEq, Int.reduceAdd, Int.reduceSub, Int.reduceMul, h0, h1, h2, oo, ol0, hsv, ov, ge, z10, z00, rlo]
  refine app1 wf sm fz_Rn (x := x) hx hr (by omega) (by simp) (by simp) fun o' M' sm' w' le' kp nw wm' rl on oc => ?_
  simp (maxSteps := 2000000) (disch := first | omega | assumption | (simp only [DS, Nat.reduceAdd, *]; done) | (simp only [DZ]; omega)) only [RUN, RU, zD, zC, zB, zE, zG, slot, lay, zH, zF, zA, kR, reduceIte, Nat.reduceEqDiff, Nat.reduceBEq, Nat.reduceLT, Nat.reduceAdd, Nat.reduceLeDiff, Nat.reduceSub, Nat.reduceMul, Int.reduceLT, Int.reduceLE, Int.reduceEq, Int.reduceAdd, Int.reduceSub, Int.reduceMul, on, oc, rl]
  exact k o' M' sm' w' le' kp nw wm'
theorem may_take {l : List Rn} {r : Rn} {n : Nat} (D : List Rn) (h : D = (l.drop n).takeWhile fun q => r.sp.f.less q.sp.f) {i : Nat} (hi : i < D.length) (hn : n + i < l.length) : r.sp.f.less l[n + i].sp.f = true ∧ D[i] = l[n + i] := by
  have h1 : D[i] ∈ (l.drop n).takeWhile fun q => r.sp.f.less q.sp.f := by rw [← h]; exact List.getElem_mem hi
  have h2 := List.all_eq_true.1 (List.all_takeWhile (l := l.drop n) (p := fun q => r.sp.f.less q.sp.f)) _ h1
  have h3 : D[i] = l[n + i] := by
    have hp : D <+: l.drop n := by rw [h]; exact List.takeWhile_prefix _
    rw [hp.getElem hi, List.getElem_drop]
  rw [← h3]
  exact ⟨h2, rfl⟩
theorem skip_stop {l : List Rn} {x : Eid} {n : Nat} (h : skipL l x n < l.length) : x.less l[skipL l x n].sp.f = false := by
  have hd : ((l.drop n).dropWhile fun q => x.less q.sp.f) = l.drop (skipL l x n) := by
    have e := List.takeWhile_append_dropWhile (p := fun q : Rn => x.less q.sp.f) (l := l.drop n)
    have e2 := congrArg (List.drop ((l.drop n).takeWhile fun q => x.less q.sp.f).length) e
    rw [List.drop_left, List.drop_drop] at e2
    exact e2
  have := List.head?_dropWhile_not (fun q : Rn => x.less q.sp.f) (l.drop n)
  rw [hd, List.drop_eq_getElem_cons h] at this
  exact this
theorem skip_le {l : List Rn} {x : Eid} {n : Nat} (hn : n ≤ l.length) : skipL l x n ≤ l.length := by
  unfold skipL
  have := (List.takeWhile_sublist (l := l.drop n) (fun q : Rn => x.less q.sp.f)).length_le
  rw [List.length_drop] at this
  omega
theorem part_len (l : List Rn) (x : Eid) : (partL l x).1.length ≤ l.length + 2 := by
  unfold partL
  split
  · simp
  · split
    · simp
    · split
      · simp; omega
      · simp
theorem longL_len (l : List Rn) : (longL l).length ≤ l.length := by
  refine snoc_ind (P := fun l => (longL l).length ≤ l.length) (Nat.le_refl _) (fun l r ih => ?_) l
  rw [long_snoc]
  have := addR_len (longL l) r
  simp only [List.length_append, List.length_singleton]
  omega
theorem insL_len (l : List Rn) (r : Rn) : (insL l r).length ≤ l.length + 3 := by
  unfold insL
  refine Nat.le_trans (longL_len _) ?_
  have := part_len l r.af
  simp only [List.length_append, List.length_take, List.length_drop, List.length_singleton]
  omega
noncomputable def insR (l : List Rn) (r : Rn) : List Rn := if putE l r = 0 then insL l r else []
open Classical in
set_option maxHeartbeats 16000000 in
theorem insert_run {a ra : AV} {l : List Rn} {x : Rn} (hS : Sl 10 isRn a l) (hR : Sl 1 isI32 ra x.rs) (hx : x.ok) (hl : l.length ≤ 900) (hf : 64 * l.length + 3011000 < fuel) : ∃ r, Sl 10 isRn r (insR l x) ∧ ∀ M, callN Try.prog (fsT tbl) fuel (d + 11) (.fn 6) [a, .agg (rnR x ra)] M = some (.tup [r, I64 (putE l x)], M) := by
  have oa := hS.one
  have ora := hR.one
  have hck := fun M => @check_run fuel d a l hS (by omega) (by omega) M
  have hcx := fun M => @runcheck_run fuel (d + 4) x ra hR (by omega) M
  refine gc_ex tf6 rfl (fun M => by simp only [zH, fun M => hS.icy M 12 (by omega), rn_icy hR.fz]) ?_
  refine call_gc tf6 rfl (by simp only [zH, fun M => hS.icy M 12 (by omega), rn_icy hR.fz]) (by simp [a6]) fun b' ht hx => ?_
  have h0 := hx 0 _ rfl
  have h1 := hx 1 _ rfl
  clear hx
  simp only [a6, c6] at ht ⊢
  have hiE : putE l x = if textB l = true ∧ x.may = true then (if x.af ≠ Eid.z ∧ whereL l x.af = none then 6 else if ∃ i : Nat, (i : Int) < x.sp.n ∧ whereL l (x.sp.at i) ≠ none then 2 else if 8192 < countL l + x.sp.n then 4 else 0) else 8 := by
    unfold putE
    simp only [textB_iff]
  by_cases h8 : textB l = true ∧ x.may = true
  · rw [if_pos h8] at hiE
    obtain ⟨htb, hxm⟩ := h8
    have hok := textB_iff.1 htb
    rw [htb] at hck
    rw [hxm] at hcx
    have hwh := fun y M => @where_run fuel (d + 4) a l y hS (by omega) (by omega) M
    have hwa := fun M => hwh x.af M
    have hb := Spn.may_le (Rn.may_sp hxm)
    obtain ⟨m, hmn⟩ : ∃ m : Nat, x.sp.n = m := ⟨x.sp.n.toNat, by omega⟩
    have ia : ∀ i : Nat, i < m → ∀ M, callN Try.prog (fsT tbl) fuel (d + 10) (.fn 17) [spA x.sp, I64 i] M = some (.tup [idA (x.sp.at i), I64 0], M) := fun i hi M => by
      have := @ids_at fuel (d + 5) x.sp i M
      rw [if_pos (Rn.may_sp hxm), if_neg (by omega)] at this
      exact this
    have qn1 : decide ((-1 : Int) < 0) = true := rfl
    have qg1 : decide ((0 : Int) ≤ -1) = false := rfl
    by_cases h6 : x.af ≠ Eid.z ∧ whereL l x.af = none
    · have e6 : putE l x = 6 := by rw [hiE, if_pos h6]
      have er : insR l x = [] := by unfold insR; rw [e6]; rfl
      rw [e6, er]
      have q : decide (x.af = Eid.z) = false := decide_eq_false h6.1
      rw [h6.2] at hwa
      simp (maxSteps := 2000000) (disch := first | omega | assumption | (simp only [DS, Nat.reduceAdd, *]; done) | (simp only [DZ]; omega)) only [RUN, RU, zD, zC, zB, zE, zG, slot, lay, zH, zF, zA, kR, reduceIte, Nat.reduceEqDiff, Nat.reduceBEq, Nat.reduceLT, Nat.reduceAdd, Nat.reduceLeDiff, Nat.reduceSub, Nat.reduceMul, Int.reduceLT, Int.reduceLE, Int.reduceEq, Int.reduceAdd, Int.reduceSub, Int.reduceMul, h0, h1, hS.fz.rows, hS.fz.one, hS.fz.cells, hS.fz.icy, hS.fz.frz, hR.fz.rows, hR.fz.one, hR.fz.cells, hR.fz.icy, hR.fz.frz, hck, hcx, IMX, err_t, z00, pB_max2, pB_min2, pB_max3, BMM, apart2_pu, hwa, wN, wK, qn1, ↓pIdE, peIdE_val, ↓pIdN, peIdN_val, ↓pHdE, peHdE_val, ↓pHdN, peHdN_val, ↓pLbE, peLbE_val, ↓pLbN, peLbN_val, ↓pSpE, peSpE_val, ↓pSpN, peSpN_val, ETA, q]
      exact ⟨NIL, .inl ⟨rfl, rfl⟩, rfl⟩
    · rw [if_neg h6] at hiE
      have hx6 : x.af = Eid.z ∨ whereL l x.af ≠ none := by
        by_cases h : x.af = Eid.z
        · exact .inl h
        · exact .inr fun k => h6 ⟨h, k⟩
      have step : ∃ b : Bool, (decide ((wN (whereL l x.af)) < 0) = b) ∧ (b = true → decide (x.af = Eid.z) = true) := by
        refine ⟨_, rfl, fun hb => ?_⟩
        rcases hx6 with h | h
        · exact decide_eq_true h
        · cases hw : whereL l x.af with
          | none => exact absurd hw h
          | some p =>
            have hb := of_decide_eq_true hb
            rw [hw] at hb
            simp only [wN] at hb
            omega
      obtain ⟨b6, hb6, hb6'⟩ := step
      have main : ∀ (b6 : Bool), decide ((wN (whereL l x.af)) < 0) = b6 → (b6 = true → decide (x.af = Eid.z) = true) → True := fun _ _ _ => trivial
      clear main
      cases b6 with
      | true =>
        have q := hb6' rfl
        simp (maxSteps := 2000000) (disch := first | omega | assumption | (simp only [DS, Nat.reduceAdd, *]; done) | (simp only [DZ]; omega)) only [RUN, RU, zD, zC, zB, zE, zG, slot, lay, zH, zF, zA, kR, reduceIte, Nat.reduceEqDiff, Nat.reduceBEq, Nat.reduceLT, Nat.reduceAdd, Nat.reduceLeDiff, Nat.reduceSub, Nat.reduceMul, Int.reduceLT, Int.reduceLE, Int.reduceEq, Int.reduceAdd, Int.reduceSub, Int.reduceMul, h0, h1, hS.fz.rows, hS.fz.one, hS.fz.cells, hS.fz.icy, hS.fz.frz, hR.fz.rows, hR.fz.one, hR.fz.cells, hR.fz.icy, hR.fz.frz, hck, hcx, IMX, err_t, z00, pB_max2, pB_min2, pB_max3, BMM, apart2_pu, hwa, hb6, ↓pIdE, peIdE_val, ↓pIdN, peIdN_val, ↓pHdE, peHdE_val, ↓pHdN, peHdN_val, ↓pLbE, peLbE_val, ↓pLbN, peLbN_val, ↓pSpE, peSpE_val, ↓pSpN, peSpN_val, ETA, q]
        refine w_loop (I := fun n t N => ∃ (i : Nat), n = m - i ∧ i ≤ m ∧ nth undefA t 0 = a ∧ nth undefA t 3 = .ptr 0 0 ∧ nth undefA t 40 = I64 m ∧ nth undefA t 41 = I64 i ∧ Wf N ∧ N.get 0 = some (.row false (rnR x ra)) ∧ (∀ j, j < i → whereL l (x.sp.at (j : Nat)) = none) ∧ N.size ≤ i + 1) (n := m) (by omega) ?_ ?_
        · refine ⟨0, rfl, Nat.zero_le _, ?_, ?_, ?_, ?_, Wf.mem0.add _, by simp (maxSteps := 2000000) (disch := first | omega | assumption | (simp only [DS, Nat.reduceAdd, *]; done) | (simp only [DZ]; omega)) only [RUN, RU, zD, zC, zB, zE, zG, slot, lay, zH, zF, zA, kR, reduceIte, Nat.reduceEqDiff, Nat.reduceBEq, Nat.reduceLT, Nat.reduceAdd, Nat.reduceLeDiff, Nat.reduceSub, Nat.reduceMul, Int.reduceLT, Int.reduceLE, Int.reduceEq, Int.reduceAdd, Int.reduceSub, Int.reduceMul], (fun _ h => absurd h (by omega)), Nat.le_refl _⟩ <;> simp (maxSteps := 2000000) (disch := first | omega | assumption | (simp only [DS, Nat.reduceAdd, *]; done) | (simp only [DZ]; omega)) only [RUN, RU, zD, zC, zB, zE, zG, slot, lay, zH, zF, zA, kR, reduceIte, Nat.reduceEqDiff, Nat.reduceBEq, Nat.reduceLT, Nat.reduceAdd, Nat.reduceLeDiff, Nat.reduceSub, Nat.reduceMul, Int.reduceLT, Int.reduceLE, Int.reduceEq, Int.reduceAdd, Int.reduceSub, Int.reduceMul, h0, h1, hmn]
          all_goals first | rfl | assumption | done
        · rintro n t N hlt ⟨i, rfl, hi, g0, g3, g40, g41, w, g, hj, sz⟩
          simp only [ht] at hlt ⊢
          have lg := Mem.get_lt g
          by_cases hc : i < m
          · have q1 : decide ((i : Int) < m) = true := decide_eq_true (by omega)
            have w1 : IntKind.i64.wrap ((i : Int) + 1) = ((i + 1 : Nat) : Int) := by rw [wrap_i64] <;> omega
            have iai := ia i hc
            have hwi := hwh (x.sp.at (i : Nat))
            cases hwl : whereL l (x.sp.at (i : Nat)) with
            | some p =>
              have e2 : putE l x = 2 := by rw [hiE, if_pos ⟨i, by omega, by rw [hwl]; simp⟩]
              have er : insR l x = [] := by unfold insR; rw [e2]; rfl
              rw [hwl] at hwi
              have qp : decide ((0 : Int) ≤ ((p.1 : Nat) : Int)) = true := decide_eq_true (by omega)
              rw [e2, er]
              simp (maxSteps := 2000000) (disch := first | omega | assumption | (simp only [DS, Nat.reduceAdd, *]; done) | (simp only [DZ]; omega)) only [RUN, RU, zD, zC, zB, zE, zG, slot, lay, zH, zF, zA, kR, reduceIte, Nat.reduceEqDiff, Nat.reduceBEq, Nat.reduceLT, Nat.reduceAdd, Nat.reduceLeDiff, Nat.reduceSub, Nat.reduceMul, Int.reduceLT, Int.reduceLE, Int.reduceEq, Int.reduceAdd, Int.reduceSub, Int.reduceMul, g0, g3, g40, g41, hS.fz.rows, hS.fz.one, hS.fz.cells, hS.fz.icy, hS.fz.frz, hR.fz.rows, hR.fz.one, hR.fz.cells, hR.fz.icy, hR.fz.frz, q1, iai, g, w, hwi, wN, wK, qp]
              exact ⟨NIL, .inl ⟨rfl, rfl⟩, rfl⟩
            | none =>
              rw [hwl] at hwi
              simp (maxSteps := 2000000) (disch := first | omega | assumption | (simp only [DS, Nat.reduceAdd, *]; done) | (simp only [DZ]; omega)) only [RUN, RU, zD, zC, zB, zE, zG, slot, lay, zH, zF, zA, kR, reduceIte, Nat.reduceEqDiff, Nat.reduceBEq, Nat.reduceLT, Nat.reduceAdd, Nat.reduceLeDiff, Nat.reduceSub, Nat.reduceMul, Int.reduceLT, Int.reduceLE, Int.reduceEq, Int.reduceAdd, Int.reduceSub, Int.reduceMul, g0, g3, g40, g41, hS.fz.rows, hS.fz.one, hS.fz.cells, hS.fz.icy, hS.fz.frz, hR.fz.rows, hR.fz.one, hR.fz.cells, hR.fz.icy, hR.fz.frz, q1, iai, g, w, hwi, wN, wK, qg1, w1]
              refine ⟨hlt, m - (i + 1), by omega, i + 1, rfl, by omega, rfl, fun j hj' => ?_, by omega⟩
              rcases Nat.lt_succ_iff_lt_or_eq.1 hj' with h | rfl
              · exact hj j h
              · exact hwl
          · obtain rfl : i = m := by omega
            have q1 : decide ((i : Int) < i) = false := decide_eq_false (by omega)
            have hno : ¬∃ j : Nat, (j : Int) < x.sp.n ∧ whereL l (x.sp.at j) ≠ none := fun ⟨j, h1, h2⟩ => h2 (hj j (by omega))
            rw [if_neg hno] at hiE
            have hct := fun M => @count_run fuel (d + 9) a l hS hok.1 (by omega) (by omega) M
            have hcl := countL_le hok.1
            have w2 : IntKind.i64.wrap (countL l + x.sp.n) = countL l + x.sp.n := by rw [wrap_i64] <;> omega
            by_cases h4 : 8192 < countL l + x.sp.n
            · have e4 : putE l x = 4 := by rw [hiE, if_pos h4]
              have er : insR l x = [] := by unfold insR; rw [e4]; rfl
              have q4 : decide (8192 < countL l + x.sp.n) = true := decide_eq_true h4
              rw [e4, er]
              simp (maxSteps := 2000000) (disch := first | omega | assumption | (simp only [DS, Nat.reduceAdd, *]; done) | (simp only [DZ]; omega)) only [RUN, RU, zD, zC, zB, zE, zG, slot, lay, zH, zF, zA, kR, reduceIte, Nat.reduceEqDiff, Nat.reduceBEq, Nat.reduceLT, Nat.reduceAdd, Nat.reduceLeDiff, Nat.reduceSub, Nat.reduceMul, Int.reduceLT, Int.reduceLE, Int.reduceEq, Int.reduceAdd, Int.reduceSub, Int.reduceMul, g0, g3, g40, g41, hS.fz.rows, hS.fz.one, hS.fz.cells, hS.fz.icy, hS.fz.frz, hR.fz.rows, hR.fz.one, hR.fz.cells, hR.fz.icy, hR.fz.frz, q1, g, w, hct, w2, q4, apart2_pu]
              exact ⟨NIL, .inl ⟨rfl, rfl⟩, rfl⟩
            · have e0 : putE l x = 0 := by rw [hiE, if_neg h4]
              have er : insR l x = insL l x := by unfold insR; rw [if_pos e0]
              have q4 : decide (8192 < countL l + x.sp.n) = false := decide_eq_false h4
              obtain ⟨r', hr', hpart⟩ := part_run' (fuel := fuel) (d := d + 2) hS hok.1 hx6 (by omega) (by omega)
              obtain ⟨p1, p2, p3, p4⟩ := part_ok hok.1 hx6
              have hpl := part_len l x.af
              have hsk := skip_le (x := x.sp.f) p1
              have hss := fun h => @skip_stop (partL l x.af).1 x.sp.f (partL l x.af).2 h
              have hmt := fun D hD i => @may_take (partL l x.af).1 x (partL l x.af).2 D hD i
              have eL : insL l x = longL ((partL l x.af).1.take (skipL (partL l x.af).1 x.sp.f (partL l x.af).2) ++ [x] ++ (partL l x.af).1.drop (skipL (partL l x.af).1 x.sp.f (partL l x.af).2)) := rfl
              unfold skipL at hsk hss eL
              rw [e0, er, eL]
              generalize hD : ((partL l x.af).1.drop (partL l x.af).2).takeWhile (fun q => x.sp.f.less q.sp.f) = D at *
              have hmt := fun i => hmt D rfl (i := i)
              generalize (partL l x.af).1 = l' at *
              generalize (partL l x.af).2 = n0 at *
              have or' := hr'.one
              have lr' := hr'.len
              simp (maxSteps := 2000000) (disch := first | omega | assumption | (simp only [DS, Nat.reduceAdd, *]; done) | (simp only [DZ]; omega)) only [RUN, RU, zD, zC, zB, zE, zG, slot, lay, zH, zF, zA, kR, reduceIte, Nat.reduceEqDiff, Nat.reduceBEq, Nat.reduceLT, Nat.reduceAdd, Nat.reduceLeDiff, Nat.reduceSub, Nat.reduceMul, Int.reduceLT, Int.reduceLE, Int.reduceEq, Int.reduceAdd, Int.reduceSub, Int.reduceMul, g0, g3, g40, g41, hS.fz.rows, hS.fz.one, hS.fz.cells, hS.fz.icy, hS.fz.frz, hR.fz.rows, hR.fz.one, hR.fz.cells, hR.fz.icy, hR.fz.frz, q1, g, w, hct, w2, q4, apart2_pu, hpart, hr'.fz.rows, hr'.fz.one, hr'.fz.cells, hr'.fz.icy, hr'.fz.frz]
              refine w_loop (I := fun n2 t2 N2 => ∃ (i2 : Nat), n2 = l'.length - n0 - i2 ∧ i2 ≤ l'.length - n0 ∧ nth undefA t2 0 = r' ∧ nth undefA t2 3 = .ptr 0 0 ∧ nth undefA t2 14 = I64 ((n0 + i2 : Nat) : Int) ∧ Wf N2 ∧ N2.size ≤ 70 ∧ N2.get 0 = some (.row false (rnR x ra)) ∧ i2 ≤ D.length) (n := l'.length - n0) (by omega) ?_ ?_
              · refine ⟨0, rfl, Nat.zero_le _, ?_, ?_, ?_, w, by omega, g, Nat.zero_le _⟩ <;> simp (maxSteps := 2000000) (disch := first | omega | assumption | (simp only [DS, Nat.reduceAdd, *]; done) | (simp only [DZ]; omega)) only [RUN, RU, zD, zC, zB, zE, zG, slot, lay, zH, zF, zA, kR, reduceIte, Nat.reduceEqDiff, Nat.reduceBEq, Nat.reduceLT, Nat.reduceAdd, Nat.reduceLeDiff, Nat.reduceSub, Nat.reduceMul, Int.reduceLT, Int.reduceLE, Int.reduceEq, Int.reduceAdd, Int.reduceSub, Int.reduceMul, g0, g3, Nat.add_zero]
                all_goals first | rfl | assumption | done
              · rintro n2 t2 N2 hlt2 ⟨i2, rfl, hi2, g20, g23, g214, wf2, sz2, gg, hi2⟩
                simp only [hlt] at hlt2 ⊢
                have lgg := Mem.get_lt gg
                by_cases hc2 : n0 + i2 < l'.length
                · have q2 : decide (((n0 + i2 : Nat) : Int) < l'.length) = true := decide_eq_true (by omega)
                  have w3 : IntKind.i64.wrap (((n0 + i2 : Nat) : Int) + 1) = ((n0 + (i2 + 1) : Nat) : Int) := by rw [wrap_i64] <;> omega
                  obtain ⟨r2, hiad2, hre, hrl2⟩ := hr'.iad (n0 + i2) hc2
                  by_cases hd2 : i2 < D.length
                  · have hlt3 := (hmt i2 hd2 hc2).1
                    generalize l'[n0 + i2] = e2 at *
                    obtain ⟨rb, rfl, hrb, _⟩ := hre
                    have orb := hrb.one
                    have hls := fun M => @less_run fuel (d + 8) x.sp.f e2.sp.f M
                    rw [hlt3] at hls
                    simp (maxSteps := 2000000) (disch := first | omega | assumption | (simp only [DS, Nat.reduceAdd, *]; done) | (simp only [DZ]; omega)) only [RUN, RU, zD, zC, zB, zE, zG, slot, lay, zH, zF, zA, kR, reduceIte, Nat.reduceEqDiff, Nat.reduceBEq, Nat.reduceLT, Nat.reduceAdd, Nat.reduceLeDiff, Nat.reduceSub, Nat.reduceMul, Int.reduceLT, Int.reduceLE, Int.reduceEq, Int.reduceAdd, Int.reduceSub, Int.reduceMul, g20, g23, g214, hr'.fz.rows, hr'.fz.one, hr'.fz.cells, hr'.fz.icy, hr'.fz.frz, hR.fz.rows, hR.fz.one, hR.fz.cells, hR.fz.icy, hR.fz.frz, q2, lr', hiad2, hrb.fz.rows, hrb.fz.one, hrb.fz.cells, hrb.fz.icy, hrb.fz.frz, gg, wf2, hls, w3, apart2_pu]
                    exact ⟨hlt2, l'.length - n0 - (i2 + 1), by omega, i2 + 1, rfl, by omega, rfl, by omega⟩
                  · obtain rfl : i2 = D.length := by omega
                    have hlt3 := hss hc2
                    generalize l'[n0 + D.length] = e2 at *
                    obtain ⟨rb, rfl, hrb, _⟩ := hre
                    have orb := hrb.one
                    have hls := fun M => @less_run fuel (d + 8) x.sp.f e2.sp.f M
                    rw [hlt3] at hls
                    simp (maxSteps := 2000000) (disch := first | omega | assumption | (simp only [DS, Nat.reduceAdd, *]; done) | (simp only [DZ]; omega)) only [RUN, RU, zD, zC, zB, zE, zG, slot, lay, zH, zF, zA, kR, reduceIte, Nat.reduceEqDiff, Nat.reduceBEq, Nat.reduceLT, Nat.reduceAdd, Nat.reduceLeDiff, Nat.reduceSub, Nat.reduceMul, Int.reduceLT, Int.reduceLE, Int.reduceEq, Int.reduceAdd, Int.reduceSub, Int.reduceMul, g20, g23, g214, hr'.fz.rows, hr'.fz.one, hr'.fz.cells, hr'.fz.icy, hr'.fz.frz, hR.fz.rows, hR.fz.one, hR.fz.cells, hR.fz.icy, hR.fz.frz, q2, lr', hiad2, hrb.fz.rows, hrb.fz.one, hrb.fz.cells, hrb.fz.icy, hrb.fz.frz, gg, wf2, hls, apart2_pu]
                    refine clone_n fz_Rn.cel tf22 Try.underlying22 hr' (by omega) (by omega) (by simp (maxSteps := 2000000) (disch := first | omega | assumption | (simp only [DS, Nat.reduceAdd, *]; done) | (simp only [DZ]; omega)) only [RUN, RU, zD, zC, zB, zE, zG, slot, lay, zH, zF, zA, kR, reduceIte, Nat.reduceEqDiff, Nat.reduceBEq, Nat.reduceLT, Nat.reduceAdd, Nat.reduceLeDiff, Nat.reduceSub, Nat.reduceMul, Int.reduceLT, Int.reduceLE, Int.reduceEq, Int.reduceAdd, Int.reduceSub, Int.reduceMul, wf2]) fun o3 M3 wf3 le3 kp3 sn3 nr3 wm3 di3 sz3 => ?_
                    have hd3 : M3.dirty = false := di3
                    have z0 : M3.get 0 = some (.row false (rnR x ra)) := (kp3 0 lgg).trans gg
                    have lz0 := Mem.get_lt z0
                    have sm3 := sn3.slm
                    have on3 := sm3.one
                    have oc3 := sm3.cells
                    have rl3 := rows_lt sm3.rl (Nat.le_refl M3.size)
                    have rl3' := rows_lt sm3.rl (Nat.le_succ M3.size)
                    simp (maxSteps := 2000000) (disch := first | omega | assumption | (simp only [DS, Nat.reduceAdd, *]; done) | (simp only [DZ]; omega)) only [RUN, RU, zD, zC, zB, zE, zG, slot, lay, zH, zF, zA, kR, reduceIte, Nat.reduceEqDiff, Nat.reduceBEq, Nat.reduceLT, Nat.reduceAdd, Nat.reduceLeDiff, Nat.reduceSub, Nat.reduceMul, Int.reduceLT, Int.reduceLE, Int.reduceEq, Int.reduceAdd, Int.reduceSub, Int.reduceMul, g20, g23, g214, hd3, wf3, z0, on3, oc3, rl3, rl3', hR.fz.rows, hR.fz.one, hR.fz.cells, hR.fz.icy, hR.fz.frz, x_ins, apart2_pu]
                    have sz3' : M3.size ≤ N2.size + 2 := sz3
                    have hb0 : Nat.ble N2.size 0 = false := by
                      cases hb : Nat.ble N2.size 0 with
                      | false => rfl
                      | true => have := Nat.le_of_ble_eq_true hb; omega
                    refine ⟨by simp [apart2, FP.apart, FP.reads, FP.writes, hb0], by simp [apart2, FP.apart, FP.reads, FP.writes], ?_⟩
                    have eX : ((N2.bk M3).add (.row false (rnR x ra))).lo = (⟨M3.t, M3.size, M3.size + 1, false⟩ : Mem).add (.row false (rnR x ra)) := rfl
                    show W3 (insO _ (((N2.bk M3).add (.row false (rnR x ra))).lo) 21 10 80 o3 (I64 ((n0 + D.length : Nat) : Int)) (.sl M3.size 0 1 (some 1) 10)) _
                    rw [eX]
                    have wX : Wf (⟨M3.t, M3.size, M3.size + 1, false⟩ : Mem) := wf3
                    have sX : (⟨M3.t, M3.size, M3.size + 1, false⟩ : Mem).size = M3.size := rfl
                    have snX : SlN (⟨M3.t, M3.size, M3.size + 1, false⟩ : Mem) 10 isRn o3 l' := sn3
                    generalize (⟨M3.t, M3.size, M3.size + 1, false⟩ : Mem) = X3 at *
                    have key : W3 (insO (callN Try.prog (fsT tbl) fuel (d + 10)) (X3.add (.row false (rnR x ra))) 21 10 80 o3 (I64 ((n0 + D.length : Nat) : Int)) (.sl M3.size 0 1 (some 1) 10)) (fun o4 M4 => SlM M4 10 isRn o4 (l'.take (n0 + D.length) ++ [x] ++ l'.drop (n0 + D.length)) ∧ Wf M4) := by
                      rw [← sX]
                      by_cases hz : l' = []
                      · subst hz
                        have e0 : n0 + D.length = 0 := by simp only [List.length_nil] at hsk; omega
                        rw [e0]
                        have hc0 : ((0 : Nat) : Int) = 0 := rfl
                        rw [hc0]
                        have h0' : W3 (callN Try.prog (fsT tbl) fuel (d + 10) (.fn 21) [o3, I64 0, .sl X3.size 0 1 (some 1) 10] (X3.add (.row false (rnR x ra)))) (fun o4 M4 => SlM M4 10 isRn o4 [x] ∧ Wf M4) := ins0_0 (d := d + 9) wX snX ⟨ra, rfl, hR, hx⟩ rfl (fun o' M' a b _ _ _ _ => ⟨a, b⟩)
                        have e1 : insO (callN Try.prog (fsT tbl) fuel (d + 10)) (X3.add (.row false (rnR x ra))) 21 10 80 o3 (I64 0) (.sl X3.size 0 1 (some 1) 10) = callN Try.prog (fsT tbl) fuel (d + 10) (.fn 21) [o3, I64 0, .sl X3.size 0 1 (some 1) 10] (X3.add (.row false (rnR x ra))) := by
                          rcases snX with ⟨_, rfl | ⟨id, rfl, _⟩⟩ | ⟨hn, _⟩
                          · exact ins_nil ..
                          · exact ins_emp ..
                          · exact absurd rfl hn
                        rw [e1]
                        exact h0'
                      · exact snX.ins (bytes := 80) (g := 21) wX hz fz_Rn.cel ⟨ra, rfl, hR, hx⟩ rfl (by omega) (by omega) (by omega) (by omega) (by omega) fun o' M' a b _ _ _ => ⟨a, b⟩
                    obtain ⟨o4, M4, he4, sm4, wf4⟩ := key
                    rw [he4]
                    clear he4 eX hmt hss snX sn3 sm3 kp3 hno hwh hwa hck hcx hcl ia hj hpart hct
                    have on4 := sm4.one
                    have oc4 := sm4.cells
                    have rl4 := rows_lt sm4.rl (Nat.le_refl M4.size)
                    simp (maxSteps := 2000000) (disch := first | omega | assumption | (simp only [DS, Nat.reduceAdd, *]; done) | (simp only [DZ]; omega)) only [RUN, RU, zD, zC, zB, zE, zG, slot, lay, zH, zF, zA, kR, reduceIte, Nat.reduceEqDiff, Nat.reduceBEq, Nat.reduceLT, Nat.reduceAdd, Nat.reduceLeDiff, Nat.reduceSub, Nat.reduceMul, Int.reduceLT, Int.reduceLE, Int.reduceEq, Int.reduceAdd, Int.reduceSub, Int.reduceMul, g20, g23, g214, wf4, on4, oc4, rl4, apart2_pu]
                    refine w3_hand (n := d + 9) (R := fun r => Sl 10 isRn r (longL (l'.take (n0 + D.length) ++ [x] ++ l'.drop (n0 + D.length)))) tf20 rfl (sm4.keep fun _ _ => rfl) (show Wf _ from wf4) fz_Rn (fun a' ha' => ?_) fun r X' hr wX' sX' kX' => ?_
                    · refine long_run (d := d + 1) ha' (by simp only [List.length_append, List.length_take, List.length_drop, List.length_singleton]; omega) (fun q hq => ?_) (by simp only [List.length_append, List.length_take, List.length_drop, List.length_singleton]; omega)
                      have hq64 : q.rs.length ≤ 64 := by
                        rcases List.mem_append.1 hq with hq | hq
                        · rcases List.mem_append.1 hq with hq | hq
                          · exact may_rs p2 q (List.mem_of_mem_take hq)
                          · rw [List.mem_singleton] at hq; subst hq
                            exact (Rn.may_iff.1 hxm).2.2.2.1
                        · exact may_rs p2 q (List.mem_of_mem_drop hq)
                      omega
                    · have orr := hr.one
                      simp (maxSteps := 2000000) (disch := first | omega | assumption | (simp only [DS, Nat.reduceAdd, *]; done) | (simp only [DZ]; omega)) only [RUN, RU, zD, zC, zB, zE, zG, slot, lay, zH, zF, zA, kR, reduceIte, Nat.reduceEqDiff, Nat.reduceBEq, Nat.reduceLT, Nat.reduceAdd, Nat.reduceLeDiff, Nat.reduceSub, Nat.reduceMul, Int.reduceLT, Int.reduceLE, Int.reduceEq, Int.reduceAdd, Int.reduceSub, Int.reduceMul, g20, g23, g214, wX', hr.fz.rows, hr.fz.one, hr.fz.cells, hr.fz.icy, hr.fz.frz, apart2_pu]
                      exact ⟨r, hr, rfl⟩
                · obtain rfl : i2 = D.length := by omega
                  have q2 : decide (((n0 + D.length : Nat) : Int) < l'.length) = false := decide_eq_false (by omega)
                  simp (maxSteps := 2000000) (disch := first | omega | assumption | (simp only [DS, Nat.reduceAdd, *]; done) | (simp only [DZ]; omega)) only [RUN, RU, zD, zC, zB, zE, zG, slot, lay, zH, zF, zA, kR, reduceIte, Nat.reduceEqDiff, Nat.reduceBEq, Nat.reduceLT, Nat.reduceAdd, Nat.reduceLeDiff, Nat.reduceSub, Nat.reduceMul, Int.reduceLT, Int.reduceLE, Int.reduceEq, Int.reduceAdd, Int.reduceSub, Int.reduceMul, g20, g23, g214, hr'.fz.rows, hr'.fz.one, hr'.fz.cells, hr'.fz.icy, hr'.fz.frz, hR.fz.rows, hR.fz.one, hR.fz.cells, hR.fz.icy, hR.fz.frz, q2, lr', gg, wf2, apart2_pu]
                  refine clone_n fz_Rn.cel tf22 Try.underlying22 hr' (by omega) (by omega) (by simp (maxSteps := 2000000) (disch := first | omega | assumption | (simp only [DS, Nat.reduceAdd, *]; done) | (simp only [DZ]; omega)) only [RUN, RU, zD, zC, zB, zE, zG, slot, lay, zH, zF, zA, kR, reduceIte, Nat.reduceEqDiff, Nat.reduceBEq, Nat.reduceLT, Nat.reduceAdd, Nat.reduceLeDiff, Nat.reduceSub, Nat.reduceMul, Int.reduceLT, Int.reduceLE, Int.reduceEq, Int.reduceAdd, Int.reduceSub, Int.reduceMul, wf2]) fun o3 M3 wf3 le3 kp3 sn3 nr3 wm3 di3 sz3 => ?_
                  have hd3 : M3.dirty = false := di3
                  have z0 : M3.get 0 = some (.row false (rnR x ra)) := (kp3 0 lgg).trans gg
                  have lz0 := Mem.get_lt z0
                  have sm3 := sn3.slm
                  have on3 := sm3.one
                  have oc3 := sm3.cells
                  have rl3 := rows_lt sm3.rl (Nat.le_refl M3.size)
                  have rl3' := rows_lt sm3.rl (Nat.le_succ M3.size)
                  simp (maxSteps := 2000000) (disch := first | omega | assumption | (simp only [DS, Nat.reduceAdd, *]; done) | (simp only [DZ]; omega)) only [RUN, RU, zD, zC, zB, zE, zG, slot, lay, zH, zF, zA, kR, reduceIte, Nat.reduceEqDiff, Nat.reduceBEq, Nat.reduceLT, Nat.reduceAdd, Nat.reduceLeDiff, Nat.reduceSub, Nat.reduceMul, Int.reduceLT, Int.reduceLE, Int.reduceEq, Int.reduceAdd, Int.reduceSub, Int.reduceMul, g20, g23, g214, hd3, wf3, z0, on3, oc3, rl3, rl3', hR.fz.rows, hR.fz.one, hR.fz.cells, hR.fz.icy, hR.fz.frz, x_ins, apart2_pu]
                  have sz3' : M3.size ≤ N2.size + 2 := sz3
                  have hb0 : Nat.ble N2.size 0 = false := by
                    cases hb : Nat.ble N2.size 0 with
                    | false => rfl
                    | true => have := Nat.le_of_ble_eq_true hb; omega
                  refine ⟨by simp [apart2, FP.apart, FP.reads, FP.writes, hb0], by simp [apart2, FP.apart, FP.reads, FP.writes], ?_⟩
                  have eX : ((N2.bk M3).add (.row false (rnR x ra))).lo = (⟨M3.t, M3.size, M3.size + 1, false⟩ : Mem).add (.row false (rnR x ra)) := rfl
                  show W3 (insO _ (((N2.bk M3).add (.row false (rnR x ra))).lo) 21 10 80 o3 (I64 ((n0 + D.length : Nat) : Int)) (.sl M3.size 0 1 (some 1) 10)) _
                  rw [eX]
                  have wX : Wf (⟨M3.t, M3.size, M3.size + 1, false⟩ : Mem) := wf3
                  have sX : (⟨M3.t, M3.size, M3.size + 1, false⟩ : Mem).size = M3.size := rfl
                  have snX : SlN (⟨M3.t, M3.size, M3.size + 1, false⟩ : Mem) 10 isRn o3 l' := sn3
                  generalize (⟨M3.t, M3.size, M3.size + 1, false⟩ : Mem) = X3 at *
                  have key : W3 (insO (callN Try.prog (fsT tbl) fuel (d + 10)) (X3.add (.row false (rnR x ra))) 21 10 80 o3 (I64 ((n0 + D.length : Nat) : Int)) (.sl M3.size 0 1 (some 1) 10)) (fun o4 M4 => SlM M4 10 isRn o4 (l'.take (n0 + D.length) ++ [x] ++ l'.drop (n0 + D.length)) ∧ Wf M4) := by
                    rw [← sX]
                    by_cases hz : l' = []
                    · subst hz
                      have e0 : n0 + D.length = 0 := by simp only [List.length_nil] at hsk; omega
                      rw [e0]
                      have hc0 : ((0 : Nat) : Int) = 0 := rfl
                      rw [hc0]
                      have h0' : W3 (callN Try.prog (fsT tbl) fuel (d + 10) (.fn 21) [o3, I64 0, .sl X3.size 0 1 (some 1) 10] (X3.add (.row false (rnR x ra)))) (fun o4 M4 => SlM M4 10 isRn o4 [x] ∧ Wf M4) := ins0_0 (d := d + 9) wX snX ⟨ra, rfl, hR, hx⟩ rfl (fun o' M' a b _ _ _ _ => ⟨a, b⟩)
                      have e1 : insO (callN Try.prog (fsT tbl) fuel (d + 10)) (X3.add (.row false (rnR x ra))) 21 10 80 o3 (I64 0) (.sl X3.size 0 1 (some 1) 10) = callN Try.prog (fsT tbl) fuel (d + 10) (.fn 21) [o3, I64 0, .sl X3.size 0 1 (some 1) 10] (X3.add (.row false (rnR x ra))) := by
                        rcases snX with ⟨_, rfl | ⟨id, rfl, _⟩⟩ | ⟨hn, _⟩
                        · exact ins_nil ..
                        · exact ins_emp ..
                        · exact absurd rfl hn
                      rw [e1]
                      exact h0'
                    · exact snX.ins (bytes := 80) (g := 21) wX hz fz_Rn.cel ⟨ra, rfl, hR, hx⟩ rfl (by omega) (by omega) (by omega) (by omega) (by omega) fun o' M' a b _ _ _ => ⟨a, b⟩
                  obtain ⟨o4, M4, he4, sm4, wf4⟩ := key
                  rw [he4]
                  clear he4 eX hmt hss snX sn3 sm3 kp3 hno hwh hwa hck hcx hcl ia hj hpart hct
                  have on4 := sm4.one
                  have oc4 := sm4.cells
                  have rl4 := rows_lt sm4.rl (Nat.le_refl M4.size)
                  simp (maxSteps := 2000000) (disch := first | omega | assumption | (simp only [DS, Nat.reduceAdd, *]; done) | (simp only [DZ]; omega)) only [RUN, RU, zD, zC, zB, zE, zG, slot, lay, zH, zF, zA, kR, reduceIte, Nat.reduceEqDiff, Nat.reduceBEq, Nat.reduceLT, Nat.reduceAdd, Nat.reduceLeDiff, Nat.reduceSub, Nat.reduceMul, Int.reduceLT, Int.reduceLE, Int.reduceEq, Int.reduceAdd, Int.reduceSub, Int.reduceMul, g20, g23, g214, wf4, on4, oc4, rl4, apart2_pu]
                  refine w3_hand (n := d + 9) (R := fun r => Sl 10 isRn r (longL (l'.take (n0 + D.length) ++ [x] ++ l'.drop (n0 + D.length)))) tf20 rfl (sm4.keep fun _ _ => rfl) (show Wf _ from wf4) fz_Rn (fun a' ha' => ?_) fun r X' hr wX' sX' kX' => ?_
                  · refine long_run (d := d + 1) ha' (by simp only [List.length_append, List.length_take, List.length_drop, List.length_singleton]; omega) (fun q hq => ?_) (by simp only [List.length_append, List.length_take, List.length_drop, List.length_singleton]; omega)
                    have hq64 : q.rs.length ≤ 64 := by
                      rcases List.mem_append.1 hq with hq | hq
                      · rcases List.mem_append.1 hq with hq | hq
                        · exact may_rs p2 q (List.mem_of_mem_take hq)
                        · rw [List.mem_singleton] at hq; subst hq
                          exact (Rn.may_iff.1 hxm).2.2.2.1
                      · exact may_rs p2 q (List.mem_of_mem_drop hq)
                    omega
                  · have orr := hr.one
                    simp (maxSteps := 2000000) (disch := first | omega | assumption | (simp only [DS, Nat.reduceAdd, *]; done) | (simp only [DZ]; omega)) only [RUN, RU, zD, zC, zB, zE, zG, slot, lay, zH, zF, zA, kR, reduceIte, Nat.reduceEqDiff, Nat.reduceBEq, Nat.reduceLT, Nat.reduceAdd, Nat.reduceLeDiff, Nat.reduceSub, Nat.reduceMul, Int.reduceLT, Int.reduceLE, Int.reduceEq, Int.reduceAdd, Int.reduceSub, Int.reduceMul, g20, g23, g214, wX', hr.fz.rows, hr.fz.one, hr.fz.cells, hr.fz.icy, hr.fz.frz, apart2_pu]
                    exact ⟨r, hr, rfl⟩
      | false =>
        simp (maxSteps := 2000000) (disch := first | omega | assumption | (simp only [DS, Nat.reduceAdd, *]; done) | (simp only [DZ]; omega)) only [RUN, RU, zD, zC, zB, zE, zG, slot, lay, zH, zF, zA, kR, reduceIte, Nat.reduceEqDiff, Nat.reduceBEq, Nat.reduceLT, Nat.reduceAdd, Nat.reduceLeDiff, Nat.reduceSub, Nat.reduceMul, Int.reduceLT, Int.reduceLE, Int.reduceEq, Int.reduceAdd, Int.reduceSub, Int.reduceMul, h0, h1, hS.fz.rows, hS.fz.one, hS.fz.cells, hS.fz.icy, hS.fz.frz, hR.fz.rows, hR.fz.one, hR.fz.cells, hR.fz.icy, hR.fz.frz, hck, hcx, IMX, err_t, z00, pB_max2, pB_min2, pB_max3, BMM, apart2_pu, hwa, hb6]
        refine w_loop (I := fun n t N => ∃ (i : Nat), n = m - i ∧ i ≤ m ∧ nth undefA t 0 = a ∧ nth undefA t 3 = .ptr 0 0 ∧ nth undefA t 40 = I64 m ∧ nth undefA t 41 = I64 i ∧ Wf N ∧ N.get 0 = some (.row false (rnR x ra)) ∧ (∀ j, j < i → whereL l (x.sp.at (j : Nat)) = none) ∧ N.size ≤ i + 1) (n := m) (by omega) ?_ ?_
        · refine ⟨0, rfl, Nat.zero_le _, ?_, ?_, ?_, ?_, Wf.mem0.add _, by simp (maxSteps := 2000000) (disch := first | omega | assumption | (simp only [DS, Nat.reduceAdd, *]; done) | (simp only [DZ]; omega)) only [RUN, RU, zD, zC, zB, zE, zG, slot, lay, zH, zF, zA, kR, reduceIte, Nat.reduceEqDiff, Nat.reduceBEq, Nat.reduceLT, Nat.reduceAdd, Nat.reduceLeDiff, Nat.reduceSub, Nat.reduceMul, Int.reduceLT, Int.reduceLE, Int.reduceEq, Int.reduceAdd, Int.reduceSub, Int.reduceMul], (fun _ h => absurd h (by omega)), Nat.le_refl _⟩ <;> simp (maxSteps := 2000000) (disch := first | omega | assumption | (simp only [DS, Nat.reduceAdd, *]; done) | (simp only [DZ]; omega)) only [RUN, RU, zD, zC, zB, zE, zG, slot, lay, zH, zF, zA, kR, reduceIte, Nat.reduceEqDiff, Nat.reduceBEq, Nat.reduceLT, Nat.reduceAdd, Nat.reduceLeDiff, Nat.reduceSub, Nat.reduceMul, Int.reduceLT, Int.reduceLE, Int.reduceEq, Int.reduceAdd, Int.reduceSub, Int.reduceMul, h0, h1, hmn]
          all_goals first | rfl | assumption | done
        · rintro n t N hlt ⟨i, rfl, hi, g0, g3, g40, g41, w, g, hj, sz⟩
          simp only [ht] at hlt ⊢
          have lg := Mem.get_lt g
          by_cases hc : i < m
          · have q1 : decide ((i : Int) < m) = true := decide_eq_true (by omega)
            have w1 : IntKind.i64.wrap ((i : Int) + 1) = ((i + 1 : Nat) : Int) := by rw [wrap_i64] <;> omega
            have iai := ia i hc
            have hwi := hwh (x.sp.at (i : Nat))
            cases hwl : whereL l (x.sp.at (i : Nat)) with
            | some p =>
              have e2 : putE l x = 2 := by rw [hiE, if_pos ⟨i, by omega, by rw [hwl]; simp⟩]
              have er : insR l x = [] := by unfold insR; rw [e2]; rfl
              rw [hwl] at hwi
              have qp : decide ((0 : Int) ≤ ((p.1 : Nat) : Int)) = true := decide_eq_true (by omega)
              rw [e2, er]
              simp (maxSteps := 2000000) (disch := first | omega | assumption | (simp only [DS, Nat.reduceAdd, *]; done) | (simp only [DZ]; omega)) only [RUN, RU, zD, zC, zB, zE, zG, slot, lay, zH, zF, zA, kR, reduceIte, Nat.reduceEqDiff, Nat.reduceBEq, Nat.reduceLT, Nat.reduceAdd, Nat.reduceLeDiff, Nat.reduceSub, Nat.reduceMul, Int.reduceLT, Int.reduceLE, Int.reduceEq, Int.reduceAdd, Int.reduceSub, Int.reduceMul, g0, g3, g40, g41, hS.fz.rows, hS.fz.one, hS.fz.cells, hS.fz.icy, hS.fz.frz, hR.fz.rows, hR.fz.one, hR.fz.cells, hR.fz.icy, hR.fz.frz, q1, iai, g, w, hwi, wN, wK, qp]
              exact ⟨NIL, .inl ⟨rfl, rfl⟩, rfl⟩
            | none =>
              rw [hwl] at hwi
              simp (maxSteps := 2000000) (disch := first | omega | assumption | (simp only [DS, Nat.reduceAdd, *]; done) | (simp only [DZ]; omega)) only [RUN, RU, zD, zC, zB, zE, zG, slot, lay, zH, zF, zA, kR, reduceIte, Nat.reduceEqDiff, Nat.reduceBEq, Nat.reduceLT, Nat.reduceAdd, Nat.reduceLeDiff, Nat.reduceSub, Nat.reduceMul, Int.reduceLT, Int.reduceLE, Int.reduceEq, Int.reduceAdd, Int.reduceSub, Int.reduceMul, g0, g3, g40, g41, hS.fz.rows, hS.fz.one, hS.fz.cells, hS.fz.icy, hS.fz.frz, hR.fz.rows, hR.fz.one, hR.fz.cells, hR.fz.icy, hR.fz.frz, q1, iai, g, w, hwi, wN, wK, qg1, w1]
              refine ⟨hlt, m - (i + 1), by omega, i + 1, rfl, by omega, rfl, fun j hj' => ?_, by omega⟩
              rcases Nat.lt_succ_iff_lt_or_eq.1 hj' with h | rfl
              · exact hj j h
              · exact hwl
          · obtain rfl : i = m := by omega
            have q1 : decide ((i : Int) < i) = false := decide_eq_false (by omega)
            have hno : ¬∃ j : Nat, (j : Int) < x.sp.n ∧ whereL l (x.sp.at j) ≠ none := fun ⟨j, h1, h2⟩ => h2 (hj j (by omega))
            rw [if_neg hno] at hiE
            have hct := fun M => @count_run fuel (d + 9) a l hS hok.1 (by omega) (by omega) M
            have hcl := countL_le hok.1
            have w2 : IntKind.i64.wrap (countL l + x.sp.n) = countL l + x.sp.n := by rw [wrap_i64] <;> omega
            by_cases h4 : 8192 < countL l + x.sp.n
            · have e4 : putE l x = 4 := by rw [hiE, if_pos h4]
              have er : insR l x = [] := by unfold insR; rw [e4]; rfl
              have q4 : decide (8192 < countL l + x.sp.n) = true := decide_eq_true h4
              rw [e4, er]
              simp (maxSteps := 2000000) (disch := first | omega | assumption | (simp only [DS, Nat.reduceAdd, *]; done) | (simp only [DZ]; omega)) only [RUN, RU, zD, zC, zB, zE, zG, slot, lay, zH, zF, zA, kR, reduceIte, Nat.reduceEqDiff, Nat.reduceBEq, Nat.reduceLT, Nat.reduceAdd, Nat.reduceLeDiff, Nat.reduceSub, Nat.reduceMul, Int.reduceLT, Int.reduceLE, Int.reduceEq, Int.reduceAdd, Int.reduceSub, Int.reduceMul, g0, g3, g40, g41, hS.fz.rows, hS.fz.one, hS.fz.cells, hS.fz.icy, hS.fz.frz, hR.fz.rows, hR.fz.one, hR.fz.cells, hR.fz.icy, hR.fz.frz, q1, g, w, hct, w2, q4, apart2_pu]
              exact ⟨NIL, .inl ⟨rfl, rfl⟩, rfl⟩
            · have e0 : putE l x = 0 := by rw [hiE, if_neg h4]
              have er : insR l x = insL l x := by unfold insR; rw [if_pos e0]
              have q4 : decide (8192 < countL l + x.sp.n) = false := decide_eq_false h4
              obtain ⟨r', hr', hpart⟩ := part_run' (fuel := fuel) (d := d + 2) hS hok.1 hx6 (by omega) (by omega)
              obtain ⟨p1, p2, p3, p4⟩ := part_ok hok.1 hx6
              have hpl := part_len l x.af
              have hsk := skip_le (x := x.sp.f) p1
              have hss := fun h => @skip_stop (partL l x.af).1 x.sp.f (partL l x.af).2 h
              have hmt := fun D hD i => @may_take (partL l x.af).1 x (partL l x.af).2 D hD i
              have eL : insL l x = longL ((partL l x.af).1.take (skipL (partL l x.af).1 x.sp.f (partL l x.af).2) ++ [x] ++ (partL l x.af).1.drop (skipL (partL l x.af).1 x.sp.f (partL l x.af).2)) := rfl
              unfold skipL at hsk hss eL
              rw [e0, er, eL]
              generalize hD : ((partL l x.af).1.drop (partL l x.af).2).takeWhile (fun q => x.sp.f.less q.sp.f) = D at *
              have hmt := fun i => hmt D rfl (i := i)
              generalize (partL l x.af).1 = l' at *
              generalize (partL l x.af).2 = n0 at *
              have or' := hr'.one
              have lr' := hr'.len
              simp (maxSteps := 2000000) (disch := first | omega | assumption | (simp only [DS, Nat.reduceAdd, *]; done) | (simp only [DZ]; omega)) only [RUN, RU, zD, zC, zB, zE, zG, slot, lay, zH, zF, zA, kR, reduceIte, Nat.reduceEqDiff, Nat.reduceBEq, Nat.reduceLT, Nat.reduceAdd, Nat.reduceLeDiff, Nat.reduceSub, Nat.reduceMul, Int.reduceLT, Int.reduceLE, Int.reduceEq, Int.reduceAdd, Int.reduceSub, Int.reduceMul, g0, g3, g40, g41, hS.fz.rows, hS.fz.one, hS.fz.cells, hS.fz.icy, hS.fz.frz, hR.fz.rows, hR.fz.one, hR.fz.cells, hR.fz.icy, hR.fz.frz, q1, g, w, hct, w2, q4, apart2_pu, hpart, hr'.fz.rows, hr'.fz.one, hr'.fz.cells, hr'.fz.icy, hr'.fz.frz]
              refine w_loop (I := fun n2 t2 N2 => ∃ (i2 : Nat), n2 = l'.length - n0 - i2 ∧ i2 ≤ l'.length - n0 ∧ nth undefA t2 0 = r' ∧ nth undefA t2 3 = .ptr 0 0 ∧ nth undefA t2 14 = I64 ((n0 + i2 : Nat) : Int) ∧ Wf N2 ∧ N2.size ≤ 70 ∧ N2.get 0 = some (.row false (rnR x ra)) ∧ i2 ≤ D.length) (n := l'.length - n0) (by omega) ?_ ?_
              · refine ⟨0, rfl, Nat.zero_le _, ?_, ?_, ?_, w, by omega, g, Nat.zero_le _⟩ <;> simp (maxSteps := 2000000) (disch := first | omega | assumption | (simp only [DS, Nat.reduceAdd, *]; done) | (simp only [DZ]; omega)) only [RUN, RU, zD, zC, zB, zE, zG, slot, lay, zH, zF, zA, kR, reduceIte, Nat.reduceEqDiff, Nat.reduceBEq, Nat.reduceLT, Nat.reduceAdd, Nat.reduceLeDiff, Nat.reduceSub, Nat.reduceMul, Int.reduceLT, Int.reduceLE, Int.reduceEq, Int.reduceAdd, Int.reduceSub, Int.reduceMul, g0, g3, Nat.add_zero]
                all_goals first | rfl | assumption | done
              · rintro n2 t2 N2 hlt2 ⟨i2, rfl, hi2, g20, g23, g214, wf2, sz2, gg, hi2⟩
                simp only [hlt] at hlt2 ⊢
                have lgg := Mem.get_lt gg
                by_cases hc2 : n0 + i2 < l'.length
                · have q2 : decide (((n0 + i2 : Nat) : Int) < l'.length) = true := decide_eq_true (by omega)
                  have w3 : IntKind.i64.wrap (((n0 + i2 : Nat) : Int) + 1) = ((n0 + (i2 + 1) : Nat) : Int) := by rw [wrap_i64] <;> omega
                  obtain ⟨r2, hiad2, hre, hrl2⟩ := hr'.iad (n0 + i2) hc2
                  by_cases hd2 : i2 < D.length
                  · have hlt3 := (hmt i2 hd2 hc2).1
                    generalize l'[n0 + i2] = e2 at *
                    obtain ⟨rb, rfl, hrb, _⟩ := hre
                    have orb := hrb.one
                    have hls := fun M => @less_run fuel (d + 8) x.sp.f e2.sp.f M
                    rw [hlt3] at hls
                    simp (maxSteps := 2000000) (disch := first | omega | assumption | (simp only [DS, Nat.reduceAdd, *]; done) | (simp only [DZ]; omega)) only [RUN, RU, zD, zC, zB, zE, zG, slot, lay, zH, zF, zA, kR, reduceIte, Nat.reduceEqDiff, Nat.reduceBEq, Nat.reduceLT, Nat.reduceAdd, Nat.reduceLeDiff, Nat.reduceSub, Nat.reduceMul, Int.reduceLT, Int.reduceLE, Int.reduceEq, Int.reduceAdd, Int.reduceSub, Int.reduceMul, g20, g23, g214, hr'.fz.rows, hr'.fz.one, hr'.fz.cells, hr'.fz.icy, hr'.fz.frz, hR.fz.rows, hR.fz.one, hR.fz.cells, hR.fz.icy, hR.fz.frz, q2, lr', hiad2, hrb.fz.rows, hrb.fz.one, hrb.fz.cells, hrb.fz.icy, hrb.fz.frz, gg, wf2, hls, w3, apart2_pu]
                    exact ⟨hlt2, l'.length - n0 - (i2 + 1), by omega, i2 + 1, rfl, by omega, rfl, by omega⟩
                  · obtain rfl : i2 = D.length := by omega
                    have hlt3 := hss hc2
                    generalize l'[n0 + D.length] = e2 at *
                    obtain ⟨rb, rfl, hrb, _⟩ := hre
                    have orb := hrb.one
                    have hls := fun M => @less_run fuel (d + 8) x.sp.f e2.sp.f M
                    rw [hlt3] at hls
                    simp (maxSteps := 2000000) (disch := first | omega | assumption | (simp only [DS, Nat.reduceAdd, *]; done) | (simp only [DZ]; omega)) only [RUN, RU, zD, zC, zB, zE, zG, slot, lay, zH, zF, zA, kR, reduceIte, Nat.reduceEqDiff, Nat.reduceBEq, Nat.reduceLT, Nat.reduceAdd, Nat.reduceLeDiff, Nat.reduceSub, Nat.reduceMul, Int.reduceLT, Int.reduceLE, Int.reduceEq, Int.reduceAdd, Int.reduceSub, Int.reduceMul, g20, g23, g214, hr'.fz.rows, hr'.fz.one, hr'.fz.cells, hr'.fz.icy, hr'.fz.frz, hR.fz.rows, hR.fz.one, hR.fz.cells, hR.fz.icy, hR.fz.frz, q2, lr', hiad2, hrb.fz.rows, hrb.fz.one, hrb.fz.cells, hrb.fz.icy, hrb.fz.frz, gg, wf2, hls, apart2_pu]
                    refine clone_n fz_Rn.cel tf22 Try.underlying22 hr' (by omega) (by omega) (by simp (maxSteps := 2000000) (disch := first | omega | assumption | (simp only [DS, Nat.reduceAdd, *]; done) | (simp only [DZ]; omega)) only [RUN, RU, zD, zC, zB, zE, zG, slot, lay, zH, zF, zA, kR, reduceIte, Nat.reduceEqDiff, Nat.reduceBEq, Nat.reduceLT, Nat.reduceAdd, Nat.reduceLeDiff, Nat.reduceSub, Nat.reduceMul, Int.reduceLT, Int.reduceLE, Int.reduceEq, Int.reduceAdd, Int.reduceSub, Int.reduceMul, wf2]) fun o3 M3 wf3 le3 kp3 sn3 nr3 wm3 di3 sz3 => ?_
                    have hd3 : M3.dirty = false := di3
                    have z0 : M3.get 0 = some (.row false (rnR x ra)) := (kp3 0 lgg).trans gg
                    have lz0 := Mem.get_lt z0
                    have sm3 := sn3.slm
                    have on3 := sm3.one
                    have oc3 := sm3.cells
                    have rl3 := rows_lt sm3.rl (Nat.le_refl M3.size)
                    have rl3' := rows_lt sm3.rl (Nat.le_succ M3.size)
                    simp (maxSteps := 2000000) (disch := first | omega | assumption | (simp only [DS, Nat.reduceAdd, *]; done) | (simp only [DZ]; omega)) only [RUN, RU, zD, zC, zB, zE, zG, slot, lay, zH, zF, zA, kR, reduceIte, Nat.reduceEqDiff, Nat.reduceBEq, Nat.reduceLT, Nat.reduceAdd, Nat.reduceLeDiff, Nat.reduceSub, Nat.reduceMul, Int.reduceLT, Int.reduceLE, Int.reduceEq, Int.reduceAdd, Int.reduceSub, Int.reduceMul, g20, g23, g214, hd3, wf3, z0, on3, oc3, rl3, rl3', hR.fz.rows, hR.fz.one, hR.fz.cells, hR.fz.icy, hR.fz.frz, x_ins, apart2_pu]
                    have sz3' : M3.size ≤ N2.size + 2 := sz3
                    have hb0 : Nat.ble N2.size 0 = false := by
                      cases hb : Nat.ble N2.size 0 with
                      | false => rfl
                      | true => have := Nat.le_of_ble_eq_true hb; omega
                    refine ⟨by simp [apart2, FP.apart, FP.reads, FP.writes, hb0], by simp [apart2, FP.apart, FP.reads, FP.writes], ?_⟩
                    have eX : ((N2.bk M3).add (.row false (rnR x ra))).lo = (⟨M3.t, M3.size, M3.size + 1, false⟩ : Mem).add (.row false (rnR x ra)) := rfl
                    show W3 (insO _ (((N2.bk M3).add (.row false (rnR x ra))).lo) 21 10 80 o3 (I64 ((n0 + D.length : Nat) : Int)) (.sl M3.size 0 1 (some 1) 10)) _
                    rw [eX]
                    have wX : Wf (⟨M3.t, M3.size, M3.size + 1, false⟩ : Mem) := wf3
                    have sX : (⟨M3.t, M3.size, M3.size + 1, false⟩ : Mem).size = M3.size := rfl
                    have snX : SlN (⟨M3.t, M3.size, M3.size + 1, false⟩ : Mem) 10 isRn o3 l' := sn3
                    generalize (⟨M3.t, M3.size, M3.size + 1, false⟩ : Mem) = X3 at *
                    have key : W3 (insO (callN Try.prog (fsT tbl) fuel (d + 10)) (X3.add (.row false (rnR x ra))) 21 10 80 o3 (I64 ((n0 + D.length : Nat) : Int)) (.sl M3.size 0 1 (some 1) 10)) (fun o4 M4 => SlM M4 10 isRn o4 (l'.take (n0 + D.length) ++ [x] ++ l'.drop (n0 + D.length)) ∧ Wf M4) := by
                      rw [← sX]
                      by_cases hz : l' = []
                      · subst hz
                        have e0 : n0 + D.length = 0 := by simp only [List.length_nil] at hsk; omega
                        rw [e0]
                        have hc0 : ((0 : Nat) : Int) = 0 := rfl
                        rw [hc0]
                        have h0' : W3 (callN Try.prog (fsT tbl) fuel (d + 10) (.fn 21) [o3, I64 0, .sl X3.size 0 1 (some 1) 10] (X3.add (.row false (rnR x ra)))) (fun o4 M4 => SlM M4 10 isRn o4 [x] ∧ Wf M4) := ins0_0 (d := d + 9) wX snX ⟨ra, rfl, hR, hx⟩ rfl (fun o' M' a b _ _ _ _ => ⟨a, b⟩)
                        have e1 : insO (callN Try.prog (fsT tbl) fuel (d + 10)) (X3.add (.row false (rnR x ra))) 21 10 80 o3 (I64 0) (.sl X3.size 0 1 (some 1) 10) = callN Try.prog (fsT tbl) fuel (d + 10) (.fn 21) [o3, I64 0, .sl X3.size 0 1 (some 1) 10] (X3.add (.row false (rnR x ra))) := by
                          rcases snX with ⟨_, rfl | ⟨id, rfl, _⟩⟩ | ⟨hn, _⟩
                          · exact ins_nil ..
                          · exact ins_emp ..
                          · exact absurd rfl hn
                        rw [e1]
                        exact h0'
                      · exact snX.ins (bytes := 80) (g := 21) wX hz fz_Rn.cel ⟨ra, rfl, hR, hx⟩ rfl (by omega) (by omega) (by omega) (by omega) (by omega) fun o' M' a b _ _ _ => ⟨a, b⟩
                    obtain ⟨o4, M4, he4, sm4, wf4⟩ := key
                    rw [he4]
                    clear he4 eX hmt hss snX sn3 sm3 kp3 hno hwh hwa hck hcx hcl ia hj hpart hct
                    have on4 := sm4.one
                    have oc4 := sm4.cells
                    have rl4 := rows_lt sm4.rl (Nat.le_refl M4.size)
                    simp (maxSteps := 2000000) (disch := first | omega | assumption | (simp only [DS, Nat.reduceAdd, *]; done) | (simp only [DZ]; omega)) only [RUN, RU, zD, zC, zB, zE, zG, slot, lay, zH, zF, zA, kR, reduceIte, Nat.reduceEqDiff, Nat.reduceBEq, Nat.reduceLT, Nat.reduceAdd, Nat.reduceLeDiff, Nat.reduceSub, Nat.reduceMul, Int.reduceLT, Int.reduceLE, Int.reduceEq, Int.reduceAdd, Int.reduceSub, Int.reduceMul, g20, g23, g214, wf4, on4, oc4, rl4, apart2_pu]
                    refine w3_hand (n := d + 9) (R := fun r => Sl 10 isRn r (longL (l'.take (n0 + D.length) ++ [x] ++ l'.drop (n0 + D.length)))) tf20 rfl (sm4.keep fun _ _ => rfl) (show Wf _ from wf4) fz_Rn (fun a' ha' => ?_) fun r X' hr wX' sX' kX' => ?_
                    · refine long_run (d := d + 1) ha' (by simp only [List.length_append, List.length_take, List.length_drop, List.length_singleton]; omega) (fun q hq => ?_) (by simp only [List.length_append, List.length_take, List.length_drop, List.length_singleton]; omega)
                      have hq64 : q.rs.length ≤ 64 := by
                        rcases List.mem_append.1 hq with hq | hq
                        · rcases List.mem_append.1 hq with hq | hq
                          · exact may_rs p2 q (List.mem_of_mem_take hq)
                          · rw [List.mem_singleton] at hq; subst hq
                            exact (Rn.may_iff.1 hxm).2.2.2.1
                        · exact may_rs p2 q (List.mem_of_mem_drop hq)
                      omega
                    · have orr := hr.one
                      simp (maxSteps := 2000000) (disch := first | omega | assumption | (simp only [DS, Nat.reduceAdd, *]; done) | (simp only [DZ]; omega)) only [RUN, RU, zD, zC, zB, zE, zG, slot, lay, zH, zF, zA, kR, reduceIte, Nat.reduceEqDiff, Nat.reduceBEq, Nat.reduceLT, Nat.reduceAdd, Nat.reduceLeDiff, Nat.reduceSub, Nat.reduceMul, Int.reduceLT, Int.reduceLE, Int.reduceEq, Int.reduceAdd, Int.reduceSub, Int.reduceMul, g20, g23, g214, wX', hr.fz.rows, hr.fz.one, hr.fz.cells, hr.fz.icy, hr.fz.frz, apart2_pu]
                      exact ⟨r, hr, rfl⟩
                · obtain rfl : i2 = D.length := by omega
                  have q2 : decide (((n0 + D.length : Nat) : Int) < l'.length) = false := decide_eq_false (by omega)
                  simp (maxSteps := 2000000) (disch := first | omega | assumption | (simp only [DS, Nat.reduceAdd, *]; done) | (simp only [DZ]; omega)) only [RUN, RU, zD, zC, zB, zE, zG, slot, lay, zH, zF, zA, kR, reduceIte, Nat.reduceEqDiff, Nat.reduceBEq, Nat.reduceLT, Nat.reduceAdd, Nat.reduceLeDiff, Nat.reduceSub, Nat.reduceMul, Int.reduceLT, Int.reduceLE, Int.reduceEq, Int.reduceAdd, Int.reduceSub, Int.reduceMul, g20, g23, g214, hr'.fz.rows, hr'.fz.one, hr'.fz.cells, hr'.fz.icy, hr'.fz.frz, hR.fz.rows, hR.fz.one, hR.fz.cells, hR.fz.icy, hR.fz.frz, q2, lr', gg, wf2, apart2_pu]
                  refine clone_n fz_Rn.cel tf22 Try.underlying22 hr' (by omega) (by omega) (by simp (maxSteps := 2000000) (disch := first | omega | assumption | (simp only [DS, Nat.reduceAdd, *]; done) | (simp only [DZ]; omega)) only [RUN, RU, zD, zC, zB, zE, zG, slot, lay, zH, zF, zA, kR, reduceIte, Nat.reduceEqDiff, Nat.reduceBEq, Nat.reduceLT, Nat.reduceAdd, Nat.reduceLeDiff, Nat.reduceSub, Nat.reduceMul, Int.reduceLT, Int.reduceLE, Int.reduceEq, Int.reduceAdd, Int.reduceSub, Int.reduceMul, wf2]) fun o3 M3 wf3 le3 kp3 sn3 nr3 wm3 di3 sz3 => ?_
                  have hd3 : M3.dirty = false := di3
                  have z0 : M3.get 0 = some (.row false (rnR x ra)) := (kp3 0 lgg).trans gg
                  have lz0 := Mem.get_lt z0
                  have sm3 := sn3.slm
                  have on3 := sm3.one
                  have oc3 := sm3.cells
                  have rl3 := rows_lt sm3.rl (Nat.le_refl M3.size)
                  have rl3' := rows_lt sm3.rl (Nat.le_succ M3.size)
                  simp (maxSteps := 2000000) (disch := first | omega | assumption | (simp only [DS, Nat.reduceAdd, *]; done) | (simp only [DZ]; omega)) only [RUN, RU, zD, zC, zB, zE, zG, slot, lay, zH, zF, zA, kR, reduceIte, Nat.reduceEqDiff, Nat.reduceBEq, Nat.reduceLT, Nat.reduceAdd, Nat.reduceLeDiff, Nat.reduceSub, Nat.reduceMul, Int.reduceLT, Int.reduceLE, Int.reduceEq, Int.reduceAdd, Int.reduceSub, Int.reduceMul, g20, g23, g214, hd3, wf3, z0, on3, oc3, rl3, rl3', hR.fz.rows, hR.fz.one, hR.fz.cells, hR.fz.icy, hR.fz.frz, x_ins, apart2_pu]
                  have sz3' : M3.size ≤ N2.size + 2 := sz3
                  have hb0 : Nat.ble N2.size 0 = false := by
                    cases hb : Nat.ble N2.size 0 with
                    | false => rfl
                    | true => have := Nat.le_of_ble_eq_true hb; omega
                  refine ⟨by simp [apart2, FP.apart, FP.reads, FP.writes, hb0], by simp [apart2, FP.apart, FP.reads, FP.writes], ?_⟩
                  have eX : ((N2.bk M3).add (.row false (rnR x ra))).lo = (⟨M3.t, M3.size, M3.size + 1, false⟩ : Mem).add (.row false (rnR x ra)) := rfl
                  show W3 (insO _ (((N2.bk M3).add (.row false (rnR x ra))).lo) 21 10 80 o3 (I64 ((n0 + D.length : Nat) : Int)) (.sl M3.size 0 1 (some 1) 10)) _
                  rw [eX]
                  have wX : Wf (⟨M3.t, M3.size, M3.size + 1, false⟩ : Mem) := wf3
                  have sX : (⟨M3.t, M3.size, M3.size + 1, false⟩ : Mem).size = M3.size := rfl
                  have snX : SlN (⟨M3.t, M3.size, M3.size + 1, false⟩ : Mem) 10 isRn o3 l' := sn3
                  generalize (⟨M3.t, M3.size, M3.size + 1, false⟩ : Mem) = X3 at *
                  have key : W3 (insO (callN Try.prog (fsT tbl) fuel (d + 10)) (X3.add (.row false (rnR x ra))) 21 10 80 o3 (I64 ((n0 + D.length : Nat) : Int)) (.sl M3.size 0 1 (some 1) 10)) (fun o4 M4 => SlM M4 10 isRn o4 (l'.take (n0 + D.length) ++ [x] ++ l'.drop (n0 + D.length)) ∧ Wf M4) := by
                    rw [← sX]
                    by_cases hz : l' = []
                    · subst hz
                      have e0 : n0 + D.length = 0 := by simp only [List.length_nil] at hsk; omega
                      rw [e0]
                      have hc0 : ((0 : Nat) : Int) = 0 := rfl
                      rw [hc0]
                      have h0' : W3 (callN Try.prog (fsT tbl) fuel (d + 10) (.fn 21) [o3, I64 0, .sl X3.size 0 1 (some 1) 10] (X3.add (.row false (rnR x ra)))) (fun o4 M4 => SlM M4 10 isRn o4 [x] ∧ Wf M4) := ins0_0 (d := d + 9) wX snX ⟨ra, rfl, hR, hx⟩ rfl (fun o' M' a b _ _ _ _ => ⟨a, b⟩)
                      have e1 : insO (callN Try.prog (fsT tbl) fuel (d + 10)) (X3.add (.row false (rnR x ra))) 21 10 80 o3 (I64 0) (.sl X3.size 0 1 (some 1) 10) = callN Try.prog (fsT tbl) fuel (d + 10) (.fn 21) [o3, I64 0, .sl X3.size 0 1 (some 1) 10] (X3.add (.row false (rnR x ra))) := by
                        rcases snX with ⟨_, rfl | ⟨id, rfl, _⟩⟩ | ⟨hn, _⟩
                        · exact ins_nil ..
                        · exact ins_emp ..
                        · exact absurd rfl hn
                      rw [e1]
                      exact h0'
                    · exact snX.ins (bytes := 80) (g := 21) wX hz fz_Rn.cel ⟨ra, rfl, hR, hx⟩ rfl (by omega) (by omega) (by omega) (by omega) (by omega) fun o' M' a b _ _ _ => ⟨a, b⟩
                  obtain ⟨o4, M4, he4, sm4, wf4⟩ := key
                  rw [he4]
                  clear he4 eX hmt hss snX sn3 sm3 kp3 hno hwh hwa hck hcx hcl ia hj hpart hct
                  have on4 := sm4.one
                  have oc4 := sm4.cells
                  have rl4 := rows_lt sm4.rl (Nat.le_refl M4.size)
                  simp (maxSteps := 2000000) (disch := first | omega | assumption | (simp only [DS, Nat.reduceAdd, *]; done) | (simp only [DZ]; omega)) only [RUN, RU, zD, zC, zB, zE, zG, slot, lay, zH, zF, zA, kR, reduceIte, Nat.reduceEqDiff, Nat.reduceBEq, Nat.reduceLT, Nat.reduceAdd, Nat.reduceLeDiff, Nat.reduceSub, Nat.reduceMul, Int.reduceLT, Int.reduceLE, Int.reduceEq, Int.reduceAdd, Int.reduceSub, Int.reduceMul, g20, g23, g214, wf4, on4, oc4, rl4, apart2_pu]
                  refine w3_hand (n := d + 9) (R := fun r => Sl 10 isRn r (longL (l'.take (n0 + D.length) ++ [x] ++ l'.drop (n0 + D.length)))) tf20 rfl (sm4.keep fun _ _ => rfl) (show Wf _ from wf4) fz_Rn (fun a' ha' => ?_) fun r X' hr wX' sX' kX' => ?_
                  · refine long_run (d := d + 1) ha' (by simp only [List.length_append, List.length_take, List.length_drop, List.length_singleton]; omega) (fun q hq => ?_) (by simp only [List.length_append, List.length_take, List.length_drop, List.length_singleton]; omega)
                    have hq64 : q.rs.length ≤ 64 := by
                      rcases List.mem_append.1 hq with hq | hq
                      · rcases List.mem_append.1 hq with hq | hq
                        · exact may_rs p2 q (List.mem_of_mem_take hq)
                        · rw [List.mem_singleton] at hq; subst hq
                          exact (Rn.may_iff.1 hxm).2.2.2.1
                      · exact may_rs p2 q (List.mem_of_mem_drop hq)
                    omega
                  · have orr := hr.one
                    simp (maxSteps := 2000000) (disch := first | omega | assumption | (simp only [DS, Nat.reduceAdd, *]; done) | (simp only [DZ]; omega)) only [RUN, RU, zD, zC, zB, zE, zG, slot, lay, zH, zF, zA, kR, reduceIte, Nat.reduceEqDiff, Nat.reduceBEq, Nat.reduceLT, Nat.reduceAdd, Nat.reduceLeDiff, Nat.reduceSub, Nat.reduceMul, Int.reduceLT, Int.reduceLE, Int.reduceEq, Int.reduceAdd, Int.reduceSub, Int.reduceMul, g20, g23, g214, wX', hr.fz.rows, hr.fz.one, hr.fz.cells, hr.fz.icy, hr.fz.frz, apart2_pu]
                    exact ⟨r, hr, rfl⟩
  · have e8 : putE l x = 8 := by rw [hiE, if_neg h8]
    have er : insR l x = [] := by unfold insR; rw [e8]; rfl
    have hz : imax (err (textB l)) (err x.may) = 8 := by
      cases ma : textB l <;> cases mb : x.may <;> first | rfl | exact absurd ⟨ma, mb⟩ h8
    rw [e8, er]
    simp (maxSteps := 2000000) (disch := first | omega | assumption | (simp only [DS, Nat.reduceAdd, *]; done) | (simp only [DZ]; omega)) only [RUN, RU, zD, zC, zB, zE, zG, slot, lay, zH, zF, zA, kR, reduceIte, Nat.reduceEqDiff, Nat.reduceBEq, Nat.reduceLT, Nat.reduceAdd, Nat.reduceLeDiff, Nat.reduceSub, Nat.reduceMul, Int.reduceLT, Int.reduceLE, Int.reduceEq, Int.reduceAdd, Int.reduceSub, Int.reduceMul, h0, h1, hS.fz.rows, hS.fz.one, hS.fz.cells, hS.fz.icy, hS.fz.frz, hR.fz.rows, hR.fz.one, hR.fz.cells, hR.fz.icy, hR.fz.frz, hck, hcx, hz, z80, pB_max2, pB_min2, pB_max3, BMM, apart2_pu]
    exact ⟨NIL, .inl ⟨rfl, rfl⟩, rfl⟩
end Go.Proofs.Ytbomjpdheibmfaa
