/-
  link: send, within.
-/
import Derived.Test.YtbemomagabjbnaaLoA
import Derived.Test.YtbemomagabjbnaaLkP
set_option linter.unusedSimpArgs false
set_option linter.unusedVariables false
set_option maxRecDepth 100000
namespace Go.Proofs.Ytbemomagabjbnaa
open Go Go.Ax
variable {fuel : Nat} {M : Mem} {Q : AV → Mem → Prop} {d : Nat}

/-- The first items of a slice of ours. -/
theorem cut_items {o : AV} {out : List Item} (h : SlM M 2 isItem o out) {k : Nat} (hk : k ≤ out.length) : ∃ s, slcO M 2 o none (some (I64 k)) none = some (s, M) ∧ (∀ N, lenO N s = some (I64 k, N)) ∧ rowsOf s = rowsOf o ∧
    ∀ (i : Nat) (hi : i < k), ∃ r p, (∀ N, iadO N 2 s (some i) = some (p, N)) ∧ isItem r (out[i]'(by omega)) ∧ r.length = 2 ∧ rowsOf p = rowsOf s ∧ ∀ N, (∀ id, rowOf o = some id → N.get id = M.get id) → ldO N 2 true p = some (.agg r, N) := by
  have hel := fun i hi => Rd.elem (.inr h) i hi
  rcases h with ⟨rfl, rfl⟩ | ⟨id, rows, cap, rfl, hc, hg, hA, hr⟩
  · obtain rfl : k = 0 := by simpa using hk
    exact ⟨NIL, rfl, fun N => rfl, rfl, fun i hi => by omega⟩
  · have hn := hA.length_eq
    have hfl := flat_len hr
    have fin : ∀ cap', ∀ (i : Nat) (hi : i < k), ∃ r p, (∀ N, iadO N 2 (.sl id 0 k cap' 2) (some i) = some (p, N)) ∧ isItem r (out[i]'(by omega)) ∧ r.length = 2 ∧ rowsOf p = rowsOf (.sl id 0 k cap' 2) ∧ ∀ N, (∀ j, rowOf (.sl id 0 rows.length cap 2) = some j → N.get j = M.get j) → ldO N 2 true p = some (.agg r, N) := by
      intro cap' i hi
      obtain ⟨r, p, h1, h2, h3, h4, h5⟩ := hel i (by omega)
      have e := h1 M
      rw [iad_sl (by omega)] at e
      simp only [Option.some.injEq, Prod.mk.injEq, and_true] at e
      exact ⟨r, p, fun N => by rw [iad_sl hi, e], h2, h3, by rw [← e]; rfl, fun N hN => (h5 N hN).1⟩
    rcases hc with rfl | rfl
    · refine ⟨.sl id 0 k none 2, ?_, fun N => rfl, rfl, fin none⟩
      have hav : rows.flatten.length / 2 = rows.length := by rw [hfl, Nat.mul_div_cancel _ (by omega)]
      unfold slcO
      simp only [Nat.beq_refl, rd_row hg, Nat.sub_zero, hav, bnd_none, bnd_int _ _ _ _ (show k ≤ rows.length by omega), Nat.zero_mul, Nat.zero_add]
    · refine ⟨.sl id 0 k (some (rows.length - 0)) 2, ?_, fun N => rfl, rfl, fin _⟩
      unfold slcO
      simp only [Nat.beq_refl, bnd_none, bnd_int _ _ _ _ (show k ≤ rows.length by omega), Nat.sub_zero, Nat.zero_mul, Nat.zero_add]
      cases Nat.beq rows.length 0 <;> rfl

def sendOf (e : End) (x : Item) : Pk := ⟨e.ep, x.seq, e.want - 1, x.body⟩
def End.sendL (e : End) : List Pk := (e.out.take 4).map (sendOf e) ++ (if e.out.length = 0 ∧ e.owe = true then [⟨e.ep, 0, e.want - 1, []⟩] else [])

set_option maxHeartbeats 8000000 in
theorem send_run {u K : Nat} {e : End} (h : Own M u K e) (hn : e.out.length ≤ 1000) (hb : ∀ x ∈ e.out, x.body.length ≤ 1000000) (hw1 : -1000000000 ≤ e.want) (hw2 : e.want ≤ 1000000000) (hf : 1000 < fuel)
    (k : ∀ a N, SlM N 4 isPkR a e.sendL → (∀ id, rowOf a = some id → M.size ≤ id) → Own N u K { e with since := 0, owe := false } → M.size ≤ N.size → (∀ j, j < K → j ≠ u → N.get j = M.get j) → Q a N) :
    W3 (callN Try.prog (fsT tbl) fuel (d + 2) (.fn 42) [.ptr u 0] M) Q := by
  obtain ⟨wf, hK, o, hu, hS, hoK⟩ := h
  have lu := Mem.get_lt hu
  have lub : u.blt M.size = true := blt_t lu
  have lo := hS.len
  have hkn : min e.out.length 4 ≤ e.out.length := Nat.min_le_left _ _
  obtain ⟨s, hsl, hsn, hsr, hel⟩ := cut_items hS hkn
  have RLo := rows_lt hS.rl (Nat.le_refl _)
  have hmin : (if (4 : Int) < (e.out.length : Int) then (4 : Int) else (e.out.length : Int)) = ((min e.out.length 4 : Nat) : Int) := by split <;> omega
  refine call_0 tf42 rfl (by simp [a42]) fun b ht hx => ?_
  have h0 := hx 0 _ rfl
  clear hx
  simp only [a42, c42] at ht ⊢
  obtain ⟨m, hm⟩ : ∃ m, min e.out.length 4 = m := ⟨_, rfl⟩
  rw [hm] at hkn hsl hsn hmin
  simp only [hm] at hel
  simp (maxSteps := 2000000) (disch := first | omega | assumption | (simp only [DS, Nat.reduceAdd, *]; done) | (simp only [DZ]; omega)) only [RUN, RU, footA, feetIn, resultsA, tupOf, frzL, slot, lay, icyL, fillA, repCells, kR, reduceIte, Nat.reduceEqDiff, Nat.reduceBEq, Nat.reduceLT, Nat.reduceAdd, Nat.reduceLeDiff, Nat.reduceSub, Nat.reduceMul, Int.reduceLT, Int.reduceLE, Int.reduceEq, Int.reduceAdd, Int.reduceSub, Int.reduceMul, h0, hu, lub, lo, hmin, hsl, hsn, RLo, hsr]
  refine w_loop (I := fun n t N => ∃ (i : Nat) (a : AV), i ≤ m ∧ n = m - i ∧ Wf N ∧ M.size ≤ N.size ∧ (∀ j, j < M.size → N.get j = M.get j) ∧ SlM N 4 isPkR a ((e.out.take i).map (sendOf e)) ∧ (∀ id, rowOf a = some id → M.size ≤ id) ∧ nth undefA t 0 = .ptr u 0 ∧ nth undefA t 2 = a ∧ nth undefA t 17 = s ∧ nth undefA t 18 = I64 m ∧ nth undefA t 19 = I64 i) (n := m) (by omega) ?_ ?_
  · refine ⟨0, NIL, by omega, by omega, wf, Nat.le_refl _, fun _ _ => rfl, SlM.nil, (fun id h => by cases h), ?_, ?_, ?_, ?_, ?_⟩
    all_goals simp (maxSteps := 2000000) (disch := first | omega | assumption | (simp only [DS, Nat.reduceAdd, *]; done) | (simp only [DZ]; omega)) only [RUN, RU, footA, feetIn, resultsA, tupOf, frzL, slot, lay, icyL, fillA, repCells, kR, reduceIte, Nat.reduceEqDiff, Nat.reduceBEq, Nat.reduceLT, Nat.reduceAdd, Nat.reduceLeDiff, Nat.reduceSub, Nat.reduceMul, Int.reduceLT, Int.reduceLE, Int.reduceEq, Int.reduceAdd, Int.reduceSub, Int.reduceMul, h0]
    all_goals rfl
  · rintro n t N hl' ⟨i, a, hi, hn', wfN, leN, kN, hA, hrA, t0, t2, t17, t18, t19⟩
    simp only [ht] at hl' ⊢
    clear h0 ht b
    have guN : N.get u = some (.row false [I64 e.ep, I64 e.nx, o, I64 e.want, I64 e.since, BL e.owe]) := by rw [kN u lu]; exact hu
    have luN : u.blt N.size = true := blt_t (by omega)
    by_cases hlt : i < m
    · have hc' : decide ((i : Int) < m) = true := decide_eq_true (by omega)
      have w1 : IntKind.i64.wrap ((i : Int) + 1) = ((i + 1 : Nat) : Int) := by rw [wrap_i64] <;> omega
      have w2 : IntKind.i64.wrap (e.want - 1) = e.want - 1 := by rw [wrap_i64] <;> omega
      obtain ⟨r, p, hp, ⟨ab, rfl, hab⟩, _, hrp, hld⟩ := hel i hlt
      have hxb := hb (e.out[i]'(by omega)) (List.getElem_mem _)
      obtain ⟨x, hx⟩ : ∃ x, e.out[i]'(by omega) = x := ⟨_, rfl⟩
      have htk : (e.out.take (i + 1)).map (sendOf e) = (e.out.take i).map (sendOf e) ++ [sendOf e x] := by
        rw [List.take_add_one, List.getElem?_eq_getElem (by omega), hx]; simp
      rw [hx] at hab hxb hld
      have hld2 := hld N fun id h => kN id ((hS.lt id h))
      have rowso : RL M.size o := hS.rl
      have RLs := rows_lt rowso leN
      have RLp : ((rowsOf p).all fun i => i.blt N.size) = true := by rw [hrp, hsr]; exact RLs
      obtain ⟨rb, hrb, hcl⟩ := bclone_run (fuel := fuel) (d := d) hab (by omega)
      have ab1 := hab.one
      have rab := hab.rows mem0
      have rrb := hrb.rows mem0
      have rb1 := hrb.one
      have rbc := hrb.cells
      have abc := hab.cells
      have wX1 : Wf (N.add (.row false [I64 0, NIL])) := wfN.add _
      have zX1 : N.size < (N.add (.row false [I64 0, NIL])).size := by rw [add_size]; omega
      have gX : ((N.add (.row false [I64 0, NIL])).upd N.size (.row false [I64 x.seq, ab])).get N.size = some (.row false [I64 x.seq, ab]) := get_upd_eq wX1 _ _ zX1
      have guX : ((N.add (.row false [I64 0, NIL])).upd N.size (.row false [I64 x.seq, ab])).get u = some (.row false [I64 e.ep, I64 e.nx, o, I64 e.want, I64 e.since, BL e.owe]) := by rw [get_upd_ne wX1 _ _ _ (by omega), get_add wfN _ _ (by omega)]; exact guN
      have sX : ((N.add (.row false [I64 0, NIL])).upd N.size (.row false [I64 x.seq, ab])).size = N.size + 1 := by rw [upd_size, add_size]
      have wX : Wf ((N.add (.row false [I64 0, NIL])).upd N.size (.row false [I64 x.seq, ab])) := wX1.upd _ _
      have kX : ∀ j, j < N.size → ((N.add (.row false [I64 0, NIL])).upd N.size (.row false [I64 x.seq, ab])).get j = N.get j := fun j hj => by rw [get_upd_ne wX1 _ _ _ (by omega), get_add wfN _ _ (by omega)]
      simp (maxSteps := 2000000) (disch := first | omega | assumption | (simp only [DS, Nat.reduceAdd, *]; done) | (simp only [DZ]; omega)) only [RUN, RU, footA, feetIn, resultsA, tupOf, frzL, slot, lay, icyL, fillA, repCells, kR, reduceIte, Nat.reduceEqDiff, Nat.reduceBEq, Nat.reduceLT, Nat.reduceAdd, Nat.reduceLeDiff, Nat.reduceSub, Nat.reduceMul, Int.reduceLT, Int.reduceLE, Int.reduceEq, Int.reduceAdd, Int.reduceSub, Int.reduceMul, t0, t2, t17, t18, t19, hc', hp, hld2, RLp, RLs, hsr]
      generalize (N.add (.row false [I64 0, NIL])).upd N.size (.row false [I64 x.seq, ab]) = X at *
      have gy : (X.add (.row false [I64 e.ep, I64 x.seq, I64 (e.want - 1), rb])).get (N.size + 1) = some (.row false [I64 e.ep, I64 x.seq, I64 (e.want - 1), rb]) := get_add_new wX _ _ (by omega) (by omega)
      have hA2 : SlM (X.add (.row false [I64 e.ep, I64 x.seq, I64 (e.want - 1), rb])) 4 isPkR a ((e.out.take i).map (sendOf e)) := hA.keep fun id h => by
        have := hA.lt id h
        rw [get_add wX _ _ (by omega), kX id this]
      obtain ⟨a', M1, hap, hS1, wf1, s1, s2, kp, new, _⟩ := hA2.appO (wX.add _) (y := .sl (N.size + 1) 0 1 (some 1) 4) (l' := [sendOf e x]) (new := [[I64 e.ep, I64 x.seq, I64 (e.want - 1), rb]]) (bytes := 48) (cells_lit gy rfl) rfl (.cons ⟨rb, rfl, hrb⟩ .nil) (by simp) (by simp only [List.flatten_cons, List.flatten_nil, List.append_nil, List.all_cons, List.all_nil, one_sc_int, rb1, Bool.and_true]) (by omega) (by simp; omega) (by simp; omega)
      rw [← htk] at hS1
      rw [add_size] at s1 s2 kp
      have RLa := rows_lt hA2.rl (Nat.le_refl _)
      rw [add_size, sX] at RLa
      have luX : u.blt X.size = true := blt_t (by omega)
      have lnX : N.size.blt X.size = true := blt_t (by omega)
      simp (maxSteps := 2000000) (disch := first | omega | assumption | (simp only [DS, Nat.reduceAdd, *]; done) | (simp only [DZ]; omega)) only [RUN, RU, footA, feetIn, resultsA, tupOf, frzL, slot, lay, icyL, fillA, repCells, kR, reduceIte, Nat.reduceEqDiff, Nat.reduceBEq, Nat.reduceLT, Nat.reduceAdd, Nat.reduceLeDiff, Nat.reduceSub, Nat.reduceMul, Int.reduceLT, Int.reduceLE, Int.reduceEq, Int.reduceAdd, Int.reduceSub, Int.reduceMul, t0, t2, t17, t18, t19, guN, guX, gX, sX, luX, lnX, w2, hcl, rab, rrb, rb1, rbc, ab1, abc, hap, RLa, w1]
      refine ⟨hl', m - (i + 1), by omega, i + 1, a', by omega, rfl, wf1, by omega, fun j hj => ?_, hS1, fun id h => ?_, rfl, rfl⟩
      · rw [kp j (by omega) (fun h => by have := hrA j h; omega), get_add wX _ _ (by omega), kX j (by omega)]; exact kN j hj
      · rcases new id h with h' | h'
        · exact hrA id h'
        · rw [add_size] at h'; omega
    · have hc' : decide ((i : Int) < m) = false := decide_eq_false (by omega)
      obtain rfl : i = m := by omega
      have w2 : IntKind.i64.wrap (e.want - 1) = e.want - 1 := by rw [wrap_i64] <;> omega
      have hfin : ∀ a N2, Wf N2 → M.size ≤ N2.size → (∀ j, j < M.size → N2.get j = M.get j) → SlM N2 4 isPkR a e.sendL → (∀ id, rowOf a = some id → M.size ≤ id) → Q a ((N2.upd u (.row false [I64 e.ep, I64 e.nx, o, I64 e.want, I64 e.since, BL false])).upd u (.row false [I64 e.ep, I64 e.nx, o, I64 e.want, I64 0, BL false])) := by
        intro a N2 wf2 le2 k2 hS2 hr2
        have hnu : ∀ id, M.size ≤ id → u ≠ id := fun id h => by omega
        refine k a _ (hS2.keep fun id h => ?_) hr2 ⟨(wf2.upd _ _).upd _ _, by rw [upd_size, upd_size]; omega, o, get_upd_eq (wf2.upd _ _) _ _ (by rw [upd_size]; omega), hS.keep fun id h => ?_, hoK⟩ (by rw [upd_size, upd_size]; exact le2) (fun j hj hju => ?_)
        · rw [get_upd_ne (wf2.upd _ _) _ _ _ (hnu id (hr2 id h)), get_upd_ne wf2 _ _ _ (hnu id (hr2 id h))]
        · have h2 := (hoK id h).2
          rw [get_upd_ne (wf2.upd _ _) _ _ _ (fun e => h2 e.symm), get_upd_ne wf2 _ _ _ (fun e => h2 e.symm)]
          exact k2 id (hS.lt id h)
        · rw [get_upd_ne (wf2.upd _ _) _ _ _ (fun e => hju e.symm), get_upd_ne wf2 _ _ _ (fun e => hju e.symm)]
          exact k2 j (by omega)
      have la := hA.len
      have htl : (e.out.take i).length = i := by rw [List.length_take]; omega
      rw [List.length_map, htl] at la
      have o1 := hS.one
      have oc := hS.cells
      by_cases hm0 : 0 < i
      · have q0 : decide ((i : Int) = 0) = false := decide_eq_false (by omega)
        have hsl : e.sendL = (e.out.take i).map (sendOf e) := by
          unfold End.sendL
          rw [if_neg (by omega), List.append_nil]
          congr 1
          rw [← hm]
          by_cases h4 : e.out.length ≤ 4
          · rw [Nat.min_eq_left h4, List.take_of_length_le h4, List.take_of_length_le (Nat.le_refl _)]
          · rw [Nat.min_eq_right (by omega)]
        have hq := hfin a N wfN leN kN (by rw [hsl]; exact hA) hrA
        simp (maxSteps := 2000000) (disch := first | omega | assumption | (simp only [DS, Nat.reduceAdd, *]; done) | (simp only [DZ]; omega)) only [RUN, RU, footA, feetIn, resultsA, tupOf, frzL, slot, lay, icyL, fillA, repCells, kR, reduceIte, Nat.reduceEqDiff, Nat.reduceBEq, Nat.reduceLT, Nat.reduceAdd, Nat.reduceLeDiff, Nat.reduceSub, Nat.reduceMul, Int.reduceLT, Int.reduceLE, Int.reduceEq, Int.reduceAdd, Int.reduceSub, Int.reduceMul, t0, t2, t17, t18, t19, hc', la, q0, guN, luN, wfN, o1, oc, hq]
      · have hi0 : i = 0 := by omega
        have ho0 : e.out.length = 0 := by omega
        have q0 : decide ((i : Int) = 0) = true := decide_eq_true (by omega)
        have hnil : e.out = [] := List.eq_nil_of_length_eq_zero ho0
        have hA0 : (e.out.take i).map (sendOf e) = [] := by rw [hnil]; simp
        rw [hA0] at hA
        cases howe : e.owe with
        | false =>
          have hsl : e.sendL = [] := by unfold End.sendL; rw [howe, hnil]; simp
          have hq := hfin a N wfN leN kN (by rw [hsl]; exact hA) hrA
          rw [howe] at guN
          simp (maxSteps := 2000000) (disch := first | omega | assumption | (simp only [DS, Nat.reduceAdd, *]; done) | (simp only [DZ]; omega)) only [RUN, RU, footA, feetIn, resultsA, tupOf, frzL, slot, lay, icyL, fillA, repCells, kR, reduceIte, Nat.reduceEqDiff, Nat.reduceBEq, Nat.reduceLT, Nat.reduceAdd, Nat.reduceLeDiff, Nat.reduceSub, Nat.reduceMul, Int.reduceLT, Int.reduceLE, Int.reduceEq, Int.reduceAdd, Int.reduceSub, Int.reduceMul, t0, t2, t17, t18, t19, hc', la, q0, guN, luN, wfN, o1, oc, hq]
        | true =>
          have hsl : e.sendL = [⟨e.ep, 0, e.want - 1, []⟩] := by unfold End.sendL; rw [howe, hnil]; simp
          rw [howe] at guN
          have gy : (N.add (.row false [I64 e.ep, I64 0, I64 (e.want - 1), NIL])).get N.size = some (.row false [I64 e.ep, I64 0, I64 (e.want - 1), NIL]) := get_add_new wfN _ _ (Nat.le_refl _) (by omega)
          have hA2 : SlM (N.add (.row false [I64 e.ep, I64 0, I64 (e.want - 1), NIL])) 4 isPkR a [] := hA.keep fun id h => get_add wfN _ _ (hA.lt id h)
          obtain ⟨a', M1, hap, hS1, wf1, s1, s2, kp, new, _⟩ := hA2.appO (wfN.add _) (y := .sl N.size 0 1 (some 1) 4) (l' := [⟨e.ep, 0, e.want - 1, []⟩]) (new := [[I64 e.ep, I64 0, I64 (e.want - 1), NIL]]) (bytes := 48) (cells_lit gy rfl) rfl (.cons ⟨NIL, rfl, .inl ⟨rfl, rfl⟩⟩ .nil) (by simp) rfl (by omega) (by simp) (by simp)
          rw [List.nil_append, ← hsl] at hS1
          rw [add_size] at s1 s2 kp
          have kM : ∀ j, j < M.size → M1.get j = M.get j := fun j hj => by rw [kp j (by omega) (fun h => by have := hrA j h; omega), get_add wfN _ _ (by omega)]; exact kN j hj
          have hq := hfin a' M1 wf1 (by omega) kM hS1 fun id h => by
            rcases new id h with h' | h'
            · exact hrA id h'
            · rw [add_size] at h'; omega
          have gu1 : M1.get u = some (.row false [I64 e.ep, I64 e.nx, o, I64 e.want, I64 e.since, BL true]) := by rw [kM u lu, hu, howe]
          have lu1 : u.blt M1.size = true := blt_t (by omega)
          have RLa := rows_lt hA2.rl (Nat.le_refl _)
          rw [add_size] at RLa
          simp (maxSteps := 2000000) (disch := first | omega | assumption | (simp only [DS, Nat.reduceAdd, *]; done) | (simp only [DZ]; omega)) only [RUN, RU, footA, feetIn, resultsA, tupOf, frzL, slot, lay, icyL, fillA, repCells, kR, reduceIte, Nat.reduceEqDiff, Nat.reduceBEq, Nat.reduceLT, Nat.reduceAdd, Nat.reduceLeDiff, Nat.reduceSub, Nat.reduceMul, Int.reduceLT, Int.reduceLE, Int.reduceEq, Int.reduceAdd, Int.reduceSub, Int.reduceMul, t0, t2, t17, t18, t19, hc', la, q0, guN, luN, wfN, o1, oc, w2, hap, RLa, gu1, lu1, wf1, hq]
end Go.Proofs.Ytbemomagabjbnaa
