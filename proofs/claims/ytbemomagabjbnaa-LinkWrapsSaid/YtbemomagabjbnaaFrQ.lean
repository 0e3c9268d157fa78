/-
  link: written.
-/
import Derived.Test.YtbemomagabjbnaaFrP
import Derived.Test.YtbemomagabjbnaaFrK2
set_option linter.unusedSimpArgs false
set_option linter.unusedVariables false
set_option maxRecDepth 100000
namespace Go.Proofs.Ytbemomagabjbnaa
open Go Go.Ax
variable {fuel : Nat} {M : Mem} {Q : AV → Mem → Prop} {d : Nat}

def isNm (r : List AV) (x : Nat × Nat) : Prop := r = [I64 x.1, I64 x.2]
def wr (ps : List (Nat × Nat)) : List UInt8 := ps.flatMap fun x => be x.1 x.2
theorem be_take (n : Nat) : ∀ (m i : Nat), i ≤ m → (be n m).take (m - i) ++ be n i = be n m
  | 0, i, h => by
    obtain rfl : i = 0 := by omega
    rfl
  | m + 1, i, h => by
    by_cases hi : i = m + 1
    · rw [hi, Nat.sub_self]; rfl
    · rw [show m + 1 - i = (m - i) + 1 by omega]
      have := be_take n m i (by omega)
      simp only [be, List.take_succ_cons, List.cons_append, this]
theorem be_take_succ (n m i : Nat) (h : i < m) : (be n m).take (m - i) = (be n m).take (m - (i + 1)) ++ [UInt8.ofNat (n / 256 ^ i)] := by
  have e1 := be_take n m i (by omega)
  have e2 := be_take n m (i + 1) (by omega)
  rw [← e1] at e2
  have e3 : be n (i + 1) = UInt8.ofNat (n / 256 ^ i) :: be n i := rfl
  rw [e3, show (List.take (m - (i + 1)) ((be n m).take (m - i) ++ be n i)) = (be n m).take (m - (i + 1)) by rw [e1]] at e2
  have e4 : ((be n m).take (m - (i + 1)) ++ [UInt8.ofNat (n / 256 ^ i)]) ++ be n i = (be n m).take (m - i) ++ be n i := by rw [List.append_assoc]; exact e2
  exact (List.append_cancel_right e4).symm
theorem wr_succ (ps : List (Nat × Nat)) (j : Nat) (hj : j < ps.length) : wr (ps.take (j + 1)) = wr (ps.take j) ++ be ps[j].1 ps[j].2 := by
  unfold wr
  rw [List.take_add_one, List.getElem?_eq_getElem hj, List.flatMap_append]
  simp
theorem wr_len (ps : List (Nat × Nat)) (hm : ∀ x ∈ ps, x.2 ≤ 7) : (wr ps).length ≤ 7 * ps.length := by
  induction ps with
  | nil => simp [wr]
  | cons x l ih =>
    have h1 := hm x List.mem_cons_self
    have h2 := ih fun y hy => hm y (List.mem_cons_of_mem _ hy)
    unfold wr at *
    rw [List.flatMap_cons, List.length_append, be_length, List.length_cons]
    omega

set_option maxHeartbeats 8000000 in
theorem written_run {a : AV} {ps : List (Nat × Nat)} (hS : Rd M 2 isNm a ps) (hp : ps.length ≤ 100) (hm : ∀ x ∈ ps, x.1 < 72057594037927936 ∧ x.2 ≤ 7) (hf : 1000 < fuel) (wf : Wf M) (hwm : M.wm ≤ M.size)
    (kk : ∀ o N, Kp M N → SlM N 1 isU8 o (wr ps) → (∀ id, rowOf o = some id → M.size ≤ id) → Q o N) : W3 (callN Try.prog (fsT tbl) fuel (d + 1) (.fn 33) [a] M) Q := by
  have hlen := hS.len
  have cv := fun t r x => pConv2 (P := Try.prog) (t := t) Try.underlying3 Try.underlying5 r x
  refine call_0 tf33 rfl (by simp [a33]) fun b ht hx => ?_
  have h0 := hx 0 _ rfl
  clear hx
  simp only [a33, c33] at ht ⊢
  simp (maxSteps := 2000000) (disch := first | omega | assumption | (simp only [add_size, upd_size, mem0_size, List.length_cons, List.length_nil, wf_add, wf_upd, wf_mem0, lo_wf, bk_wf, lo_size, bk_size, List.all_cons, List.all_nil, one_sc_int, one_sc_bool, one_sc_string, one_sc_slice, one_sc_ptr, one_ptr, one_sl, one_pv, one_cp, one_fn, Bool.and_true, Nat.reduceAdd, *]; done) | (simp only [add_size, upd_size, mem0_size, lo_size, bk_size, List.length_cons, List.length_nil]; omega)) only [RUN, footA, feetIn, resultsA, tupOf, frzL, slot, lay, icyL, fillA, repCells, kR, reduceIte, Nat.reduceEqDiff, Nat.reduceBEq, Nat.reduceLT, Nat.reduceAdd, Nat.reduceLeDiff, Nat.reduceSub, Nat.reduceMul, Int.reduceLT, Int.reduceLE, Int.reduceEq, Int.reduceAdd, Int.reduceSub, Int.reduceMul, decide_true, decide_false, Int.lt_irrefl, Nat.beq_eq, Option.map_some, Option.map_none, List.contains_cons, List.contains_nil, Bool.or_true, Bool.true_or, Bool.or_false, Bool.false_or, Bool.not_true, Bool.not_false, Bool.and_self, List.elem_nil, List.all_nil, List.all_cons, Bool.and_true, Bool.true_and, true_and, and_true, List.map_cons, List.map_nil, List.nil_append, List.cons_append, List.append_nil, Nat.zero_add, Nat.add_zero, List.drop_succ_cons, List.drop_zero, List.take_succ_cons, List.take_zero, List.getElem?_cons_zero, List.getElem?_cons_succ, List.length_cons, List.length_nil, h0, hlen]
  obtain ⟨k, hk⟩ : ∃ k, ps.length = k := ⟨_, rfl⟩
  refine w_loop (I := fun m t N => ∃ (j : Nat) (o : AV), j ≤ k ∧ m = k - j ∧ Kp M N ∧ SlM N 1 isU8 o (wr (ps.take j)) ∧ (∀ id, rowOf o = some id → M.size ≤ id) ∧ nth undefA t 2 = o ∧ nth undefA t 6 = a ∧ nth undefA t 7 = I64 k ∧ nth undefA t 8 = I64 j) (n := k) (by omega) ?_ ?_
  · refine ⟨0, NIL, by omega, rfl, Kp.refl wf, SlM.nil, (fun id h => by cases h), ?_, ?_, ?_, ?_⟩
    all_goals simp (maxSteps := 2000000) (disch := first | omega | assumption | (simp only [add_size, upd_size, mem0_size, List.length_cons, List.length_nil, wf_add, wf_upd, wf_mem0, lo_wf, bk_wf, lo_size, bk_size, List.all_cons, List.all_nil, one_sc_int, one_sc_bool, one_sc_string, one_sc_slice, one_sc_ptr, one_ptr, one_sl, one_pv, one_cp, one_fn, Bool.and_true, Nat.reduceAdd, *]; done) | (simp only [add_size, upd_size, mem0_size, lo_size, bk_size, List.length_cons, List.length_nil]; omega)) only [RUN, footA, feetIn, resultsA, tupOf, frzL, slot, lay, icyL, fillA, repCells, kR, reduceIte, Nat.reduceEqDiff, Nat.reduceBEq, Nat.reduceLT, Nat.reduceAdd, Nat.reduceLeDiff, Nat.reduceSub, Nat.reduceMul, Int.reduceLT, Int.reduceLE, Int.reduceEq, Int.reduceAdd, Int.reduceSub, Int.reduceMul, decide_true, decide_false, Int.lt_irrefl, Nat.beq_eq, Option.map_some, Option.map_none, List.contains_cons, List.contains_nil, Bool.or_true, Bool.true_or, Bool.or_false, Bool.false_or, Bool.not_true, Bool.not_false, Bool.and_self, List.elem_nil, List.all_nil, List.all_cons, Bool.and_true, Bool.true_and, true_and, and_true, List.map_cons, List.map_nil, List.nil_append, List.cons_append, List.append_nil, Nat.zero_add, Nat.add_zero, List.drop_succ_cons, List.drop_zero, List.take_succ_cons, List.take_zero, List.getElem?_cons_zero, List.getElem?_cons_succ, List.length_cons, List.length_nil, h0, hk]
    all_goals rfl
  · rintro m t N hl' ⟨j, o, hj, hmj, kN, hSo, hro, t2, t6, t7, t8⟩
    simp only [ht] at hl' ⊢
    clear h0 ht b
    have wfN := kN.wf
    have leN := kN.le
    by_cases hlt : j < k
    · have hc' : decide ((j : Int) < k) = true := by simp; omega
      have w4 : IntKind.i64.wrap ((j : Int) + 1) = ((j + 1 : Nat) : Int) := by rw [wrap_i64] <;> omega
      obtain ⟨rr, p, hr2, hrr, _, hrp, hld⟩ := hS.elem j (by omega)
      have hld2 := (hld N fun id h => kN.get id ((hS.rows id (by cases a <;> simp_all [rowOf, rowsOf])).2)).1
      have RLa : RL _ a := hS.lt
      have RLp : RL _ p := fun id h => RLa id (by rw [← hrp]; exact h)
      obtain ⟨x, hx⟩ : ∃ x, ps[j]'(by omega) = x := ⟨_, rfl⟩
      have hws := wr_succ ps j (by omega)
      rw [hx] at hrr hws
      have hxm := hm x (by rw [← hx]; exact List.getElem_mem _)
      obtain ⟨n, q⟩ := x
      obtain rfl : rr = [I64 n, I64 q] := hrr
      simp only at hws hxm
      have wq : IntKind.i64.wrap ((q : Int) - 1) = (q : Int) - 1 := by rw [wrap_i64] <;> omega
      simp (maxSteps := 2000000) (disch := first | omega | assumption | (simp only [add_size, upd_size, mem0_size, List.length_cons, List.length_nil, wf_add, wf_upd, wf_mem0, lo_wf, bk_wf, lo_size, bk_size, List.all_cons, List.all_nil, one_sc_int, one_sc_bool, one_sc_string, one_sc_slice, one_sc_ptr, one_ptr, one_sl, one_pv, one_cp, one_fn, Bool.and_true, Nat.reduceAdd, *]; done) | (simp only [add_size, upd_size, mem0_size, lo_size, bk_size, List.length_cons, List.length_nil]; omega)) only [RUN, footA, feetIn, resultsA, tupOf, frzL, slot, lay, icyL, fillA, repCells, kR, reduceIte, Nat.reduceEqDiff, Nat.reduceBEq, Nat.reduceLT, Nat.reduceAdd, Nat.reduceLeDiff, Nat.reduceSub, Nat.reduceMul, Int.reduceLT, Int.reduceLE, Int.reduceEq, Int.reduceAdd, Int.reduceSub, Int.reduceMul, decide_true, decide_false, Int.lt_irrefl, Nat.beq_eq, Option.map_some, Option.map_none, List.contains_cons, List.contains_nil, Bool.or_true, Bool.true_or, Bool.or_false, Bool.false_or, Bool.not_true, Bool.not_false, Bool.and_self, List.elem_nil, List.all_nil, List.all_cons, Bool.and_true, Bool.true_and, true_and, and_true, List.map_cons, List.map_nil, List.nil_append, List.cons_append, List.append_nil, Nat.zero_add, Nat.add_zero, List.drop_succ_cons, List.drop_zero, List.take_succ_cons, List.take_zero, List.getElem?_cons_zero, List.getElem?_cons_succ, List.length_cons, List.length_nil, t2, t6, t7, t8, hc', hr2, wq, hld2, rows_lt RLa leN, rows_lt RLp leN]
      have hwl := wr_len (ps.take j) fun x hx => (hm x (List.mem_of_mem_take hx)).2
      rw [List.length_take] at hwl
      generalize wr (ps.take j) = acc at *
      have gu0 : ((N.add (.row false [.sc (.int .i64 0), .sc (.int .i64 0)])).upd N.size (.row false [I64 n, I64 q])).get N.size = some (.row false [I64 n, I64 q]) := get_upd_eq (wfN.add _) _ _ (by rw [add_size]; omega)
      have hlo := hSo.lt
      have hSo2 : SlM ((N.add (.row false [.sc (.int .i64 0), .sc (.int .i64 0)])).upd N.size (.row false [I64 n, I64 q])) 1 isU8 o acc := hSo.keep fun id h => by
        have := hlo id h
        rw [get_upd_ne (wfN.add _) _ _ _ (by omega), get_add wfN _ _ (by omega)]
      have kN2 : Kp M ((N.add (.row false [.sc (.int .i64 0), .sc (.int .i64 0)])).upd N.size (.row false [I64 n, I64 q])) := (kN.add _).upd hwm leN _
      have hou : rowOf o ≠ some N.size := fun h => by have := hlo _ h; omega
      generalize hN2 : (N.add (.row false [.sc (.int .i64 0), .sc (.int .i64 0)])).upd N.size (.row false [I64 n, I64 q]) = N2 at *
      generalize N.size = u at *
      refine w_loop (I := fun m2 t N => ∃ (i : Nat) (o2 : AV), i ≤ q ∧ m2 = i ∧ Kp M N ∧ N.get u = some (.row false [I64 n, I64 q]) ∧ SlM N 1 isU8 o2 (acc ++ (be n q).take (q - i)) ∧ rowOf o2 ≠ some u ∧ (∀ id, rowOf o2 = some id → M.size ≤ id) ∧ nth undefA t 2 = o2 ∧ nth undefA t 4 = .ptr u 0 ∧ nth undefA t 5 = I64 ((i : Int) - 1) ∧ nth undefA t 6 = a ∧ nth undefA t 7 = I64 k ∧ nth undefA t 8 = I64 j) (n := q) (by omega) ?_ ?_
      · refine ⟨q, o, Nat.le_refl _, rfl, kN2, gu0, by rw [Nat.sub_self, List.take_zero, List.append_nil]; exact hSo2, hou, hro, ?_, ?_, ?_, ?_, ?_, ?_⟩
        all_goals simp (maxSteps := 2000000) (disch := first | omega | assumption | (simp only [add_size, upd_size, mem0_size, List.length_cons, List.length_nil, wf_add, wf_upd, wf_mem0, lo_wf, bk_wf, lo_size, bk_size, List.all_cons, List.all_nil, one_sc_int, one_sc_bool, one_sc_string, one_sc_slice, one_sc_ptr, one_ptr, one_sl, one_pv, one_cp, one_fn, Bool.and_true, Nat.reduceAdd, *]; done) | (simp only [add_size, upd_size, mem0_size, lo_size, bk_size, List.length_cons, List.length_nil]; omega)) only [RUN, footA, feetIn, resultsA, tupOf, frzL, slot, lay, icyL, fillA, repCells, kR, reduceIte, Nat.reduceEqDiff, Nat.reduceBEq, Nat.reduceLT, Nat.reduceAdd, Nat.reduceLeDiff, Nat.reduceSub, Nat.reduceMul, Int.reduceLT, Int.reduceLE, Int.reduceEq, Int.reduceAdd, Int.reduceSub, Int.reduceMul, decide_true, decide_false, Int.lt_irrefl, Nat.beq_eq, Option.map_some, Option.map_none, List.contains_cons, List.contains_nil, Bool.or_true, Bool.true_or, Bool.or_false, Bool.false_or, Bool.not_true, Bool.not_false, Bool.and_self, List.elem_nil, List.all_nil, List.all_cons, Bool.and_true, Bool.true_and, true_and, and_true, List.map_cons, List.map_nil, List.nil_append, List.cons_append, List.append_nil, Nat.zero_add, Nat.add_zero, List.drop_succ_cons, List.drop_zero, List.take_succ_cons, List.take_zero, List.getElem?_cons_zero, List.getElem?_cons_succ, List.length_cons, List.length_nil, t2, t6, t7, t8]
        all_goals rfl
      · clear t2 t6 t7 t8
        rintro m2 t2' N3 hl2 ⟨i, o2, hi, hm2, kN3, gu, hS3, hou3, hro3, t2, t4, t5, t6, t7, t8⟩
        simp only [hl'] at hl2 ⊢
        have wf3 := kN3.wf
        have lu := Mem.get_lt gu
        by_cases hi0 : i = 0
        · subst hi0
          have q5 : decide (0 ≤ ((0 : Nat) : Int) - 1) = false := rfl
          rw [Nat.sub_zero, List.take_of_length_le (by rw [be_length]; omega), ← hws] at hS3
          simp (maxSteps := 2000000) (disch := first | omega | assumption | (simp only [add_size, upd_size, mem0_size, List.length_cons, List.length_nil, wf_add, wf_upd, wf_mem0, lo_wf, bk_wf, lo_size, bk_size, List.all_cons, List.all_nil, one_sc_int, one_sc_bool, one_sc_string, one_sc_slice, one_sc_ptr, one_ptr, one_sl, one_pv, one_cp, one_fn, Bool.and_true, Nat.reduceAdd, *]; done) | (simp only [add_size, upd_size, mem0_size, lo_size, bk_size, List.length_cons, List.length_nil]; omega)) only [RUN, footA, feetIn, resultsA, tupOf, frzL, slot, lay, icyL, fillA, repCells, kR, reduceIte, Nat.reduceEqDiff, Nat.reduceBEq, Nat.reduceLT, Nat.reduceAdd, Nat.reduceLeDiff, Nat.reduceSub, Nat.reduceMul, Int.reduceLT, Int.reduceLE, Int.reduceEq, Int.reduceAdd, Int.reduceSub, Int.reduceMul, decide_true, decide_false, Int.lt_irrefl, Nat.beq_eq, Option.map_some, Option.map_none, List.contains_cons, List.contains_nil, Bool.or_true, Bool.true_or, Bool.or_false, Bool.false_or, Bool.not_true, Bool.not_false, Bool.and_self, List.elem_nil, List.all_nil, List.all_cons, Bool.and_true, Bool.true_and, true_and, and_true, List.map_cons, List.map_nil, List.nil_append, List.cons_append, List.append_nil, Nat.zero_add, Nat.add_zero, List.drop_succ_cons, List.drop_zero, List.take_succ_cons, List.take_zero, List.getElem?_cons_zero, List.getElem?_cons_succ, List.length_cons, List.length_nil, t2, t4, t5, t6, t7, t8, q5, w4]
          exact ⟨hl2, k - (j + 1), by omega, j + 1, o2, by omega, rfl, kN3, hS3, hro3, rfl, rfl⟩
        · obtain ⟨i, rfl⟩ : ∃ i', i = i' + 1 := ⟨i - 1, by omega⟩
          have q5 : decide (0 ≤ ((i + 1 : Nat) : Int) - 1) = true := decide_eq_true (by omega)
          have wi : ((i + 1 : Nat) : Int) - 1 = (i : Int) := by omega
          rw [wi] at t5 q5
          have w5 : IntKind.i64.wrap (8 * (i : Int)) = ((8 * i : Nat) : Int) := by rw [wrap_i64] <;> omega
          have w6 : IntKind.i64.wrap ((i : Int) - 1) = (i : Int) - 1 := by rw [wrap_i64] <;> omega
          have e1 := shr64 Try.prog 3 n i (by omega)
          obtain ⟨y, hy⟩ : ∃ y, UInt8.ofNat (n / 256 ^ i) = y := ⟨_, rfl⟩
          have wy : IntKind.u8.wrap ((n / 256 ^ i : Nat) : Int) = y.toNat := by rw [← hy]; exact wrap_u8N _
          have gy : (N3.add (.row false [U8 y.toNat])).get N3.size = some (.row false [U8 y.toNat]) := get_add_new wf3 _ _ (Nat.le_refl _) (by omega)
          have hS4 : SlM (N3.add (.row false [U8 y.toNat])) 1 isU8 o2 (acc ++ (be n q).take (q - (i + 1))) := hS3.keep fun id h => get_add wf3 _ _ (hS3.lt id h)
          have hbl : ((be n q).take (q - (i + 1))).length ≤ 7 := by rw [List.length_take, be_length]; omega
          have hti := be_take_succ n q i (by omega)
          rw [hy] at hti
          obtain ⟨o', M1, hap, hS1, wf1, s1, s2, kp, new, wm1⟩ := hS4.appO (wf3.add _) (y := .sl N3.size 0 1 (some 1) 1) (l' := [y]) (new := [[U8 y.toNat]]) (bytes := 1) (cells_lit gy rfl) rfl (.cons rfl .nil) (by simp) rfl (by omega) (by simp; omega) (by simp; omega)
          have kM1 := (kN3.add (.row false [U8 y.toNat])).app hwm hap hro3 wf1 s1 kp wm1
          rw [add_size] at s1 s2 kp
          have gu' := kp u (by omega) hou3
          rw [get_add wf3 _ _ lu, gu] at gu'
          have RLo := rows_lt hS4.rl (Nat.le_refl _)
          rw [add_size] at RLo
          simp (maxSteps := 2000000) (disch := first | omega | assumption | (simp only [add_size, upd_size, mem0_size, List.length_cons, List.length_nil, wf_add, wf_upd, wf_mem0, lo_wf, bk_wf, lo_size, bk_size, List.all_cons, List.all_nil, one_sc_int, one_sc_bool, one_sc_string, one_sc_slice, one_sc_ptr, one_ptr, one_sl, one_pv, one_cp, one_fn, Bool.and_true, Nat.reduceAdd, *]; done) | (simp only [add_size, upd_size, mem0_size, lo_size, bk_size, List.length_cons, List.length_nil]; omega)) only [RUN, footA, feetIn, resultsA, tupOf, frzL, slot, lay, icyL, fillA, repCells, kR, reduceIte, Nat.reduceEqDiff, Nat.reduceBEq, Nat.reduceLT, Nat.reduceAdd, Nat.reduceLeDiff, Nat.reduceSub, Nat.reduceMul, Int.reduceLT, Int.reduceLE, Int.reduceEq, Int.reduceAdd, Int.reduceSub, Int.reduceMul, decide_true, decide_false, Int.lt_irrefl, Nat.beq_eq, Option.map_some, Option.map_none, List.contains_cons, List.contains_nil, Bool.or_true, Bool.true_or, Bool.or_false, Bool.false_or, Bool.not_true, Bool.not_false, Bool.and_self, List.elem_nil, List.all_nil, List.all_cons, Bool.and_true, Bool.true_and, true_and, and_true, List.map_cons, List.map_nil, List.nil_append, List.cons_append, List.append_nil, Nat.zero_add, Nat.add_zero, List.drop_succ_cons, List.drop_zero, List.take_succ_cons, List.take_zero, List.getElem?_cons_zero, List.getElem?_cons_succ, List.length_cons, List.length_nil, t2, t4, t5, t6, t7, t8, q5, gu, w5, w6, cv, pc1_int, wy, e1, hap, RLo]
          refine ⟨hl2, i, by omega, i, o', by omega, rfl, kM1, gu', ?_, fun h => ?_, fun id h => ?_, rfl, rfl⟩
          · rw [hti, ← List.append_assoc]; exact hS1
          · rcases new u h with h' | h'
            · exact hou3 h'
            · rw [add_size] at h'; omega
          · rcases new id h with h' | h'
            · exact hro3 id h'
            · rw [add_size] at h'; have := kN3.le; omega
    · have hc' : decide ((j : Int) < k) = false := by simp; omega
      obtain rfl : j = k := by omega
      rw [List.take_of_length_le (by omega)] at hSo
      have kk := kk o N kN hSo hro
      simp (maxSteps := 2000000) (disch := first | omega | assumption | (simp only [add_size, upd_size, mem0_size, List.length_cons, List.length_nil, wf_add, wf_upd, wf_mem0, lo_wf, bk_wf, lo_size, bk_size, List.all_cons, List.all_nil, one_sc_int, one_sc_bool, one_sc_string, one_sc_slice, one_sc_ptr, one_ptr, one_sl, one_pv, one_cp, one_fn, Bool.and_true, Nat.reduceAdd, *]; done) | (simp only [add_size, upd_size, mem0_size, lo_size, bk_size, List.length_cons, List.length_nil]; omega)) only [RUN, footA, feetIn, resultsA, tupOf, frzL, slot, lay, icyL, fillA, repCells, kR, reduceIte, Nat.reduceEqDiff, Nat.reduceBEq, Nat.reduceLT, Nat.reduceAdd, Nat.reduceLeDiff, Nat.reduceSub, Nat.reduceMul, Int.reduceLT, Int.reduceLE, Int.reduceEq, Int.reduceAdd, Int.reduceSub, Int.reduceMul, decide_true, decide_false, Int.lt_irrefl, Nat.beq_eq, Option.map_some, Option.map_none, List.contains_cons, List.contains_nil, Bool.or_true, Bool.true_or, Bool.or_false, Bool.false_or, Bool.not_true, Bool.not_false, Bool.and_self, List.elem_nil, List.all_nil, List.all_cons, Bool.and_true, Bool.true_and, true_and, and_true, List.map_cons, List.map_nil, List.nil_append, List.cons_append, List.append_nil, Nat.zero_add, Nat.add_zero, List.drop_succ_cons, List.drop_zero, List.take_succ_cons, List.take_zero, List.getElem?_cons_zero, List.getElem?_cons_succ, List.length_cons, List.length_nil, t2, t6, t7, t8, hc', kk]
end Go.Proofs.Ytbemomagabjbnaa
