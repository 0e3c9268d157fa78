/-
  frame.Seal, in the caller's memory.
-/
import Derived.Test.YtidkemgkejbalaaFrK2
set_option linter.unusedSimpArgs false
set_option linter.unusedVariables false
set_option maxRecDepth 100000
namespace Go.Proofs.Ytidkemgkejbalaa
open Go Go.Ax
variable {fuel : Nat} {M : Mem} {Q : AV → Mem → Prop} {d : Nat}

theorem lay_zero (h b : List UInt8) (z : Nat) (hz : b.length ≤ z) : lay (u8s (h ++ List.replicate z 0)) h.length (u8s b) = u8s (h ++ b ++ List.replicate (z - b.length) 0) := by
  obtain ⟨j, rfl⟩ : ∃ j, z = b.length + j := ⟨z - b.length, by omega⟩
  rw [Nat.add_sub_cancel_left]
  unfold lay
  rw [u8s_len]
  simp only [u8s, List.map_append, List.map_replicate]
  rw [List.take_left' (by simp), List.drop_append, List.drop_eq_nil_of_le (by simp), List.nil_append, List.length_map, Nat.add_sub_cancel_left, List.drop_replicate, Nat.add_sub_cancel_left]
/-- Where a row of bytes is laid over. -/
theorem slm_upd {M : Mem} (wf : Wf M) {id n : Nat} {cap : Option Nat} {l : List UInt8} (hn : n = l.length) (hc : cap = none ∨ cap = some n) (hid : id < M.size) : SlM (M.upd id (.row false (u8s l))) 1 isU8 (.sl id 0 n cap 1) l := by
  refine .inr ⟨id, l.map fun x => [U8 x.toNat], cap, by rw [hn, List.length_map], ?_, ?_, u8s_all2 l, ?_⟩
  · rcases hc with h | h
    · exact .inl h
    · exact .inr (by rw [h, hn, List.length_map])
  · rw [u8s_flat]; exact get_upd_eq wf _ _ hid
  · intro r hr
    obtain ⟨y, _, rfl⟩ := List.mem_map.1 hr
    rfl

theorem appz_ok2 {M : Mem} {a : AV} {l : List UInt8} (h : SlM M 1 isU8 a l) (wf : Wf M) (n : Nat) (hn : l.length + n ≤ 4294967296) :
    ∃ a' M', appzO M 1 1 (.int .u8 0) a (some n) = some (a', M') ∧ SlM M' 1 isU8 a' (l ++ List.replicate n 0) ∧ Wf M' ∧ M.size ≤ M'.size ∧ (∀ j, j < M.size → rowOf a ≠ some j → M'.get j = M.get j) ∧ (∀ id, rowOf a' = some id → rowOf a = some id ∨ M.size ≤ id) ∧ M'.wm = M.wm ∧ ((∀ id, rowOf a = some id → M.wm ≤ id) → M'.dirty = M.dirty) := by
  obtain ⟨a', M', ⟨old, ho, hap⟩, hS, wf', hle, _, kp, new, wm⟩ := h.app wf (new := List.replicate n [U8 0]) (l' := List.replicate n 0) (bytes := 1) (rep_all2 n) (fun r hr => by rw [(List.mem_replicate.1 hr).2]; rfl) (cel_U8.all (rep_all2 n)) (by omega) (by rw [List.length_replicate]; omega) (by rw [List.length_replicate]; omega)
  refine ⟨a', M', ?_, hS, wf', hle, kp, new, wm, appendA_dirty hap⟩
  rw [rep_flat, List.length_replicate] at hap
  unfold appzO
  simp only [ho, rep_u8, hap]

theorem firstA_bs {M : Mem} {y : AV} {l : List UInt8} (hy : Bs y l) : firstA M l.length 1 y = some (u8s l) := by
  rcases bs_form hy with ⟨rfl, rfl⟩ | ⟨cap, rfl⟩
  · rfl
  · simp only [firstA, Nat.beq_refl, Nat.ble_eq_true_of_le (Nat.le_refl _), Bool.and_self]
    rw [List.take_of_length_le (by rw [u8s_len]; omega)]
theorem cpy_gen {M : Mem} (wf : Wf M) {id off n : Nat} {cap : Option Nat} {cs : List AV} {y : AV} {l : List UInt8} (hg : M.get id = some (.row false cs)) (hly : lenA y = some l.length) (hf : firstA M l.length 1 y = some (u8s l)) (hn : l.length ≤ n) (hc : off + l.length ≤ cs.length) :
    ∃ k, cpyO M 1 (.sl id off n cap 1) y = some (.sc (goInt k), M.upd id (.row false (lay cs off (u8s l)))) := by
  refine ⟨Nat.min l.length n, ?_⟩
  have hm : Nat.min l.length n = l.length := Nat.min_eq_left hn
  have hlx : lenA (.sl id off n cap 1) = some n := rfl
  have hb : Nat.ble (off + (u8s l).length) cs.length = true := Nat.ble_eq_true_of_le (by rw [u8s_len]; exact hc)
  unfold cpyO
  simp only [hlx, hly, hm, hf, hg, hb, u8s_one, Bool.and_self, put_upd wf (Mem.get_lt hg)]

set_option maxHeartbeats 8000000 in
theorem seal0_err {a : AV} {l : List UInt8} (hS : Bs a l) (hl2 : l.length ≤ 1000000000) (h1 : 1000 < l.length) (hf : 3000 < fuel) (M : Mem) : callN Try.prog (fsT tbl) fuel (d + 4) (.fn 5) [a] M = some (.tup [NIL, I64 4], M) := by
  have hlen := hS.len
  have hcl := fun M => class_run (fuel := fuel) (d := d) l.length (by omega) (by omega) M
  simp only [if_neg (show ¬ l.length ≤ 1000 by omega)] at hcl
  apply w3_eq
  refine call_0 tf5 rfl (by simp [a5]) fun b ht hx => ?_
  have h0 := hx 0 _ rfl
  clear hx
  simp only [a5, c5] at ht ⊢
  have ra : rowsOf a = [] := hS.rows mem0
  have q1 : decide ((4 : Int) = 0) = false := by rfl
  simp (maxSteps := 2000000) (disch := first | omega | assumption | (simp only [add_size, upd_size, mem0_size, List.length_cons, List.length_nil, wf_add, wf_upd, wf_mem0, lo_wf, bk_wf, lo_size, bk_size, List.all_cons, List.all_nil, one_sc_int, one_sc_bool, one_sc_string, one_sc_slice, one_sc_ptr, one_ptr, one_sl, one_pv, one_cp, one_fn, Bool.and_true, Nat.reduceAdd, *]; done) | (simp only [add_size, upd_size, mem0_size, lo_size, bk_size, List.length_cons, List.length_nil]; omega)) only [RUN, footA, feetIn, resultsA, tupOf, frzL, slot, lay, icyL, fillA, repCells, kR, reduceIte, Nat.reduceEqDiff, Nat.reduceBEq, Nat.reduceLT, Nat.reduceAdd, Nat.reduceLeDiff, Nat.reduceSub, Nat.reduceMul, Int.reduceLT, Int.reduceLE, Int.reduceEq, Int.reduceAdd, Int.reduceSub, Int.reduceMul, decide_true, decide_false, Int.lt_irrefl, Nat.beq_eq, Option.map_some, Option.map_none, List.contains_cons, List.contains_nil, Bool.or_true, Bool.true_or, Bool.or_false, Bool.false_or, Bool.not_true, Bool.not_false, Bool.and_self, List.elem_nil, List.all_nil, List.all_cons, Bool.and_true, Bool.true_and, true_and, and_true, List.map_cons, List.map_nil, List.nil_append, List.cons_append, List.append_nil, Nat.zero_add, Nat.add_zero, List.drop_succ_cons, List.drop_zero, List.take_succ_cons, List.take_zero, List.getElem?_cons_zero, List.getElem?_cons_succ, List.length_cons, List.length_nil, h0, hlen, hcl, ra, q1]

set_option maxHeartbeats 8000000 in
theorem seal0_gen {a : AV} {l : List UInt8} (hlen : ∀ N, lenO N a = some (I64 l.length, N)) (hlA : lenA a = some l.length) (RLa : RL M.size a) (hfi : ∀ N, Kp M N → firstA N l.length 1 a = some (u8s l)) (h2 : l.length ≤ 1000) (hf : 3000 < fuel) (wf : Wf M) (hwm : M.wm ≤ M.size)
    (kk : ∀ o N, Kp M N → SlM N 1 isU8 o (frameL l) → (∀ id, rowOf o = some id → M.size ≤ id) → Q (.tup [o, I64 0]) N) : W3 (callN Try.prog (fsT tbl) fuel (d + 4) (.fn 5) [a] M) Q := by
  have hcl := fun M => class_run (fuel := fuel) (d := d) l.length (by omega) (by omega) M
  simp only [if_pos h2] at hcl
  obtain ⟨hd, hhd, hput⟩ := put_num (fuel := fuel) (d := d) (l.length : Int) (by omega)
  have hnb : ¬ badN (l.length : Int) := by unfold badN; omega
  rw [putB, if_neg hnb, Int.toNat_natCast] at hhd
  rw [putC, if_neg hnb] at hput
  have hp3 := putL_small l.length h2
  have hge := classM_ge l.length h2
  have hle := classM_le l.length
  have hhl := headL_length l
  have hcc := classM_cases l.length
  have k0 : Kp M (M.add (.row false [U8 181])) := (Kp.refl wf).add _
  have m1 : SlM (M.add (.row false [U8 181])) 1 isU8 (.sl M.size 0 1 (some 1) 1) [181] := by
    refine .inr ⟨M.size, [[U8 181]], some 1, rfl, .inr rfl, ?_, .cons rfl .nil, by simp⟩
    exact get_add_new wf _ _ (Nat.le_refl _) (by omega)
  obtain ⟨rows, ho1, ho2, ho3, ho4⟩ := hhd.open
  obtain ⟨a1, M1, e1, s1, wf1, le1, _, kp1, new1, wm1⟩ := m1.appO (wf.add _) (ho1 _) ho2 ho3 ho4 (cel_U8.all ho3) (by omega) (bytes := 1) (by simp; omega) (by simp; omega)
  have k1 := k0.app hwm e1 (fun id h => by cases h; exact Nat.le_refl _) wf1 le1 kp1 wm1
  have hr1 : ∀ id, rowOf a1 = some id → M.size ≤ id := fun id h => by
    rcases new1 id h with h' | h'
    · cases h'; exact Nat.le_refl _
    · rw [add_size] at h'; omega
  replace s1 : SlM M1 1 isU8 a1 (headL l) := s1
  have l1 := s1.len
  obtain ⟨z, hz⟩ : ∃ z, classM l.length - 3 - (headL l).length = z := ⟨_, rfl⟩
  have w1 : IntKind.i64.wrap ((classM l.length : Int) - 3) = ((classM l.length - 3 : Nat) : Int) := by rw [wrap_i64] <;> omega
  have w2 : IntKind.i64.wrap (((classM l.length - 3 : Nat) : Int) - (headL l).length) = (z : Int) := by rw [wrap_i64] <;> omega
  obtain ⟨a2, M2, e2, s2, wf2, le2, kp2, new2, wm2, di2⟩ := appz_ok2 s1 wf1 z (by omega)
  have k2 : Kp M M2 := ⟨wf2, Nat.le_trans k1.le le2, fun j hj => by rw [kp2 j (by have := k1.le; omega) (fun q => by have := hr1 j q; omega)]; exact k1.get j hj, wm2.trans k1.wm, (di2 fun id h => by have := hr1 id h; have := k1.wm; omega).trans k1.di⟩
  have hr2 : ∀ id, rowOf a2 = some id → M.size ≤ id := fun id h => by
    rcases new2 id h with h' | h'
    · exact hr1 id h'
    · have := k1.le; omega
  have hb1 := rows_lt s1.rl (Nat.le_refl _)
  have ls2 : (headL l ++ List.replicate z (0 : UInt8)).length = classM l.length - 3 := by simp; omega
  rcases slm_form s2 with ⟨_, h0⟩ | ⟨id, cap, rfl, hcap, hg⟩
  · rw [h0] at ls2; simp at ls2; omega
  have RL0 := rows_lt RLa (Nat.le_refl _)
  have RL1 := rows_lt RLa k1.le
  have RL2 := rows_lt RLa k2.le
  have rh : rowsOf hd = [] := hhd.rows mem0
  have q1 : decide ((0 : Int) = 0) = true := by rfl
  obtain ⟨cap3, e3⟩ := slm_from (M := M2) (i := (headL l).length) hcap hg (by omega)
  obtain ⟨k4, e4⟩ := cpy_gen wf2 (off := (headL l).length) (n := (headL l ++ List.replicate z 0).length - (headL l).length) (cap := cap3) hg hlA (hfi _ k2) (by omega) (by rw [u8s_len]; omega)
  have hlz := lay_zero (headL l) l z (by omega)
  have hbare : headL l ++ l ++ List.replicate (z - l.length) 0 = bareL l := by unfold bareL; congr 2; omega
  rw [hlz, hbare] at e4
  have hid : id < M2.size := Mem.get_lt hg
  have hid2 : id.blt M2.size = true := blt_t hid
  have hidM : M.size ≤ id := hr2 id rfl
  have hle2 : (headL l ++ List.replicate z 0).length = (bareL l).length := by rw [ls2, bareL_length l h2]
  have s4 := slm_upd wf2 (id := id) (n := (headL l ++ List.replicate z 0).length) (cap := cap) hle2 hcap hid
  have k4' := k2.upd hwm hidM (.row false (u8s (bareL l)))
  have hbl := bareL_length l h2
  have hso := sumOf_run (fuel := fuel) (d := d + 2) (.inr s4) (by omega) (by omega) (by omega)
  obtain ⟨r, hr, hsb⟩ := sumB_run (fuel := fuel) (d := d + 2) (sumOf (bareL l)) (sumOf_lt _)
  have rr : rowsOf r = [] := hr.rows mem0
  obtain ⟨rows', oo1, oo2, oo3, oo4⟩ := hr.open
  obtain ⟨ax5, M5, e5, s5, wf5, le5, _, kp5, new5, wm5⟩ := s4.appO (wf2.upd _ _) (oo1 _) oo2 oo3 oo4 (cel_U8.all oo3) (by omega) (bytes := 1) (by simp [sumB]; omega) (by simp [sumB]; omega)
  have k5 := k4'.app hwm e5 (fun j h => by cases h; exact hidM) wf5 le5 kp5 wm5
  have hq := kk ax5 M5 k5 s5 fun j h => by
    rcases new5 j h with h' | h'
    · cases h'; exact hidM
    · rw [upd_size] at h'; have := k2.le; omega
  refine call_0 tf5 rfl (by simp [a5]) fun b ht hx => ?_
  have h0 := hx 0 _ rfl
  clear hx kk
  simp only [a5, c5] at ht ⊢
  simp (maxSteps := 2000000) (disch := first | omega | assumption | (simp only [add_size, upd_size, mem0_size, List.length_cons, List.length_nil, wf_add, wf_upd, wf_mem0, lo_wf, bk_wf, lo_size, bk_size, List.all_cons, List.all_nil, one_sc_int, one_sc_bool, one_sc_string, one_sc_slice, one_sc_ptr, one_ptr, one_sl, one_pv, one_cp, one_fn, Bool.and_true, Nat.reduceAdd, *]; done) | (simp only [add_size, upd_size, mem0_size, lo_size, bk_size, List.length_cons, List.length_nil]; omega)) only [RUN, footA, feetIn, resultsA, tupOf, frzL, slot, lay, icyL, fillA, repCells, kR, reduceIte, Nat.reduceEqDiff, Nat.reduceBEq, Nat.reduceLT, Nat.reduceAdd, Nat.reduceLeDiff, Nat.reduceSub, Nat.reduceMul, Int.reduceLT, Int.reduceLE, Int.reduceEq, Int.reduceAdd, Int.reduceSub, Int.reduceMul, decide_true, decide_false, Int.lt_irrefl, Nat.beq_eq, Option.map_some, Option.map_none, List.contains_cons, List.contains_nil, Bool.or_true, Bool.true_or, Bool.or_false, Bool.false_or, Bool.not_true, Bool.not_false, Bool.and_self, List.elem_nil, List.all_nil, List.all_cons, Bool.and_true, Bool.true_and, true_and, and_true, List.map_cons, List.map_nil, List.nil_append, List.cons_append, List.append_nil, Nat.zero_add, Nat.add_zero, List.drop_succ_cons, List.drop_zero, List.take_succ_cons, List.take_zero, List.getElem?_cons_zero, List.getElem?_cons_succ, List.length_cons, List.length_nil, h0, hlen, hcl, RL0, RL1, RL2, rh, q1, hput, e1, l1, w1, w2, x_appz, e2, hb1, x_cpy, e3, e4, hid2, hso, rr, hsb, e5, hq]
theorem seal0_ok {a : AV} {l : List UInt8} (hS : Bs a l) (h2 : l.length ≤ 1000) (hf : 3000 < fuel) (wf : Wf M) (hwm : M.wm ≤ M.size)
    (kk : ∀ o N, Kp M N → SlM N 1 isU8 o (frameL l) → (∀ id, rowOf o = some id → M.size ≤ id) → Q (.tup [o, I64 0]) N) : W3 (callN Try.prog (fsT tbl) fuel (d + 4) (.fn 5) [a] M) Q :=
  seal0_gen hS.len (by obtain ⟨_, _, h, _⟩ := hS.open; exact h) (fun i hi => by rw [hS.rows M] at hi; cases hi) (fun N _ => firstA_bs hS) h2 hf wf hwm kk
end Go.Proofs.Ytidkemgkejbalaa
