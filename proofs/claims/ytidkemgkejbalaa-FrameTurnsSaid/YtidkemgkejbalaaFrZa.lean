/-
  The statement FrameTurns: the run.
-/
import Derived.Test.YtidkemgkejbalaaFrZt
set_option linter.unusedSimpArgs false
set_option linter.unusedVariables false
set_option maxRecDepth 100000
namespace Go.Proofs.Ytidkemgkejbalaa
open Go Go.Ax

theorem xor8 (P : Program) (ty : TypeId) (a b : UInt8) : binV P .xor ty .u8 (a.toNat : Int) .u8 (b.toNat : Int) = some (.int .u8 (((a ^^^ b).toNat : Nat) : Int)) := by
  have ha := a.toNat_lt
  have hb := b.toNat_lt
  have hx : a.toNat ^^^ b.toNat < 256 := Nat.xor_lt_two_pow (n := 8) ha hb
  simp only [binV, binOp, ne_eq, not_true_eq_false, if_false, Op.intBits]
  show some (Value.int .u8 (IntKind.u8.wrap ((BitVec.ofInt 8 (a.toNat : Int) ^^^ BitVec.ofInt 8 (b.toNat : Int)).toNat : Nat))) = _
  rw [BitVec.ofInt_natCast, BitVec.ofInt_natCast, BitVec.toNat_xor, BitVec.toNat_ofNat, BitVec.toNat_ofNat, Nat.mod_eq_of_lt (by omega), Nat.mod_eq_of_lt (by omega), wrap_u8N]
  have e : UInt8.ofNat (a.toNat ^^^ b.toNat) = a ^^^ b := by
    apply UInt8.toNat_inj.1
    rw [UInt8.toNat_xor, UInt8.toNat_ofNat']
    exact Nat.mod_eq_of_lt hx
  rw [e]
theorem u8s_mid (pre post : List UInt8) (e : UInt8) : u8s (pre ++ e :: post) = u8s pre ++ U8 e.toNat :: u8s post := by simp [u8s]
theorem ld_at {Z : Mem} {id : Nat} {pre post : List UInt8} {e : UInt8} (hg : Z.get id = some (.row false (u8s (pre ++ e :: post)))) : ldO Z 1 false (.ptr id pre.length) = some (U8 e.toNat, Z) := by
  have hp : Go.Ax.part (u8s (pre ++ e :: post)) pre.length 1 false = some (U8 e.toNat) := by
    have hs : slot (u8s (pre ++ e :: post)) pre.length 1 = [U8 e.toNat] := by
      rw [u8s_mid, slot, List.drop_left' (by rw [u8s_len])]
      rfl
    unfold Go.Ax.part
    rw [Nat.ble_eq_true_of_le (by rw [u8s_len]; simp), hs]
  rw [ld_ptr2, hg, ld2_row, hp]
theorem st_at {Z : Mem} (wf : Wf Z) {id : Nat} {pre post : List UInt8} {e : UInt8} (v : UInt8) (hg : Z.get id = some (.row false (u8s (pre ++ e :: post)))) : stO Z 1 (.ptr id pre.length) [U8 v.toNat] = some (undefA, Z.upd id (.row false (u8s (pre ++ v :: post)))) := by
  have hl : lay (u8s (pre ++ e :: post)) pre.length [U8 v.toNat] = u8s (pre ++ v :: post) := by
    rw [u8s_mid, u8s_mid]
    have h2 : (u8s pre ++ U8 e.toNat :: u8s post).drop (pre.length + 1) = u8s post := by
      rw [show u8s pre ++ U8 e.toNat :: u8s post = (u8s pre ++ [U8 e.toNat]) ++ u8s post by simp]
      exact List.drop_left' (by simp [u8s_len])
    show (u8s pre ++ U8 e.toNat :: u8s post).take pre.length ++ [U8 v.toNat] ++ (u8s pre ++ U8 e.toNat :: u8s post).drop (pre.length + 1) = _
    rw [h2, List.take_left' (by rw [u8s_len])]
    simp
  have q := st2_row (M := Z) id pre.length 1 [U8 v.toNat] (u8s (pre ++ e :: post)) false rfl (by rw [u8s_len]; simp) rfl (Mem.get_lt hg) wf
  rw [st_ptr2, hg, q, hl]

namespace frameTurns
set_option maxHeartbeats 32000000 in
theorem law_run (ab0 : AV) (body : List UInt8) (h0 : Bs ab0 body) (n : Int) (x y z : UInt8) (am : AV) (more : List UInt8) (h3 : Bs am more) :
    callN Try.prog (fsT tbl) 100000 21 (.fn 3) [ab0, I64 n, .agg [U8 x.toNat, U8 y.toNat, U8 z.toNat], am] mem0 = some (BL true, mem0) := by
  have ic : ∀ M, icyL (icy 12) M [ab0, I64 n, .agg [U8 x.toNat, U8 y.toNat, U8 z.toNat], am] = some ([ab0, I64 n, .agg [U8 x.toNat, U8 y.toNat, U8 z.toNat], am], M) := fun M => by simp (maxSteps := 2000000) (disch := first | omega | assumption | (simp only [add_size, upd_size, mem0_size, List.length_cons, List.length_nil, wf_add, wf_upd, wf_mem0, lo_wf, bk_wf, lo_size, bk_size, List.all_cons, List.all_nil, one_sc_int, one_sc_bool, one_sc_string, one_sc_slice, one_sc_ptr, one_ptr, one_sl, one_pv, one_cp, one_fn, Bool.and_true, Nat.reduceAdd, *]; done) | (simp only [add_size, upd_size, mem0_size, lo_size, bk_size, List.length_cons, List.length_nil]; omega)) only [RUN, footA, feetIn, resultsA, tupOf, frzL, slot, lay, icyL, fillA, repCells, kR, reduceIte, Nat.reduceEqDiff, Nat.reduceBEq, Nat.reduceLT, Nat.reduceAdd, Nat.reduceLeDiff, Nat.reduceSub, Nat.reduceMul, Int.reduceLT, Int.reduceLE, Int.reduceEq, Int.reduceAdd, Int.reduceSub, Int.reduceMul, decide_true, decide_false, Int.lt_irrefl, Nat.beq_eq, Option.map_some, Option.map_none, List.contains_cons, List.contains_nil, Bool.or_true, Bool.true_or, Bool.or_false, Bool.false_or, Bool.not_true, Bool.not_false, Bool.and_self, List.elem_nil, List.all_nil, List.all_cons, Bool.and_true, Bool.true_and, true_and, and_true, List.map_cons, List.map_nil, List.nil_append, List.cons_append, List.append_nil, Nat.zero_add, Nat.add_zero, List.drop_succ_cons, List.drop_zero, List.take_succ_cons, List.take_zero, List.getElem?_cons_zero, List.getElem?_cons_succ, List.length_cons, List.length_nil, h0.icy, h3.icy]
  have hal := fun M => alive_run (d := 14) (fuel := 100000) M rfl
  have l0 := h0.len
  have l3 := h3.len
  have r0 : rowsOf ab0 = [] := h0.rows mem0
  have r3 : rowsOf am = [] := h3.rows mem0
  apply w3_eq
  refine call_gc tf3 rfl (ic mem0) (by simp [a3]) fun b ht hx => ?_
  have x0 := hx 0 _ rfl
  have x1 := hx 1 _ rfl
  have x2 := hx 2 _ rfl
  have x3 := hx 3 _ rfl
  clear hx
  simp only [a3, c3] at ht ⊢
  by_cases g1 : 1000 < body.length
  · have q1 : decide ((1000 : Int) < body.length) = true := decide_eq_true (by omega)
    simp (maxSteps := 2000000) (disch := first | omega | assumption | (simp only [add_size, upd_size, mem0_size, List.length_cons, List.length_nil, wf_add, wf_upd, wf_mem0, lo_wf, bk_wf, lo_size, bk_size, List.all_cons, List.all_nil, one_sc_int, one_sc_bool, one_sc_string, one_sc_slice, one_sc_ptr, one_ptr, one_sl, one_pv, one_cp, one_fn, Bool.and_true, Nat.reduceAdd, *]; done) | (simp only [add_size, upd_size, mem0_size, lo_size, bk_size, List.length_cons, List.length_nil]; omega)) only [RUN, footA, feetIn, resultsA, tupOf, frzL, slot, lay, icyL, fillA, repCells, kR, reduceIte, Nat.reduceEqDiff, Nat.reduceBEq, Nat.reduceLT, Nat.reduceAdd, Nat.reduceLeDiff, Nat.reduceSub, Nat.reduceMul, Int.reduceLT, Int.reduceLE, Int.reduceEq, Int.reduceAdd, Int.reduceSub, Int.reduceMul, decide_true, decide_false, Int.lt_irrefl, Nat.beq_eq, Option.map_some, Option.map_none, List.contains_cons, List.contains_nil, Bool.or_true, Bool.true_or, Bool.or_false, Bool.false_or, Bool.not_true, Bool.not_false, Bool.and_self, List.elem_nil, List.all_nil, List.all_cons, Bool.and_true, Bool.true_and, true_and, and_true, List.map_cons, List.map_nil, List.nil_append, List.cons_append, List.append_nil, Nat.zero_add, Nat.add_zero, List.drop_succ_cons, List.drop_zero, List.take_succ_cons, List.take_zero, List.getElem?_cons_zero, List.getElem?_cons_succ, List.length_cons, List.length_nil, x0, x1, x2, x3, hal, l0, l3, r0, r3, q1]
  have q1 : decide ((1000 : Int) < body.length) = false := decide_eq_false (by omega)
  by_cases g2 : 1000 < more.length
  · have q2 : decide ((1000 : Int) < more.length) = true := decide_eq_true (by omega)
    simp (maxSteps := 2000000) (disch := first | omega | assumption | (simp only [add_size, upd_size, mem0_size, List.length_cons, List.length_nil, wf_add, wf_upd, wf_mem0, lo_wf, bk_wf, lo_size, bk_size, List.all_cons, List.all_nil, one_sc_int, one_sc_bool, one_sc_string, one_sc_slice, one_sc_ptr, one_ptr, one_sl, one_pv, one_cp, one_fn, Bool.and_true, Nat.reduceAdd, *]; done) | (simp only [add_size, upd_size, mem0_size, lo_size, bk_size, List.length_cons, List.length_nil]; omega)) only [RUN, footA, feetIn, resultsA, tupOf, frzL, slot, lay, icyL, fillA, repCells, kR, reduceIte, Nat.reduceEqDiff, Nat.reduceBEq, Nat.reduceLT, Nat.reduceAdd, Nat.reduceLeDiff, Nat.reduceSub, Nat.reduceMul, Int.reduceLT, Int.reduceLE, Int.reduceEq, Int.reduceAdd, Int.reduceSub, Int.reduceMul, decide_true, decide_false, Int.lt_irrefl, Nat.beq_eq, Option.map_some, Option.map_none, List.contains_cons, List.contains_nil, Bool.or_true, Bool.true_or, Bool.or_false, Bool.false_or, Bool.not_true, Bool.not_false, Bool.and_self, List.elem_nil, List.all_nil, List.all_cons, Bool.and_true, Bool.true_and, true_and, and_true, List.map_cons, List.map_nil, List.nil_append, List.cons_append, List.append_nil, Nat.zero_add, Nat.add_zero, List.drop_succ_cons, List.drop_zero, List.take_succ_cons, List.take_zero, List.getElem?_cons_zero, List.getElem?_cons_succ, List.length_cons, List.length_nil, x0, x1, x2, x3, hal, l0, l3, r0, r3, q1, q2]
  have q2 : decide ((1000 : Int) < more.length) = false := decide_eq_false (by omega)
  simp (maxSteps := 2000000) (disch := first | omega | assumption | (simp only [add_size, upd_size, mem0_size, List.length_cons, List.length_nil, wf_add, wf_upd, wf_mem0, lo_wf, bk_wf, lo_size, bk_size, List.all_cons, List.all_nil, one_sc_int, one_sc_bool, one_sc_string, one_sc_slice, one_sc_ptr, one_ptr, one_sl, one_pv, one_cp, one_fn, Bool.and_true, Nat.reduceAdd, *]; done) | (simp only [add_size, upd_size, mem0_size, lo_size, bk_size, List.length_cons, List.length_nil]; omega)) only [RUN, footA, feetIn, resultsA, tupOf, frzL, slot, lay, icyL, fillA, repCells, kR, reduceIte, Nat.reduceEqDiff, Nat.reduceBEq, Nat.reduceLT, Nat.reduceAdd, Nat.reduceLeDiff, Nat.reduceSub, Nat.reduceMul, Int.reduceLT, Int.reduceLE, Int.reduceEq, Int.reduceAdd, Int.reduceSub, Int.reduceMul, decide_true, decide_false, Int.lt_irrefl, Nat.beq_eq, Option.map_some, Option.map_none, List.contains_cons, List.contains_nil, Bool.or_true, Bool.true_or, Bool.or_false, Bool.false_or, Bool.not_true, Bool.not_false, Bool.and_self, List.elem_nil, List.all_nil, List.all_cons, Bool.and_true, Bool.true_and, true_and, and_true, List.map_cons, List.map_nil, List.nil_append, List.cons_append, List.append_nil, Nat.zero_add, Nat.add_zero, List.drop_succ_cons, List.drop_zero, List.take_succ_cons, List.take_zero, List.getElem?_cons_zero, List.getElem?_cons_succ, List.length_cons, List.length_nil, x0, x1, x2, x3, hal, l0, l3, r0, r3, q1, q2]
  have wX : Wf (mem0.add (.row false [U8 x.toNat, U8 y.toNat, U8 z.toNat])) := Wf.mem0.add _
  have gX : (mem0.add (.row false [U8 x.toNat, U8 y.toNat, U8 z.toNat])).get 0 = some (.row false [U8 x.toNat, U8 y.toNat, U8 z.toNat]) := get_add_new Wf.mem0 _ _ (Nat.le_refl _) (by rw [mem0_size]; omega)
  have sX : (mem0.add (.row false [U8 x.toNat, U8 y.toNat, U8 z.toNat])).size = 1 := by rw [add_size, mem0_size]
  have mX : (mem0.add (.row false [U8 x.toNat, U8 y.toNat, U8 z.toNat])).wm = 0 := rfl
  generalize mem0.add (.row false [U8 x.toNat, U8 y.toNat, U8 z.toNat]) = X at *
  refine seal0_ok (d := 16) h0 (by omega) (by omega) wX (by omega) fun o N kN sN hrN => ?_
  have hFl := frameL_length body (by omega)
  have hcc := classM_cases body.length
  have hmoreL := fun hm => openL_more body more (by omega) hm
  have hlessL := fun k hk => openL_less body k (by omega) hk
  have hturnL := fun p q a b c e => openL_turn body p q a b c x y z (by omega) e
  generalize frameL body = F at *
  have lo := sN.len
  have RLo := rows_lt sN.rl (Nat.le_refl _)
  have gN0 : N.get 0 = some (.row false [U8 x.toNat, U8 y.toNat, U8 z.toNat]) := by rw [kN.get 0 (by omega)]; exact gX
  have wN := kN.wf
  obtain ⟨frows, fo1, fo2, fo3, fo4⟩ := sN.open
  rcases slm_form sN with ⟨_, hz⟩ | ⟨id, cap, rfl, hcap, hg⟩
  · rw [hz] at hFl; simp at hFl; omega
  have hid := Mem.get_lt hg
  have hid1 : 1 ≤ id := by have := hrN id rfl; omega
  have e0 : decide ((0 : Int) = 0) = true := rfl
  have hnF : nth undefA b 0 = ab0 := x0
  by_cases hm0 : 0 < more.length
  · have qm : decide (0 < (more.length : Int)) = true := decide_eq_true (by omega)
    have hnil : SlM N 1 isU8 NIL ([] : List UInt8) := SlM.nil
    obtain ⟨o1, N1, e1, s1, wf1, le1, _, kp1, new1, _⟩ := hnil.appO wN fo1 fo2 fo3 fo4 (cel_U8.all fo3) (by omega) (bytes := 1) (by simp; omega) (by simp; omega)
    rw [List.nil_append] at s1
    obtain ⟨rows, oo1, oo2, oo3, oo4⟩ := h3.open
    obtain ⟨o2, N2, e2, s2, wf2, le2, _, kp2, _⟩ := s1.appO wf1 (oo1 _) oo2 oo3 oo4 (cel_U8.all oo3) (by omega) (bytes := 1) (by omega) (by omega)
    have keep : ∀ j, j < N.size → N2.get j = N.get j := fun j hj => by
      rw [kp2 j (by omega) (fun h => by
        rcases new1 j h with h' | h'
        · cases h'
        · omega), kp1 j hj (by simp [rowOf])]
    have g2' : N2.get id = some (.row false (u8s F)) := by rw [keep id hid]; exact hg
    have g20 : N2.get 0 = some (.row false [U8 x.toNat, U8 y.toNat, U8 z.toNat]) := by rw [keep 0 (by omega)]; exact gN0
    obtain ⟨av6, N6, i6, b6, _⟩ := hand_own wf2 s2
    have hno := none_run (fuel := 100000) (d := 14) b6 (by rw [List.length_append]; omega) (by rw [List.length_append]; omega) mem0
    rw [hmoreL hm0] at hno
    have hno6 := call_lend tf6 rfl hno (M3 := mem0) (icyL_one (b6.icy mem0 12 (by omega))) (icyL_one i6)
    replace hno6 : callN Try.prog (fsT tbl) 100000 20 (.fn 6) [o2] N2 = some (BL true, N2) := hno6
    have RL1 := rows_lt s1.rl (Nat.le_refl _)
    have RL2 := rows_lt s2.rl (Nat.le_refl _)
    have hidb : id.blt N.size = true := blt_t hid
    have sz2 : N.size ≤ N2.size := by omega
    by_cases hn : n < 0 ∨ (F.length : Int) - 3 < n
    · have w3 : IntKind.i64.wrap ((F.length : Int) - 3) = (F.length : Int) - 3 := by rw [wrap_i64] <;> omega
      by_cases hn1 : n < 0
      · have qn : decide (n < 0) = true := decide_eq_true hn1
        simp (maxSteps := 2000000) (disch := first | omega | assumption | (simp only [add_size, upd_size, mem0_size, List.length_cons, List.length_nil, wf_add, wf_upd, wf_mem0, lo_wf, bk_wf, lo_size, bk_size, List.all_cons, List.all_nil, one_sc_int, one_sc_bool, one_sc_string, one_sc_slice, one_sc_ptr, one_ptr, one_sl, one_pv, one_cp, one_fn, Bool.and_true, Nat.reduceAdd, *]; done) | (simp only [add_size, upd_size, mem0_size, lo_size, bk_size, List.length_cons, List.length_nil]; omega)) only [RUN, footA, feetIn, resultsA, tupOf, frzL, slot, lay, icyL, fillA, repCells, kR, reduceIte, Nat.reduceEqDiff, Nat.reduceBEq, Nat.reduceLT, Nat.reduceAdd, Nat.reduceLeDiff, Nat.reduceSub, Nat.reduceMul, Int.reduceLT, Int.reduceLE, Int.reduceEq, Int.reduceAdd, Int.reduceSub, Int.reduceMul, decide_true, decide_false, Int.lt_irrefl, Nat.beq_eq, Option.map_some, Option.map_none, List.contains_cons, List.contains_nil, Bool.or_true, Bool.true_or, Bool.or_false, Bool.false_or, Bool.not_true, Bool.not_false, Bool.and_self, List.elem_nil, List.all_nil, List.all_cons, Bool.and_true, Bool.true_and, true_and, and_true, List.map_cons, List.map_nil, List.nil_append, List.cons_append, List.append_nil, Nat.zero_add, Nat.add_zero, List.drop_succ_cons, List.drop_zero, List.take_succ_cons, List.take_zero, List.getElem?_cons_zero, List.getElem?_cons_succ, List.length_cons, List.length_nil, x0, x1, x3, l3, r3, lo, e0, qm, qn, e1, e2, hno6, RL1, RL2, hidb]
      · have qn : decide (n < 0) = false := decide_eq_false hn1
        have qn2 : decide ((F.length : Int) - 3 < n) = true := decide_eq_true (by omega)
        simp (maxSteps := 2000000) (disch := first | omega | assumption | (simp only [add_size, upd_size, mem0_size, List.length_cons, List.length_nil, wf_add, wf_upd, wf_mem0, lo_wf, bk_wf, lo_size, bk_size, List.all_cons, List.all_nil, one_sc_int, one_sc_bool, one_sc_string, one_sc_slice, one_sc_ptr, one_ptr, one_sl, one_pv, one_cp, one_fn, Bool.and_true, Nat.reduceAdd, *]; done) | (simp only [add_size, upd_size, mem0_size, lo_size, bk_size, List.length_cons, List.length_nil]; omega)) only [RUN, footA, feetIn, resultsA, tupOf, frzL, slot, lay, icyL, fillA, repCells, kR, reduceIte, Nat.reduceEqDiff, Nat.reduceBEq, Nat.reduceLT, Nat.reduceAdd, Nat.reduceLeDiff, Nat.reduceSub, Nat.reduceMul, Int.reduceLT, Int.reduceLE, Int.reduceEq, Int.reduceAdd, Int.reduceSub, Int.reduceMul, decide_true, decide_false, Int.lt_irrefl, Nat.beq_eq, Option.map_some, Option.map_none, List.contains_cons, List.contains_nil, Bool.or_true, Bool.true_or, Bool.or_false, Bool.false_or, Bool.not_true, Bool.not_false, Bool.and_self, List.elem_nil, List.all_nil, List.all_cons, Bool.and_true, Bool.true_and, true_and, and_true, List.map_cons, List.map_nil, List.nil_append, List.cons_append, List.append_nil, Nat.zero_add, Nat.add_zero, List.drop_succ_cons, List.drop_zero, List.take_succ_cons, List.take_zero, List.getElem?_cons_zero, List.getElem?_cons_succ, List.length_cons, List.length_nil, x0, x1, x3, l3, r3, lo, e0, qm, qn, w3, qn2, e1, e2, hno6, RL1, RL2, hidb]
    have w3 : IntKind.i64.wrap ((F.length : Int) - 3) = (F.length : Int) - 3 := by rw [wrap_i64] <;> omega
    have qn : decide (n < 0) = false := decide_eq_false (by omega)
    have qn2 : decide ((F.length : Int) - 3 < n) = false := decide_eq_false (by omega)
    obtain ⟨k, rfl⟩ : ∃ k : Nat, n = k := ⟨n.toNat, by omega⟩
    have hk : k + 3 ≤ F.length := by omega
    have hrd : (N2).rd id = some (u8s F) := by rw [rd_get, g2', rd1_row]
    obtain ⟨cap', hp⟩ := part_to (j := k) hcap hrd (by omega)
    have i7 := icy_part wf2 (k := 11) (cap := cap') (by omega) g2' (show k ≤ F.length by omega)
    have b7 : Bs (.pv (u8s (F.take k)) k cap' 1) (F.take k) := bs_pv _ _ (by rw [List.length_take]; omega)
    have hnk := none_run (fuel := 100000) (d := 14) b7 (by rw [List.length_take]; omega) (by rw [List.length_take]; omega) mem0
    rw [hlessL k (by omega)] at hnk
    have hno7 := call_lend tf6 rfl hnk (M3 := mem0) (icyL_one (b7.icy mem0 12 (by omega))) (icyL_one i7)
    replace hno7 : callN Try.prog (fsT tbl) 100000 20 (.fn 6) [.sl id 0 k cap' 1] (N2) = some (BL true, N2) := hno7
    obtain ⟨p, q, a, b', c, hpl, hF⟩ : ∃ p q a b c, p.length = k ∧ F = p ++ ([a, b, c] ++ q) := by
      obtain ⟨a, r1, e1⟩ : ∃ a r, F.drop k = a :: r := by
        cases hd : F.drop k with
        | nil => have := congrArg List.length hd; simp at this; omega
        | cons a r => exact ⟨a, r, rfl⟩
      obtain ⟨b, r2, e2⟩ : ∃ b r, r1 = b :: r := by
        cases r1 with
        | nil => have := congrArg List.length e1; simp at this; omega
        | cons b r => exact ⟨b, r, rfl⟩
      obtain ⟨c, r3, e3⟩ : ∃ c r, r2 = c :: r := by
        cases r2 with
        | nil => rw [e2] at e1; have := congrArg List.length e1; simp at this; omega
        | cons c r => exact ⟨c, r, rfl⟩
      refine ⟨F.take k, r3, a, b, c, by rw [List.length_take]; omega, ?_⟩
      rw [e3] at e2
      rw [e2] at e1
      have := (List.take_append_drop k F).symm
      rw [e1] at this
      exact this
    have hfin := hturnL p q a b' c hF
    have hFl2 : F.length = k + 3 + q.length := by rw [hF]; simp; omega
    have hidY : id.blt (N2).size = true := blt_t (by omega)
    have zY : 0 < (N2).size := by omega
    simp (maxSteps := 2000000) (disch := first | omega | assumption | (simp only [add_size, upd_size, mem0_size, List.length_cons, List.length_nil, wf_add, wf_upd, wf_mem0, lo_wf, bk_wf, lo_size, bk_size, List.all_cons, List.all_nil, one_sc_int, one_sc_bool, one_sc_string, one_sc_slice, one_sc_ptr, one_ptr, one_sl, one_pv, one_cp, one_fn, Bool.and_true, Nat.reduceAdd, *]; done) | (simp only [add_size, upd_size, mem0_size, lo_size, bk_size, List.length_cons, List.length_nil]; omega)) only [RUN, footA, feetIn, resultsA, tupOf, frzL, slot, lay, icyL, fillA, repCells, kR, reduceIte, Nat.reduceEqDiff, Nat.reduceBEq, Nat.reduceLT, Nat.reduceAdd, Nat.reduceLeDiff, Nat.reduceSub, Nat.reduceMul, Int.reduceLT, Int.reduceLE, Int.reduceEq, Int.reduceAdd, Int.reduceSub, Int.reduceMul, decide_true, decide_false, Int.lt_irrefl, Nat.beq_eq, Option.map_some, Option.map_none, List.contains_cons, List.contains_nil, Bool.or_true, Bool.true_or, Bool.or_false, Bool.false_or, Bool.not_true, Bool.not_false, Bool.and_self, List.elem_nil, List.all_nil, List.all_cons, Bool.and_true, Bool.true_and, true_and, and_true, List.map_cons, List.map_nil, List.nil_append, List.cons_append, List.append_nil, Nat.zero_add, Nat.add_zero, List.drop_succ_cons, List.drop_zero, List.take_succ_cons, List.take_zero, List.getElem?_cons_zero, List.getElem?_cons_succ, List.length_cons, List.length_nil, x0, x1, x3, l3, r3, lo, e0, qm, qn, w3, qn2, hp, hno7, hidY, zY, e1, e2, hno6, RL1, RL2, hidb]
    clear hno7 i7 hp hnk b7 hrd
    refine w_loop (I := fun m t Z => ∃ i : Nat, i ≤ 3 ∧ m = 3 - i ∧ Wf Z ∧ Z.get 0 = some (.row false [U8 x.toNat, U8 y.toNat, U8 z.toNat]) ∧ Z.get id = some (.row false (u8s (match i with | 0 => p ++ ([a, b', c] ++ q) | 1 => p ++ ([a ^^^ x, b', c] ++ q) | 2 => p ++ ([a ^^^ x, b' ^^^ y, c] ++ q) | _ => p ++ ([a ^^^ x, b' ^^^ y, c ^^^ z] ++ q)))) ∧ nth undefA t 1 = I64 k ∧ nth undefA t 6 = .ptr 0 0 ∧ nth undefA t 9 = BL true ∧ nth undefA t 10 = .sl id 0 F.length cap 1 ∧ nth undefA t 12 = I64 i) (n := 3) (by omega) ?_ ?_
    · refine ⟨0, by omega, rfl, wf2, g20, ?_, ?_, ?_, ?_, ?_, ?_⟩
      · have g := g2'
        rw [hF] at g
        exact g
      all_goals simp (maxSteps := 2000000) (disch := first | omega | assumption | (simp only [add_size, upd_size, mem0_size, List.length_cons, List.length_nil, wf_add, wf_upd, wf_mem0, lo_wf, bk_wf, lo_size, bk_size, List.all_cons, List.all_nil, one_sc_int, one_sc_bool, one_sc_string, one_sc_slice, one_sc_ptr, one_ptr, one_sl, one_pv, one_cp, one_fn, Bool.and_true, Nat.reduceAdd, *]; done) | (simp only [add_size, upd_size, mem0_size, lo_size, bk_size, List.length_cons, List.length_nil]; omega)) only [RUN, footA, feetIn, resultsA, tupOf, frzL, slot, lay, icyL, fillA, repCells, kR, reduceIte, Nat.reduceEqDiff, Nat.reduceBEq, Nat.reduceLT, Nat.reduceAdd, Nat.reduceLeDiff, Nat.reduceSub, Nat.reduceMul, Int.reduceLT, Int.reduceLE, Int.reduceEq, Int.reduceAdd, Int.reduceSub, Int.reduceMul, decide_true, decide_false, Int.lt_irrefl, Nat.beq_eq, Option.map_some, Option.map_none, List.contains_cons, List.contains_nil, Bool.or_true, Bool.true_or, Bool.or_false, Bool.false_or, Bool.not_true, Bool.not_false, Bool.and_self, List.elem_nil, List.all_nil, List.all_cons, Bool.and_true, Bool.true_and, true_and, and_true, List.map_cons, List.map_nil, List.nil_append, List.cons_append, List.append_nil, Nat.zero_add, Nat.add_zero, List.drop_succ_cons, List.drop_zero, List.take_succ_cons, List.take_zero, List.getElem?_cons_zero, List.getElem?_cons_succ, List.length_cons, List.length_nil, x1]
      all_goals rfl
    · rintro m t Z hl' ⟨i, hi, hm, wZ, gZ0, gZ, t1, t6, t9, t10, t12⟩
      simp only [ht] at hl' ⊢
      clear x0 x1 x2 x3 ht
      have hidZ : id.blt Z.size = true := blt_t (Mem.get_lt gZ)
      have zZ := Mem.get_lt gZ0
      have hne : id ≠ 0 := by omega
      by_cases hi3 : i < 3
      · have hstep : ∀ (j : Nat) (pre post : List UInt8) (e v : UInt8), i = j → pre.length = k + j → Z.get id = some (.row false (u8s (pre ++ e :: post))) → nth undefA t 12 = I64 j → j < 3 → True := fun _ _ _ _ _ _ _ _ _ _ => trivial
        clear hstep
        have qi : decide ((i : Int) < 3) = true := decide_eq_true (by omega)
        have w1 : IntKind.i64.wrap ((i : Int) + 1) = ((i + 1 : Nat) : Int) := by rw [wrap_i64] <;> omega
        have w2 : IntKind.i64.wrap ((k : Int) + (i : Int)) = ((k + i : Nat) : Int) := by rw [wrap_i64] <;> omega
        have hia : ∀ M, iadO M 1 (.sl id 0 F.length cap 1) (some (k + i)) = some (.ptr id (k + i), M) := fun M => by rw [iad_sl (by omega)]; simp
        have hida := ida_ptr Z 3 1 0 0 i hi3
        obtain ⟨pre, post, e, v, w, hpre, hge, hnew, hldw⟩ : ∃ (pre post : List UInt8) (e v w : UInt8), pre.length = k + i ∧ Z.get id = some (.row false (u8s (pre ++ e :: post))) ∧ (match i + 1 with | 0 => p ++ ([a, b', c] ++ q) | 1 => p ++ ([a ^^^ x, b', c] ++ q) | 2 => p ++ ([a ^^^ x, b' ^^^ y, c] ++ q) | _ => p ++ ([a ^^^ x, b' ^^^ y, c ^^^ z] ++ q)) = pre ++ (e ^^^ w) :: post ∧ ldO Z 1 false (.ptr 0 (0 + i * 1)) = some (U8 w.toNat, Z) := by
          have h3c : i = 0 ∨ i = 1 ∨ i = 2 := by omega
          rcases h3c with rfl | rfl | rfl
          · exact ⟨p, b' :: c :: q, a, 0, x, by omega, by simpa using gZ, by simp, by rw [ld_ptr2, gZ0]; rfl⟩
          · exact ⟨p ++ [a ^^^ x], c :: q, b', 0, y, by simp; omega, by simpa using gZ, by simp, by rw [ld_ptr2, gZ0]; rfl⟩
          · exact ⟨p ++ [a ^^^ x, b' ^^^ y], q, c, 0, z, by simp; omega, by simpa using gZ, by simp, by rw [ld_ptr2, gZ0]; rfl⟩
        have hld := ld_at hge
        have hst := st_at wZ (e ^^^ w) hge
        rw [hpre] at hld hst
        have hld2 := hld
        rw [ld_ptr2] at hld2
        have hldw2 := hldw
        rw [ld_ptr2, Nat.zero_add] at hldw2
        have hst2 := hst
        rw [st_ptr2] at hst2
        have ex := xor8 Try.prog 5 e w
        simp (maxSteps := 2000000) (disch := first | omega | assumption | (simp only [add_size, upd_size, mem0_size, List.length_cons, List.length_nil, wf_add, wf_upd, wf_mem0, lo_wf, bk_wf, lo_size, bk_size, List.all_cons, List.all_nil, one_sc_int, one_sc_bool, one_sc_string, one_sc_slice, one_sc_ptr, one_ptr, one_sl, one_pv, one_cp, one_fn, Bool.and_true, Nat.reduceAdd, *]; done) | (simp only [add_size, upd_size, mem0_size, lo_size, bk_size, List.length_cons, List.length_nil]; omega)) only [RUN, footA, feetIn, resultsA, tupOf, frzL, slot, lay, icyL, fillA, repCells, kR, reduceIte, Nat.reduceEqDiff, Nat.reduceBEq, Nat.reduceLT, Nat.reduceAdd, Nat.reduceLeDiff, Nat.reduceSub, Nat.reduceMul, Int.reduceLT, Int.reduceLE, Int.reduceEq, Int.reduceAdd, Int.reduceSub, Int.reduceMul, decide_true, decide_false, Int.lt_irrefl, Nat.beq_eq, Option.map_some, Option.map_none, List.contains_cons, List.contains_nil, Bool.or_true, Bool.true_or, Bool.or_false, Bool.false_or, Bool.not_true, Bool.not_false, Bool.and_self, List.elem_nil, List.all_nil, List.all_cons, Bool.and_true, Bool.true_and, true_and, and_true, List.map_cons, List.map_nil, List.nil_append, List.cons_append, List.append_nil, Nat.zero_add, Nat.add_zero, List.drop_succ_cons, List.drop_zero, List.take_succ_cons, List.take_zero, List.getElem?_cons_zero, List.getElem?_cons_succ, List.length_cons, List.length_nil, t1, t6, t9, t10, t12, qi, w1, w2, hia, x_ida, hida, hld, hldw, hst, hld2, hldw2, hst2, ex, hidZ, zZ]
        simp only [List.cons_append, List.nil_append] at hnew
        exact ⟨hl', 3 - (i + 1), by omega, i + 1, by omega, rfl, wZ, gZ0, by rw [hnew]; exact get_upd_eq wZ _ _ (Mem.get_lt gZ), rfl⟩
      · have qi : decide ((i : Int) < 3) = false := decide_eq_false (by omega)
        obtain rfl : i = 3 := by omega
        have gZ' : Z.get id = some (.row false (u8s (p ++ ([a ^^^ x, b' ^^^ y, c ^^^ z] ++ q)))) := gZ
        have hGl : (p ++ ([a ^^^ x, b' ^^^ y, c ^^^ z] ++ q)).length = F.length := by rw [hF]; simp
        have i8 := icy_row (M := Z.lo) (k := 11) (n := F.length) (st := 1) (cap := cap) (by rw [lo_get]; exact gZ') (by rw [u8s_len]; omega) (by rw [u8s_len]; omega) (u8s_icy _ (by omega) _) (by rw [lo_get]; exact gZ') (by rw [lo_wf]; exact wZ) (by rw [lo_size]; exact Mem.get_lt gZ)
        have b8 : Bs (.pv (u8s (p ++ ([a ^^^ x, b' ^^^ y, c ^^^ z] ++ q))) F.length cap 1) (p ++ ([a ^^^ x, b' ^^^ y, c ^^^ z] ++ q)) := bs_pv _ _ hGl.symm
        have hn8 := none_run (fuel := 100000) (d := 14) b8 (by omega) (by omega) mem0
        have hno8 := call_lend tf6 rfl hn8 (M3 := mem0) (icyL_one (b8.icy mem0 12 (by omega))) (icyL_one i8)
        rw [hfin] at hno8
        replace hno8 : callN Try.prog (fsT tbl) 100000 20 (.fn 6) [.sl id 0 F.length cap 1] Z.lo = some (BL (!decide (x = 0 ∧ y = 0 ∧ z = 0)), Z.lo) := hno8
        have hb0 : ((x.toNat : Int) == 0 && (y.toNat : Int) == 0 && (z.toNat : Int) == 0) = decide (x = 0 ∧ y = 0 ∧ z = 0) := by
          have hc : ∀ u : UInt8, ((u.toNat : Int) == 0) = decide (u = 0) := fun u => by
            rw [Bool.eq_iff_iff]
            simp [← UInt8.toNat_inj]
          rw [hc, hc, hc, Bool.decide_and, Bool.decide_and, Bool.and_assoc]
        have pn : ∀ d, pne d (.agg [U8 x.toNat, U8 y.toNat, U8 z.toNat]) (.agg [.sc (.int .u8 0), .sc (.int .u8 0), .sc (.int .u8 0)]) = some (BL (!decide (x = 0 ∧ y = 0 ∧ z = 0))) := fun d => by rw [← hb0]; rfl
        have vb := fun a b => vbEql (P := Try.prog) Try.underlying4 a b
        have be : ∀ B : Bool, (B == B) = true := fun B => by cases B <;> rfl
        simp (maxSteps := 2000000) (disch := first | omega | assumption | (simp only [add_size, upd_size, mem0_size, List.length_cons, List.length_nil, wf_add, wf_upd, wf_mem0, lo_wf, bk_wf, lo_size, bk_size, List.all_cons, List.all_nil, one_sc_int, one_sc_bool, one_sc_string, one_sc_slice, one_sc_ptr, one_ptr, one_sl, one_pv, one_cp, one_fn, Bool.and_true, Nat.reduceAdd, *]; done) | (simp only [add_size, upd_size, mem0_size, lo_size, bk_size, List.length_cons, List.length_nil]; omega)) only [RUN, footA, feetIn, resultsA, tupOf, frzL, slot, lay, icyL, fillA, repCells, kR, reduceIte, Nat.reduceEqDiff, Nat.reduceBEq, Nat.reduceLT, Nat.reduceAdd, Nat.reduceLeDiff, Nat.reduceSub, Nat.reduceMul, Int.reduceLT, Int.reduceLE, Int.reduceEq, Int.reduceAdd, Int.reduceSub, Int.reduceMul, decide_true, decide_false, Int.lt_irrefl, Nat.beq_eq, Option.map_some, Option.map_none, List.contains_cons, List.contains_nil, Bool.or_true, Bool.true_or, Bool.or_false, Bool.false_or, Bool.not_true, Bool.not_false, Bool.and_self, List.elem_nil, List.all_nil, List.all_cons, Bool.and_true, Bool.true_and, true_and, and_true, List.map_cons, List.map_nil, List.nil_append, List.cons_append, List.append_nil, Nat.zero_add, Nat.add_zero, List.drop_succ_cons, List.drop_zero, List.take_succ_cons, List.take_zero, List.getElem?_cons_zero, List.getElem?_cons_succ, List.length_cons, List.length_nil, t1, t6, t9, t10, t12, qi, hno8, gZ0, zZ, hidZ, ↓pNeArr, pn, vb, be]
  · have qm : decide (0 < (more.length : Int)) = false := decide_eq_false (by omega)
    have hidb : id.blt N.size = true := blt_t hid
    by_cases hn : n < 0 ∨ (F.length : Int) - 3 < n
    · have w3 : IntKind.i64.wrap ((F.length : Int) - 3) = (F.length : Int) - 3 := by rw [wrap_i64] <;> omega
      by_cases hn1 : n < 0
      · have qn : decide (n < 0) = true := decide_eq_true hn1
        simp (maxSteps := 2000000) (disch := first | omega | assumption | (simp only [add_size, upd_size, mem0_size, List.length_cons, List.length_nil, wf_add, wf_upd, wf_mem0, lo_wf, bk_wf, lo_size, bk_size, List.all_cons, List.all_nil, one_sc_int, one_sc_bool, one_sc_string, one_sc_slice, one_sc_ptr, one_ptr, one_sl, one_pv, one_cp, one_fn, Bool.and_true, Nat.reduceAdd, *]; done) | (simp only [add_size, upd_size, mem0_size, lo_size, bk_size, List.length_cons, List.length_nil]; omega)) only [RUN, footA, feetIn, resultsA, tupOf, frzL, slot, lay, icyL, fillA, repCells, kR, reduceIte, Nat.reduceEqDiff, Nat.reduceBEq, Nat.reduceLT, Nat.reduceAdd, Nat.reduceLeDiff, Nat.reduceSub, Nat.reduceMul, Int.reduceLT, Int.reduceLE, Int.reduceEq, Int.reduceAdd, Int.reduceSub, Int.reduceMul, decide_true, decide_false, Int.lt_irrefl, Nat.beq_eq, Option.map_some, Option.map_none, List.contains_cons, List.contains_nil, Bool.or_true, Bool.true_or, Bool.or_false, Bool.false_or, Bool.not_true, Bool.not_false, Bool.and_self, List.elem_nil, List.all_nil, List.all_cons, Bool.and_true, Bool.true_and, true_and, and_true, List.map_cons, List.map_nil, List.nil_append, List.cons_append, List.append_nil, Nat.zero_add, Nat.add_zero, List.drop_succ_cons, List.drop_zero, List.take_succ_cons, List.take_zero, List.getElem?_cons_zero, List.getElem?_cons_succ, List.length_cons, List.length_nil, x0, x1, x3, l3, r3, lo, e0, qm, qn, hidb]
      · have qn : decide (n < 0) = false := decide_eq_false hn1
        have qn2 : decide ((F.length : Int) - 3 < n) = true := decide_eq_true (by omega)
        simp (maxSteps := 2000000) (disch := first | omega | assumption | (simp only [add_size, upd_size, mem0_size, List.length_cons, List.length_nil, wf_add, wf_upd, wf_mem0, lo_wf, bk_wf, lo_size, bk_size, List.all_cons, List.all_nil, one_sc_int, one_sc_bool, one_sc_string, one_sc_slice, one_sc_ptr, one_ptr, one_sl, one_pv, one_cp, one_fn, Bool.and_true, Nat.reduceAdd, *]; done) | (simp only [add_size, upd_size, mem0_size, lo_size, bk_size, List.length_cons, List.length_nil]; omega)) only [RUN, footA, feetIn, resultsA, tupOf, frzL, slot, lay, icyL, fillA, repCells, kR, reduceIte, Nat.reduceEqDiff, Nat.reduceBEq, Nat.reduceLT, Nat.reduceAdd, Nat.reduceLeDiff, Nat.reduceSub, Nat.reduceMul, Int.reduceLT, Int.reduceLE, Int.reduceEq, Int.reduceAdd, Int.reduceSub, Int.reduceMul, decide_true, decide_false, Int.lt_irrefl, Nat.beq_eq, Option.map_some, Option.map_none, List.contains_cons, List.contains_nil, Bool.or_true, Bool.true_or, Bool.or_false, Bool.false_or, Bool.not_true, Bool.not_false, Bool.and_self, List.elem_nil, List.all_nil, List.all_cons, Bool.and_true, Bool.true_and, true_and, and_true, List.map_cons, List.map_nil, List.nil_append, List.cons_append, List.append_nil, Nat.zero_add, Nat.add_zero, List.drop_succ_cons, List.drop_zero, List.take_succ_cons, List.take_zero, List.getElem?_cons_zero, List.getElem?_cons_succ, List.length_cons, List.length_nil, x0, x1, x3, l3, r3, lo, e0, qm, qn, w3, qn2, hidb]
    have w3 : IntKind.i64.wrap ((F.length : Int) - 3) = (F.length : Int) - 3 := by rw [wrap_i64] <;> omega
    have qn : decide (n < 0) = false := decide_eq_false (by omega)
    have qn2 : decide ((F.length : Int) - 3 < n) = false := decide_eq_false (by omega)
    obtain ⟨k, rfl⟩ : ∃ k : Nat, n = k := ⟨n.toNat, by omega⟩
    have hk : k + 3 ≤ F.length := by omega
    have hrd : (N).rd id = some (u8s F) := by rw [rd_get, hg, rd1_row]
    obtain ⟨cap', hp⟩ := part_to (j := k) hcap hrd (by omega)
    have i7 := icy_part wN (k := 11) (cap := cap') (by omega) hg (show k ≤ F.length by omega)
    have b7 : Bs (.pv (u8s (F.take k)) k cap' 1) (F.take k) := bs_pv _ _ (by rw [List.length_take]; omega)
    have hnk := none_run (fuel := 100000) (d := 14) b7 (by rw [List.length_take]; omega) (by rw [List.length_take]; omega) mem0
    rw [hlessL k (by omega)] at hnk
    have hno7 := call_lend tf6 rfl hnk (M3 := mem0) (icyL_one (b7.icy mem0 12 (by omega))) (icyL_one i7)
    replace hno7 : callN Try.prog (fsT tbl) 100000 20 (.fn 6) [.sl id 0 k cap' 1] (N) = some (BL true, N) := hno7
    obtain ⟨p, q, a, b', c, hpl, hF⟩ : ∃ p q a b c, p.length = k ∧ F = p ++ ([a, b, c] ++ q) := by
      obtain ⟨a, r1, e1⟩ : ∃ a r, F.drop k = a :: r := by
        cases hd : F.drop k with
        | nil => have := congrArg List.length hd; simp at this; omega
        | cons a r => exact ⟨a, r, rfl⟩
      obtain ⟨b, r2, e2⟩ : ∃ b r, r1 = b :: r := by
        cases r1 with
        | nil => have := congrArg List.length e1; simp at this; omega
        | cons b r => exact ⟨b, r, rfl⟩
      obtain ⟨c, r3, e3⟩ : ∃ c r, r2 = c :: r := by
        cases r2 with
        | nil => rw [e2] at e1; have := congrArg List.length e1; simp at this; omega
        | cons c r => exact ⟨c, r, rfl⟩
      refine ⟨F.take k, r3, a, b, c, by rw [List.length_take]; omega, ?_⟩
      rw [e3] at e2
      rw [e2] at e1
      have := (List.take_append_drop k F).symm
      rw [e1] at this
      exact this
    have hfin := hturnL p q a b' c hF
    have hFl2 : F.length = k + 3 + q.length := by rw [hF]; simp; omega
    have hidY : id.blt (N).size = true := blt_t (by omega)
    have zY : 0 < (N).size := by omega
    simp (maxSteps := 2000000) (disch := first | omega | assumption | (simp only [add_size, upd_size, mem0_size, List.length_cons, List.length_nil, wf_add, wf_upd, wf_mem0, lo_wf, bk_wf, lo_size, bk_size, List.all_cons, List.all_nil, one_sc_int, one_sc_bool, one_sc_string, one_sc_slice, one_sc_ptr, one_ptr, one_sl, one_pv, one_cp, one_fn, Bool.and_true, Nat.reduceAdd, *]; done) | (simp only [add_size, upd_size, mem0_size, lo_size, bk_size, List.length_cons, List.length_nil]; omega)) only [RUN, footA, feetIn, resultsA, tupOf, frzL, slot, lay, icyL, fillA, repCells, kR, reduceIte, Nat.reduceEqDiff, Nat.reduceBEq, Nat.reduceLT, Nat.reduceAdd, Nat.reduceLeDiff, Nat.reduceSub, Nat.reduceMul, Int.reduceLT, Int.reduceLE, Int.reduceEq, Int.reduceAdd, Int.reduceSub, Int.reduceMul, decide_true, decide_false, Int.lt_irrefl, Nat.beq_eq, Option.map_some, Option.map_none, List.contains_cons, List.contains_nil, Bool.or_true, Bool.true_or, Bool.or_false, Bool.false_or, Bool.not_true, Bool.not_false, Bool.and_self, List.elem_nil, List.all_nil, List.all_cons, Bool.and_true, Bool.true_and, true_and, and_true, List.map_cons, List.map_nil, List.nil_append, List.cons_append, List.append_nil, Nat.zero_add, Nat.add_zero, List.drop_succ_cons, List.drop_zero, List.take_succ_cons, List.take_zero, List.getElem?_cons_zero, List.getElem?_cons_succ, List.length_cons, List.length_nil, x0, x1, x3, l3, r3, lo, e0, qm, qn, w3, qn2, hp, hno7, hidY, zY, hidb]
    clear hno7 i7 hp hnk b7 hrd
    refine w_loop (I := fun m t Z => ∃ i : Nat, i ≤ 3 ∧ m = 3 - i ∧ Wf Z ∧ Z.get 0 = some (.row false [U8 x.toNat, U8 y.toNat, U8 z.toNat]) ∧ Z.get id = some (.row false (u8s (match i with | 0 => p ++ ([a, b', c] ++ q) | 1 => p ++ ([a ^^^ x, b', c] ++ q) | 2 => p ++ ([a ^^^ x, b' ^^^ y, c] ++ q) | _ => p ++ ([a ^^^ x, b' ^^^ y, c ^^^ z] ++ q)))) ∧ nth undefA t 1 = I64 k ∧ nth undefA t 6 = .ptr 0 0 ∧ nth undefA t 9 = BL true ∧ nth undefA t 10 = .sl id 0 F.length cap 1 ∧ nth undefA t 12 = I64 i) (n := 3) (by omega) ?_ ?_
    · refine ⟨0, by omega, rfl, wN, gN0, ?_, ?_, ?_, ?_, ?_, ?_⟩
      · have g := hg
        rw [hF] at g
        exact g
      all_goals simp (maxSteps := 2000000) (disch := first | omega | assumption | (simp only [add_size, upd_size, mem0_size, List.length_cons, List.length_nil, wf_add, wf_upd, wf_mem0, lo_wf, bk_wf, lo_size, bk_size, List.all_cons, List.all_nil, one_sc_int, one_sc_bool, one_sc_string, one_sc_slice, one_sc_ptr, one_ptr, one_sl, one_pv, one_cp, one_fn, Bool.and_true, Nat.reduceAdd, *]; done) | (simp only [add_size, upd_size, mem0_size, lo_size, bk_size, List.length_cons, List.length_nil]; omega)) only [RUN, footA, feetIn, resultsA, tupOf, frzL, slot, lay, icyL, fillA, repCells, kR, reduceIte, Nat.reduceEqDiff, Nat.reduceBEq, Nat.reduceLT, Nat.reduceAdd, Nat.reduceLeDiff, Nat.reduceSub, Nat.reduceMul, Int.reduceLT, Int.reduceLE, Int.reduceEq, Int.reduceAdd, Int.reduceSub, Int.reduceMul, decide_true, decide_false, Int.lt_irrefl, Nat.beq_eq, Option.map_some, Option.map_none, List.contains_cons, List.contains_nil, Bool.or_true, Bool.true_or, Bool.or_false, Bool.false_or, Bool.not_true, Bool.not_false, Bool.and_self, List.elem_nil, List.all_nil, List.all_cons, Bool.and_true, Bool.true_and, true_and, and_true, List.map_cons, List.map_nil, List.nil_append, List.cons_append, List.append_nil, Nat.zero_add, Nat.add_zero, List.drop_succ_cons, List.drop_zero, List.take_succ_cons, List.take_zero, List.getElem?_cons_zero, List.getElem?_cons_succ, List.length_cons, List.length_nil, x1]
      all_goals rfl
    · rintro m t Z hl' ⟨i, hi, hm, wZ, gZ0, gZ, t1, t6, t9, t10, t12⟩
      simp only [ht] at hl' ⊢
      clear x0 x1 x2 x3 ht
      have hidZ : id.blt Z.size = true := blt_t (Mem.get_lt gZ)
      have zZ := Mem.get_lt gZ0
      have hne : id ≠ 0 := by omega
      by_cases hi3 : i < 3
      · have hstep : ∀ (j : Nat) (pre post : List UInt8) (e v : UInt8), i = j → pre.length = k + j → Z.get id = some (.row false (u8s (pre ++ e :: post))) → nth undefA t 12 = I64 j → j < 3 → True := fun _ _ _ _ _ _ _ _ _ _ => trivial
        clear hstep
        have qi : decide ((i : Int) < 3) = true := decide_eq_true (by omega)
        have w1 : IntKind.i64.wrap ((i : Int) + 1) = ((i + 1 : Nat) : Int) := by rw [wrap_i64] <;> omega
        have w2 : IntKind.i64.wrap ((k : Int) + (i : Int)) = ((k + i : Nat) : Int) := by rw [wrap_i64] <;> omega
        have hia : ∀ M, iadO M 1 (.sl id 0 F.length cap 1) (some (k + i)) = some (.ptr id (k + i), M) := fun M => by rw [iad_sl (by omega)]; simp
        have hida := ida_ptr Z 3 1 0 0 i hi3
        obtain ⟨pre, post, e, v, w, hpre, hge, hnew, hldw⟩ : ∃ (pre post : List UInt8) (e v w : UInt8), pre.length = k + i ∧ Z.get id = some (.row false (u8s (pre ++ e :: post))) ∧ (match i + 1 with | 0 => p ++ ([a, b', c] ++ q) | 1 => p ++ ([a ^^^ x, b', c] ++ q) | 2 => p ++ ([a ^^^ x, b' ^^^ y, c] ++ q) | _ => p ++ ([a ^^^ x, b' ^^^ y, c ^^^ z] ++ q)) = pre ++ (e ^^^ w) :: post ∧ ldO Z 1 false (.ptr 0 (0 + i * 1)) = some (U8 w.toNat, Z) := by
          have h3c : i = 0 ∨ i = 1 ∨ i = 2 := by omega
          rcases h3c with rfl | rfl | rfl
          · exact ⟨p, b' :: c :: q, a, 0, x, by omega, by simpa using gZ, by simp, by rw [ld_ptr2, gZ0]; rfl⟩
          · exact ⟨p ++ [a ^^^ x], c :: q, b', 0, y, by simp; omega, by simpa using gZ, by simp, by rw [ld_ptr2, gZ0]; rfl⟩
          · exact ⟨p ++ [a ^^^ x, b' ^^^ y], q, c, 0, z, by simp; omega, by simpa using gZ, by simp, by rw [ld_ptr2, gZ0]; rfl⟩
        have hld := ld_at hge
        have hst := st_at wZ (e ^^^ w) hge
        rw [hpre] at hld hst
        have hld2 := hld
        rw [ld_ptr2] at hld2
        have hldw2 := hldw
        rw [ld_ptr2, Nat.zero_add] at hldw2
        have hst2 := hst
        rw [st_ptr2] at hst2
        have ex := xor8 Try.prog 5 e w
        simp (maxSteps := 2000000) (disch := first | omega | assumption | (simp only [add_size, upd_size, mem0_size, List.length_cons, List.length_nil, wf_add, wf_upd, wf_mem0, lo_wf, bk_wf, lo_size, bk_size, List.all_cons, List.all_nil, one_sc_int, one_sc_bool, one_sc_string, one_sc_slice, one_sc_ptr, one_ptr, one_sl, one_pv, one_cp, one_fn, Bool.and_true, Nat.reduceAdd, *]; done) | (simp only [add_size, upd_size, mem0_size, lo_size, bk_size, List.length_cons, List.length_nil]; omega)) only [RUN, footA, feetIn, resultsA, tupOf, frzL, slot, lay, icyL, fillA, repCells, kR, reduceIte, Nat.reduceEqDiff, Nat.reduceBEq, Nat.reduceLT, Nat.reduceAdd, Nat.reduceLeDiff, Nat.reduceSub, Nat.reduceMul, Int.reduceLT, Int.reduceLE, Int.reduceEq, Int.reduceAdd, Int.reduceSub, Int.reduceMul, decide_true, decide_false, Int.lt_irrefl, Nat.beq_eq, Option.map_some, Option.map_none, List.contains_cons, List.contains_nil, Bool.or_true, Bool.true_or, Bool.or_false, Bool.false_or, Bool.not_true, Bool.not_false, Bool.and_self, List.elem_nil, List.all_nil, List.all_cons, Bool.and_true, Bool.true_and, true_and, and_true, List.map_cons, List.map_nil, List.nil_append, List.cons_append, List.append_nil, Nat.zero_add, Nat.add_zero, List.drop_succ_cons, List.drop_zero, List.take_succ_cons, List.take_zero, List.getElem?_cons_zero, List.getElem?_cons_succ, List.length_cons, List.length_nil, t1, t6, t9, t10, t12, qi, w1, w2, hia, x_ida, hida, hld, hldw, hst, hld2, hldw2, hst2, ex, hidZ, zZ]
        simp only [List.cons_append, List.nil_append] at hnew
        exact ⟨hl', 3 - (i + 1), by omega, i + 1, by omega, rfl, wZ, gZ0, by rw [hnew]; exact get_upd_eq wZ _ _ (Mem.get_lt gZ), rfl⟩
      · have qi : decide ((i : Int) < 3) = false := decide_eq_false (by omega)
        obtain rfl : i = 3 := by omega
        have gZ' : Z.get id = some (.row false (u8s (p ++ ([a ^^^ x, b' ^^^ y, c ^^^ z] ++ q)))) := gZ
        have hGl : (p ++ ([a ^^^ x, b' ^^^ y, c ^^^ z] ++ q)).length = F.length := by rw [hF]; simp
        have i8 := icy_row (M := Z.lo) (k := 11) (n := F.length) (st := 1) (cap := cap) (by rw [lo_get]; exact gZ') (by rw [u8s_len]; omega) (by rw [u8s_len]; omega) (u8s_icy _ (by omega) _) (by rw [lo_get]; exact gZ') (by rw [lo_wf]; exact wZ) (by rw [lo_size]; exact Mem.get_lt gZ)
        have b8 : Bs (.pv (u8s (p ++ ([a ^^^ x, b' ^^^ y, c ^^^ z] ++ q))) F.length cap 1) (p ++ ([a ^^^ x, b' ^^^ y, c ^^^ z] ++ q)) := bs_pv _ _ hGl.symm
        have hn8 := none_run (fuel := 100000) (d := 14) b8 (by omega) (by omega) mem0
        have hno8 := call_lend tf6 rfl hn8 (M3 := mem0) (icyL_one (b8.icy mem0 12 (by omega))) (icyL_one i8)
        rw [hfin] at hno8
        replace hno8 : callN Try.prog (fsT tbl) 100000 20 (.fn 6) [.sl id 0 F.length cap 1] Z.lo = some (BL (!decide (x = 0 ∧ y = 0 ∧ z = 0)), Z.lo) := hno8
        have hb0 : ((x.toNat : Int) == 0 && (y.toNat : Int) == 0 && (z.toNat : Int) == 0) = decide (x = 0 ∧ y = 0 ∧ z = 0) := by
          have hc : ∀ u : UInt8, ((u.toNat : Int) == 0) = decide (u = 0) := fun u => by
            rw [Bool.eq_iff_iff]
            simp [← UInt8.toNat_inj]
          rw [hc, hc, hc, Bool.decide_and, Bool.decide_and, Bool.and_assoc]
        have pn : ∀ d, pne d (.agg [U8 x.toNat, U8 y.toNat, U8 z.toNat]) (.agg [.sc (.int .u8 0), .sc (.int .u8 0), .sc (.int .u8 0)]) = some (BL (!decide (x = 0 ∧ y = 0 ∧ z = 0))) := fun d => by rw [← hb0]; rfl
        have vb := fun a b => vbEql (P := Try.prog) Try.underlying4 a b
        have be : ∀ B : Bool, (B == B) = true := fun B => by cases B <;> rfl
        simp (maxSteps := 2000000) (disch := first | omega | assumption | (simp only [add_size, upd_size, mem0_size, List.length_cons, List.length_nil, wf_add, wf_upd, wf_mem0, lo_wf, bk_wf, lo_size, bk_size, List.all_cons, List.all_nil, one_sc_int, one_sc_bool, one_sc_string, one_sc_slice, one_sc_ptr, one_ptr, one_sl, one_pv, one_cp, one_fn, Bool.and_true, Nat.reduceAdd, *]; done) | (simp only [add_size, upd_size, mem0_size, lo_size, bk_size, List.length_cons, List.length_nil]; omega)) only [RUN, footA, feetIn, resultsA, tupOf, frzL, slot, lay, icyL, fillA, repCells, kR, reduceIte, Nat.reduceEqDiff, Nat.reduceBEq, Nat.reduceLT, Nat.reduceAdd, Nat.reduceLeDiff, Nat.reduceSub, Nat.reduceMul, Int.reduceLT, Int.reduceLE, Int.reduceEq, Int.reduceAdd, Int.reduceSub, Int.reduceMul, decide_true, decide_false, Int.lt_irrefl, Nat.beq_eq, Option.map_some, Option.map_none, List.contains_cons, List.contains_nil, Bool.or_true, Bool.true_or, Bool.or_false, Bool.false_or, Bool.not_true, Bool.not_false, Bool.and_self, List.elem_nil, List.all_nil, List.all_cons, Bool.and_true, Bool.true_and, true_and, and_true, List.map_cons, List.map_nil, List.nil_append, List.cons_append, List.append_nil, Nat.zero_add, Nat.add_zero, List.drop_succ_cons, List.drop_zero, List.take_succ_cons, List.take_zero, List.getElem?_cons_zero, List.getElem?_cons_succ, List.length_cons, List.length_nil, t1, t6, t9, t10, t12, qi, hno8, gZ0, zZ, hidZ, ↓pNeArr, pn, vb, be]
end frameTurns
end Go.Proofs.Ytidkemgkejbalaa
