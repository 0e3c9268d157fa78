/-
  frames: a beginning of bytes of ours; the chapter's frame.
-/
import Derived.Test.YtidkemgkejbalaaFrY
set_option linter.unusedSimpArgs false
set_option linter.unusedVariables false
set_option maxRecDepth 100000
namespace Go.Proofs.Ytidkemgkejbalaa
open Go Go.Ax
variable {fuel : Nat} {M : Mem} {Q : AV → Mem → Prop} {d : Nat}

theorem part_to {M : Mem} {id j : Nat} {cap : Option Nat} {l : List UInt8} (hc : cap = none ∨ cap = some l.length) (hrd : M.rd id = some (u8s l)) (hj : j ≤ l.length) :
    ∃ cap', slcO M 1 (.sl id 0 l.length cap 1) none (some (I64 j)) none = some (.sl id 0 j cap' 1, M) := by
  rcases hc with rfl | rfl
  · refine ⟨none, ?_⟩
    unfold slcO
    simp only [Nat.beq_refl, hrd, u8s_len, Nat.sub_zero, Nat.div_one, bnd_none, bnd_int _ _ _ _ hj, Nat.zero_mul, Nat.zero_add]
  · refine ⟨some (l.length - 0), ?_⟩
    unfold slcO
    simp only [Nat.beq_refl, bnd_none, bnd_int _ _ _ _ hj, Nat.sub_zero, Nat.zero_mul, Nat.zero_add]
    cases Nat.beq l.length 0 <;> rfl
theorem slot_take (l : List UInt8) (j : Nat) : slot (u8s l) 0 (j * 1) = u8s (l.take j) := by
  have := slot_u8 l 0 j
  simpa using this
theorem part_cells {M : Mem} {id j : Nat} {cap : Option Nat} {l : List UInt8} (hrd : M.rd id = some (u8s l)) (hj : j ≤ l.length) : cellsOf M (.sl id 0 j cap 1) = some (u8s (l.take j)) := by
  simp only [cellsOf, hrd, Nat.zero_add, Nat.ble_eq_true_of_le (show j * 1 ≤ (u8s l).length by rw [u8s_len]; omega)]
  rw [slot_take]
theorem bytes_u8s (l : List UInt8) : bytesOf (u8s l) = some l := by rw [← u8s_flat]; exact bytesOf_eq (u8s_all2 l)
theorem part_b2s {M : Mem} {id j : Nat} {cap : Option Nat} {l : List UInt8} (hrd : M.rd id = some (u8s l)) (hj : j ≤ l.length) : b2sO M (.sl id 0 j cap 1) = some (STR (l.take j), M) := by
  simp only [b2sO, Nat.beq_refl, part_cells hrd hj, bytes_u8s]
theorem icy_part {M : Mem} (wf : Wf M) {k id j : Nat} {cap : Option Nat} {l : List UInt8} (hk : 0 < k) (hg : M.get id = some (.row false (u8s l))) (hj : j ≤ l.length) : icy (k + 1) M (.sl id 0 j cap 1) = some (.pv (u8s (l.take j)) j cap 1, M.upd id (.fro (u8s l))) := by
  have hc : icyL (icy k) M (u8s l) = some (u8s l, M) := u8s_icy l hk M
  simp only [icy, rd_row hg, Nat.zero_add, Nat.ble_eq_true_of_le (show j * 1 ≤ (u8s l).length by rw [u8s_len]; omega), hc, hg, put_upd wf (Mem.get_lt hg), slot_take]

def mrkO (M : Mem) (x : AV) : OR := match x with
    | .sl id off len cap st => match M.get id with
      | some (.row false cs) => match M.put id (.row true cs) with
        | some M => some (.sl id off len cap st, M)
        | none => none
      | _ => none
    | _ => none
theorem x_mrk {P : Program} (call : Tg → List AV → Mem → OR) (t : List AV) (M : Mem) (x : Operand) : execOpA P call t M (.mrk x) = mrkO M (evalA t x) := rfl

set_option maxHeartbeats 8000000 in
theorem alive_run (M : Mem) (hf : 100000 = fuel) : callN Try.prog (fsT tbl) fuel (d + 6) (.fn 4) [] M = some (BL true, M) := by
  have key : W3 (callN Try.prog (fsT tbl) fuel (d + 6) (.fn 4) [] mem0) (fun r' _ => r' = BL true) := by
    refine call_gc tf4 rfl rfl (by simp [a4]) fun b ht hx => ?_
    clear hx
    simp only [a4, c4] at ht ⊢
    have wX0 : Wf (mem0.add (.row false [U8 97, U8 98])) := Wf.mem0.add _
    have gX0 : (mem0.add (.row false [U8 97, U8 98])).get 0 = some (.row false [U8 97, U8 98]) := get_add_new Wf.mem0 _ _ (Nat.le_refl _) (by rw [mem0_size]; omega)
    have zX0 : 0 < (mem0.add (.row false [U8 97, U8 98])).size := by rw [add_size]; omega
    have hmk : mrkO (mem0.add (.row false [U8 97, U8 98])) (.sl 0 0 2 (some 2) 1) = some (.sl 0 0 2 (some 2) 1, (mem0.add (.row false [U8 97, U8 98])).upd 0 (.row true [U8 97, U8 98])) := by
      simp only [mrkO, gX0, put_upd wX0 zX0]
    simp (maxSteps := 2000000) (disch := first | omega | assumption | (simp only [add_size, upd_size, mem0_size, List.length_cons, List.length_nil, wf_add, wf_upd, wf_mem0, lo_wf, bk_wf, lo_size, bk_size, List.all_cons, List.all_nil, one_sc_int, one_sc_bool, one_sc_string, one_sc_slice, one_sc_ptr, one_ptr, one_sl, one_pv, one_cp, one_fn, Bool.and_true, Nat.reduceAdd, *]; done) | (simp only [add_size, upd_size, mem0_size, lo_size, bk_size, List.length_cons, List.length_nil]; omega)) only [RUN, footA, feetIn, resultsA, tupOf, frzL, slot, lay, icyL, fillA, repCells, kR, reduceIte, Nat.reduceEqDiff, Nat.reduceBEq, Nat.reduceLT, Nat.reduceAdd, Nat.reduceLeDiff, Nat.reduceSub, Nat.reduceMul, Int.reduceLT, Int.reduceLE, Int.reduceEq, Int.reduceAdd, Int.reduceSub, Int.reduceMul, decide_true, decide_false, Int.lt_irrefl, Nat.beq_eq, Option.map_some, Option.map_none, List.contains_cons, List.contains_nil, Bool.or_true, Bool.true_or, Bool.or_false, Bool.false_or, Bool.not_true, Bool.not_false, Bool.and_self, List.elem_nil, List.all_nil, List.all_cons, Bool.and_true, Bool.true_and, true_and, and_true, List.map_cons, List.map_nil, List.nil_append, List.cons_append, List.append_nil, Nat.zero_add, Nat.add_zero, List.drop_succ_cons, List.drop_zero, List.take_succ_cons, List.take_zero, List.getElem?_cons_zero, List.getElem?_cons_succ, List.length_cons, List.length_nil, x_mrk, hmk]
    have wX : Wf ((mem0.add (.row false [U8 97, U8 98])).upd 0 (.row true [U8 97, U8 98])) := wX0.upd _ _
    have gX : ((mem0.add (.row false [U8 97, U8 98])).upd 0 (.row true [U8 97, U8 98])).get 0 = some (.row true [U8 97, U8 98]) := get_upd_eq wX0 _ _ zX0
    have wm : ((mem0.add (.row false [U8 97, U8 98])).upd 0 (.row true [U8 97, U8 98])).wm = 0 := rfl
    have sX : ((mem0.add (.row false [U8 97, U8 98])).upd 0 (.row true [U8 97, U8 98])).size = 1 := by rw [upd_size, add_size, mem0_size]
    generalize (mem0.add (.row false [U8 97, U8 98])).upd 0 (.row true [U8 97, U8 98]) = X at *
    refine seal0_gen (d := d + 1) (l := [97, 98]) (fun N => rfl) rfl (fun i hi => by simp [rowsOf] at hi; omega) (fun N kN => ?_) (by simp) (by omega) wX (by omega) fun o N kN sN hrN => ?_
    · have hr : N.rd 0 = some (u8s [97, 98]) := by rw [rd_get, kN.get 0 (by omega), gX, rd1_row]; rfl
      simp only [firstA, hr]
      rfl
    · have hl64 : (frameL [97, 98]).length = 64 := by rw [frameL_length _ (by simp)]; rfl
      have hof := openL_frame [97, 98] (by simp)
      have ht4 : (frameL [97, 98]).take 4 = [181, 2, 97, 98] := by
        have e : frameL [97, 98] = [181, 2, 97, 98] ++ (List.replicate (classM ([97, 98] : List UInt8).length - 3 - ((headL [97, 98]).length + ([97, 98] : List UInt8).length)) 0 ++ sumB (sumOf (bareL [97, 98]))) := by
          rw [frameL]
          generalize sumB (sumOf (bareL [97, 98])) = S
          unfold bareL
          rw [show headL [97, 98] = [181, 2] from rfl]
          simp
        rw [e]
        exact List.take_left' rfl
      have hc : openC (frameL [97, 98]) = 0 := by unfold openC; rw [hof]; rfl
      have hb : openB (frameL [97, 98]) = [97, 98] := by unfold openB; rw [hof]; rfl
      generalize frameL [97, 98] = fl at *
      have lo := sN.len
      rw [hl64] at lo
      have RLo := rows_lt sN.rl (Nat.le_refl _)
      rcases slm_form sN with ⟨_, h0⟩ | ⟨id, cap, rfl, hcap, hg⟩
      · rw [h0] at hl64; simp at hl64
      have hid := Mem.get_lt hg
      have i6 : icy 12 N (.sl id 0 fl.length cap 1) = some (.pv (u8s fl) fl.length cap 1, N.upd id (.fro (u8s fl))) := icy_row (k := 11) hg (by rw [u8s_len]; omega) (by rw [u8s_len]; omega) (u8s_icy fl (by omega) N) hg kN.wf hid
      have b6 : Bs (.pv (u8s fl) fl.length cap 1) fl := bs_pv _ _ rfl
      have hrd : (N.upd id (.fro (u8s fl))).rd id = some (u8s fl) := by rw [rd_get, get_upd_eq kN.wf _ _ hid, rd1_fro]
      obtain ⟨rB, hrB, hop⟩ := open_run (fuel := fuel) (d := d) b6 (by omega) (by omega)
      rw [hc] at hop
      rw [hb] at hrB
      have hop6 := call_own tf7 rfl (hop mem0) (M3 := mem0) (icyL_one (b6.icy mem0 12 (by omega))) (icyL_one i6)
      have bsB := fun M => Sl.b2s hrB M
      have rrB : rowsOf rB = [] := hrB.rows mem0
      obtain ⟨cap', hp⟩ := part_to (j := 4) hcap hrd (by omega)
      replace hp : slcO (N.upd id (.fro (u8s fl))) 1 (.sl id 0 fl.length cap 1) none (some (I64 4)) none = some (.sl id 0 4 cap' 1, N.upd id (.fro (u8s fl))) := hp
      have hp2 := part_b2s (j := 4) (cap := cap') hrd (by omega)
      rw [ht4] at hp2
      have q0 : decide ((0 : Int) = 0) = true := rfl
      have q64 : decide ((64 : Int) = 64) = true := rfl
      have qs : decide (([181, 2, 97, 98] : List UInt8) = [181, 2, 97, 98]) = true := decide_eq_true rfl
      have qs2 : decide (([97, 98] : List UInt8) = [97, 98]) = true := decide_eq_true rfl
      have hidb : id.blt N.size = true := blt_t hid
      replace lo : ∀ M, lenO M (.sl id 0 fl.length cap 1) = some (I64 64, M) := lo
      simp (maxSteps := 2000000) (disch := first | omega | assumption | (simp only [add_size, upd_size, mem0_size, List.length_cons, List.length_nil, wf_add, wf_upd, wf_mem0, lo_wf, bk_wf, lo_size, bk_size, List.all_cons, List.all_nil, one_sc_int, one_sc_bool, one_sc_string, one_sc_slice, one_sc_ptr, one_ptr, one_sl, one_pv, one_cp, one_fn, Bool.and_true, Nat.reduceAdd, *]; done) | (simp only [add_size, upd_size, mem0_size, lo_size, bk_size, List.length_cons, List.length_nil]; omega)) only [RUN, footA, feetIn, resultsA, tupOf, frzL, slot, lay, icyL, fillA, repCells, kR, reduceIte, Nat.reduceEqDiff, Nat.reduceBEq, Nat.reduceLT, Nat.reduceAdd, Nat.reduceLeDiff, Nat.reduceSub, Nat.reduceMul, Int.reduceLT, Int.reduceLE, Int.reduceEq, Int.reduceAdd, Int.reduceSub, Int.reduceMul, decide_true, decide_false, Int.lt_irrefl, Nat.beq_eq, Option.map_some, Option.map_none, List.contains_cons, List.contains_nil, Bool.or_true, Bool.true_or, Bool.or_false, Bool.false_or, Bool.not_true, Bool.not_false, Bool.and_self, List.elem_nil, List.all_nil, List.all_cons, Bool.and_true, Bool.true_and, true_and, and_true, List.map_cons, List.map_nil, List.nil_append, List.cons_append, List.append_nil, Nat.zero_add, Nat.add_zero, List.drop_succ_cons, List.drop_zero, List.take_succ_cons, List.take_zero, List.getElem?_cons_zero, List.getElem?_cons_succ, List.length_cons, List.length_nil, hop6, lo, hp, hp2, bsB, rrB, q0, q64, qs, qs2, hidb]
  obtain ⟨r', N, hk, rfl⟩ := key
  exact call_own tf4 rfl hk rfl rfl
end Go.Proofs.Ytidkemgkejbalaa
