/-
  Pieces of frozen bytes; sum.Right.
-/
import Derived.Test.YtidkemgkejbalaaFrF
set_option linter.unusedSimpArgs false
set_option linter.unusedVariables false
set_option maxRecDepth 100000
namespace Go.Proofs.Ytidkemgkejbalaa
open Go Go.Ax
variable {fuel : Nat} {M : Mem} {Q : AV → Mem → Prop} {d : Nat}

theorem rows_u8 : ∀ {rows : List (List AV)} {l : List UInt8}, All2 isU8 rows l → rows.flatten = u8s l
  | _, _, .nil => rfl
  | _, _, .cons a b => by
    rw [List.flatten_cons, rows_u8 b, show _ = _ from a]
    rfl
theorem bs_form {a : AV} {l : List UInt8} (h : Bs a l) : (a = NIL ∧ l = []) ∨ ∃ cap, a = .pv (u8s l) l.length cap 1 := by
  rcases h with h | ⟨rows, cap, rfl, hA, _⟩
  · exact .inl h
  · exact .inr ⟨cap, by rw [rows_u8 hA, hA.length_eq]⟩
theorem slot_u8 (l : List UInt8) (i n : Nat) : slot (u8s l) (i * 1) (n * 1) = u8s ((l.drop i).take n) := by
  simp only [slot, u8s, Nat.mul_one, List.map_take, List.map_drop]
theorem cut_max {a : AV} {l : List UInt8} (h : Bs a l) {j : Nat} (hj : j ≤ l.length) : ∃ a', (∀ M, slcO M 1 a none (some (I64 j)) (some (I64 j)) = some (a', M)) ∧ Bs a' (l.take j) ∧ ∀ M, Full M 1 isU8 a' (l.take j) := by
  rcases bs_form h with ⟨rfl, rfl⟩ | ⟨cap, rfl⟩
  · obtain rfl : j = 0 := by simpa using hj
    exact ⟨NIL, fun M => rfl, .inl ⟨rfl, rfl⟩, fun M => .inl ⟨rfl, rfl⟩⟩
  · have hlen : (l.take j).length = j := by rw [List.length_take]; omega
    refine ⟨.pv (u8s (l.take j)) j (some j) 1, fun M => ?_, bs_pv _ _ hlen.symm, fun M => .inr ⟨(l.take j).map fun x => [U8 x.toNat], u8s_all2 _, fun r hr => ?_, .inl ?_⟩⟩
    · unfold slcO
      simp only [Nat.beq_refl, bnd_int _ _ _ _ hj, bnd_int _ _ _ _ (Nat.le_refl j), bnd_none, Nat.sub_zero, slot_u8, List.drop_zero]
    · obtain ⟨y, _, rfl⟩ := List.mem_map.1 hr
      rfl
    · rw [u8s_flat, List.length_map, hlen]
theorem cut_at {a : AV} {l : List UInt8} (h : Bs a l) {i j : Nat} (hi : i ≤ j) (hj : j ≤ l.length) : ∃ a', (∀ M, slcO M 1 a (some (I64 i)) (some (I64 j)) none = some (a', M)) ∧ Bs a' ((l.drop i).take (j - i)) := by
  rcases bs_form h with ⟨rfl, rfl⟩ | ⟨cap, rfl⟩
  · obtain rfl : j = 0 := by simpa using hj
    obtain rfl : i = 0 := by omega
    exact ⟨NIL, fun M => rfl, .inl ⟨rfl, rfl⟩⟩
  · refine ⟨.pv (u8s ((l.drop i).take (j - i))) (j - i) (capSub cap i) 1, fun M => ?_, bs_pv _ _ (by rw [List.length_take, List.length_drop]; omega)⟩
    unfold slcO
    simp only [Nat.beq_refl, bnd_int _ _ _ _ hj, bnd_int _ _ _ _ hi, slot_u8]
theorem cut_to {a : AV} {l : List UInt8} (h : Bs a l) {j : Nat} (hj : j ≤ l.length) : ∃ a', (∀ M, slcO M 1 a none (some (I64 j)) none = some (a', M)) ∧ Bs a' (l.take j) := by
  rcases bs_form h with ⟨rfl, rfl⟩ | ⟨cap, rfl⟩
  · obtain rfl : j = 0 := by simpa using hj
    exact ⟨NIL, fun M => rfl, .inl ⟨rfl, rfl⟩⟩
  · refine ⟨.pv (u8s (l.take j)) j (capSub cap 0) 1, fun M => ?_, bs_pv _ _ (by rw [List.length_take]; omega)⟩
    unfold slcO
    simp only [Nat.beq_refl, bnd_int _ _ _ _ hj, bnd_none, Nat.sub_zero, slot_u8, List.drop_zero]
theorem cut_from {a : AV} {l : List UInt8} (h : Bs a l) {i : Nat} (hi : i ≤ l.length) : ∃ a', (∀ M, slcO M 1 a (some (I64 i)) none none = some (a', M)) ∧ Bs a' (l.drop i) := by
  rcases bs_form h with ⟨rfl, rfl⟩ | ⟨cap, rfl⟩
  · obtain rfl : i = 0 := by simpa using hi
    exact ⟨NIL, fun M => rfl, .inl ⟨rfl, rfl⟩⟩
  · have e : (l.drop i).take (l.length - i) = l.drop i := List.take_of_length_le (by rw [List.length_drop]; omega)
    refine ⟨.pv (u8s (l.drop i)) (l.length - i) (capSub cap i) 1, fun M => ?_, bs_pv _ _ (by rw [List.length_drop])⟩
    unfold slcO
    simp only [Nat.beq_refl, bnd_int _ _ _ _ hi, bnd_none, slot_u8, e]
/-- The last three bytes are the sum of what lies ahead of them. -/
def rightM (l : List UInt8) : Bool := decide (3 ≤ l.length) && decide (l.take (l.length - 3) ++ sumB (sumOf (l.take (l.length - 3))) = l)

theorem celI_U8 : CelI isU8 := fun r x h y hy M k hk => by
  subst h; simp at hy; subst hy; exact icy_sc _ hk

set_option maxHeartbeats 4000000 in
theorem right_run {a : AV} {l : List UInt8} (hS : Bs a l) (hl : l.length < fuel) (hl2 : l.length ≤ 1000000000) (hf : 1000 < fuel) (M : Mem) : callN Try.prog (fsT tbl) fuel (d + 3) (.fn 12) [a] M = some (BL (rightM l), M) := by
  have hlen := hS.len
  apply w3_eq
  refine call_gc tf12 rfl (by simp (maxSteps := 2000000) (disch := first | omega | assumption | (simp only [add_size, upd_size, mem0_size, List.length_cons, List.length_nil, wf_add, wf_upd, wf_mem0, lo_wf, bk_wf, lo_size, bk_size, List.all_cons, List.all_nil, one_sc_int, one_sc_bool, one_sc_string, one_sc_slice, one_sc_ptr, one_ptr, one_sl, one_pv, one_cp, one_fn, Bool.and_true, Nat.reduceAdd, *]; done) | (simp only [add_size, upd_size, mem0_size, lo_size, bk_size, List.length_cons, List.length_nil]; omega)) only [RUN, footA, feetIn, resultsA, tupOf, frzL, slot, lay, icyL, fillA, repCells, kR, reduceIte, Nat.reduceEqDiff, Nat.reduceBEq, Nat.reduceLT, Nat.reduceAdd, Nat.reduceLeDiff, Nat.reduceSub, Nat.reduceMul, Int.reduceLT, Int.reduceLE, Int.reduceEq, Int.reduceAdd, Int.reduceSub, Int.reduceMul, decide_true, decide_false, Int.lt_irrefl, Nat.beq_eq, Option.map_some, Option.map_none, List.contains_cons, List.contains_nil, Bool.or_true, Bool.true_or, Bool.or_false, Bool.false_or, Bool.not_true, Bool.not_false, Bool.and_self, List.elem_nil, List.all_nil, List.all_cons, Bool.and_true, Bool.true_and, true_and, and_true, List.map_cons, List.map_nil, List.nil_append, List.cons_append, List.append_nil, Nat.zero_add, Nat.add_zero, List.drop_succ_cons, List.drop_zero, List.take_succ_cons, List.take_zero, List.getElem?_cons_zero, List.getElem?_cons_succ, List.length_cons, List.length_nil, hS.icy]) (by simp [a12]) fun b ht hx => ?_
  have h0 := hx 0 _ rfl
  clear hx
  simp only [a12, c12] at ht ⊢
  have w1 : IntKind.i64.wrap ((l.length : Int) - 3) = (l.length : Int) - 3 := by rw [wrap_i64] <;> omega
  by_cases h3 : l.length < 3
  · have q1 : decide (0 ≤ (l.length : Int) - 3) = false := by simp; omega
    rw [show rightM l = false by unfold rightM; rw [decide_eq_false (by omega)]; rfl]
    simp (maxSteps := 2000000) (disch := first | omega | assumption | (simp only [add_size, upd_size, mem0_size, List.length_cons, List.length_nil, wf_add, wf_upd, wf_mem0, lo_wf, bk_wf, lo_size, bk_size, List.all_cons, List.all_nil, one_sc_int, one_sc_bool, one_sc_string, one_sc_slice, one_sc_ptr, one_ptr, one_sl, one_pv, one_cp, one_fn, Bool.and_true, Nat.reduceAdd, *]; done) | (simp only [add_size, upd_size, mem0_size, lo_size, bk_size, List.length_cons, List.length_nil]; omega)) only [RUN, footA, feetIn, resultsA, tupOf, frzL, slot, lay, icyL, fillA, repCells, kR, reduceIte, Nat.reduceEqDiff, Nat.reduceBEq, Nat.reduceLT, Nat.reduceAdd, Nat.reduceLeDiff, Nat.reduceSub, Nat.reduceMul, Int.reduceLT, Int.reduceLE, Int.reduceEq, Int.reduceAdd, Int.reduceSub, Int.reduceMul, decide_true, decide_false, Int.lt_irrefl, Nat.beq_eq, Option.map_some, Option.map_none, List.contains_cons, List.contains_nil, Bool.or_true, Bool.true_or, Bool.or_false, Bool.false_or, Bool.not_true, Bool.not_false, Bool.and_self, List.elem_nil, List.all_nil, List.all_cons, Bool.and_true, Bool.true_and, true_and, and_true, List.map_cons, List.map_nil, List.nil_append, List.cons_append, List.append_nil, Nat.zero_add, Nat.add_zero, List.drop_succ_cons, List.drop_zero, List.take_succ_cons, List.take_zero, List.getElem?_cons_zero, List.getElem?_cons_succ, List.length_cons, List.length_nil, h0, hlen, w1, q1]
  · obtain ⟨j, hj⟩ : ∃ j, l.length - 3 = j := ⟨_, rfl⟩
    have w2 : IntKind.i64.wrap ((l.length : Int) - 3) = (j : Int) := by rw [w1]; omega
    clear w1
    have q1 : decide (0 ≤ (j : Int)) = true := by simp
    obtain ⟨a1, hc1, hb1, hfu⟩ := cut_max hS (j := j) (by omega)
    obtain ⟨a2, hc2, hb2⟩ := cut_to hS (j := j) (by omega)
    have hlt : (l.take j).length = j := by rw [List.length_take]; omega
    have hso := fun M => sumOf_run (M := M) (fuel := fuel) (d := d + 1) (.inl hb2) (by omega) (by omega) (by omega)
    have hslt := sumOf_lt (l.take j)
    obtain ⟨r, hr, hsb⟩ := sumB_run (fuel := fuel) (d := d + 1) (sumOf (l.take j)) hslt
    obtain ⟨rows, ho1, ho2, ho3, ho4⟩ := hr.open
    obtain ⟨a3, cs, hap, hS3, hro⟩ := (hfu mem0).appO (Wf.mem0) (ho1 mem0) ho2 ho3 ho4 (cel_U8.all ho3) (by omega) (by simp [sumB]) (bytes := 1) (by rw [hlt]; simp [sumB]; omega) (by rw [hlt]; simp [sumB]; omega)
    have hS3' : SlM (mem0.add (.row false cs)).lo 1 isU8 a3 (l.take j ++ sumB (sumOf (l.take j))) := hS3.keep fun id _ => rfl
    obtain ⟨a4, N4, hi4, hS4, _, _, _, _⟩ := hS3'.hand (by rw [lo_wf]; exact Wf.mem0.add _) celI_U8 (k := 12) (by omega)
    have hic : icyL (icy 12) (mem0.add (.row false cs)).lo [a3, a] = some ([a4, a], N4) := by
      simp only [icyL, hi4, hS.icy _ _ (show 0 < 12 by omega)]
    have hbe := call_own tf15 rfl (bequal_run (fuel := fuel) (d := d + 1) hS4 hS mem0) (M3 := mem0) (by simp only [icyL, hS4.icy _ _ (show 0 < 12 by omega), hS.icy _ _ (show 0 < 12 by omega)]) hic
    have hrm : rightM l = decide (l.take j ++ sumB (sumOf (l.take j)) = l) := by
      unfold rightM
      rw [hj, decide_eq_true (by omega), Bool.true_and]
    rw [hrm]
    have ra : rowsOf a = [] := hS.rows mem0
    have ra1 : rowsOf a1 = [] := hb1.rows mem0
    have ra2 : rowsOf a2 = [] := hb2.rows mem0
    have rr : rowsOf r = [] := hr.rows mem0
    have ap : apart2 FP.pure (FP.acc [] [], 0, 1) = true := rfl
    simp (maxSteps := 2000000) (disch := first | omega | assumption | (simp only [add_size, upd_size, mem0_size, List.length_cons, List.length_nil, wf_add, wf_upd, wf_mem0, lo_wf, bk_wf, lo_size, bk_size, List.all_cons, List.all_nil, one_sc_int, one_sc_bool, one_sc_string, one_sc_slice, one_sc_ptr, one_ptr, one_sl, one_pv, one_cp, one_fn, Bool.and_true, Nat.reduceAdd, *]; done) | (simp only [add_size, upd_size, mem0_size, lo_size, bk_size, List.length_cons, List.length_nil]; omega)) only [RUN, footA, feetIn, resultsA, tupOf, frzL, slot, lay, icyL, fillA, repCells, kR, reduceIte, Nat.reduceEqDiff, Nat.reduceBEq, Nat.reduceLT, Nat.reduceAdd, Nat.reduceLeDiff, Nat.reduceSub, Nat.reduceMul, Int.reduceLT, Int.reduceLE, Int.reduceEq, Int.reduceAdd, Int.reduceSub, Int.reduceMul, decide_true, decide_false, Int.lt_irrefl, Nat.beq_eq, Option.map_some, Option.map_none, List.contains_cons, List.contains_nil, Bool.or_true, Bool.true_or, Bool.or_false, Bool.false_or, Bool.not_true, Bool.not_false, Bool.and_self, List.elem_nil, List.all_nil, List.all_cons, Bool.and_true, Bool.true_and, true_and, and_true, List.map_cons, List.map_nil, List.nil_append, List.cons_append, List.append_nil, Nat.zero_add, Nat.add_zero, List.drop_succ_cons, List.drop_zero, List.take_succ_cons, List.take_zero, List.getElem?_cons_zero, List.getElem?_cons_succ, List.length_cons, List.length_nil, h0, hlen, w2, q1, hc1, hc2, hso, hsb, hap, hbe, ra, ra1, ra2, rr, ap]
end Go.Proofs.Ytidkemgkejbalaa
