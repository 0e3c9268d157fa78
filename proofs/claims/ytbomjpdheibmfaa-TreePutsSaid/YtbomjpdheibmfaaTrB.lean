/-
  Runs: Cut, row, At.
-/
import Derived.Test.YtbomjpdheibmfaaTrA
import Derived.Test.YtbomjpdheibmfaaEf
set_option linter.unusedSimpArgs false
set_option linter.unusedVariables false
set_option maxRecDepth 100000
namespace Go.Proofs.Ytbomjpdheibmfaa
open Go Go.Ax
variable {fuel : Nat} {M : Mem} {Q : AV → Mem → Prop} {d : Nat}
def Rn.z : Rn := ⟨⟨Eid.z, 0⟩, Eid.z, []⟩
set_option maxHeartbeats 4000000 in
theorem part_run {o : Rn} {ra : AV} (hR : Sl 1 isI32 ra o.rs) (hl : o.rs.length ≤ 1000000000) : ∃ r, Sl 1 isI32 r o.rs ∧ ∀ M, callN Try.prog (fsT tbl) fuel (d + 2) (.fn 52) [.agg (rnR o ra)] M = some (.agg (rnR o r), M) := by
  have ora := hR.one
  refine gc_ex tf52 rfl (fun M => by simp only [zH, rn_icy hR.fz]) ?_
  refine call_gc tf52 rfl (by simp only [zH, rn_icy hR.fz]) (by simp [a52]) fun b' ht hx => ?_
  have h0 := hx 0 _ rfl
  clear hx
  simp only [a52, c52] at ht ⊢
  simp (maxSteps := 2000000) (disch := first | omega | assumption | (simp only [DS, Nat.reduceAdd, *]; done) | (simp only [DZ]; omega)) only [RUN, RU, zD, zC, zB, zE, zG, slot, lay, zH, zF, zA, kR, reduceIte, Nat.reduceEqDiff, Nat.reduceBEq, Nat.reduceLT, Nat.reduceAdd, Nat.reduceLeDiff, Nat.reduceSub, Nat.reduceMul, Int.reduceLT, Int.reduceLE, Int.reduceEq, Int.reduceAdd, Int.reduceSub, Int.reduceMul, h0, hR.fz.rows, hR.fz.one, hR.fz.cells, hR.fz.icy, hR.fz.frz]
  refine rclone0 hR hl (by simp (maxSteps := 2000000) (disch := first | omega | assumption | (simp only [DS, Nat.reduceAdd, *]; done) | (simp only [DZ]; omega)) only [RUN, RU, zD, zC, zB, zE, zG, slot, lay, zH, zF, zA, kR, reduceIte, Nat.reduceEqDiff, Nat.reduceBEq, Nat.reduceLT, Nat.reduceAdd, Nat.reduceLeDiff, Nat.reduceSub, Nat.reduceMul, Int.reduceLT, Int.reduceLE, Int.reduceEq, Int.reduceAdd, Int.reduceSub, Int.reduceMul]) fun a' M' wf' le' kp' sm' new' wm' di' => ?_
  have hd : M'.dirty = false := di'
  have hsz : 2 ≤ M'.size := le'
  have g0 : M'.get 0 = some (.row false (rnR o ra)) := by rw [kp' 0 (by show 0 < 2; omega)]; simp (maxSteps := 2000000) (disch := first | omega | assumption | (simp only [DS, Nat.reduceAdd, *]; done) | (simp only [DZ]; omega)) only [RUN, RU, zD, zC, zB, zE, zG, slot, lay, zH, zF, zA, kR, reduceIte, Nat.reduceEqDiff, Nat.reduceBEq, Nat.reduceLT, Nat.reduceAdd, Nat.reduceLeDiff, Nat.reduceSub, Nat.reduceMul, Int.reduceLT, Int.reduceLE, Int.reduceEq, Int.reduceAdd, Int.reduceSub, Int.reduceMul]
  have g1 : M'.get 1 = some (.row false (rnR ⟨⟨Eid.z, 0⟩, Eid.z, []⟩ NIL)) := by rw [kp' 1 (by show 1 < 2; omega)]; simp (maxSteps := 2000000) (disch := first | omega | assumption | (simp only [DS, Nat.reduceAdd, *]; done) | (simp only [DZ]; omega)) only [RUN, RU, zD, zC, zB, zE, zG, slot, lay, zH, zF, zA, kR, reduceIte, Nat.reduceEqDiff, Nat.reduceBEq, Nat.reduceLT, Nat.reduceAdd, Nat.reduceLeDiff, Nat.reduceSub, Nat.reduceMul, Int.reduceLT, Int.reduceLE, Int.reduceEq, Int.reduceAdd, Int.reduceSub, Int.reduceMul]
  have oa := sm'.one
  have ca := sm'.cells
  have rl := rows_lt sm'.rl (Nat.le_refl M'.size)
  have nr : ∀ j, rowOf a' = some j → 2 ≤ j := new'
  obtain ⟨ro, hro, hfr⟩ := slm_frz2 sm' fz_I32.cel 11 (by omega)
  have hfr := hfr ((((mem0.add (.row false (rnR o ra))).add (.row false (rnR ⟨⟨Eid.z, 0⟩, Eid.z, []⟩ NIL))).bk M').upd 1 (.row false (rnR o a'))) fun id h => by
    have := nr id h
    simp (maxSteps := 2000000) (disch := first | omega | assumption | (simp only [DS, Nat.reduceAdd, *]; done) | (simp only [DZ]; omega)) only [RUN, RU, zD, zC, zB, zE, zG, slot, lay, zH, zF, zA, kR, reduceIte, Nat.reduceEqDiff, Nat.reduceBEq, Nat.reduceLT, Nat.reduceAdd, Nat.reduceLeDiff, Nat.reduceSub, Nat.reduceMul, Int.reduceLT, Int.reduceLE, Int.reduceEq, Int.reduceAdd, Int.reduceSub, Int.reduceMul, wf']
  simp (maxSteps := 2000000) (disch := first | omega | assumption | (simp only [DS, Nat.reduceAdd, *]; done) | (simp only [DZ]; omega)) only [RUN, RU, zD, zC, zB, zE, zG, slot, lay, zH, zF, zA, kR, reduceIte, Nat.reduceEqDiff, Nat.reduceBEq, Nat.reduceLT, Nat.reduceAdd, Nat.reduceLeDiff, Nat.reduceSub, Nat.reduceMul, Int.reduceLT, Int.reduceLE, Int.reduceEq, Int.reduceAdd, Int.reduceSub, Int.reduceMul, h0, hd, wf', g0, g1, oa, ca, rl, hfr]
  exact ⟨_, hro, rfl⟩
def Rn.cutE (r : Rn) (n : Int) : Int := if r.may then Go.Proofs.Ytbomjpdheibmfaa.cutE r.sp n else 8
def Rn.fst (r : Rn) (n : Int) : Rn := ⟨⟨r.sp.f, n⟩, r.af, r.rs.take n.toNat⟩
def Rn.snd (r : Rn) (n : Int) : Rn := ⟨⟨r.sp.at n, r.sp.n - n⟩, r.sp.at (n - 1), r.rs.drop n.toNat⟩
def Rn.cutA (r : Rn) (n : Int) : Rn := if r.cutE n = 0 then r.fst n else Rn.z
def Rn.cutB (r : Rn) (n : Int) : Rn := if r.cutE n = 0 then r.snd n else Rn.z
theorem cutE_iff {s : Spn} {n : Int} : cutE s n = 0 ↔ s.may = true ∧ 0 < n ∧ n < s.n := by
  unfold cutE
  cases s.may <;> simp
theorem Rn.cutE_iff {r : Rn} {n : Int} : r.cutE n = 0 ↔ r.may = true ∧ 0 < n ∧ n < r.sp.n := by
  unfold Rn.cutE
  cases h : r.may
  · simp
  · rw [if_pos rfl, Go.Proofs.Ytbomjpdheibmfaa.cutE_iff]
    unfold Rn.may at h
    simp only [Bool.and_eq_true] at h
    simp [h.1.1.1]
theorem Rn.may_sp {r : Rn} (h : r.may = true) : r.sp.may = true := by
  unfold Rn.may at h
  simp only [Bool.and_eq_true] at h
  exact h.1.1.1
theorem Rn.may_len {r : Rn} (h : r.may = true) : (r.rs.length : Int) = r.sp.n := by
  unfold Rn.may at h
  simp only [Bool.and_eq_true, decide_eq_true_eq] at h
  exact h.1.2
theorem fst_may {s : Spn} {n : Int} (h : s.may = true) (h0 : 0 < n) (h1 : n ≤ s.n) : (⟨s.f, n⟩ : Spn).may = true := by
  have := Spn.may_le h
  unfold Spn.may at *
  simp only [Bool.and_eq_true, decide_eq_true_eq] at *
  exact ⟨⟨⟨h.1.1.1, by omega⟩, by omega⟩, by omega⟩
def cutK (r : Rn) (n : Int) (v : AV) : Prop := ∃ ra rb, v = .tup [.agg (rnR (r.cutA n) ra), .agg (rnR (r.cutB n) rb), I64 (r.cutE n)] ∧ Sl 1 isI32 ra (r.cutA n).rs ∧ Sl 1 isI32 rb (r.cutB n).rs
set_option maxHeartbeats 16000000 in
theorem runcut_run {o : Rn} {ra : AV} {n : Int} (hR : Sl 1 isI32 ra o.rs) (hf : 100 < fuel) : ∃ v, cutK o n v ∧ ∀ M, callN Try.prog (fsT tbl) fuel (d + 7) (.fn 35) [.agg (rnR o ra), I64 n] M = some (v, M) := by
  have ora := hR.one
  have hck := fun M => @runcheck_run fuel d o ra hR hf M
  have hic := fun M => @idscut_run fuel d o.sp n M
  unfold cutK Rn.cutA Rn.cutB Rn.cutE
  refine gc_ex tf35 rfl (fun M => by simp only [zH, rn_icy hR.fz, icy12]) ?_
  refine call_gc tf35 rfl (by simp only [zH, rn_icy hR.fz, icy12]) (by simp [a35]) fun b' ht hx => ?_
  have h0 := hx 0 _ rfl
  have h1 := hx 1 _ rfl
  clear hx
  simp only [a35, c35] at ht ⊢
  cases hm : o.may with
  | false =>
    rw [hm] at hck
    simp only [Bool.false_eq_true, if_false]
    simp (maxSteps := 2000000) (disch := first | omega | assumption | (simp only [DS, Nat.reduceAdd, *]; done) | (simp only [DZ]; omega)) only [RUN, RU, zD, zC, zB, zE, zG, slot, lay, zH, zF, zA, kR, reduceIte, Nat.reduceEqDiff, Nat.reduceBEq, Nat.reduceLT, Nat.reduceAdd, Nat.reduceLeDiff, Nat.reduceSub, Nat.reduceMul, Int.reduceLT, Int.reduceLE, Int.reduceEq, Int.reduceAdd, Int.reduceSub, Int.reduceMul, h0, h1, hR.fz.rows, hR.fz.one, hR.fz.cells, hR.fz.icy, hR.fz.frz, hck, err_f, z80]
    exact ⟨rfl, _, ⟨NIL, NIL, rfl, .inl ⟨rfl, rfl⟩, .inl ⟨rfl, rfl⟩⟩, rfl⟩
  | true =>
    rw [hm] at hck
    simp only [if_true]
    by_cases q : cutE o.sp n = 0
    · simp only [q, if_true] at hic ⊢
      obtain ⟨c1, c2, c3⟩ := cutE_iff.1 q
      have hb := Spn.may_le c1
      have hml := Rn.may_len hm
      obtain ⟨m, rfl⟩ : ∃ m : Nat, n = m := ⟨n.toNat, by omega⟩
      have hat := fun M => @ids_at fuel (d + 1) ⟨o.sp.f, m⟩ ((m : Int) - 1) M
      rw [if_pos (fst_may c1 c2 (by omega))] at hat
      simp only [if_neg (show ¬((m : Int) - 1 < 0 ∨ (m : Int) ≤ (m : Int) - 1) by omega)] at hat
      have w1 : IntKind.i64.wrap ((m : Int) - 1) = (m : Int) - 1 := wrap_i64 (by omega) (by omega)
      obtain ⟨r1, s1, b1⟩ := sl_to hR (j := m) (by omega)
      obtain ⟨r2, s2, b2⟩ := sl_from hR (i := m) (by omega)
      have o1 := b1.one
      have o2 := b2.one
      obtain ⟨p1, hp1, hr1⟩ := part_run (fuel := fuel) (d := d + 4) (o := o.fst m) b1 (by simp only [Rn.fst, List.length_take, Int.toNat_natCast]; omega)
      obtain ⟨p2, hp2, hr2⟩ := part_run (fuel := fuel) (d := d + 4) (o := o.snd m) b2 (by simp only [Rn.snd, List.length_drop, Int.toNat_natCast]; omega)
      have op1 := hp1.one
      have op2 := hp2.one
      unfold Rn.fst at hr1 hp1
      unfold Rn.snd at hr2 hp2
      have e1 : (⟨o.sp.f, (m : Int)⟩ : Spn).at ((m : Int) - 1) = o.sp.at ((m : Int) - 1) := rfl
      rw [e1] at hat
      simp (maxSteps := 2000000) (disch := first | omega | assumption | (simp only [DS, Nat.reduceAdd, *]; done) | (simp only [DZ]; omega)) only [RUN, RU, zD, zC, zB, zE, zG, slot, lay, zH, zF, zA, kR, reduceIte, Nat.reduceEqDiff, Nat.reduceBEq, Nat.reduceLT, Nat.reduceAdd, Nat.reduceLeDiff, Nat.reduceSub, Nat.reduceMul, Int.reduceLT, Int.reduceLE, Int.reduceEq, Int.reduceAdd, Int.reduceSub, Int.reduceMul, h0, h1, hR.fz.rows, hR.fz.one, hR.fz.cells, hR.fz.icy, hR.fz.frz, hck, err_t, z00, hic, hat, w1, s1, s2, b1.fz.rows, b1.fz.one, b1.fz.cells, b1.fz.icy, b1.fz.frz, b2.fz.rows, b2.fz.one, b2.fz.cells, b2.fz.icy, b2.fz.frz, hr1, hr2, hp1.fz.rows, hp1.fz.one, hp1.fz.cells, hp1.fz.icy, hp1.fz.frz, hp2.fz.rows, hp2.fz.one, hp2.fz.cells, hp2.fz.icy, hp2.fz.frz]
      exact ⟨_, ⟨p1, p2, rfl, hp1, hp2⟩, rfl⟩
    · simp only [q, if_false] at hic ⊢
      have q' : decide (cutE o.sp n = 0) = false := decide_eq_false q
      simp (maxSteps := 2000000) (disch := first | omega | assumption | (simp only [DS, Nat.reduceAdd, *]; done) | (simp only [DZ]; omega)) only [RUN, RU, zD, zC, zB, zE, zG, slot, lay, zH, zF, zA, kR, reduceIte, Nat.reduceEqDiff, Nat.reduceBEq, Nat.reduceLT, Nat.reduceAdd, Nat.reduceLeDiff, Nat.reduceSub, Nat.reduceMul, Int.reduceLT, Int.reduceLE, Int.reduceEq, Int.reduceAdd, Int.reduceSub, Int.reduceMul, h0, h1, hR.fz.rows, hR.fz.one, hR.fz.cells, hR.fz.icy, hR.fz.frz, hck, err_t, z00, hic, q']
      exact ⟨rfl, _, ⟨NIL, NIL, rfl, .inl ⟨rfl, rfl⟩, .inl ⟨rfl, rfl⟩⟩, rfl⟩
end Go.Proofs.Ytbomjpdheibmfaa
