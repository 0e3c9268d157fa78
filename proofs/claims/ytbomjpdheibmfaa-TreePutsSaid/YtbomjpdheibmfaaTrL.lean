/-
  Texts: Find.
-/
import Derived.Test.YtbomjpdheibmfaaTrK
import Derived.Test.YtbomjpdheibmfaaEf
set_option linter.unusedSimpArgs false
set_option linter.unusedVariables false
set_option maxRecDepth 100000
namespace Go.Proofs.Ytbomjpdheibmfaa
open Go Go.Ax
variable {fuel : Nat} {M : Mem} {Q : AV → Mem → Prop} {d : Nat}
noncomputable def findE (l : List Rn) (x : Eid) : Int := if textB l = true then (if whereL l x = none then 6 else 0) else 8
noncomputable def findN (l : List Rn) (x : Eid) : Int := if findE l x = 0 then (match whereL l x with
  | some p => countL (l.take p.1) + p.2
  | none => 0) else 0
set_option maxHeartbeats 4000000 in
theorem find_run {a : AV} {l : List Rn} {x : Eid} (hS : Sl 10 isRn a l) (hl : l.length ≤ 1000) (hf : 64 * l.length + 3001000 < fuel) (M : Mem) : callN Try.prog (fsT tbl) fuel (d + 11) (.fn 8) [a, idA x] M = some (.tup [I64 (findN l x), I64 (findE l x)], M) := by
  have oa := hS.one
  have hck := fun M => @check_run fuel d a l hS hl hf M
  have hw := fun M => @where_run fuel (d + 4) a l x hS (by omega) (by omega) M
  apply w3_eq
  refine call_gc tf8 rfl (by simp only [zH, fun M => hS.icy M 12 (by omega), fz_icyA (fz_idR x) (show 1 < 12 by omega)]) (by simp [a8]) fun b' ht hx => ?_
  have h0 := hx 0 _ rfl
  have h1 := hx 1 _ rfl
  clear hx
  simp only [a8, c8] at ht ⊢
  unfold findN findE
  cases ht' : textB l with
  | false =>
    rw [ht'] at hck
    have q8 : ((8 : Int) = 0) = False := by decide
    simp only [Bool.false_eq_true, if_false, q8]
    simp (maxSteps := 2000000) (disch := first | omega | assumption | (simp only [DS, Nat.reduceAdd, *]; done) | (simp only [DZ]; omega)) only [RUN, RU, zD, zC, zB, zE, zG, slot, lay, zH, zF, zA, kR, reduceIte, Nat.reduceEqDiff, Nat.reduceBEq, Nat.reduceLT, Nat.reduceAdd, Nat.reduceLeDiff, Nat.reduceSub, Nat.reduceMul, Int.reduceLT, Int.reduceLE, Int.reduceEq, Int.reduceAdd, Int.reduceSub, Int.reduceMul, h0, h1, hS.fz.rows, hS.fz.one, hS.fz.cells, hS.fz.icy, hS.fz.frz, hck, err_f, z80]
    all_goals rfl
  | true =>
    rw [ht'] at hck
    have hok := textB_iff.1 ht'
    simp only [if_true]
    cases hwl : whereL l x with
    | none =>
      rw [hwl] at hw
      have q6 : ((6 : Int) = 0) = False := by decide
      have qn : decide ((-1 : Int) < 0) = true := rfl
      simp only [if_true, q6, if_false]
      simp (maxSteps := 2000000) (disch := first | omega | assumption | (simp only [DS, Nat.reduceAdd, *]; done) | (simp only [DZ]; omega)) only [RUN, RU, zD, zC, zB, zE, zG, slot, lay, zH, zF, zA, kR, reduceIte, Nat.reduceEqDiff, Nat.reduceBEq, Nat.reduceLT, Nat.reduceAdd, Nat.reduceLeDiff, Nat.reduceSub, Nat.reduceMul, Int.reduceLT, Int.reduceLE, Int.reduceEq, Int.reduceAdd, Int.reduceSub, Int.reduceMul, h0, h1, hS.fz.rows, hS.fz.one, hS.fz.cells, hS.fz.icy, hS.fz.frz, hck, err_t, z00, hw, wN, wK, qn]
      all_goals rfl
    | some p =>
      obtain ⟨n, k⟩ := p
      rw [hwl] at hw
      obtain ⟨L1, q, L2, hle, hln, h1', h2', h3', h4'⟩ := where_some hwl
      have hnl : n < l.length := by rw [hle, List.length_append, List.length_cons]; omega
      obtain ⟨r1, s1, b1⟩ := sl_to hS (j := n) (by omega)
      have ob1 := b1.one
      have hmt : ∀ r ∈ l.take n, r.may = true := fun r hr => hok.1 r (List.mem_of_mem_take hr)
      have hct := fun M => @count_run fuel (d + 9) r1 (l.take n) b1 hmt (by rw [List.length_take]; omega) (by rw [List.length_take]; omega) M
      have hcl := countL_le hmt
      rw [List.length_take] at hcl
      have hb := Spn.may_le h1'
      have qn : decide ((n : Int) < 0) = false := decide_eq_false (by omega)
      have w1 : IntKind.i64.wrap (countL (l.take n) + k) = countL (l.take n) + k := by rw [wrap_i64] <;> omega
      simp only [reduceCtorEq, if_false, if_true]
      simp (maxSteps := 2000000) (disch := first | omega | assumption | (simp only [DS, Nat.reduceAdd, *]; done) | (simp only [DZ]; omega)) only [RUN, RU, zD, zC, zB, zE, zG, slot, lay, zH, zF, zA, kR, reduceIte, Nat.reduceEqDiff, Nat.reduceBEq, Nat.reduceLT, Nat.reduceAdd, Nat.reduceLeDiff, Nat.reduceSub, Nat.reduceMul, Int.reduceLT, Int.reduceLE, Int.reduceEq, Int.reduceAdd, Int.reduceSub, Int.reduceMul, h0, h1, hS.fz.rows, hS.fz.one, hS.fz.cells, hS.fz.icy, hS.fz.frz, hck, err_t, z00, hw, wN, wK, qn, s1, b1.fz.rows, b1.fz.one, b1.fz.cells, b1.fz.icy, b1.fz.frz, hct, w1]
end Go.Proofs.Ytbomjpdheibmfaa
