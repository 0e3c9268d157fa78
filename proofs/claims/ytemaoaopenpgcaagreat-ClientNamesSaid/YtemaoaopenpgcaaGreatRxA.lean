/-
  runes: Check, over a table of its own.
-/
import Derived.Test.YtemaoaopenpgcaaGreatTbK
import Derived.Test.YtemaoaopenpgcaaGreatRxX
set_option linter.unusedSimpArgs false
set_option linter.unusedVariables false
set_option maxRecDepth 100000
namespace Go.Proofs.YtemaoaopenpgcaaGreat.K
open Go Go.Ax
variable {fuel : Nat} {M : Mem} {Q : AV → Mem → Prop} {d : Nat}

def isI32 (r : List AV) (x : Int) : Prop := r = [I32 x] ∧ -2147483648 ≤ x ∧ x ≤ 2147483647
theorem zGZ (x : Int) : zAM Tryz.prog (fsT tbl) fuel (d + 1) (.fn 211) [I32 x] M = some (BL (valid x), M) := by
  apply zNV
  refine zE4 tf211 rfl (by simp (disch := try exact SX) only [RV, zB3, reduceIte, Nat.reduceEqDiff, Nat.reduceBEq, Nat.reduceLT, Nat.reduceAdd, Nat.reduceLeDiff, Nat.reduceSub, Nat.reduceMul, Int.reduceLT, Int.reduceLE, Int.reduceEq, Int.reduceAdd, Int.reduceSub, Int.reduceMul]) (by simp [a211]) fun b ht hx => ?_
  have h0 := hx 0 _ rfl
  clear hx
  simp only [a211, c211] at ht ⊢
  unfold valid
  (simp (disch := try exact SX) only [RV, zB3, reduceIte, Nat.reduceEqDiff, Nat.reduceBEq, Nat.reduceLT, Nat.reduceAdd, Nat.reduceLeDiff, Nat.reduceSub, Nat.reduceMul, Int.reduceLT, Int.reduceLE, Int.reduceEq, Int.reduceAdd, Int.reduceSub, Int.reduceMul, *])
  repeat' (first | (refine zKE _ _ _ _ _ _ _ (fun hg => ?_) (fun hg => ?_) <;> (try simp (disch := try exact SX) only [RV, zB3, reduceIte, Nat.reduceEqDiff, Nat.reduceBEq, Nat.reduceLT, Nat.reduceAdd, Nat.reduceLeDiff, Nat.reduceSub, Nat.reduceMul, Int.reduceLT, Int.reduceLE, Int.reduceEq, Int.reduceAdd, Int.reduceSub, Int.reduceMul, *])) | (refine zK0 (fun hg => ?_) (fun hg => ?_) <;> (try simp (disch := try exact SX) only [RV, zB3, reduceIte, Nat.reduceEqDiff, Nat.reduceBEq, Nat.reduceLT, Nat.reduceAdd, Nat.reduceLeDiff, Nat.reduceSub, Nat.reduceMul, Int.reduceLT, Int.reduceLE, Int.reduceEq, Int.reduceAdd, Int.reduceSub, Int.reduceMul, *])) | (refine zKC _ _ _ _ _ _ _ _ (fun hg => ?_) (fun hg => ?_) <;> (try simp (disch := try exact SX) only [RV, zB3, reduceIte, Nat.reduceEqDiff, Nat.reduceBEq, Nat.reduceLT, Nat.reduceAdd, Nat.reduceLeDiff, Nat.reduceSub, Nat.reduceMul, Int.reduceLT, Int.reduceLE, Int.reduceEq, Int.reduceAdd, Int.reduceSub, Int.reduceMul, *])))
  all_goals simp_all

theorem zH2 (x : Int) : zAM Tryz.prog (fsT tbl) fuel (d + 2) (.fn 210) [I32 x] M = some (BL (!okR x), M) := by
  apply zNV
  refine zE4 tf210 rfl (by simp (disch := try exact SX) only [RV, zB3, reduceIte, Nat.reduceEqDiff, Nat.reduceBEq, Nat.reduceLT, Nat.reduceAdd, Nat.reduceLeDiff, Nat.reduceSub, Nat.reduceMul, Int.reduceLT, Int.reduceLE, Int.reduceEq, Int.reduceAdd, Int.reduceSub, Int.reduceMul]) (by simp [a210]) fun b ht hx => ?_
  have h0 := hx 0 _ rfl
  clear hx
  simp only [a210, c210] at ht ⊢
  unfold okR
  cases hc : decide (x = -1)
  · simp (disch := try exact SX) only [RV, zB3, reduceIte, Nat.reduceEqDiff, Nat.reduceBEq, Nat.reduceLT, Nat.reduceAdd, Nat.reduceLeDiff, Nat.reduceSub, Nat.reduceMul, Int.reduceLT, Int.reduceLE, Int.reduceEq, Int.reduceAdd, Int.reduceSub, Int.reduceMul, h0, zGZ, hc, Bool.false_or]
  · simp (disch := try exact SX) only [RV, zB3, reduceIte, Nat.reduceEqDiff, Nat.reduceBEq, Nat.reduceLT, Nat.reduceAdd, Nat.reduceLeDiff, Nat.reduceSub, Nat.reduceMul, Int.reduceLT, Int.reduceLE, Int.reduceEq, Int.reduceAdd, Int.reduceSub, Int.reduceMul, h0, zGZ, hc, Bool.true_or]

set_option maxHeartbeats 4000000 in
theorem zGE {a : AV} {l : List Int} (hS : Sl 1 isI32 a l) (hl : l.length < fuel) (hl2 : l.length ≤ 1000000) : ∀ M, zAM Tryz.prog (fsT tbl) fuel (d + 4) (.fn 212) [a, .fn 210 [] []] M = some (BL (!l.all okR), M) := by
  have idx : ∀ M, W3 (zAM Tryz.prog (fsT tbl) fuel (d + 3) (.fn 249) [a, .fn 210 [] []] M) (fun r N => N = M ∧ ∃ k : Int, r = I64 k ∧ decide (0 ≤ k) = !l.all okR) := by
    intro M
    refine zE4 tf249 rfl (by simp (disch := try exact SX) only [RV, zB3, reduceIte, Nat.reduceEqDiff, Nat.reduceBEq, Nat.reduceLT, Nat.reduceAdd, Nat.reduceLeDiff, Nat.reduceSub, Nat.reduceMul, Int.reduceLT, Int.reduceLE, Int.reduceEq, Int.reduceAdd, Int.reduceSub, Int.reduceMul, hS.icy]) (by simp [a249]) fun b ht hx => ?_
    obtain ⟨h0, h1⟩ := hx2 hx
    clear hx
    simp only [a249, c249] at ht ⊢
    have hlen := hS.len
    simp (disch := try exact SX) only [RV, zB3, reduceIte, Nat.reduceEqDiff, Nat.reduceBEq, Nat.reduceLT, Nat.reduceAdd, Nat.reduceLeDiff, Nat.reduceSub, Nat.reduceMul, Int.reduceLT, Int.reduceLE, Int.reduceEq, Int.reduceAdd, Int.reduceSub, Int.reduceMul, h0, h1, hlen]
    refine zSP (I := fun n t N => ∃ i : Nat, i ≤ l.length ∧ n = l.length - i ∧ nth zA5 t 0 = a ∧ nth zA5 t 1 = .fn 210 [] [] ∧ nth zA5 t 7 = I64 l.length ∧ nth zA5 t 8 = I64 i ∧ ∀ j, j < i → ∀ x, l[j]? = some x → okR x = true) (n := l.length) hl ?_ ?_
    · refine ⟨0, by omega, by omega, ?_, ?_, ?_, ?_, fun j h => by omega⟩
      all_goals simp (disch := try exact SX) only [RV, zB3, reduceIte, Nat.reduceEqDiff, Nat.reduceBEq, Nat.reduceLT, Nat.reduceAdd, Nat.reduceLeDiff, Nat.reduceSub, Nat.reduceMul, Int.reduceLT, Int.reduceLE, Int.reduceEq, Int.reduceAdd, Int.reduceSub, Int.reduceMul, h0, h1]
      rfl
    · rintro n t N hl' ⟨i, hi, hn, t0, t1, t7, t8, hall⟩
      simp only [ht] at hl' ⊢
      clear h0 h1 ht b
      by_cases hlt : i < l.length
      · have hc : decide ((i : Int) < l.length) = true := by simp; omega
        have w1 : IntKind.i64.wrap ((i : Int) + 1) = ((i + 1 : Nat) : Int) := WI
        obtain ⟨r, hr, ⟨rfl, _⟩, _⟩ := hS.iad i hlt
        cases hok : okR l[i]
        · simp (disch := try exact SX) only [RV, zB3, reduceIte, Nat.reduceEqDiff, Nat.reduceBEq, Nat.reduceLT, Nat.reduceAdd, Nat.reduceLeDiff, Nat.reduceSub, Nat.reduceMul, Int.reduceLT, Int.reduceLE, Int.reduceEq, Int.reduceAdd, Int.reduceSub, Int.reduceMul, t0, t1, t7, t8, hc, hr, zH2, hok, w1]
          refine ⟨_, rfl, ?_⟩
          rw [show l.all okR = false from List.all_eq_false.2 ⟨l[i], List.getElem_mem hlt, by simp [hok]⟩]
          simp
        · simp (disch := try exact SX) only [RV, zB3, reduceIte, Nat.reduceEqDiff, Nat.reduceBEq, Nat.reduceLT, Nat.reduceAdd, Nat.reduceLeDiff, Nat.reduceSub, Nat.reduceMul, Int.reduceLT, Int.reduceLE, Int.reduceEq, Int.reduceAdd, Int.reduceSub, Int.reduceMul, t0, t1, t7, t8, hc, hr, zH2, hok, w1]
          refine ⟨hl', l.length - (i + 1), by omega, i + 1, by omega, rfl, rfl, fun j hj x hx => ?_⟩
          by_cases e : j = i
          · subst e; rw [List.getElem?_eq_getElem hlt] at hx; cases hx; exact hok
          · exact hall j (by omega) x hx
      · have hc : decide ((i : Int) < l.length) = false := by simp; omega
        simp (disch := try exact SX) only [RV, zB3, reduceIte, Nat.reduceEqDiff, Nat.reduceBEq, Nat.reduceLT, Nat.reduceAdd, Nat.reduceLeDiff, Nat.reduceSub, Nat.reduceMul, Int.reduceLT, Int.reduceLE, Int.reduceEq, Int.reduceAdd, Int.reduceSub, Int.reduceMul, t0, t1, t7, t8, hc]
        refine ⟨-1, rfl, ?_⟩
        rw [show l.all okR = true from List.all_eq_true.2 fun x hx => by
          obtain ⟨j, hj, rfl⟩ := List.getElem_of_mem hx
          exact hall j (by omega) _ (List.getElem?_eq_getElem hj)]
        rfl
  intro M
  apply zNV
  refine zE4 tf212 rfl (by simp (disch := try exact SX) only [RV, zB3, reduceIte, Nat.reduceEqDiff, Nat.reduceBEq, Nat.reduceLT, Nat.reduceAdd, Nat.reduceLeDiff, Nat.reduceSub, Nat.reduceMul, Int.reduceLT, Int.reduceLE, Int.reduceEq, Int.reduceAdd, Int.reduceSub, Int.reduceMul, hS.icy]) (by simp [a212]) fun b ht hx => ?_
  obtain ⟨h0, h1⟩ := hx2 hx
  clear hx
  simp only [a212, c212] at ht ⊢
  simp (disch := try exact SX) only [RV, zB3, reduceIte, Nat.reduceEqDiff, Nat.reduceBEq, Nat.reduceLT, Nat.reduceAdd, Nat.reduceLeDiff, Nat.reduceSub, Nat.reduceMul, Int.reduceLT, Int.reduceLE, Int.reduceEq, Int.reduceAdd, Int.reduceSub, Int.reduceMul, h0, h1]
  refine zQC (idx _) ?_
  rintro r N ⟨rfl, k, rfl, hk⟩
  simp (disch := try exact SX) only [RV, zB3, reduceIte, Nat.reduceEqDiff, Nat.reduceBEq, Nat.reduceLT, Nat.reduceAdd, Nat.reduceLeDiff, Nat.reduceSub, Nat.reduceMul, Int.reduceLT, Int.reduceLE, Int.reduceEq, Int.reduceAdd, Int.reduceSub, Int.reduceMul, hk]

theorem check_run {a : AV} {l : List Int} (hS : Sl 1 isI32 a l) (hf : 1000 < fuel) (M : Mem) : zAM Tryz.prog (fsT tbl) fuel (d + 5) (.fn 168) [a] M = some (I64 (chk l), M) := by
  apply zNV
  refine zE4 tf168 rfl (by simp (disch := try exact SX) only [RV, zB3, reduceIte, Nat.reduceEqDiff, Nat.reduceBEq, Nat.reduceLT, Nat.reduceAdd, Nat.reduceLeDiff, Nat.reduceSub, Nat.reduceMul, Int.reduceLT, Int.reduceLE, Int.reduceEq, Int.reduceAdd, Int.reduceSub, Int.reduceMul, hS.icy]) (by simp [a168]) fun b ht hx => ?_
  have h0 := hx 0 _ rfl
  clear hx
  simp only [a168, c168] at ht ⊢
  have hlen := hS.len
  unfold chk
  by_cases h64 : 64 < l.length
  · have hc : decide ((64 : Int) < l.length) = true := by simp; omega
    simp (disch := try exact SX) only [RV, zB3, reduceIte, Nat.reduceEqDiff, Nat.reduceBEq, Nat.reduceLT, Nat.reduceAdd, Nat.reduceLeDiff, Nat.reduceSub, Nat.reduceMul, Int.reduceLT, Int.reduceLE, Int.reduceEq, Int.reduceAdd, Int.reduceSub, Int.reduceMul, h0, hlen, hc, h64, if_true]
  · have hc : decide ((64 : Int) < l.length) = false := by simp; omega
    have hcon := zGE (fuel := fuel) (d := d) hS (by omega) (by omega)
    cases hok : l.all okR
    · rw [hok] at hcon
      simp (disch := try exact SX) only [RV, zB3, reduceIte, Nat.reduceEqDiff, Nat.reduceBEq, Nat.reduceLT, Nat.reduceAdd, Nat.reduceLeDiff, Nat.reduceSub, Nat.reduceMul, Int.reduceLT, Int.reduceLE, Int.reduceEq, Int.reduceAdd, Int.reduceSub, Int.reduceMul, h0, hlen, hc, h64, if_false, hcon, Bool.false_eq_true]
    · rw [hok] at hcon
      simp (disch := try exact SX) only [RV, zB3, reduceIte, Nat.reduceEqDiff, Nat.reduceBEq, Nat.reduceLT, Nat.reduceAdd, Nat.reduceLeDiff, Nat.reduceSub, Nat.reduceMul, Int.reduceLT, Int.reduceLE, Int.reduceEq, Int.reduceAdd, Int.reduceSub, Int.reduceMul, h0, hlen, hc, h64, if_false, if_true, hcon]
end Go.Proofs.YtemaoaopenpgcaaGreat.K
