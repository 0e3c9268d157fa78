/-
  runes: Check, over a table of its own.
-/
import Derived.Test.YtliicocdhkcanaaGreatTbK
import Derived.Test.YtliicocdhkcanaaGreatRzX
set_option linter.unusedSimpArgs false
set_option linter.unusedVariables false
set_option maxRecDepth 100000
namespace Go.Proofs.YtliicocdhkcanaaGreat.K
open Go Go.Ax X
variable {fuel : Nat} {M : Mem} {Q : AV → Mem → Prop} {d : Nat}

def isI32 (r : List AV) (x : Int) : Prop := r = [I32 x] ∧ -2147483648 ≤ x ∧ x ≤ 2147483647
theorem zK3 (x : Int) : zAF Tryz.prog (fsT tbl) fuel (d + 1) (.fn 181) [I32 x] M = some (BL (valid x), M) := by
  apply zB1
  refine zAD tf181 rfl (by simp (disch := try exact SX) only [RV]) (by simp [a181]) fun b ht hx => ?_
  have h0 := hx 0 _ rfl
  clear hx
  simp only [a181, c181] at ht ⊢
  unfold valid
  (simp (disch := try exact SX) only [RV, reduceIte, Nat.reduceEqDiff, *])
  repeat' (first | (refine zDB _ _ _ _ _ _ _ (fun hg => ?_) (fun hg => ?_) <;> (try simp (disch := try exact SX) only [RV, reduceIte, Nat.reduceEqDiff, *])) | (refine zDM (fun hg => ?_) (fun hg => ?_) <;> (try simp (disch := try exact SX) only [RV, reduceIte, Nat.reduceEqDiff, *])) | (refine zDO _ _ _ _ _ _ _ _ (fun hg => ?_) (fun hg => ?_) <;> (try simp (disch := try exact SX) only [RV, zAB, reduceIte, Nat.reduceEqDiff, Nat.reduceBEq, Nat.reduceLT, Nat.reduceAdd, Nat.reduceLeDiff, Nat.reduceSub, Nat.reduceMul, Int.reduceLT, Int.reduceLE, Int.reduceEq, Int.reduceAdd, Int.reduceSub, Int.reduceMul, *])))
  all_goals simp_all

theorem zHA (x : Int) : zAF Tryz.prog (fsT tbl) fuel (d + 2) (.fn 180) [I32 x] M = some (BL (!okR x), M) := by
  apply zB1
  refine zAD tf180 rfl (by simp (disch := try exact SX) only [RV]) (by simp [a180]) fun b ht hx => ?_
  have h0 := hx 0 _ rfl
  clear hx
  simp only [a180, c180] at ht ⊢
  unfold okR
  cases hc : decide (x = -1)
  · simp (disch := try exact SX) only [RV, reduceIte, Nat.reduceEqDiff, h0, zK3, hc]
  · simp (disch := try exact SX) only [RV, reduceIte, Nat.reduceEqDiff, h0, hc]

set_option maxHeartbeats 4000000 in
theorem zN6 {a : AV} {l : List Int} (hS : Sl 1 isI32 a l) (hl : l.length < fuel) (hl2 : l.length ≤ 1000000) : ∀ M, zAF Tryz.prog (fsT tbl) fuel (d + 4) (.fn 182) [a, .fn 180 [] []] M = some (BL (!l.all okR), M) := by
  have idx : ∀ M, W3 (zAF Tryz.prog (fsT tbl) fuel (d + 3) (.fn 221) [a, .fn 180 [] []] M) (fun r N => N = M ∧ ∃ k : Int, r = I64 k ∧ decide (0 ≤ k) = !l.all okR) := by
    intro M
    refine zAD tf221 rfl (by simp (disch := try exact SX) only [RV, Nat.reduceSub, hS.icy]) (by simp [a221]) fun b ht hx => ?_
    obtain ⟨h0, h1⟩ := hx2 hx
    clear hx
    simp only [a221, c221] at ht ⊢
    have hlen := hS.len
    simp (disch := try exact SX) only [RV, reduceIte, Nat.reduceEqDiff, h0, hlen]
    refine zBB (I := fun n t N => ∃ i : Nat, i ≤ l.length ∧ n = l.length - i ∧ nth zA3 t 0 = a ∧ nth zA3 t 1 = .fn 180 [] [] ∧ nth zA3 t 7 = I64 l.length ∧ nth zA3 t 8 = I64 i ∧ ∀ j, j < i → ∀ x, l[j]? = some x → okR x = true) (n := l.length) hl ?_ ?_
    · refine ⟨0, by omega, by omega, ?_, ?_, ?_, ?_, fun j h => by omega⟩
      all_goals simp (disch := try exact SX) only [RV, reduceIte, Nat.reduceEqDiff, h0, h1]
      rfl
    · rintro n t N hl' ⟨i, hi, hn, t0, t1, t7, t8, hall⟩
      simp only [ht] at hl' ⊢
      clear h0 h1 ht b
      by_cases hlt : i < l.length
      · have hc : decide ((i : Int) < l.length) = true := by simp; omega
        have w1 : IntKind.i64.wrap ((i : Int) + 1) = ((i + 1 : Nat) : Int) := WI
        obtain ⟨r, hr, ⟨rfl, _⟩, _⟩ := hS.iad i hlt
        cases hok : okR l[i]
        · simp (disch := try exact SX) only [RV, reduceIte, Nat.reduceEqDiff, t0, t1, t7, t8, hc, hr, zHA, hok]
          refine ⟨_, rfl, ?_⟩
          rw [show l.all okR = false from List.all_eq_false.2 ⟨l[i], List.getElem_mem hlt, by simp [hok]⟩]
          simp
        · simp (disch := try exact SX) only [RV, reduceIte, Nat.reduceEqDiff, t0, t1, t7, t8, hc, hr, zHA, hok, w1]
          refine ⟨hl', l.length - (i + 1), by omega, i + 1, by omega, rfl, rfl, fun j hj x hx => ?_⟩
          by_cases e : j = i
          · subst e; rw [List.getElem?_eq_getElem hlt] at hx; cases hx; exact hok
          · exact hall j (by omega) x hx
      · have hc : decide ((i : Int) < l.length) = false := by simp; omega
        simp (disch := try exact SX) only [RV, reduceIte, Nat.reduceEqDiff, t7, t8, hc]
        refine ⟨-1, rfl, ?_⟩
        rw [show l.all okR = true from List.all_eq_true.2 fun x hx => by
          obtain ⟨j, hj, rfl⟩ := List.getElem_of_mem hx
          exact hall j (by omega) _ (List.getElem?_eq_getElem hj)]
        rfl
  intro M
  apply zB1
  refine zAD tf182 rfl (by simp (disch := try exact SX) only [RV, Nat.reduceSub, hS.icy]) (by simp [a182]) fun b ht hx => ?_
  obtain ⟨h0, h1⟩ := hx2 hx
  clear hx
  simp only [a182, c182] at ht ⊢
  simp (disch := try exact SX) only [RV, reduceIte, Nat.reduceEqDiff, h0, h1]
  refine zeV (idx _) ?_
  rintro r N ⟨rfl, k, rfl, hk⟩
  simp (disch := try exact SX) only [RV, reduceIte, Nat.reduceEqDiff, hk]

theorem check_run {a : AV} {l : List Int} (hS : Sl 1 isI32 a l) (hf : 1000 < fuel) (M : Mem) : zAF Tryz.prog (fsT tbl) fuel (d + 5) (.fn 118) [a] M = some (I64 (chk l), M) := by
  apply zB1
  refine zAD tf118 rfl (by simp (disch := try exact SX) only [RV, hS.icy]) (by simp [a118]) fun b ht hx => ?_
  have h0 := hx 0 _ rfl
  clear hx
  simp only [a118, c118] at ht ⊢
  have hlen := hS.len
  unfold chk
  by_cases h64 : 64 < l.length
  · have hc : decide ((64 : Int) < l.length) = true := by simp; omega
    simp (disch := try exact SX) only [RV, reduceIte, Nat.reduceEqDiff, h0, hlen, hc, h64, if_true]
  · have hc : decide ((64 : Int) < l.length) = false := by simp; omega
    have hcon := zN6 (fuel := fuel) (d := d) hS (by omega) (by omega)
    cases hok : l.all okR
    · rw [hok] at hcon
      simp (disch := try exact SX) only [RV, reduceIte, Nat.reduceEqDiff, h0, hlen, hc, h64, if_false, hcon, Bool.false_eq_true]
    · rw [hok] at hcon
      simp (disch := try exact SX) only [RV, Nat.reduceEqDiff, h0, hlen, hc, h64, if_false, if_true, hcon]
end Go.Proofs.YtliicocdhkcanaaGreat.K
