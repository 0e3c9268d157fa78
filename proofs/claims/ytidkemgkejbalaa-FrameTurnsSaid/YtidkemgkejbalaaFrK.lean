/-
  A piece of our own bytes, from a place on.
-/
import Derived.Test.YtidkemgkejbalaaFrJ
set_option linter.unusedSimpArgs false
set_option linter.unusedVariables false
set_option maxRecDepth 100000
namespace Go.Proofs.Ytidkemgkejbalaa
open Go Go.Ax

theorem slm_form {M : Mem} {a : AV} {l : List UInt8} (h : SlM M 1 isU8 a l) : (a = NIL ∧ l = []) ∨ ∃ (id : Nat) (cap : Option Nat), a = .sl id 0 l.length cap 1 ∧ (cap = none ∨ cap = some l.length) ∧ M.get id = some (.row false (u8s l)) := by
  rcases h with h | ⟨id, rows, cap, rfl, hc, hg, hA, _⟩
  · exact .inl h
  · exact .inr ⟨id, cap, by rw [hA.length_eq], by rw [← hA.length_eq]; exact hc, by rw [← rows_u8 hA]; exact hg⟩
theorem slm_from {M : Mem} {id i : Nat} {cap : Option Nat} {l : List UInt8} (hc : cap = none ∨ cap = some l.length) (hg : M.get id = some (.row false (u8s l))) (hi : i < l.length) :
    ∃ cap', slcO M 1 (.sl id 0 l.length cap 1) (some (I64 i)) none none = some (.sl id i (l.length - i) cap' 1, M) := by
  have hb : Nat.beq l.length i = false := by
    cases h : Nat.beq l.length i with
    | false => rfl
    | true => have := Nat.eq_of_beq_eq_true h; omega
  rcases hc with rfl | rfl
  · refine ⟨none, ?_⟩
    unfold slcO
    simp only [Nat.beq_refl, rd_row hg, u8s_len, Nat.sub_zero, Nat.div_one, bnd_none, bnd_int _ _ _ _ (Nat.le_of_lt hi), Nat.mul_one, Nat.zero_add]
  · refine ⟨some (l.length - i), ?_⟩
    unfold slcO
    simp only [Nat.beq_refl, bnd_none, bnd_int _ _ _ _ (Nat.le_of_lt hi), hb, Nat.mul_one, Nat.zero_add]
end Go.Proofs.Ytidkemgkejbalaa
