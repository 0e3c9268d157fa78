/-
  The table is the program's: part by part.
-/
import Derived.Test.YtbdmmdjomdmicaaGreatEg
set_option linter.unusedSimpArgs false
set_option linter.unusedVariables false
namespace Go.Ax
open Go
variable {P : Program}
theorem zCU : ∀ (n i : Nat), (zAV P n i).length = n
  | 0, _ => rfl
  | n + 1, i => by simp only [zAV, List.length_cons, zCU n (i + 1)]
theorem zEQ : ∀ (a b i : Nat), zAV P (a + b) i = zAV P a i ++ zAV P b (i + a)
  | 0, b, i => by simp [zAV]
  | a + 1, b, i => by
    rw [show a + 1 + b = (a + b) + 1 by omega]
    simp only [zAV, List.cons_append]
    rw [zEQ a b (i + 1), show i + 1 + a = i + (a + 1) by omega]
theorem zP5 (m : List (Option AFunc)) : msk [] m = [] := by cases m <;> simp [msk]
theorem zHD : ∀ {l1 m1 l2 m2 : List (Option AFunc)}, l1.length ≤ m1.length → (l2 = [] ∨ l1.length = m1.length) → msk (l1 ++ l2) (m1 ++ m2) = msk l1 m1 ++ msk l2 m2
  | [], [], l2, m2, _, _ => by simp [msk]
  | [], _ :: _, l2, m2, _, h => by
    rcases h with rfl | h
    · simp [zP5]
    · simp at h
  | _ :: _, [], _, _, h, _ => by simp at h
  | none :: l1, y :: m1, l2, m2, h, h2 => by
    simp only [List.cons_append, msk]
    rw [zHD (by simpa using h) (h2.imp id fun e => by simpa using e)]
  | some x :: l1, y :: m1, l2, m2, h, h2 => by
    simp only [List.cons_append, msk]
    rw [zHD (by simpa using h) (h2.imp id fun e => by simpa using e)]
theorem zGH {b : Nat} : ∀ (k i : Nat) (L : List (Option AFunc)), (∀ j, j < k → ((L.drop (j * b)).take b).map clr = msk ((L.drop (j * b)).take b) (zAV P b (i + j * b))) → L.length ≤ k * b → L.map clr = msk L (zAV P (k * b) i)
  | 0, i, L, _, hl => by
    obtain rfl : L = [] := List.eq_nil_of_length_eq_zero (by omega)
    rfl
  | k + 1, i, L, h, hl => by
    have h0 := h 0 (by omega)
    simp only [Nat.zero_mul, List.drop_zero, Nat.add_zero] at h0
    have ih := zGH (b := b) k (i + b) (L.drop b) (fun j hj => by
      have := h (j + 1) (by omega)
      rw [show (j + 1) * b = b + j * b by rw [Nat.add_mul]; omega] at this
      rw [List.drop_drop, show i + b + j * b = i + (b + j * b) by omega]
      exact this) (by rw [List.length_drop, Nat.add_mul] at *; omega)
    rw [show (k + 1) * b = b + k * b by rw [Nat.add_mul]; omega, zEQ]
    have e : L.take b ++ L.drop b = L := List.take_append_drop b L
    conv => lhs; rw [← e]
    conv => rhs; arg 1; rw [← e]
    rw [List.map_append, h0, ih, zHD]
    · rw [zCU, List.length_take]; omega
    · rw [zCU, List.length_take]
      by_cases hb : b ≤ L.length
      · right; omega
      · left; exact List.drop_eq_nil_of_le (by omega)
theorem zKH {q : Nat → Prop} (h0 : q 0) (h1 : q 1) (h2 : q 2) (h3 : q 3) : ∀ j, j < 4 → q j := fun j hj => by
  obtain rfl | rfl | rfl | rfl : j = 0 ∨ j = 1 ∨ j = 2 ∨ j = 3 := by omega
  all_goals assumption
end Go.Ax
