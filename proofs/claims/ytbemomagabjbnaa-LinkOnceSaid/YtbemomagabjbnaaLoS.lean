/-
  The protocol: how much is under way.
-/
import Derived.Test.YtbemomagabjbnaaLoP
set_option linter.unusedSimpArgs false
set_option linter.unusedVariables false
set_option maxRecDepth 100000
namespace Go.Proofs.Ytbemomagabjbnaa
open Go Go.Ax

theorem sendL_len (e : End) : e.sendL.length ≤ 4 := by
  unfold End.sendL
  rw [List.length_append, List.length_map, List.length_take]
  split <;> simp <;> omega
theorem cutOut_len {α : Type} (l : List α) (n : Nat) : (cutOut l n).length ≤ l.length := by
  unfold cutOut
  rw [List.length_append, List.length_take, List.length_drop]
  omega
theorem sent_len (e : End) : e.sent.2.1.length ≤ 4 := by
  unfold End.sent; split
  · exact sendL_len e
  · exact Nat.zero_le 4
theorem tick_len (e : End) : e.tick.2.1.length ≤ 4 := by
  unfold End.tick; split
  · split
    · exact Nat.zero_le 4
    · split
      · exact Nat.zero_le 4
      · exact sendL_len e
  · exact Nat.zero_le 4
theorem sends_len (x : Pair) (s t : Bool) : (x.sends s t).up.length ≤ x.up.length + 4 ∧ (x.sends s t).down.length ≤ x.down.length + 4 := by
  unfold Pair.sends
  have h1 := sent_len x.a
  have h2 := sent_len x.b
  have h3 := tick_len x.a
  have h4 := tick_len x.b
  cases s <;> cases t <;> simp only [if_true, Bool.false_eq_true, if_false, List.length_append] <;> omega
theorem lost_len (x : Pair) (n : Int) (d : Bool) : (x.lost n d).up.length ≤ x.up.length ∧ (x.lost n d).down.length ≤ x.down.length := by
  unfold Pair.lost
  have h1 := cutOut_len x.up n.toNat
  have h2 := cutOut_len x.down n.toNat
  cases d <;> simp only [if_true, Bool.false_eq_true, if_false] <;> split <;> first | (exact ⟨Nat.le_refl _, Nat.le_refl _⟩) | (exact ⟨h1, Nat.le_refl _⟩) | (exact ⟨Nat.le_refl _, h2⟩)
theorem puts_len (x : Pair) (b : UInt8) : (x.puts b).up = x.up ∧ (x.puts b).down = x.down ∧ (x.puts b).put.length ≤ x.put.length + 1 := by
  refine ⟨rfl, rfl, ?_⟩
  unfold Pair.puts
  simp only
  split <;> simp
theorem comes_len (x : Pair) (n : Int) (d l : Bool) : (x.comes n d l).up.length ≤ x.up.length ∧ (x.comes n d l).down.length ≤ x.down.length := by
  unfold Pair.comes
  have h1 := cutOut_len x.up n.toNat
  have h2 := cutOut_len x.down n.toNat
  simp only
  split
  · exact ⟨Nat.le_refl _, Nat.le_refl _⟩
  · split
    · exact ⟨Nat.le_refl _, Nat.le_refl _⟩
    · cases d <;> cases l <;> simp only [if_true, Bool.false_eq_true, if_false] <;> first | (exact ⟨Nat.le_refl _, Nat.le_refl _⟩) | (exact ⟨h1, Nat.le_refl _⟩) | (exact ⟨Nat.le_refl _, h2⟩)
end Go.Proofs.Ytbemomagabjbnaa
