/-
  Pieces of frozen slices of any kind.
-/
import Derived.Test.YtbemomagabjbnaaLoP
set_option linter.unusedSimpArgs false
set_option linter.unusedVariables false
set_option maxRecDepth 100000
namespace Go.Proofs.Ytbemomagabjbnaa
open Go Go.Ax

theorem flat_drop {st : Nat} : ∀ {rows : List (List AV)} (i : Nat), (∀ r ∈ rows, r.length = st) → rows.flatten.drop (i * st) = (rows.drop i).flatten
  | _, 0, _ => by simp
  | [], i + 1, _ => by simp
  | r :: rows, i + 1, h => by
    have hr := h r List.mem_cons_self
    rw [List.flatten_cons, List.drop_succ_cons, Nat.succ_mul, Nat.add_comm, ← List.drop_drop, List.drop_left' hr]
    exact flat_drop i fun q hq => h q (List.mem_cons_of_mem _ hq)
theorem flat_take2 {st : Nat} : ∀ {rows : List (List AV)} (i : Nat), (∀ r ∈ rows, r.length = st) → rows.flatten.take (i * st) = (rows.take i).flatten
  | _, 0, _ => by simp
  | [], i + 1, _ => by simp
  | r :: rows, i + 1, h => by
    have hr := h r List.mem_cons_self
    rw [List.flatten_cons, List.take_succ_cons, List.flatten_cons, Nat.succ_mul, Nat.add_comm, ← hr, List.take_length_add_append, hr, flat_take2 i fun q hq => h q (List.mem_cons_of_mem _ hq)]
theorem all2_drop {α : Type} {T : List AV → α → Prop} : ∀ {rows : List (List AV)} {l : List α} (n : Nat), All2 T rows l → All2 T (rows.drop n) (l.drop n)
  | _, _, 0, h => h
  | _, _, n + 1, .nil => by simp; exact .nil
  | _, _, n + 1, .cons a b => all2_drop n b
theorem sl_to {α : Type} {T : List AV → α → Prop} {st : Nat} {a : AV} {l : List α} (h : Sl st T a l) {j : Nat} (hj : j ≤ l.length) : ∃ a', (∀ M, slcO M st a none (some (I64 j)) none = some (a', M)) ∧ Sl st T a' (l.take j) := by
  rcases h with ⟨rfl, rfl⟩ | ⟨rows, cap, rfl, hA, hr⟩
  · obtain rfl : j = 0 := by simpa using hj
    exact ⟨NIL, fun M => rfl, .inl ⟨rfl, rfl⟩⟩
  · have hl := hA.length_eq
    refine ⟨.pv (rows.take j).flatten j (capSub cap 0) st, fun M => ?_, .inr ⟨rows.take j, capSub cap 0, by rw [List.length_take, Nat.min_eq_left (by omega)], all2_take j hA, fun r hq => hr r (List.mem_of_mem_take hq)⟩⟩
    have hs : slot rows.flatten 0 (j * st) = (rows.take j).flatten := by rw [slot, List.drop_zero, flat_take2 j hr]
    unfold slcO
    simp only [Nat.beq_refl, bnd_int _ _ _ _ (show j ≤ rows.length by omega), bnd_none, Nat.zero_mul, Nat.sub_zero, hs]
theorem sl_from {α : Type} {T : List AV → α → Prop} {st : Nat} {a : AV} {l : List α} (h : Sl st T a l) {i : Nat} (hi : i ≤ l.length) : ∃ a', (∀ M, slcO M st a (some (I64 i)) none none = some (a', M)) ∧ Sl st T a' (l.drop i) := by
  rcases h with ⟨rfl, rfl⟩ | ⟨rows, cap, rfl, hA, hr⟩
  · obtain rfl : i = 0 := by simpa using hi
    exact ⟨NIL, fun M => rfl, .inl ⟨rfl, rfl⟩⟩
  · have hl := hA.length_eq
    refine ⟨.pv (rows.drop i).flatten (rows.length - i) (capSub cap i) st, fun M => ?_, .inr ⟨rows.drop i, capSub cap i, by rw [List.length_drop], all2_drop i hA, fun r hq => hr r (List.mem_of_mem_drop hq)⟩⟩
    have hs : slot rows.flatten (i * st) ((rows.length - i) * st) = (rows.drop i).flatten := by
      rw [slot, flat_drop i hr, List.take_of_length_le]
      rw [flat_len (st := st) (fun r hq => hr r (List.mem_of_mem_drop hq)), List.length_drop]
      exact Nat.le_refl _
    unfold slcO
    simp only [Nat.beq_refl, bnd_int _ _ _ _ (show i ≤ rows.length by omega), bnd_none, hs]
end Go.Proofs.Ytbemomagabjbnaa
