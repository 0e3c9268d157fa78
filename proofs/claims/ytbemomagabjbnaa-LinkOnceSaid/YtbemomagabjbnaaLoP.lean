/-
  The protocol: what comes.
-/
import Derived.Test.YtbemomagabjbnaaLoO
set_option linter.unusedSimpArgs false
set_option linter.unusedVariables false
set_option maxRecDepth 100000
namespace Go.Proofs.Ytbemomagabjbnaa
open Go Go.Ax
variable {ep : Int} {k : Nat} {x : Pair}

theorem Inv.keepL (h : Inv ep k x) (up down : List Pk) (hu : ∀ p ∈ up, p ∈ x.up) (hd : ∀ p ∈ down, p ∈ x.down) : Inv ep k { x with up := up, down := down } :=
  { h with up := fun p hp => h.up p (hu p hp), down := fun p hp => h.down p (hd p hp) }
theorem Inv.comesD (h : Inv ep k x) (h0 : 0 ≤ ep) (h1 : ep < 2147483648) (hp : x.put.length ≤ 1000) {p : Pk} (hm : p ∈ x.down) (down : List Pk) (hd : ∀ q ∈ down, q ∈ x.down) :
    ∃ k', k ≤ k' ∧ (p.ack ≤ (k' : Int)) ∧ Inv ep k' { x with down := down, a := (x.a.take p).1, ok := x.ok && decide ((x.a.take p).2.2.2 = 0) && !(x.a.take p).2.2.1 } := by
  have ha := h.amay h0 h1 hp
  have hpm := h.pkmay h0 h1 hp (.inr hm)
  have hkt := h.kt
  have htp := h.tp
  obtain ⟨e1, e2, e3, j, e4, e5⟩ := h.down p hm
  have ht : x.a.take p = ((x.a.acked p.ack).owes (decide (0 < p.seq)), [], false, 0) := by
    unfold End.take
    rw [ha, hpm, if_pos (show (true && true) = true from rfl), if_neg (by rw [e1, h.aep, e2, h.awant]; simp), if_pos (by rw [e2, h.awant]; simp)]
  rw [ht]
  simp only
  have how : ∀ e : End, e.owe = false → e.owes (decide (0 < p.seq)) = e := fun e he => by
    unfold End.owes
    rw [e2, he]
    cases e
    simp_all
  by_cases hk : k < j
  · have hne : x.put.drop k ≠ [] := fun e => by
      have := congrArg List.length e
      rw [List.length_drop] at this
      simp at this
      omega
    have hack : x.a.acked p.ack = { x.a with out := items j (x.put.drop j), since := 0 } := by
      unfold End.acked
      rw [if_pos ⟨by rw [e4, h.anx]; omega, by rw [e4, h.aout]; exact (gonePos_items k j _).2 ⟨hk, hne⟩⟩, e4, h.aout, leftOf_items, List.drop_drop, show k + (j - k) = j by omega]
    have hack2 : (x.a.acked p.ack).owes (decide (0 < p.seq)) = { x.a with out := items j (x.put.drop j), since := 0 } := by
      rw [hack]
      exact how { x.a with out := items j (x.put.drop j), since := 0 } h.aowe
    rw [hack2]
    refine ⟨j, by omega, by omega, { h with ok := by simp [h.ok], aout := rfl, asince := ⟨Int.le_refl 0, show (0 : Int) < 3 by decide, fun _ => rfl⟩, kt := e5, out32 := ?_, down := fun q hq => h.down q (hd q hq) }⟩
    have := h.out32
    show x.put.length - j ≤ 32
    omega
  · have hack : x.a.acked p.ack = x.a := by
      unfold End.acked
      rw [if_neg (fun hh => hk ((gonePos_items k j (x.put.drop k)).1 (by rw [← h.aout, ← e4]; exact hh.2)).1)]
    rw [hack, how _ h.aowe]
    exact ⟨k, Nat.le_refl _, by omega, { h with ok := by simp [h.ok], down := fun q hq => h.down q (hd q hq) }⟩
theorem Inv.comesU (h : Inv ep k x) (h0 : 0 ≤ ep) (h1 : ep < 2147483648) (hp : x.put.length ≤ 1000) {p : Pk} (hm : p ∈ x.up) (up : List Pk) (hu : ∀ q ∈ up, q ∈ x.up) :
    Inv ep k { x with up := up, b := (x.b.take p).1, ok := x.ok && decide ((x.b.take p).2.2.2 = 0) && (!(x.b.take p).2.2.1 || decide ((x.b.take p).2.1.length = 1)), told := if (x.b.take p).2.2.1 && (x.ok && decide ((x.b.take p).2.2.2 = 0) && (!(x.b.take p).2.2.1 || decide ((x.b.take p).2.1.length = 1))) then x.told ++ (x.b.take p).2.1.take 1 else x.told } := by
  have hb := h.bmay h0 h1 hp
  have hpm := h.pkmay h0 h1 hp (.inl hm)
  have hkt := h.kt
  have htp := h.tp
  have hok := h.ok
  obtain ⟨e1, e2, s, b, e3, e4, e5⟩ := h.up p hm
  have hs := (List.getElem?_eq_some_iff.1 e3).1
  have hack : x.b.acked p.ack = x.b := by
    unfold End.acked
    rw [if_neg (fun hh => by have := hh.2; rw [h.bout] at this; revert this; simp [gonePos])]
  have hne : ¬ (p.ep ≠ x.b.ep ∨ (p.seq = x.b.want ∧ 16777216 ≤ x.b.want + 1)) := by
    rw [e1, h.bep, h.bwant]
    rintro (hh | ⟨_, hh⟩)
    · exact hh rfl
    · omega
  have hpos : decide (0 < p.seq) = true := decide_eq_true (by rw [e4]; omega)
  by_cases hst : s = x.told.length
  · subst hst
    have ht : x.b.take p = (((x.b.acked p.ack).owes (decide (0 < p.seq))).next, p.body, true, 0) := by
      unfold End.take
      rw [hb, hpm, if_pos (show (true && true) = true from rfl), if_neg hne, if_neg (by rw [e4, h.bwant]; simp)]
    rw [ht, hack, hpos, e5]
    simp only [hok]
    have htl : (x.told ++ [b]).length = x.told.length + 1 := by simp
    refine { h with ok := rfl, bep := h.bep, bnx := h.bnx, bout := h.bout, bwant := ?_, bsince := h.bsince, told := ?_, kt := ?_, tp := ?_, up := fun q hq => h.up q (hu q hq), down := fun q hq => ?_ }
    · show x.b.want + 1 = (((x.told ++ [b]).length + 1 : Nat) : Int)
      rw [htl, h.bwant]; omega
    · show x.told ++ [b] = x.put.take (x.told ++ [b]).length
      rw [htl, List.take_add_one, e3, ← h.told]; rfl
    · show k ≤ (x.told ++ [b]).length
      omega
    · show (x.told ++ [b]).length ≤ x.put.length
      omega
    · obtain ⟨f1, f2, f3, j, f4, f5⟩ := h.down q hq
      exact ⟨f1, f2, f3, j, f4, by show j ≤ (x.told ++ [b]).length; omega⟩
  · have ht : x.b.take p = ((x.b.acked p.ack).owes (decide (0 < p.seq)), [], false, 0) := by
      unfold End.take
      rw [hb, hpm, if_pos (show (true && true) = true from rfl), if_neg hne, if_pos (by rw [e4, h.bwant]; omega)]
    rw [ht, hack, hpos]
    simp only [hok]
    exact { h with ok := rfl, bep := h.bep, bnx := h.bnx, bout := h.bout, bwant := h.bwant, bsince := h.bsince, up := fun q hq => h.up q (hu q hq) }
theorem Inv.comes (h : Inv ep k x) (h0 : 0 ≤ ep) (h1 : ep < 2147483648) (hp : x.put.length ≤ 1000) (n : Int) (down left : Bool) : ∃ k', k ≤ k' ∧ Inv ep k' (x.comes n down left) := by
  unfold Pair.comes
  simp only
  split
  · exact ⟨k, Nat.le_refl _, h⟩
  · rename_i p hl
    have hm := List.mem_of_getElem? hl
    split
    · exact ⟨k, Nat.le_refl _, h⟩
    · cases down with
      | true =>
        simp only [if_true] at hm ⊢
        refine (fun ⟨k', a, _, c⟩ => ⟨k', a, c⟩ : (∃ k', k ≤ k' ∧ _ ∧ _) → _) (h.comesD h0 h1 hp hm _ fun q hq => ?_)
        cases left with
        | true => exact hq
        | false => exact cutOut_mem hq
      | false =>
        simp only [Bool.false_eq_true, if_false] at hm ⊢
        refine ⟨k, Nat.le_refl _, h.comesU h0 h1 hp hm _ fun q hq => ?_⟩
        cases left with
        | true => exact hq
        | false => exact cutOut_mem hq
end Go.Proofs.Ytbemomagabjbnaa
