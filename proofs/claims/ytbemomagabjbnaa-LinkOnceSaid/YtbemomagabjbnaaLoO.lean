/-
  The protocol: sending and ticks.
-/
import Derived.Test.YtbemomagabjbnaaLoN
set_option linter.unusedSimpArgs false
set_option linter.unusedVariables false
set_option maxRecDepth 100000
namespace Go.Proofs.Ytbemomagabjbnaa
open Go Go.Ax
variable {ep : Int} {k : Nat} {x : Pair}

theorem items_mem {k : Nat} {l : List UInt8} {it : Item} (h : it ∈ items k l) : ∃ (i : Nat) (b : UInt8), l[i]? = some b ∧ it = ⟨((k + i + 1 : Nat) : Int), [b]⟩ := by
  obtain ⟨i, hi, rfl⟩ := List.getElem_of_mem h
  have hi2 : i < l.length := by rw [items_len] at hi; exact hi
  refine ⟨i, l[i], List.getElem?_eq_getElem hi2, ?_⟩
  have := items_get k l i hi2
  rw [List.getElem?_eq_getElem hi] at this
  exact Option.some.inj this
theorem Inv.sendL (h : Inv ep k x) : ∀ p ∈ x.a.sendL, p.ep = ep ∧ p.ack = 0 ∧ ∃ (s : Nat) (b : UInt8), x.put[s]? = some b ∧ p.seq = ((s + 1 : Nat) : Int) ∧ p.body = [b] := by
  intro p hp
  unfold End.sendL at hp
  rw [h.aowe, if_neg (by simp), List.append_nil] at hp
  obtain ⟨it, hit, rfl⟩ := List.mem_map.1 hp
  have hit2 := List.mem_of_mem_take hit
  rw [h.aout] at hit2
  obtain ⟨i, b, hb, rfl⟩ := items_mem hit2
  rw [List.getElem?_drop] at hb
  exact ⟨h.aep, by show x.a.want - 1 = 0; rw [h.awant]; rfl, k + i, b, hb, rfl, rfl⟩
theorem Inv.asent (h : Inv ep k x) (l : List Pk) (hl : ∀ p ∈ l, p ∈ x.a.sendL) (s : Int) (hs : 0 ≤ s ∧ s < 3 ∧ (x.a.out.length = 0 → s = 0)) : Inv ep k { x with a := { x.a with since := s, owe := false }, up := x.up ++ l } := by
  refine { h with asince := hs, aowe := rfl, up := fun p hp => ?_ }
  rcases List.mem_append.1 hp with hp | hp
  · exact h.up p hp
  · exact h.sendL p (hl p hp)
theorem Inv.sends (h : Inv ep k x) (h0 : 0 ≤ ep) (h1 : ep < 2147483648) (hp : x.put.length ≤ 1000) (second tick : Bool) : Inv ep k (x.sends second tick) := by
  have ha := h.amay h0 h1 hp
  have hb := h.bmay h0 h1 hp
  have hok := h.ok
  have hs := h.asince
  have howe := h.aowe
  cases second with
  | false =>
    cases tick with
    | false =>
      have e : x.sends false false = { x with a := { x.a with since := 0, owe := false }, up := x.up ++ x.a.sendL } := by
        have e1 : x.a.sent = (x.a.rest, x.a.sendL, 0) := by unfold End.sent; rw [if_pos ha]
        unfold Pair.sends
        simp only [Bool.false_eq_true, if_false, e1, hok]
        simp [End.rest, ← hok]
      rw [e]
      exact h.asent _ (fun p hp => hp) 0 ⟨by omega, by omega, fun _ => rfl⟩
    | true =>
      by_cases hz : x.a.out.length = 0
      · have e : x.sends false true = x := by
          have e1 : x.a.tick = (x.a, [], 0) := by unfold End.tick; rw [if_pos ha, if_pos hz]
          unfold Pair.sends
          simp only [Bool.false_eq_true, if_false, if_true, e1]
          simp
        rw [e]; exact h
      · by_cases h3 : x.a.since + 1 < 3
        · have e : x.sends false true = { x with a := { x.a with since := x.a.since + 1, owe := false }, up := x.up ++ [] } := by
            have e1 : x.a.tick = (x.a.late, [], 0) := by unfold End.tick; rw [if_pos ha, if_neg hz, if_pos h3]
            unfold Pair.sends
            simp only [Bool.false_eq_true, if_false, if_true, e1]
            simp [End.late, howe]
          rw [e]
          exact h.asent _ (fun p hp => by cases hp) _ ⟨by omega, h3, fun h => absurd h hz⟩
        · have e : x.sends false true = { x with a := { x.a with since := 0, owe := false }, up := x.up ++ x.a.sendL } := by
            have e1 : x.a.tick = (x.a.rest, x.a.sendL, 0) := by unfold End.tick; rw [if_pos ha, if_neg hz, if_neg h3]
            unfold Pair.sends
            simp only [Bool.false_eq_true, if_false, if_true, e1]
            simp [End.rest]
          rw [e]
          exact h.asent _ (fun p hp => hp) 0 ⟨by omega, by omega, fun _ => rfl⟩
  | true =>
    cases tick with
    | false =>
      have e : x.sends true false = { x with b := { x.b with since := 0, owe := false }, down := x.down ++ x.b.sendL } := by
        have e1 : x.b.sent = (x.b.rest, x.b.sendL, 0) := by unfold End.sent; rw [if_pos hb]
        unfold Pair.sends
        simp only [Bool.false_eq_true, if_false, if_true, e1]
        simp [End.rest]
      rw [e]
      refine { h with bsince := rfl, down := fun p hp => ?_ }
      rcases List.mem_append.1 hp with hp | hp
      · exact h.down p hp
      · unfold End.sendL at hp
        rw [h.bout] at hp
        simp only [List.take_nil, List.map_nil, List.nil_append] at hp
        split at hp
        · simp only [List.mem_singleton] at hp
          subst hp
          exact ⟨h.bep, rfl, rfl, x.told.length, by show x.b.want - 1 = _; rw [h.bwant]; omega, Nat.le_refl _⟩
        · cases hp
    | true =>
      have e : x.sends true true = x := by
        have e1 : x.b.tick = (x.b, [], 0) := by unfold End.tick; rw [if_pos hb, if_pos (by rw [h.bout]; rfl)]
        unfold Pair.sends
        simp only [if_true, e1]
        simp
      rw [e]; exact h
end Go.Proofs.Ytbemomagabjbnaa
