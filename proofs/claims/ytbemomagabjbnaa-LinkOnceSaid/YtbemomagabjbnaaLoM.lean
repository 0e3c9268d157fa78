/-
  The protocol, said without the program: what pairs do, and what stays so.
-/
import Derived.Test.YtbemomagabjbnaaLoJ
set_option linter.unusedSimpArgs false
set_option linter.unusedVariables false
set_option maxRecDepth 100000
namespace Go.Proofs.Ytbemomagabjbnaa
open Go Go.Ax

/-- The items of bytes, the first one with the number behind k. -/
def items : Nat → List UInt8 → List Item
  | _, [] => []
  | k, b :: l => ⟨((k + 1 : Nat) : Int), [b]⟩ :: items (k + 1) l
theorem items_len (k : Nat) (l : List UInt8) : (items k l).length = l.length := by
  induction l generalizing k with
  | nil => rfl
  | cons b l ih => simp [items, ih]
theorem items_seq (k : Nat) (l : List UInt8) : ∀ x ∈ items k l, (k : Int) < x.seq ∧ x.body.length = 1 := by
  induction l generalizing k with
  | nil => simp [items]
  | cons b l ih =>
    intro x hx
    simp only [items, List.mem_cons] at hx
    rcases hx with rfl | hx
    · exact ⟨by show (k : Int) < ((k + 1 : Nat) : Int); omega, rfl⟩
    · have := ih (k + 1) x hx
      exact ⟨by omega, this.2⟩
theorem items_get (k : Nat) (l : List UInt8) (i : Nat) (h : i < l.length) : (items k l)[i]? = some ⟨((k + i + 1 : Nat) : Int), [l[i]]⟩ := by
  induction l generalizing k i with
  | nil => simp at h
  | cons b l ih =>
    cases i with
    | zero => rfl
    | succ i =>
      simp only [items, List.getElem?_cons_succ, List.getElem_cons_succ]
      rw [ih (k + 1) i (by simpa using h)]
      simp only [Option.some.injEq, Item.mk.injEq, and_true]
      omega
theorem items_snoc (k : Nat) (l : List UInt8) (b : UInt8) : items k (l ++ [b]) = items k l ++ [⟨((k + l.length + 1 : Nat) : Int), [b]⟩] := by
  induction l generalizing k with
  | nil => rfl
  | cons c l ih =>
    simp only [List.cons_append, items, ih, List.length_cons]
    congr 4
    omega
/-- What is acknowledged goes. -/
theorem leftOf_items (k ack : Nat) (l : List UInt8) : leftOf ack (items k l) = items (k + (ack - k)) (l.drop (ack - k)) := by
  induction l generalizing k with
  | nil => simp [items, leftOf]
  | cons b l ih =>
    by_cases h : k + 1 ≤ ack
    · have e : leftOf ack (items k (b :: l)) = leftOf ack (items (k + 1) l) := by
        unfold leftOf
        rw [items, List.filter_cons_of_neg]
        simp only [Bool.not_eq_true', decide_eq_false_iff_not, Classical.not_not]
        omega
      rw [e, ih, show ack - k = (ack - (k + 1)) + 1 by omega, List.drop_succ_cons]
      congr 1
      omega
    · rw [show ack - k = 0 by omega, List.drop_zero, Nat.add_zero]
      unfold leftOf
      rw [List.filter_eq_self]
      intro x hx
      have := (items_seq k (b :: l) x hx).1
      simp only [Bool.not_eq_true', decide_eq_false_iff_not]
      omega
theorem gonePos_items (k ack : Nat) (l : List UInt8) : 0 ≤ gonePos ack (items k l) ↔ k < ack ∧ l ≠ [] := by
  unfold gonePos
  constructor
  · intro h
    by_cases hf : (items k l).findIdx (fun x => decide (x.seq ≤ (ack : Int))) < (items k l).length
    · have h2 := List.findIdx_getElem (w := hf)
      have h3 := of_decide_eq_true h2
      have h4 := (items_seq k l _ (List.getElem_mem hf)).1
      refine ⟨by omega, fun e => ?_⟩
      rw [e] at hf
      simp [items] at hf
    · rw [if_neg hf] at h; omega
  · rintro ⟨h1, h2⟩
    cases l with
    | nil => exact absurd rfl h2
    | cons b l =>
      have : (items k (b :: l)).findIdx (fun x => decide (x.seq ≤ (ack : Int))) = 0 := by
        rw [items, List.findIdx_cons]
        have h : decide (((k + 1 : Nat) : Int) ≤ (ack : Int)) = true := decide_eq_true (by omega)
        rw [h]
        rfl
      rw [this, if_pos (by simp [items])]
      exact Int.le_refl 0

/-! ### What pairs do -/
def cutOut {α : Type} (l : List α) (n : Nat) : List α := l.take n ++ l.drop (n + 1)
def Pair.sends (x : Pair) (second tick : Bool) : Pair :=
  let e := if second then x.b else x.a
  let r := if tick then e.tick else e.sent
  if second then { x with ok := x.ok && decide (r.2.2 = 0), b := r.1, down := x.down ++ r.2.1 } else { x with ok := x.ok && decide (r.2.2 = 0), a := r.1, up := x.up ++ r.2.1 }
def Pair.lost (x : Pair) (n : Int) (down : Bool) : Pair :=
  let l := if down then x.down else x.up
  if n < 0 ∨ (l.length : Int) ≤ n then x else if down then { x with down := cutOut x.down n.toNat } else { x with up := cutOut x.up n.toNat }
def Pair.comes (x : Pair) (n : Int) (down left : Bool) : Pair :=
  let l := if down then x.down else x.up
  match l[n.toNat]? with
  | none => x
  | some p =>
    if n < 0 then x else
    if down then
      let r := x.a.take p
      { x with down := if left then x.down else cutOut x.down n.toNat, a := r.1, ok := x.ok && decide (r.2.2.2 = 0) && !r.2.2.1 }
    else
      let r := x.b.take p
      let ok := x.ok && decide (r.2.2.2 = 0) && (!r.2.2.1 || decide (r.2.1.length = 1))
      { x with up := if left then x.up else cutOut x.up n.toNat, b := r.1, ok := ok, told := if r.2.2.1 && ok then x.told ++ r.2.1.take 1 else x.told }
def Pair.puts (x : Pair) (b : UInt8) : Pair :=
  let r := x.a.put [b]
  { x with a := if r.2 = 0 then r.1 else x.a, put := if r.2 = 0 then x.put ++ [b] else x.put, ok := x.ok && (decide (r.2 = 0) || decide (r.2 = 9)) }

/-- What stays so. -/
structure Inv (ep : Int) (k : Nat) (x : Pair) : Prop where
  ok : x.ok = true
  aep : x.a.ep = ep
  anx : x.a.nx = ((x.put.length + 1 : Nat) : Int)
  aout : x.a.out = items k (x.put.drop k)
  awant : x.a.want = 1
  asince : 0 ≤ x.a.since ∧ x.a.since < 3 ∧ (x.a.out.length = 0 → x.a.since = 0)
  aowe : x.a.owe = false
  bep : x.b.ep = ep
  bnx : x.b.nx = 1
  bout : x.b.out = []
  bwant : x.b.want = ((x.told.length + 1 : Nat) : Int)
  bsince : x.b.since = 0
  told : x.told = x.put.take x.told.length
  kt : k ≤ x.told.length
  tp : x.told.length ≤ x.put.length
  out32 : x.put.length - k ≤ 32
  up : ∀ p ∈ x.up, p.ep = ep ∧ p.ack = 0 ∧ ∃ (s : Nat) (b : UInt8), x.put[s]? = some b ∧ p.seq = ((s + 1 : Nat) : Int) ∧ p.body = [b]
  down : ∀ p ∈ x.down, p.ep = ep ∧ p.seq = 0 ∧ p.body = [] ∧ ∃ j : Nat, p.ack = (j : Int) ∧ j ≤ x.told.length
theorem Inv.new (ep : Int) : Inv ep 0 (Pair.new ep) :=
  ⟨rfl, rfl, rfl, rfl, rfl, ⟨Int.le_refl 0, show (0 : Int) < 3 by decide, fun _ => rfl⟩, rfl, rfl, rfl, rfl, rfl, rfl, rfl, Nat.le_refl _, Nat.le_refl _, Nat.zero_le 32, (fun p h => by cases h), (fun p h => by cases h)⟩
theorem cutOut_mem {α : Type} {l : List α} {n : Nat} {x : α} (h : x ∈ cutOut l n) : x ∈ l := by
  rcases List.mem_append.1 h with h | h
  · exact List.mem_of_mem_take h
  · exact List.mem_of_mem_drop h
theorem Inv.lost {ep : Int} {k : Nat} {x : Pair} (h : Inv ep k x) (n : Int) (down : Bool) : Inv ep k (x.lost n down) := by
  unfold Pair.lost
  cases down with
  | true =>
    simp only [if_true]
    split
    · exact h
    · exact { h with down := fun p hp => h.down p (cutOut_mem hp) }
  | false =>
    simp only [Bool.false_eq_true, if_false]
    split
    · exact h
    · exact { h with up := fun p hp => h.up p (cutOut_mem hp) }
end Go.Proofs.Ytbemomagabjbnaa
