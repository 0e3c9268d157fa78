/-
  link: DeleteFunc.
-/
import Derived.Test.YtbemomagabjbnaaLoE
set_option linter.unusedSimpArgs false
set_option linter.unusedVariables false
set_option maxRecDepth 100000
namespace Go.Proofs.Ytbemomagabjbnaa
open Go Go.Ax
variable {fuel : Nat} {M : Mem} {Q : AV → Mem → Prop} {d : Nat}

def clrO (M : Mem) (st : Nat) (z : Value) (x : AV) : OR := match x with
    | .sc (.slice none _ _) => some (.sc (.tuple #[]), M)
    | .sl id off len _ _ => match Nat.beq len 0 with
      | true => some (.sc (.tuple #[]), M)
      | false => match M.get id with
        | some (.row str cs) => match Nat.ble (off + len * st) cs.length && (repCells z len).all oneA && Nat.beq (repCells z len).length (len * st) with
          | true => match M.put id (.row str (lay cs off (repCells z len))) with
            | some M => some (.sc (.tuple #[]), M)
            | none => none
          | false => none
        | _ => none
    | _ => none
theorem x_clr {P : Program} (call : Tg → List AV → Mem → OR) (t : List AV) (M : Mem) (st : Nat) (z : Value) (x : Operand) : execOpA P call t M (.clr st z x) = clrO M st z (evalA t x) := rfl

/-- A slice that may be frozen: what is then read. -/
def Fz (M : Mem) (o : AV) (l : List Item) : Prop := oneA o = true ∧ cellsA o = [o] ∧ ∀ N, (∀ j, rowOf o = some j → N.get j = M.get j) → ∃ ro, frz N 0 11 o = some ro ∧ Sl 2 isItem ro l
theorem slm_fz {o : AV} {l : List Item} (h : SlM M 2 isItem o l) : Fz M o l := ⟨h.one, h.cells, fun N hN => (h.keep hN).frz cel_Item (by omega)⟩

theorem rep_item (n : Nat) : repCells (.agg #[.int .i64 0, .slice none 0 0]) n = (List.replicate n [I64 0, NIL]).flatten := by
  induction n with
  | zero => rfl
  | succ n ih => rw [List.replicate_succ, List.flatten_cons, ← ih]; rfl
theorem rep_item_len (n : Nat) : (repCells (.agg #[.int .i64 0, .slice none 0 0]) n).length = n * 2 := by
  rw [rep_item, flat_len (st := 2) (fun r hr => by rw [(List.mem_replicate.1 hr).2]; rfl), List.length_replicate]
theorem rep_item_one (n : Nat) : (repCells (.agg #[.int .i64 0, .slice none 0 0]) n).all oneA = true := by
  rw [rep_item, List.all_eq_true]
  intro x hx
  obtain ⟨r, hr, hxr⟩ := List.mem_flatten.1 hx
  rw [(List.mem_replicate.1 hr).2] at hxr
  simp at hxr
  rcases hxr with rfl | rfl <;> rfl
/-- The first rows, and nothing behind them. -/
theorem fz_part {N : Mem} {id i z : Nat} {cap : Option Nat} {rows : List (List AV)} {l : List Item} (hg : N.get id = some (.row false (rows.flatten ++ repCells (.agg #[.int .i64 0, .slice none 0 0]) z))) (hA : All2 isItem rows l) (hr : ∀ r ∈ rows, r.length = 2) (hi : rows.length = i) : Fz N (.sl id 0 i cap 2) l := by
  refine ⟨rfl, rfl, fun N' hN => ?_⟩
  have hfl := flat_len hr
  have hrd : N'.rd id = some (rows.flatten ++ repCells (.agg #[.int .i64 0, .slice none 0 0]) z) := by rw [rd_get, hN id rfl, hg, rd1_row]
  have hs : slot (rows.flatten ++ repCells (.agg #[.int .i64 0, .slice none 0 0]) z) 0 (i * 2) = rows.flatten := by
    rw [slot, List.drop_zero, List.take_left' (by rw [hfl, hi])]
  have q := frz_sl (M := N') (k := 11) (off := 0) (n := i) (st := 2) (cap := cap) hrd (by rw [List.length_append, hfl, hi]; omega) (by omega) (by
    intro x hx
    rcases List.mem_append.1 hx with h | h
    · exact (cel_Item.flat hA x h).2 N' 10 (by omega)
    · rw [rep_item] at h
      obtain ⟨r, hr', hxr⟩ := List.mem_flatten.1 h
      rw [(List.mem_replicate.1 hr').2] at hxr
      simp at hxr
      rcases hxr with rfl | rfl <;> exact frz_sc _ (by omega))
  rw [hs] at q
  refine ⟨_, q, .inr ⟨rows, cap, by rw [hi], hA, hr⟩⟩
end Go.Proofs.Ytbemomagabjbnaa
