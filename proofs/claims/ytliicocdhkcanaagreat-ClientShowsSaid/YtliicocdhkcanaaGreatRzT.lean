/-
  runes: Text, walked.
-/
import Derived.Test.YtliicocdhkcanaaGreatRxW
import Derived.Test.YtliicocdhkcanaaGreatRzX
import Derived.Deep.LoopGhost
import Derived.Below
set_option linter.unusedSimpArgs false
set_option linter.unusedVariables false
set_option linter.unusedVariables false
namespace Go.Proofs.YtliicocdhkcanaaGreat.X
open Go.Shelf Go.RowKit

theorem encode_le (r : Int) : (Lib.encodeRune r).length ≤ 4 := by
  have := Lib.runeCells_le r
  rw [Lib.runeCells_length] at this
  exact this.2
theorem zRS (m : List UInt8) : ∀ l : List Int, (zMT m l).length ≤ l.length * (m.length + 4)
  | [] => by simp [zMT]
  | x :: l => by
    have ih := zRS m l
    have he := encode_le x
    simp only [zMT, List.flatMap_cons, List.length_append, List.length_cons] at ih ⊢
    rw [Nat.succ_mul]
    split <;> omega
theorem zKU (m : List UInt8) (l : List Int) (x : Int) : zMT m (l ++ [x]) = zMT m l ++ (if x = -1 then m else Lib.encodeRune x) := by simp [zMT]

set_option maxHeartbeats 4000000 in
set_option maxRecDepth 1000000 in
theorem zX0 (ao : Option Addr) (cap : Nat) (l : List Int) (m : ByteArray) (w : World) (hm : m.size ≤ 1000000) (hcp : l.length ≤ cap)
    (hr : ∀ k, k < l.length → ∃ b off, ao = some ⟨b, off, none⟩ ∧ b < w.heap.size ∧ w.cell? ⟨b, off + k, none⟩ = some (.int .i32 (l[k]?.getD 0)) ∧ -2147483648 ≤ l[k]?.getD 0 ∧ l[k]?.getD 0 ≤ 2147483647)
    (hck : Calls Tryz.prog 118 #[.slice ao l.length cap] w fun e w' => e = .returned (.int .i64 (chk l)) ∧ Below w.heap.size w w') :
    Calls Tryz.prog 78 #[.slice ao l.length cap, .string m] w fun e w' => e = .returned (if chk l = 0 then .tuple #[.string ⟨(zMT m.data.toList l).toArray⟩, .int .i64 0] else .tuple #[.string ⟨#[]⟩, .int .i64 (chk l)]) ∧ Below w.heap.size w w' := by
  by_cases hc : chk l = 0
  rotate_left
  · simp only [if_neg hc]
    go_enter Tryz.func78, Tryz.ntmps78
    go_wp2_with (go_at_call 118; refine hck.mono ?_)
    rintro e w1 ⟨rfl, hb1⟩
    go_wp2
    go_ret2
    exact ⟨rfl, hb1⟩
  simp only [if_pos hc]
  rw [hc] at hck
  have h64 : l.length ≤ 64 := by unfold chk at hc; split at hc <;> omega
  go_enter Tryz.func78, Tryz.ntmps78
  go_wp2_with (go_at_call 118; refine hck.mono ?_)
  rintro e w1 ⟨rfl, hb1⟩
  have hsz := hb1.size
  have hmd : m.data.toList.length = m.size := by rw [Array.length_toList]; rfl
  go_wp2
  go_loopg [17] l.length (fun g s17 wr => ∃ k : Nat, k + g = l.length ∧ s17 = .int .i64 k ∧ Lib.IsBuilderF 211 5 w1.heap.size w1.heap.size (Lib.byteCells (zMT m.data.toList (l.take k))) wr ∧ Below w1.heap.size w1 wr)
  case atStart => exact ⟨0, by omega, rfl, Lib.IsBuilderF.of (Lib.fresh_isBuilder 211 5 w1), (Below.refl _ w1).alloc (Nat.le_refl _) _⟩
  case round =>
    obtain ⟨k, hk, rfl, hI, hbw⟩ := hrel
    by_cases hlt : k < l.length
    · obtain ⟨b, off, rfl, hbl, hcell, x1, x2⟩ := hr k hlt
      have hl := zRS m.data.toList (l.take k)
      have hl2 : (l.take k).length * (m.data.toList.length + 4) ≤ 64 * 1000004 := Nat.mul_le_mul (by rw [List.length_take]; omega) (by rw [hmd]; omega)
      have htk : l.take (k + 1) = l.take k ++ [l[k]?.getD 0] := by rw [List.take_add_one, List.getElem?_eq_getElem hlt]; rfl
      have hcell' : wr.cell? ⟨b, off + k, none⟩ = some (.int .i32 (l[k]?.getD 0)) := ((hbw.cell (p := ⟨b, off + k, none⟩) (by show b < _; omega)).trans (hb1.cell (p := ⟨b, off + k, none⟩) hbl)).trans hcell
      generalize l[k]?.getD 0 = x at *
      by_cases hx1 : x = -1
      · subst hx1
        go_wp2_with (go_at_call 119; refine (zXA w1.heap.size w1.heap.size _ m _ hI (by rw [Lib.byteCells_length]; omega) hbw.size).mono ?_)
        rintro e W1 ⟨rfl, h1, b1, k1⟩
        go_wp2
        go_roundg (gk - 1)
        case rel => exact ⟨k + 1, by omega, by go_num, by rw [htk, zKU, if_pos rfl, Lib.byteCells_append]; exact Or.inr h1, hbw.trans b1⟩
        case measure => omega
      · go_wp2_with (go_at_call 120; refine (zf4 w1.heap.size w1.heap.size _ x x1 x2 _ hI (by rw [Lib.byteCells_length]; omega) hbw.size).mono ?_)
        rintro e W1 ⟨rfl, h1, b1, k1⟩
        go_wp2
        go_roundg (gk - 1)
        case rel => exact ⟨k + 1, by omega, by go_num, by rw [htk, zKU, if_neg hx1, Lib.byteCells_append, Lib.byteCells_encodeRune]; exact Or.inr h1, hbw.trans b1⟩
        case measure => omega
    · have : k = l.length := by omega
      subst this
      rw [List.take_length] at hI
      go_wp2_with (go_at_call 121; refine (Tryz.Builder_String_any_k w1.heap.size w1.heap.size _ _ hI hbw.size).mono ?_)
      rintro e W1 ⟨rfl, _, b1, _⟩
      go_wp2
      go_ret2
      exact ⟨rfl, hb1.trans ((hbw.trans b1).mono hsz)⟩
end Go.Proofs.YtliicocdhkcanaaGreat.X
