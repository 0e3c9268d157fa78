/-
  The statement NumNames's walk.
-/
import Derived.Test.YtflkpodnfboobaaNumO
namespace Go.Proofs.Ytflkpodnfboobaa
open Go.RowKit

theorem folM : fol 72057594037927935 = 7 := by simp [fol]
theorem gA : getM [249, 1, 0, 7] = (256, 3, 0) := by simp [getM, dec, sizeM, fol256]
theorem gB : getM [254, 255, 255, 255, 255, 255, 255, 255] = (72057594037927935, 8, 0) := by simp [getM, dec, sizeM, folM]
theorem gC : getM [248, 247] = (0, 0, 8) := by simp [getM, dec, sizeM]
theorem gD : getM [249, 0, 255] = (0, 0, 8) := by simp [getM, dec, sizeM, fol]
theorem gE : getM [249, 1] = (0, 0, 8) := by simp [getM]
theorem gG : getM [255, 1, 0, 0, 0, 0, 0, 0, 0] = (0, 0, 8) := by simp [getM]

/-- Get at a literal. -/
theorem get_lit (l : List UInt8) (cs : Array Value) (k : Nat) (w : World) (a b c : Int) (h : getM l = (a, b, c)) (hc : cs.toList = l.map B8) (hk : l.length = k) (hm : k ≤ 1000) :
    Calls Try.prog 7 #[.slice (some ⟨w.heap.size, 0, none⟩) k k] (w.alloc (.cells cs 5)) fun e w' => e = .returned (.tuple #[.int .i64 a, .int .i64 b, .int .i64 c]) ∧ Below w.heap.size w w' := by
  subst hk
  have C := get_any _ l _ _ (RdB.lit w l cs 5 hc (by unfold maxLen; omega)) (by omega)
  rw [h] at C
  exact C.mono fun e w' ⟨he, hw⟩ => ⟨he, hw ▸ Below.one (Nat.le_refl _) _⟩
theorem bad_lit (l : List UInt8) (cs : Array Value) (k : Nat) (w : World) (h : getM l = (0, 0, 8)) (hc : cs.toList = l.map B8) (hk : l.length = k) (hm : k ≤ 1000) :
    Calls Try.prog 10 #[.slice (some ⟨w.heap.size, 0, none⟩) k k] (w.alloc (.cells cs 5)) fun e w' => e = .returned (.bool true) ∧ Below w.heap.size w w' := by
  subst hk
  have C := bad_any _ l _ ((RdB.lit w l cs 5 hc (by unfold maxLen; omega)).mono (by simp)) (by omega)
  rw [h] at C
  exact C.mono fun e w' ⟨he, hw⟩ => ⟨he, hw ▸ Below.one (Nat.le_refl _) _⟩

set_option maxHeartbeats 2000000 in
set_option maxRecDepth 100000 in
theorem numNames_walk (w : World) : Calls Try.prog 3 #[] w fun e w' => e = .returned (.bool true) ∧ Below w.heap.size w w' := by
  have p1 : putC (-1) = 2 := by decide
  have p2 : putC 72057594037927936 = 2 := by decide
  have s1 : sizeM 72057594037927935 = 8 := by simp [sizeM, folM]
  have s2 : sizeM (-1) = 0 := by decide
  have C1 := fun wx => put_any (-1) wx
  have C2 := fun wx => put_any 72057594037927936 wx
  have C3 := fun wx => size_any 72057594037927935 wx
  have C4 := fun wx => size_any (-1) wx
  unfold PutPost at C1 C2
  rw [p1] at C1
  rw [p2] at C2
  rw [s1] at C3
  rw [s2] at C4
  have H1 := Lib.hid C1; have H2 := Lib.hid C2; have H3 := Lib.hid C3; have H4 := Lib.hid C4
  clear C1 C2 C3 C4 p1 p2 s1 s2
  go_enter Try.func3, Try.ntmps3
  go_wp2_with (fail)
  refine (get_lit [249, 1, 0, 7] _ _ _ _ _ _ gA rfl rfl (by decide)).mono ?_
  rintro e w0 ⟨rfl, b0⟩
  go_wp2_with (fail)
  refine (H1.out _).mono ?_
  rintro e w1 ⟨x, rfl, hx, b1⟩
  have b01 := b0.next b1
  go_wp2_with (fail)
  refine (H2.out _).mono ?_
  rintro e w2 ⟨y, rfl, hy, b2⟩
  have b02 := b01.next b2
  clear hx hy b0 b1 b01 b2
  go_wp2_with (fail)
  refine (get_lit [254, 255, 255, 255, 255, 255, 255, 255] _ _ _ _ _ _ gB rfl rfl (by decide)).mono ?_
  rintro e w3 ⟨rfl, b3⟩
  have b03 := b02.next b3
  go_wp2_with (fail)
  refine (nalive_true _).mono ?_
  rintro e w4 ⟨rfl, b4⟩
  have b04 := b03.next b4
  go_wp2_with (fail)
  refine (bad_lit [248, 247] _ _ _ gC rfl rfl (by decide)).mono ?_
  rintro e w5 ⟨rfl, b5⟩
  have b05 := b04.next b5
  go_wp2_with (fail)
  refine (bad_lit [249, 0, 255] _ _ _ gD rfl rfl (by decide)).mono ?_
  rintro e w6 ⟨rfl, b6⟩
  have b06 := b05.next b6
  go_wp2_with (fail)
  refine (bad_lit [249, 1] _ _ _ gE rfl rfl (by decide)).mono ?_
  rintro e w7 ⟨rfl, b7⟩
  have b07 := b06.next b7
  clear b02 b03 b04 b05 b06 b3 b4 b5 b6 b7
  go_wp2_with (fail)
  refine (bad_any _ [] _ (Rd.nil _ _ _) (by decide)).mono ?_
  rintro e w8 ⟨rfl, rfl⟩
  rw [show decide ((getM []).2.2 = 8) = true from rfl]
  go_wp2_with (fail)
  refine (bad_lit [255, 1, 0, 0, 0, 0, 0, 0, 0] _ _ _ gG rfl rfl (by decide)).mono ?_
  rintro e w9 ⟨rfl, b9⟩
  have b09 := b07.next b9
  go_wp2_with (fail)
  refine (H3.out _).mono ?_
  rintro e w10 ⟨rfl, rfl⟩
  go_wp2_with (fail)
  refine (H4.out _).mono ?_
  rintro e w11 ⟨rfl, rfl⟩
  go_wp2_with (fail)
  go_ret
  exact ⟨rfl, b09⟩
end Go.Proofs.Ytflkpodnfboobaa
