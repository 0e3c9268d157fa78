/-
  The statement FrameNames: the walk.
-/
import Derived.Test.YtgdcpgmbmppfgaaFrameT
namespace Go.Proofs.Ytgdcpgmbmppfgaa
open Go.RowKit

def zeros (n : Nat) : List UInt8 := List.replicate n 0
theorem zeros_length (n : Nat) : (zeros n).length = n := List.length_replicate ..
/-- 'make([]byte, n)'. -/
theorem make_bytes (w : World) (n : Nat) (N : Int) (hN : (n : Int) = N) (hn : n ≤ 1000000) :
    ∃ w', (Instr.makeSlice 23 (.int .i64 N) (.int .i64 N)).run Try.prog w = .ok (.slice (some ⟨w.heap.size, 0, none⟩) n n) w' ∧
      RdB w'.heap.size w' (.slice (some ⟨w.heap.size, 0, none⟩) n n) (zeros n) ∧ Below w.heap.size w w' := by
  subst hN
  obtain ⟨i5, hi, hz0, hz1, hz2⟩ := info_parts info_u8
  obtain ⟨w1, hmk, hown0, hg0⟩ := run_make_full (P := Try.prog) (w := w) w.heap.size 23 5 i5 (.int .u8 0) 1 Try.underlying23 hi hz0 hz1 .i64 .i64 n (by rw [hz2]; omega) (by unfold maxLen; omega) (Nat.le_refl _)
  exact ⟨w1, hmk, RdB.owned _ hown0 (by simp [toList_madeCells_one, Value.cells, B8, zeros]), (Below.refl _ _).grown hg0 (Nat.le_refl _) (by simp)⟩

theorem cn0 : classN 0 = 64 ∧ classC 0 = 0 := by constructor <;> simp [classN, classC, classM, putL]
theorem cn59 : classN 59 = 64 ∧ classC 59 = 0 := by constructor <;> simp [classN, classC, classM, putL]
theorem cn60 : classN 60 = 256 ∧ classC 60 = 0 := by constructor <;> simp [classN, classC, classM, putL]
theorem fol1000 : fol 1000 = 2 := by simp [fol]
theorem cn1000 : classN 1000 = 1024 ∧ classC 1000 = 0 := by constructor <;> simp [classN, classC, classM, putL_len, fol1000]
theorem f1000 : (frameL (zeros 1000)).length = 1024 := by
  rw [frameL_length _ (by rw [zeros_length]; decide), zeros_length]; simp [classM, putL_len, fol1000]

set_option maxHeartbeats 2000000 in
set_option maxRecDepth 100000 in
theorem frameNames_walk (w : World) : Calls Try.prog 3 #[] w fun e w' => e = .returned (.bool true) ∧ Below w.heap.size w w' := by
  go_enter Try.func3, Try.ntmps3
  go_wp2_with (fail)
  refine (falive_true _).mono ?_
  rintro e w1 ⟨rfl, b1⟩
  have hk := Lib.run_convert_bytes_const (P := Try.prog) w1 23 5 #[.int .u8 97, .int .u8 98] 2 2 Try.underlying23 Try.underlying5
  go_wp2_with (fail)
  clear hk
  have hr := RdB.litF w1 [97, 98] #[.int .u8 97, .int .u8 98] 5 (2, 3) rfl (by decide)
  have hz : (w1.alloc (.cells #[.int .u8 97, .int .u8 98] 5 (2, 3))).heap.size = w1.heap.size + 1 := by simp
  rw [← hz] at hr
  have b2 : Below w.heap.size w (w1.alloc (.cells #[.int .u8 97, .int .u8 98] 5 (2, 3))) := b1.alloc b1.size _
  refine (seal_ok _ [97, 98] _ hr (by decide)).mono ?_
  clear hr hz
  rintro e w3 ⟨x, rfl, hx, b3⟩
  have b03 := b2.next b3
  have hxr : RdB w3.heap.size w3 x (frameL [97, 98]) := RdB.owned _ hx rfl
  rw [ab_len] at hx
  obtain ⟨g, c, rfl, hg, hlt, hnc, hcm⟩ := ownsRow_some hx (by decide)
  have hxa : RdA w3.heap.size w3 1 (some ⟨g, 0, none⟩) (frameL [97, 98]).length c ((frameL [97, 98]).map B8) := by
    obtain ⟨ao, cap, e, h⟩ := hxr
    cases e; exact h
  have HXA := Lib.hid hxa
  clear hx hxr hxa
  obtain ⟨w4, hm4, hr4, b4⟩ := make_bytes w3 1001 1001 rfl (by decide)
  have b04 := b03.next b4
  go_wp2_with (fail)
  refine (seal_no _ (zeros 1001) w4 hr4 (by rw [zeros_length]; decide) (by rw [zeros_length]; decide)).mono ?_
  clear hm4 hr4
  rintro e w5 ⟨y, rfl, hy, b5⟩
  have b05 := b04.next b5
  clear hy
  obtain ⟨w6, hm6, hr6, b6⟩ := make_bytes w5 1000 1000 rfl (by decide)
  have b06 := b05.next b6
  go_wp2_with (fail)
  refine (seal_ok _ (zeros 1000) w6 hr6 (by rw [zeros_length]; decide)).mono ?_
  clear hm6 hr6
  rintro e w7 ⟨z, rfl, hz, b7⟩
  have b07 := b06.next b7
  rw [f1000] at hz
  obtain ⟨g7, c7, rfl, _, _, _, _⟩ := ownsRow_some hz (by decide)
  clear hz
  go_wp2_with (fail)
  have C := class_any (-1) w7
  rw [show classN (-1) = 0 from rfl, show classC (-1) = 4 from rfl] at C
  refine C.mono ?_
  clear C
  rintro e w8 ⟨rfl, b8⟩
  have b08 := b07.next b8
  go_wp2_with (fail)
  refine (lclass_true 0 64 w8 cn0.1 cn0.2).mono ?_
  rintro e w9 ⟨rfl, b9⟩
  have b09 := b08.next b9
  go_wp2_with (fail)
  refine (lclass_true 59 64 w9 cn59.1 cn59.2).mono ?_
  rintro e w10 ⟨rfl, b10⟩
  have b010 := b09.next b10
  go_wp2_with (fail)
  refine (lclass_true 60 256 w10 cn60.1 cn60.2).mono ?_
  rintro e w11 ⟨rfl, b11⟩
  have b011 := b010.next b11
  go_wp2_with (fail)
  refine (lclass_true 1000 1024 w11 cn1000.1 cn1000.2).mono ?_
  rintro e w12 ⟨rfl, b12⟩
  have b012 := b011.next b12
  go_wp2_with (fail)
  have C := none_any _ [] w12 (Rd.nil _ _ _) (by decide)
  rw [show (openL []).isNone = true by rw [openL_short [] (by decide)]; rfl] at C
  refine C.mono ?_
  clear C
  rintro e w13 ⟨rfl, b13⟩
  have b013 := b012.next b13
  have b313 := ((((((((((Below.refl w3.heap.size w3).next b4).next b5).next b6).next b7).next b8).next b9).next b10).next b11).next b12).next b13
  have hp := ((HXA.out.below b313).pre 63 (by rw [ab_len]; decide) (by omega)).mono b313.size
  have C := none_any _ ((frameL [97, 98]).take 63) w13 hp (by simp; omega)
  rw [show (openL ((frameL [97, 98]).take 63)).isNone = true by rw [openL_short _ (by simp; omega)]; rfl] at C
  have HC := Lib.hid C
  clear C hp b4 b5 b6 b7 b8 b9 b10 b11 b12 b13 b1 b2 b3
  have hc63 : (63 : Int) ≤ (c : Int) := by omega
  go_wp2_with (fail)
  refine HC.out.mono ?_
  rintro e w14 ⟨rfl, b14⟩
  have b014 := b013.next b14
  go_wp2_with (fail)
  go_ret
  exact ⟨rfl, b014⟩
end Go.Proofs.Ytgdcpgmbmppfgaa
