/-
  The small functions of the statements on numbers (blindstamplaw02): is, alive, bad; and the reference's Size.
-/
import Derived.Test.YtflkpodnfboobaaNumR
namespace Go.Proofs.Ytflkpodnfboobaa
open Go.RowKit

set_option maxHeartbeats 1000000 in
set_option maxRecDepth 100000 in
theorem rsize_any (n : Int) (w : World) : Calls Try.prog 14 #[.int .i64 n] w fun e w' => e = .returned (.int .i64 (sizeM n)) ∧ Below w.heap.size w w' := by
  by_cases h : n < 0 ∨ 72057594037927936 ≤ n
  · have H := Lib.hid (show sizeM n = 0 from if_pos h)
    rcases h with h | h
    all_goals
      go_enter Try.func14, Try.ntmps14
      go_wp2
      go_ret
      rw [H.out]
      exact ⟨rfl, Below.refl _ _⟩
  · have h1 : 0 ≤ n := by omega
    have h2 : n < 72057594037927936 := by omega
    have H := Lib.hid (show sizeM n = (putL n.toNat).length by obtain ⟨m, rfl⟩ := Int.eq_ofNat_of_zero_le h1; rw [Int.toNat_natCast]; exact sizeM_len m (by omega))
    clear h
    go_enter Try.func14, Try.ntmps14
    go_wp2_with (go_at_call 18; refine (rbytes_int _ _ (by omega) (by omega)).mono ?_; rintro e w' ⟨v, rfl, hown, hb⟩; obtain ⟨ao, cap, rfl, hrd⟩ := RdA.of_own hown (by decide))
    go_ret
    rw [H.out]
    exact ⟨rfl, hb⟩

set_option maxHeartbeats 1000000 in
set_option maxRecDepth 100000 in
theorem is_true (n : Int) (v : Value) (l : List UInt8) (w : World) (h1 : putC n = 0) (h2 : putB n = l) (h3 : sizeM n = l.length) (hr : RdB w.heap.size w v l) :
    Calls Try.prog 16 #[.int .i64 n, v] w fun e w' => e = .returned (.bool true) ∧ Below w.heap.size w w' := by
  obtain ⟨ao, cap, rfl, hr⟩ := hr
  have C := put_any n w
  unfold PutPost at C
  rw [h1, h2] at C
  have S : ∀ wx, Calls Try.prog 11 #[.int .i64 n] wx fun e w' => e = .returned (.int .i64 l.length) ∧ wx = w' := fun wx => by rw [← h3]; exact size_any n wx
  have HC := Lib.hid C; have HS := Lib.hid S
  clear h1 h2 h3 C S
  go_enter Try.func16, Try.ntmps16
  go_wp2_with (first | (go_at_call 8; refine HC.out.mono ?_; rintro e w1 ⟨x, rfl, hown, hb⟩; have hq1 := run_str (P := Try.prog) (RdB.own hown) 25 9 5 Try.underlying25 Try.underlying5 Try.underlying9; have hq2 := run_str (P := Try.prog) (B := w.heap.size) ⟨ao, cap, rfl, hr.below hb⟩ 25 9 5 Try.underlying25 Try.underlying5 Try.underlying9) | (go_at_call 11; refine (HS.out _).mono ?_; rintro e w2 ⟨rfl, rfl⟩))
  go_ret
  exact ⟨by simp, hb⟩

theorem is_lit (n : Int) (l : List UInt8) (cs : Array Value) (k : Nat) (w : World) (h1 : putC n = 0) (h2 : putB n = l) (h3 : sizeM n = l.length) (hc : cs.toList = l.map B8) (hk : l.length = k) (hm : k ≤ maxLen) :
    Calls Try.prog 16 #[.int .i64 n, .slice (some ⟨w.heap.size, 0, none⟩) k k] (w.alloc (.cells cs 5)) fun e w' => e = .returned (.bool true) ∧ Below w.heap.size w w' := by
  subst hk
  refine (is_true n _ l _ h1 h2 h3 ((RdB.lit w l cs 5 hc hm).mono (by simp))).mono ?_
  rintro e w' ⟨rfl, hb⟩
  exact ⟨rfl, (Below.one (Nat.le_refl _) _).trans (hb.mono (by simp))⟩

theorem fol1 : fol 1 = 1 := by unfold fol; rfl
theorem fol248 : fol 248 = 1 := by unfold fol; rfl
theorem fol256 : fol 256 = 2 := by unfold fol; simp [fol1]
theorem fol65536 : fol 65536 = 3 := by unfold fol; simp [fol256]

set_option maxHeartbeats 1000000 in
set_option maxRecDepth 100000 in
theorem nalive_true (w : World) : Calls Try.prog 9 #[] w fun e w' => e = .returned (.bool true) ∧ Below w.heap.size w w' := by
  have c1 := fun wx => is_lit 0 [0] #[.int .u8 0] 1 wx (by decide) (by decide) (by decide) rfl rfl (by decide)
  have c2 := fun wx => is_lit 247 [247] #[.int .u8 247] 1 wx (by decide) (by decide) (by decide) rfl rfl (by decide)
  have c3 := fun wx => is_lit 248 [248, 248] #[.int .u8 248, .int .u8 248] 2 wx (by decide) (by simp [putB, badN, putL, fol248, be]) (by simp [sizeM, fol248]) rfl rfl (by decide)
  have c4 := fun wx => is_lit 256 [249, 1, 0] #[.int .u8 249, .int .u8 1, .int .u8 0] 3 wx (by decide) (by simp [putB, badN, putL, fol256, be]) (by simp [sizeM, fol256]) rfl rfl (by decide)
  have c5 := fun wx => is_lit 65536 [250, 1, 0, 0] #[.int .u8 250, .int .u8 1, .int .u8 0, .int .u8 0] 4 wx (by decide) (by simp [putB, badN, putL, fol65536, be]) (by simp [sizeM, fol65536]) rfl rfl (by decide)
  have C1 := Lib.hid c1; have C2 := Lib.hid c2; have C3 := Lib.hid c3; have C4 := Lib.hid c4; have C5 := Lib.hid c5
  clear c1 c2 c3 c4 c5
  go_enter Try.func9, Try.ntmps9
  go_wp2_with (fail)
  refine (C1.out _).mono ?_
  rintro e w1 ⟨rfl, b1⟩
  go_wp2_with (fail)
  refine (C2.out _).mono ?_
  rintro e w2 ⟨rfl, b2⟩
  go_wp2_with (fail)
  refine (C3.out _).mono ?_
  rintro e w3 ⟨rfl, b3⟩
  go_wp2_with (fail)
  refine (C4.out _).mono ?_
  rintro e w4 ⟨rfl, b4⟩
  go_wp2_with (fail)
  refine (C5.out _).mono ?_
  rintro e w5 ⟨rfl, b5⟩
  go_wp2_with (fail)
  go_ret
  exact ⟨rfl, (((b1.next b2).next b3).next b4).next b5⟩

set_option maxHeartbeats 1000000 in
set_option maxRecDepth 100000 in
theorem bad_any (v : Value) (l : List UInt8) (w : World) (hr : RdB w.heap.size w v l) (hl : l.length ≤ 1000000) :
    Calls Try.prog 10 #[v] w fun e w' => e = .returned (.bool (decide ((getM l).2.2 = 8))) ∧ w = w' := by
  have C := get_any v l _ w hr hl
  rcases getM_form l with h | ⟨n, s, h, _⟩
  all_goals
    rw [h] at C ⊢
    have HC := Lib.hid C
    clear h C hr
    go_enter Try.func10, Try.ntmps10
    go_wp2_with (go_at_call 7; refine HC.out.mono ?_; rintro e w1 ⟨rfl, rfl⟩)
    go_ret
    exact ⟨rfl, rfl⟩
end Go.Proofs.Ytflkpodnfboobaa
