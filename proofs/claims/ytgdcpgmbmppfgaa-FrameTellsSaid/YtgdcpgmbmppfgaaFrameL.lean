/-
  The small functions of the statements on frames (blindstamplaw08): class, none, alive.
-/
import Derived.Test.YtgdcpgmbmppfgaaFrameS
namespace Go.Proofs.Ytgdcpgmbmppfgaa
open Go.RowKit

set_option maxHeartbeats 1000000 in
set_option maxRecDepth 100000 in
theorem lclass_true (n m : Int) (w : World) (h1 : classN n = m) (h2 : classC n = 0) : Calls Try.prog 11 #[.int .i64 n, .int .i64 m] w fun e w' => e = .returned (.bool true) ∧ Below w.heap.size w w' := by
  have C := class_any n w
  rw [h1, h2] at C
  have HC := Lib.hid C
  clear C h1 h2
  go_enter Try.func11, Try.ntmps11
  go_wp2_with (fail)
  refine HC.out.mono ?_
  rintro e w1 ⟨rfl, b1⟩
  go_wp2_with (fail)
  go_ret
  exact ⟨rfl, b1⟩

set_option maxHeartbeats 1000000 in
set_option maxRecDepth 100000 in
theorem none_any (v : Value) (l : List UInt8) (w : World) (hr : RdB w.heap.size w v l) (hl : l.length ≤ 1000000) :
    Calls Try.prog 12 #[v] w fun e w' => e = .returned (.bool (openL l).isNone) ∧ Below w.heap.size w w' := by
  have C := open_any v l w hr hl
  unfold OpenPost at C
  have HC := Lib.hid C
  clear C hr
  cases ho : openL l with
  | none =>
    have HO := Lib.hid ho
    clear ho
    go_enter Try.func12, Try.ntmps12
    go_wp2_with (fail)
    refine HC.out.mono ?_
    rintro e w1 ⟨x, rfl, hx, b1⟩
    rw [show openB l = [] by simp [openB, HO.out]] at hx
    rw [show openC l = 80 by simp [openC, HO.out]]
    obtain ⟨xo, xc, rfl, hxr⟩ := RdB.own hx
    go_wp2_with (fail)
    go_ret
    exact ⟨rfl, b1⟩
  | some body =>
    have HO := Lib.hid ho
    clear ho
    go_enter Try.func12, Try.ntmps12
    go_wp2_with (fail)
    refine HC.out.mono ?_
    rintro e w1 ⟨x, rfl, hx, b1⟩
    rw [show openC l = 0 by simp [openC, HO.out]]
    clear hx
    go_wp2_with (fail)
    go_ret
    exact ⟨rfl, b1⟩

theorem ab_len : (frameL [97, 98]).length = 64 := by rw [frameL_length _ (by decide)]; simp [classM, putL]
theorem ab_head : (frameL [97, 98]).take 4 = [181, 2, 97, 98] := by
  simp [frameL, bareL, headL, putL]

set_option maxHeartbeats 1000000 in
set_option maxRecDepth 100000 in
theorem falive_true (w : World) : Calls Try.prog 8 #[] w fun e w' => e = .returned (.bool true) ∧ Below w.heap.size w w' := by
  have hk := Lib.run_convert_bytes_const (P := Try.prog) w 23 5 #[.int .u8 97, .int .u8 98] 2 2 Try.underlying23 Try.underlying5
  have hr := RdB.litF w [97, 98] #[.int .u8 97, .int .u8 98] 5 (2, 3) rfl (by decide)
  have b0 : Below w.heap.size w (w.alloc (.cells #[.int .u8 97, .int .u8 98] 5 (2, 3))) := Below.one (Nat.le_refl _) _
  have hz : (w.alloc (.cells #[.int .u8 97, .int .u8 98] 5 (2, 3))).heap.size = w.heap.size + 1 := by simp
  rw [← hz] at hr
  have C1 := seal_any _ [97, 98] _ hr (by decide)
  unfold SealPost at C1
  rw [show sealC [97, 98] = 0 from rfl, show sealB [97, 98] = frameL [97, 98] from rfl, ab_len] at C1
  have H1 := Lib.hid C1
  have HZ := Lib.hid hz
  clear C1 hr hz
  go_enter Try.func8, Try.ntmps8
  go_wp2_with (fail)
  refine H1.out.mono ?_
  rintro e w1 ⟨x, rfl, hx, b1⟩
  have b01 := b0.next b1
  have hxr : RdB w1.heap.size w1 x (frameL [97, 98]) := RdB.owned _ hx rfl
  obtain ⟨g, c, rfl, hg, hlt, hnc, hcm⟩ := ownsRow_some hx (by decide)
  have C2 := open_any _ (frameL [97, 98]) w1 hxr (by rw [ab_len]; decide)
  unfold OpenPost at C2
  have ho := openL_frame [97, 98] (by decide)
  rw [show openC (frameL [97, 98]) = 0 by simp [openC, ho], show openB (frameL [97, 98]) = [97, 98] by simp [openB, ho]] at C2
  have H2 := Lib.hid C2
  have hxa : RdA w1.heap.size w1 1 (some ⟨g, 0, none⟩) (frameL [97, 98]).length c ((frameL [97, 98]).map B8) := by
    obtain ⟨ao, cap, e, h⟩ := hxr
    cases e; exact h
  have HXA := Lib.hid hxa
  clear C2 ho hx hxr hk hxa
  go_wp2_with (fail)
  refine H2.out.mono ?_
  rintro e w2 ⟨y, rfl, hy, b2⟩
  have b02 := b01.next b2
  have hp := (HXA.out.below b2).pre 4 (by rw [ab_len]; decide) (by omega)
  rw [ab_head] at hp
  have q1 := str_of hp
  have q2 := str_of (RdB.own hy)
  have hc4 : (4 : Int) ≤ (c : Int) := by omega
  clear hp hy
  go_wp2_with (fail)
  go_ret
  exact ⟨by simp [mk_toList], b02⟩
end Go.Proofs.Ytgdcpgmbmppfgaa
