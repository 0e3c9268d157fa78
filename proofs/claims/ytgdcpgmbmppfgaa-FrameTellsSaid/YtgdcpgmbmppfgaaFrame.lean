/-
  Package frame, function by function: what each call returns.
-/
import Derived.Test.YtgdcpgmbmppfgaaSumR
namespace Go.Proofs.Ytgdcpgmbmppfgaa
open Go.RowKit

set_option maxHeartbeats 1000000 in
set_option maxRecDepth 100000 in
theorem classes_any (w : World) : Calls Try.prog 20 #[] w fun e w' => e = .returned (.agg #[.int .i64 64, .int .i64 256, .int .i64 1024]) ∧ Below w.heap.size w w' := by
  go_enter Try.func20, Try.ntmps20
  go_wp2
  exact bodyPost_ret (v := .agg #[.int .i64 64, .int .i64 256, .int .i64 1024]) (by simp [results, Try.results20, go_sem]) rfl ⟨rfl, (Below.refl _ _).alloc (Nat.le_refl _) _⟩

/-- What 'Class' answers. -/
def classN (n : Int) : Int := if n < 0 ∨ 1000 < n then 0 else classM n.toNat
def classC (n : Int) : Int := if n < 0 ∨ 1000 < n then 4 else 0

set_option maxHeartbeats 1000000 in
set_option maxRecDepth 100000 in
theorem class_any (n : Int) (w : World) : Calls Try.prog 10 #[.int .i64 n] w fun e w' => e = .returned (.tuple #[.int .i64 (classN n), .int .i64 (classC n)]) ∧ Below w.heap.size w w' := by
  by_cases h : n < 0 ∨ 1000 < n
  · have h1 := Lib.hid (show classN n = 0 from if_pos h)
    have h2 := Lib.hid (show classC n = 4 from if_pos h)
    rcases h with h | h
    all_goals
      go_enter Try.func10, Try.ntmps10
      go_wp2_with (fail)
      go_ret2
      rw [h1.out, h2.out]
      exact ⟨rfl, Below.refl _ _⟩
  · obtain ⟨m, rfl⟩ := Int.eq_ofNat_of_zero_le (show 0 ≤ n by omega)
    have h1 := Lib.hid (show classN (m : Int) = classM m by rw [classN, if_neg h, Int.toNat_natCast])
    have h2 := Lib.hid (show classC (m : Int) = 0 from if_neg h)
    have hm : m ≤ 1000 := by omega
    have hs := sizeM_len m (by omega)
    have hs3 := putL_small m hm
    have hge := classM_ge m hm
    have hS : ∀ wx, Calls Try.prog 21 #[.int .i64 m] wx fun e w' => e = .returned (.int .i64 (putL m).length) ∧ w' = wx := fun wx => by rw [← hs]; exact (size_any m wx).mono fun e w' ⟨a, b⟩ => ⟨a, b.symm⟩
    have HS := Lib.hid hS
    have hcl : classM m = if 1 + (putL m).length + m + 3 ≤ 64 then 64 else if 1 + (putL m).length + m + 3 ≤ 256 then 256 else 1024 := rfl
    have HCL := Lib.hid hcl
    generalize (putL m).length = z at *
    clear h hS hs hcl hge
    go_enter Try.func10, Try.ntmps10
    go_wp2_with (fail)
    refine (classes_any _).mono ?_
    rintro e w1 ⟨rfl, b1⟩
    go_wp2_with (fail)
    have b2 : Below w.heap.size w (w1.alloc (.cells #[.int .i64 64, .int .i64 256, .int .i64 1024] 43)) := b1.alloc b1.size _
    have c0 := cell_lit w1 #[.int .i64 64, .int .i64 256, .int .i64 1024] 43 0 _ rfl
    have c1 := cell_lit w1 #[.int .i64 64, .int .i64 256, .int .i64 1024] 43 1 _ rfl
    have c2 := cell_lit w1 #[.int .i64 64, .int .i64 256, .int .i64 1024] 43 2 _ rfl
    generalize w1.alloc (.cells #[.int .i64 64, .int .i64 256, .int .i64 1024] 43) = w2 at *
    go_loopg [13] 3 (fun g s13 wx => ∃ i : Nat, i + g = 3 ∧ s13 = .int .i64 i ∧ (0 < i → 64 < 1 + z + m + 3) ∧ (1 < i → 256 < 1 + z + m + 3) ∧ (2 < i → 1024 < 1 + z + m + 3) ∧ wx.cell? ⟨w1.heap.size, 0, none⟩ = some (.int .i64 64) ∧ wx.cell? ⟨w1.heap.size, 1, none⟩ = some (.int .i64 256) ∧ wx.cell? ⟨w1.heap.size, 2, none⟩ = some (.int .i64 1024) ∧ Below w.heap.size w wx)
    case atStart => exact ⟨0, by omega, rfl, by omega, by omega, by omega, c0, c1, c2, b2⟩
    case round =>
      obtain ⟨i, hi, rfl, g0, g1, g2, d0, d1, d2, bx⟩ := hrel
      clear c0 c1 c2 b2
      rcases (show i = 0 ∨ i = 1 ∨ i = 2 by
        rcases (show i = 3 ∨ i < 3 by omega) with h | h
        · exfalso; omega
        · omega) with rfl | rfl | rfl
      · by_cases hz : 1 + z + m + 3 ≤ 64
        · have HM := Lib.hid (show classM m = 64 by rw [HCL.out, if_pos hz])
          have hzi : (1 : Int) + z + m + 3 ≤ 64 := by omega
          clear HCL g0 g1 g2
          go_wp2_with (fail)
          go_quiet ((go_at_call 21; exact Calls.quiet_of_same (HS.out _)))
          go_wp2_with (fail)
          go_ret2
          rw [h1.out, h2.out, HM.out]
          exact ⟨rfl, below_drewN bx _⟩
        · have hzi : (64 : Int) < 1 + z + m + 3 := by omega
          have hzn : 64 < 1 + z + m + 3 := by omega
          clear g0 g1 g2
          go_wp2_with (fail)
          go_quiet ((go_at_call 21; exact Calls.quiet_of_same (HS.out _)))
          go_wp2_with (fail)
          go_roundg 2
          case rel => exact ⟨1, by omega, rfl, by omega, by omega, by omega, d0, d1, d2, below_drewN bx _⟩
          case measure => omega
      · by_cases hz : 1 + z + m + 3 ≤ 256
        · have HM := Lib.hid (show classM m = 256 by rw [HCL.out, if_neg (by omega), if_pos hz])
          have hzi : (1 : Int) + z + m + 3 ≤ 256 := by omega
          clear HCL g0 g1 g2
          go_wp2_with (fail)
          go_quiet ((go_at_call 21; exact Calls.quiet_of_same (HS.out _)))
          go_wp2_with (fail)
          go_ret2
          rw [h1.out, h2.out, HM.out]
          exact ⟨rfl, below_drewN bx _⟩
        · have hzi : (256 : Int) < 1 + z + m + 3 := by omega
          have hzn : 256 < 1 + z + m + 3 := by omega
          clear g0 g1 g2
          go_wp2_with (fail)
          go_quiet ((go_at_call 21; exact Calls.quiet_of_same (HS.out _)))
          go_wp2_with (fail)
          go_roundg 1
          case rel => exact ⟨2, by omega, rfl, by omega, by omega, by omega, d0, d1, d2, below_drewN bx _⟩
          case measure => omega
      · have hz : 256 < 1 + z + m + 3 := g1 (by omega)
        have HM := Lib.hid (show classM m = 1024 by rw [HCL.out, if_neg (by omega), if_neg (by omega)])
        have hzi : (1 : Int) + z + m + 3 ≤ 1024 := by omega
        clear HCL g0 g1 g2
        go_wp2_with (fail)
        go_quiet ((go_at_call 21; exact Calls.quiet_of_same (HS.out _)))
        go_wp2_with (fail)
        go_ret2
        rw [h1.out, h2.out, HM.out]
        exact ⟨rfl, below_drewN bx _⟩
end Go.Proofs.Ytgdcpgmbmppfgaa
