/-
  num.Get: what a call returns.
-/
import Derived.Test.YtgdcpgmbmppfgaaNum
namespace Go.Proofs.Ytgdcpgmbmppfgaa
open Go.RowKit

theorem size_u8 (wx : World) : (sizeOf (Try.prog.elem 23)).run Try.prog wx = .ok 1 wx := by kernel_rfl

set_option maxHeartbeats 1000000 in
set_option maxRecDepth 100000 in
theorem get_any (v : Value) (l : List UInt8) (B : Nat) (w : World) (hr : RdB B w v l) (hl : l.length ≤ 1000000) :
    Calls Try.prog 24 #[v] w fun e w' => e = .returned (.tuple #[.int .i64 (getM l).1, .int .i64 (getM l).2.1, .int .i64 (getM l).2.2]) ∧ w = w' := by
  obtain ⟨ao, cap, rfl, hr⟩ := hr
  cases l with
  | nil =>
    go_enter Try.func24, Try.ntmps24
    go_wp2
    go_ret3
    exact ⟨rfl, rfl⟩
  | cons x r =>
    obtain ⟨b, off, rfl, hb, hc⟩ := hr.at (by simp)
    have h0 := hc 0 (B8 x) rfl
    have hx : x.toNat < 256 := x.toNat_lt
    by_cases h1 : x.toNat < 248
    · have hg : getM (x :: r) = ((x.toNat : Int), 1, 0) := by simp [getM, h1]
      have HG := Lib.hid hg; clear hg hc hr
      rw [HG.out]
      rw [Nat.add_zero] at h0
      go_enter Try.func24, Try.ntmps24
      go_wp2
      go_ret3
      exact ⟨rfl, rfl⟩
    · obtain ⟨k, hk⟩ : ∃ k : Nat, x.toNat = 247 + k := ⟨x.toNat - 247, by omega⟩
      have hk0 : 1 ≤ k := by omega
      have hk8 : k ≤ 8 := by omega
      rw [Nat.add_zero, B8, hk] at h0
      by_cases h2 : 7 < k ∨ r.length < k
      · have hg : getM (x :: r) = (0, 0, 8) := by
          simp only [getM, hk]
          rw [if_neg (by omega), if_pos (by omega)]
        have HG := Lib.hid hg; clear hg hc hr
        rw [HG.out]
        have HK := Lib.hid hk; clear hk
        by_cases h7 : 7 < k
        all_goals
          try have h3 : r.length < k := by omega
          clear h2
          go_enter Try.func24, Try.ntmps24
          go_wp2
          go_ret3
          exact ⟨rfl, rfl⟩
      · have h3 : k ≤ 7 := by omega
        have h4 : k ≤ r.length := by omega
        clear h2
        have hcs : ∀ (j : Nat) y, r[j]? = some y → w.cell? ⟨b, off + 1 + j, none⟩ = some (B8 y) := by
          intro j y hj
          rw [Nat.add_assoc, Nat.add_comm 1 j]
          exact hc (j + 1) _ (by simp [hj])
        have HC := Lib.hid hcs
        have HK := Lib.hid hk
        have hcap : r.length + 1 ≤ cap := by have := hr.2.1; simpa using this
        have e1 : (247 + (k : Int) - 248 + 1) = k := by omega
        clear hk hc hr hcs
        go_enter Try.func24, Try.ntmps24
        go_wp2
        go_loopg [2, 37] k (fun g s2 s37 wx => ∃ i : Nat, i + g = k ∧ s37 = .int .i64 i ∧ s2 = .int .i64 (dec (r.take i)) ∧ w = wx)
        case atStart => exact ⟨0, by omega, rfl, rfl, rfl⟩
        case round =>
          obtain ⟨i, hi, rfl, rfl, rfl⟩ := hrel
          by_cases hlt : i < k
          · obtain ⟨y, hy⟩ : ∃ y, r[i]? = some y := ⟨_, List.getElem?_eq_getElem (by omega)⟩
            have hcell := HC.out i y hy
            have hd := dec_lt (r.take i)
            have hds := dec_take_succ r i y hy
            have HD := Lib.hid hds
            have hd' : dec (r.take i) < 281474976710656 := by
              refine Nat.lt_of_lt_of_le hd (Nat.le_trans (Nat.pow_le_pow_right (by decide) (Nat.le_trans (List.length_take_le _ _) (by omega : i ≤ 6))) (by decide))
            generalize dec (r.take i) = D at *
            have hor := or_byte D y (by omega)
            have hyb := y.toNat_lt
            clear hds hy hd
            go_wp2
            go_roundg (gk - 1)
            case rel => exact ⟨i + 1, by omega, by go_num, by rw [HD.out]; go_num, rfl⟩
            case measure => omega
          · have : i = k := by omega
            subst this
            have hd := dec_lt (r.take i)
            rw [List.length_take, Nat.min_eq_left h4] at hd
            have hd' : dec (r.take i) < 72057594037927936 := Nat.lt_of_lt_of_le hd (Nat.le_trans (Nat.pow_le_pow_right (by decide) h3) (by decide))
            generalize hD : dec (r.take i) = D at *
            by_cases hS : sizeM D = 1 + (i : Int)
            · have hg : getM (x :: r) = ((D : Int), 1 + (i : Int), 0) := by
                have := HK.out
                simp only [getM, this]
                rw [if_neg (by omega), if_neg (by omega), Nat.add_sub_cancel_left, hD, if_pos hS]
              have HG := Lib.hid hg; have HS := Lib.hid hS; clear hg hS hD
              have C := size_any (D : Int) w
              rw [HS.out] at C
              have HC2 := Lib.hid C; clear C
              go_wp2_with (go_at_call 21; refine HC2.out.mono ?_; rintro e w' ⟨rfl, rfl⟩)
              go_ret3
              rw [HG.out]
              exact ⟨rfl, rfl⟩
            · have hg : getM (x :: r) = (0, 0, 8) := by
                have := HK.out
                simp only [getM, this]
                rw [if_neg (by omega), if_neg (by omega), Nat.add_sub_cancel_left, hD, if_neg hS]
              have HG := Lib.hid hg; clear hg hD
              have hS' : (sizeM D == 1 + (i : Int)) = false := by simpa using hS
              go_wp2_with (go_at_call 21; refine (size_any _ _).mono ?_; rintro e w' ⟨rfl, rfl⟩)
              go_ret3
              rw [HG.out]
              exact ⟨rfl, rfl⟩
end Go.Proofs.Ytgdcpgmbmppfgaa
