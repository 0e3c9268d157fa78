/-
  The references of packages sum and frame (blindstampref03, blindstampref08): what each call returns.
-/
import Derived.Test.YtgdcpgmbmppfgaaOpenF
namespace Go.Proofs.Ytgdcpgmbmppfgaa
open Go.RowKit

set_option maxHeartbeats 1000000 in
set_option maxRecDepth 100000 in
theorem rsumBytes_any (s : Nat) (w : World) (hs : s < 16777216) : Calls Try.prog 32 #[.int .u32 s] w (Makes (sumB s) w) := by
  go_enter Try.func32, Try.ntmps32
  go_wp2
  go_ret
  exact makes_lit w (sumB s) _ 3 (by simp [sumB, B8, UInt8.toNat_ofNat'] <;> omega) rfl (by decide)

set_option maxHeartbeats 2000000 in
set_option maxRecDepth 100000 in
theorem rsumOf_any (v : Value) (l : List UInt8) (B : Nat) (w : World) (hr : RdB B w v l) (hl : l.length ≤ 1000000) :
    Calls Try.prog 33 #[v] w fun e w' => e = .returned (.int .u32 (sumOf l)) ∧ w = w' := by
  obtain ⟨ao, cap, rfl, hr⟩ := hr
  have HR := Lib.hid hr
  clear hr
  go_enter Try.func33, Try.ntmps33
  go_wp2
  go_loopg [3, 4] l.length (fun g s3 s4 wx => ∃ k : Nat, k + g = l.length ∧ s4 = .int .i64 k ∧ s3 = .int .i64 (sumOf (l.take k)) ∧ w = wx)
  case atStart => exact ⟨0, by omega, rfl, rfl, rfl⟩
  case round =>
    obtain ⟨k, hk, rfl, rfl, rfl⟩ := hrel
    generalize gk = g0 at *
    have hs := sumOf_lt (l.take k)
    by_cases hlt : k < l.length
    · obtain ⟨b, off, rfl, hbb, hc⟩ := HR.out.at (by omega)
      obtain ⟨x, hx⟩ : ∃ x, l[k]? = some x := ⟨_, List.getElem?_eq_getElem hlt⟩
      have hcell : w.cell? ⟨b, off + k, none⟩ = some (B8 x) := hc k _ (by simp [hx])
      have hst : sumOf (l.take (k + 1)) = byteS (sumOf (l.take k)) x := by
        rw [List.take_add_one, hx]; simp [sumOf]
      have HST := Lib.hid hst
      have hxb := x.toNat_lt
      clear hc hst hx
      generalize sumOf (l.take k) = S at *
      go_wp2
      go_loopg [3, 5, 6] 8 (fun g s3 s5 s6 wx => ∃ j : Nat, j + g = 8 ∧ s6 = .int .i64 j ∧ s5 = .int .i64 (x.toNat * 2 ^ j : Nat) ∧ s3 = .int .i64 (rbits j S x.toNat : Nat) ∧ w = wx)
      case atStart => exact ⟨0, by omega, rfl, by simp, rfl, rfl⟩
      case round =>
        obtain ⟨j, hj, rfl, rfl, rfl, rfl⟩ := hrel
        have h24 := rbits_lt j S x.toNat hs
        by_cases hj8 : j < 8
        · have hnx := rbits_succ j S x.toNat
          have hp : x.toNat * 2 ^ j < 65536 := by
            have : 2 ^ j ≤ 2 ^ 8 := Nat.pow_le_pow_right (by decide) (by omega)
            have := Nat.mul_le_mul (show x.toNat ≤ 255 by omega) this
            omega
          have hpx : x.toNat * 2 ^ (j + 1) = x.toNat * 2 ^ j * 2 := by rw [Nat.pow_succ, Nat.mul_assoc]
          have HNX := Lib.hid hnx; have HPX := Lib.hid hpx
          clear hnx hpx
          generalize rbits j S x.toNat = T at *
          generalize x.toNat * 2 ^ j = X at *
          have hxo : bits .xor .i64 ((T : Int) % 8388608 * 2) 8801531 = (((T % 8388608 * 2) ^^^ 8801531 : Nat) : Int) := by
            have := i64_xor_nat (T % 8388608 * 2) 8801531 (by omega) (by omega)
            rw [Int.natCast_mul, Int.natCast_emod] at this
            exact this
          by_cases ht : T / 8388608 = X / 128 % 2
          · have HT := Lib.hid (show rbit T X = T % 8388608 * 2 from if_pos ht)
            have hb : ((T : Int) / 8388608 == (X : Int) / 128 % 2) = true := by simp; omega
            have hb2 : ((T : Int) / 8388608 != (X : Int) / 128 % 2) = false := by simp; omega
            go_wp2
            go_roundg (gk - 1)
            case rel => exact ⟨j + 1, by omega, by go_num, by rw [HPX.out]; go_num, by rw [HNX.out, HT.out]; go_num, rfl⟩
            case measure => omega
          · have HT := Lib.hid (show rbit T X = (T % 8388608 * 2) ^^^ 8801531 from if_neg ht)
            have hb : ((T : Int) / 8388608 == (X : Int) / 128 % 2) = false := by simp; omega
            have hb2 : ((T : Int) / 8388608 != (X : Int) / 128 % 2) = true := by simp; omega
            go_wp2
            go_roundg (gk - 1)
            case rel => exact ⟨j + 1, by omega, by go_num, by rw [HPX.out]; go_num, by rw [HNX.out, HT.out], rfl⟩
            case measure => omega
        · have : j = 8 := by omega
          subst this
          have hby := Lib.hid (rbits_byte S x hs)
          go_wp2
          go_roundg (g0 - 1)
          case rel => exact ⟨k + 1, by omega, by go_num, by rw [HST.out, hby.out], rfl⟩
          case measure => omega
    · have : k = l.length := by omega
      subst this
      rw [List.take_of_length_le (Nat.le_refl _)] at hs ⊢
      go_wp2
      go_ret
      exact ⟨rfl, rfl⟩

set_option maxHeartbeats 1000000 in
set_option maxRecDepth 100000 in
theorem long_any (n : Nat) (w : World) (hn : n ≤ 1000000) : Calls Try.prog 28 #[.int .i64 n] w fun e w' => e = .returned (.int .i64 (classM n)) ∧ Below w.heap.size w w' := by
  have hz : (putL n).length ≤ 8 := putL_le n (by omega)
  have C := rbytes_any n w (by omega)
  have hcl : classM n = if 1 + (putL n).length + n + 3 ≤ 64 then 64 else if 1 + (putL n).length + n + 3 ≤ 256 then 256 else 1024 := rfl
  have HC := Lib.hid C; have HCL := Lib.hid hcl
  clear C hcl
  by_cases h1 : 1 + (putL n).length + n + 3 ≤ 64
  · have H := Lib.hid (show classM n = 64 by rw [HCL.out, if_pos h1])
    generalize putL n = p at *
    clear HCL
    have hi : 1 + (p.length : Int) + n + 3 ≤ 64 := by omega
    go_enter Try.func28, Try.ntmps28
    go_wp2_with (fail)
    refine HC.out.mono ?_
    rintro e w1 ⟨x, rfl, hx, b1⟩
    obtain ⟨xo, xc, rfl, hxr⟩ := RdB.own hx
    go_wp2_with (fail)
    go_ret
    rw [H.out]
    exact ⟨rfl, b1⟩
  · by_cases h2 : 1 + (putL n).length + n + 3 ≤ 256
    · have H := Lib.hid (show classM n = 256 by rw [HCL.out, if_neg h1, if_pos h2])
      generalize putL n = p at *
      clear HCL
      have hi : 1 + (p.length : Int) + n + 3 ≤ 256 := by omega
      have hi2 : 64 < 1 + (p.length : Int) + n + 3 := by omega
      go_enter Try.func28, Try.ntmps28
      go_wp2_with (fail)
      refine HC.out.mono ?_
      rintro e w1 ⟨x, rfl, hx, b1⟩
      obtain ⟨xo, xc, rfl, hxr⟩ := RdB.own hx
      go_wp2_with (fail)
      go_ret
      rw [H.out]
      exact ⟨rfl, b1⟩
    · have H := Lib.hid (show classM n = 1024 by rw [HCL.out, if_neg h1, if_neg h2])
      generalize putL n = p at *
      clear HCL
      have hi2 : 256 < 1 + (p.length : Int) + n + 3 := by omega
      go_enter Try.func28, Try.ntmps28
      go_wp2_with (fail)
      refine HC.out.mono ?_
      rintro e w1 ⟨x, rfl, hx, b1⟩
      obtain ⟨xo, xc, rfl, hxr⟩ := RdB.own hx
      go_wp2_with (fail)
      go_ret
      rw [H.out]
      exact ⟨rfl, b1⟩

set_option maxHeartbeats 1000000 in
set_option maxRecDepth 100000 in
theorem rclass_any (n : Int) (w : World) : Calls Try.prog 16 #[.int .i64 n] w fun e w' => e = .returned (.tuple #[.int .i64 (classN n), .int .i64 (classC n)]) ∧ Below w.heap.size w w' := by
  by_cases h : n < 0 ∨ 1000 < n
  · have h1 := Lib.hid (show classN n = 0 from if_pos h)
    have h2 := Lib.hid (show classC n = 4 from if_pos h)
    rcases h with h | h
    all_goals
      go_enter Try.func16, Try.ntmps16
      go_wp2_with (fail)
      go_ret2
      rw [h1.out, h2.out]
      exact ⟨rfl, Below.refl _ _⟩
  · obtain ⟨m, rfl⟩ := Int.eq_ofNat_of_zero_le (show 0 ≤ n by omega)
    have h1 := Lib.hid (show classN (m : Int) = classM m by rw [classN, if_neg h, Int.toNat_natCast])
    have h2 := Lib.hid (show classC (m : Int) = 0 from if_neg h)
    have hm : m ≤ 1000 := by omega
    clear h
    go_enter Try.func16, Try.ntmps16
    go_wp2_with (fail)
    refine (long_any m w (by omega)).mono ?_
    rintro e w1 ⟨rfl, b1⟩
    go_wp2_with (fail)
    go_ret2
    rw [h1.out, h2.out]
    exact ⟨rfl, b1⟩

set_option maxHeartbeats 2000000 in
set_option maxRecDepth 100000 in
theorem framed_any (v : Value) (l : List UInt8) (w : World) (hr : RdB w.heap.size w v l) (hl : l.length ≤ 1000) :
    Calls Try.prog 22 #[v] w (Makes (frameL l) w) := by
  obtain ⟨i5, hi, hz0, hz1, hz2⟩ := info_parts info_u8
  obtain ⟨ao, cap, rfl, hr⟩ := hr
  have hge := classM_ge l.length hl
  have hle := classM_le l.length
  have hsm := putL_small l.length hl
  have C1 := fun wx => rbytes_any l.length wx (by omega)
  have C2 := fun wx => long_any l.length wx (by omega)
  have hfr : frameL l = (181 :: putL l.length) ++ l ++ List.replicate (classM l.length - 3 - (1 + (putL l.length).length + l.length)) 0 ++ sumB (sumOf ((181 :: putL l.length) ++ l ++ List.replicate (classM l.length - 3 - (1 + (putL l.length).length + l.length)) 0)) := by
    rw [frameL, bareL, headL_length]; rfl
  have HF := Lib.hid hfr; have H1 := Lib.hid C1; have H2 := Lib.hid C2; have HR := Lib.hid hr
  have hsum := fun q : List UInt8 => sumOf_lt q
  have HSUM := Lib.hid hsum
  clear C1 C2 hfr hr hsum
  generalize classM l.length = cm at *
  generalize putL l.length = pl at *
  have ho := World.ownsRow_lit (base := w.heap.size) (size := 1) (e := 5) w #[.int .u8 181] 1 (Nat.le_refl _) (by decide) rfl
  go_enter Try.func22, Try.ntmps22
  go_wp2_with (fail)
  refine (H1.out _).mono ?_
  rintro e w1 ⟨x, rfl, hx, b1⟩
  obtain ⟨xo, xc, rfl, hxr⟩ := RdB.own hx
  have ho1 := ownsRow_below ho b1
  have b01 : Below w.heap.size w w1 := (Below.one (Nat.le_refl _) _).trans (b1.mono (by simp))
  clear hx ho b1
  go_wp2_with (first
    | (at_builtin; refine wpList_append_rd rfl (.tmp 4) (.tmp 7) 23 rfl w.heap.size 5 i5 (.int .u8 0) 1 1 Try.underlying23 hi hz0 hz1 hz2 rfl (by decide) _ _ _ rfl ho1 rfl hxr (bytes_one _) (by unfold maxLen; omega) (by omega) b01.size ?_; intro v3 w3 ho3 hg3; have b03 : Below w.heap.size w w3 := b01.grown hg3 b01.size (fun j hj => (ho1.lt j hj).1))
    | (at_builtin; refine wpList_append_rd rfl (.tmp 9) (.tmp 10) 23 rfl w.heap.size 5 i5 (.int .u8 0) 1 1 Try.underlying23 hi hz0 hz1 hz2 rfl (by decide) _ _ _ rfl ho3 rfl (HR.out.below b03) (bytes_one _) (by unfold maxLen; omega) (by omega) b03.size ?_; intro v4 w4 ho4 hg4; have b04 : Below w.heap.size w w4 := b03.grown hg4 b03.size (fun j hj => (ho3.lt j hj).1))
    | fail)
  have ho4' : w4.ownsRow w.heap.size 5 1 v4 (1 + pl.length + l.length + 0) (((181 :: pl) ++ l ++ List.replicate 0 0).map B8) := by simpa [B8] using ho4
  clear ho1 ho3 hg3 ho4 hg4 hxr b01 b03
  go_loopg [3] (cm - 3 - (1 + pl.length + l.length)) (fun g s3 wx => ∃ j : Nat, j + g = cm - 3 - (1 + pl.length + l.length) ∧ wx.ownsRow w.heap.size 5 1 s3 (1 + pl.length + l.length + j) (((181 :: pl) ++ l ++ List.replicate j 0).map B8) ∧ Below w.heap.size w wx)
  case atStart => exact ⟨0, by omega, ho4', b04⟩
  case round =>
    obtain ⟨j, hj, hown, hbel⟩ := hrel
    obtain ⟨g3, c3, e, hbg3, hlt3, hnc3, hcm3⟩ := ownsRow_some hown (by omega)
    subst e
    clear ho4' b04
    go_wp2_with (fail)
    refine (H2.out _).mono ?_
    rintro e w5 ⟨rfl, b5⟩
    have b05 := hbel.next b5
    have hown5 := ownsRow_below hown b5
    by_cases hlt : j < cm - 3 - (1 + pl.length + l.length)
    · have hx := RdA.lit w5 #[.int .u8 0] 5 1 1 rfl (by decide)
      go_wp2_with (at_builtin; refine wpList_append_rd rfl (.tmp 19) (.tmp 20) 23 rfl w.heap.size 5 i5 (.int .u8 0) 1 1 Try.underlying23 hi hz0 hz1 hz2 rfl (by decide) _ _ _ rfl (hown5.alloc _) rfl hx (by simp [Value.oneCell']) (by unfold maxLen; omega) (by omega) (by simp; have := b05.size; omega) ?_; intro v6 w6 ho6 hg6)
      have b06 : Below w.heap.size w w6 := (b05.alloc b05.size _).grown hg6 (by simp; have := b05.size; omega) (fun i hi => by cases hi; exact hbg3)
      go_roundg (gk - 1)
      case rel => exact ⟨j + 1, by omega, by
        have e1 : List.map B8 ((181 :: pl) ++ l ++ List.replicate j 0) ++ [Value.int .u8 0] = List.map B8 ((181 :: pl) ++ l ++ List.replicate (j + 1) 0) := by
          rw [List.replicate_succ', ← List.append_assoc]; simp [B8]
        rw [← e1]; exact ho6, b06⟩
      case measure => omega
    · have hjE : j = cm - 3 - (1 + pl.length + l.length) := by omega
      obtain ⟨q, hq⟩ : ∃ q, q = (181 :: pl) ++ l ++ List.replicate (cm - 3 - (1 + pl.length + l.length)) 0 := ⟨_, rfl⟩
      have hq5 := RdB.owned q hown5 (by rw [hq, hjE])
      rw [← hjE] at hq
      have hown6 := hown5
      rw [← hq] at hown6
      have hqs := HSUM.out q
      have hql : q.length = 1 + pl.length + l.length + j := by rw [hq]; simp; omega
      have hfin : frameL l = q ++ sumB (sumOf q) := by rw [HF.out, ← hjE, ← hq]
      have HFIN := Lib.hid hfin; have HQL := Lib.hid hql
      have hql2 : q.length ≤ 1024 := by omega
      clear hfin hql hq hown hown5 hjE
      go_wp2_with (fail)
      refine (rsumOf_any _ q _ _ hq5 (by omega)).mono ?_
      rintro e w6 ⟨rfl, rfl⟩
      go_wp2_with (fail)
      refine (rsumBytes_any _ _ hqs).mono ?_
      rintro e w7 ⟨x, rfl, hx, b7⟩
      obtain ⟨yo, yc, rfl, hyr⟩ := RdB.own hx
      have b07 := b05.next b7
      have ho7 := ownsRow_below hown6 b7
      go_wp2_with (at_builtin; refine wpList_append_rd rfl (.tmp 22) (.tmp 25) 23 rfl w.heap.size 5 i5 (.int .u8 0) 1 1 Try.underlying23 hi hz0 hz1 hz2 rfl (by decide) _ _ _ rfl ho7 rfl hyr (bytes_one _) (by simp [sumB, maxLen] <;> omega) (by simp [sumB] <;> omega) b07.size ?_; intro v8 w8 ho8 hg8)
      have b08 : Below w.heap.size w w8 := b07.grown hg8 b07.size (fun j hj => by cases hj; exact hbg3)
      go_ret
      refine ⟨_, rfl, ?_, b08⟩
      rw [HFIN.out, List.length_append, List.map_append, HQL.out]
      exact ho8

set_option maxHeartbeats 1000000 in
set_option maxRecDepth 100000 in
theorem rseal_any (v : Value) (l : List UInt8) (w : World) (hr : RdB w.heap.size w v l) :
    Calls Try.prog 13 #[v] w (SealPost w l) := by
  have hr0 := Lib.hid hr
  obtain ⟨ao, cap, rfl, hr⟩ := hr
  clear hr
  by_cases h : l.length ≤ 1000
  · have h1 := Lib.hid (show sealB l = frameL l from if_pos h)
    have h2 := Lib.hid (show sealC l = 0 from if_pos h)
    go_enter Try.func13, Try.ntmps13
    go_wp2_with (fail)
    refine (framed_any _ l _ hr0.out h).mono ?_
    rintro e w1 ⟨x, rfl, hx, b1⟩
    go_wp2_with (fail)
    go_ret2
    unfold SealPost
    rw [h1.out, h2.out]
    exact ⟨x, rfl, hx, b1⟩
  · have h1 := Lib.hid (show sealB l = [] from if_neg h)
    have h2 := Lib.hid (show sealC l = 4 from if_neg h)
    go_enter Try.func13, Try.ntmps13
    go_wp2_with (fail)
    go_ret2
    unfold SealPost
    rw [h1.out, h2.out]
    exact ⟨_, rfl, World.ownsRow_nil _ _ _ _, Below.refl _ _⟩
end Go.Proofs.Ytgdcpgmbmppfgaa
