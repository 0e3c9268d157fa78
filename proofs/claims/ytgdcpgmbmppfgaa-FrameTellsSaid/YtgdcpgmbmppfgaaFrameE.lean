/-
  The statement FrameTells: the walk.
-/
import Derived.Test.YtgdcpgmbmppfgaaFrameT
namespace Go.Proofs.Ytgdcpgmbmppfgaa
open Go.RowKit

theorem set_step (q : List UInt8) (k : Nat) (x : UInt8) (hk : q[k]? = some x) : (q.map B8).set k (.int .u8 (((x.toNat : Int) + 1) % 256)) = (q.set k (x + 1)).map B8 := by
  have e : Value.int .u8 (((x.toNat : Int) + 1) % 256) = B8 (x + 1) := by
    have h := x.toNat_lt
    simp [B8, UInt8.toNat_add]
  rw [e, List.map_set]

set_option maxHeartbeats 4000000 in
set_option maxRecDepth 100000 in
theorem frameTells_walk (v : Value) (l : List UInt8) (u : Value) (m : List UInt8) (n : Int) (w : World) (hr : RdB w.heap.size w v l) (hu : RdB w.heap.size w u m) :
    Calls Try.prog 4 #[v, u, .int .i64 n] w fun e w' => e = .returned (.bool true) ∧ Below w.heap.size w w' := by
  obtain ⟨i5, hi, hz0, hz1, hz2⟩ := info_parts info_u8
  have hr0 := Lib.hid hr; have hu0 := Lib.hid hu
  obtain ⟨ao, ca, rfl, hr⟩ := hr
  obtain ⟨bo, cb, rfl, hu⟩ := hu
  by_cases hbig : 3000 < l.length ∨ 3000 < m.length
  · clear hr hu
    rcases (show 3000 < l.length ∨ (l.length ≤ 3000 ∧ 3000 < m.length) by omega) with h | ⟨h, h'⟩
    all_goals
      clear hbig
      go_enter Try.func4, Try.ntmps4
      go_wp2_with (fail)
      go_ret
      exact ⟨rfl, Below.refl _ _⟩
  · have hl : l.length ≤ 3000 := by omega
    have hm : m.length ≤ 3000 := by omega
    clear hbig
    go_enter Try.func4, Try.ntmps4
    go_wp2_with (first
      | (at_builtin; refine wpList_append_rd rfl (.const (.slice none 0 0)) (.tmp 34) 23 rfl w1.heap.size 5 i5 (.int .u8 0) 1 1 Try.underlying23 hi hz0 hz1 hz2 rfl (by decide) _ _ _ rfl (World.ownsRow_nil _ _ _ _) rfl (hu.below b1) (bytes_one _) (by unfold maxLen; omega) (by omega) (Nat.le_refl _) ?_; intro vr w2 ho2 hg2; have b2 : Below w1.heap.size w1 w2 := (Below.refl _ _).grown hg2 (Nat.le_refl _) (fun j hj => by cases hj))
      | (at_builtin; refine wpList_append_rd rfl (.const (.slice none 0 0)) (.tmp 32) 23 rfl w.heap.size 5 i5 (.int .u8 0) 1 1 Try.underlying23 hi hz0 hz1 hz2 rfl (by decide) _ _ _ rfl (World.ownsRow_nil _ _ _ _) rfl hr (bytes_one _) (by unfold maxLen; omega) (by omega) (Nat.le_refl _) ?_; intro vo w1 ho1 hg1; have b1 : Below w.heap.size w w1 := (Below.refl _ _).grown hg1 (Nat.le_refl _) (fun j hj => by cases hj))
      | fail)
    have b02 := b1.next b2
    have HO := Lib.hid (((RdB.owned l ho1 (by simp)).below b2).mono b2.size)
    have HW := Lib.hid (RdB.owned m ho2 (by simp))
    clear ho1 ho2 hg1 hg2 hr hu
    refine (seal_any _ l w2 HO.out (by omega)).mono ?_
    rintro e w3 ⟨x, rfl, hx, b3⟩
    have b03 := b02.next b3
    go_wp2_with (fail)
    refine (rseal_any _ l w3 ((hr0.out.below b03).mono b03.size)).mono ?_
    rintro e w4 ⟨y, rfl, hy, b4⟩
    have b04 := b03.next b4
    have b24 := b3.next b4
    go_wp2_with (fail)
    refine (open_any _ m w4 ((HW.out.below b24).mono b24.size) (by omega)).mono ?_
    rintro e w5 ⟨z, rfl, hz, b5⟩
    have b05 := b04.next b5
    go_wp2_with (fail)
    refine (ropen_any _ m w5 ((hu0.out.below b05).mono b05.size) (by omega)).mono ?_
    rintro e w6 ⟨t, rfl, ht, b6⟩
    have b06 := b05.next b6
    go_wp2_with (fail)
    refine (class_any n w6).mono ?_
    rintro e w7 ⟨rfl, b7⟩
    have b07 := b06.next b7
    go_wp2_with (fail)
    refine (rclass_any n w7).mono ?_
    rintro e w8 ⟨rfl, b8⟩
    have b08 := b07.next b8
    have b58 := (b6.next b7).next b8
    have b48 := b5.next b58
    have b38 := b4.next b48
    have q1 := str_of ((RdB.own hx).below b38)
    have q2 := str_of ((RdB.own hy).below b48)
    have q3 := str_of ((RdB.own hz).below b58)
    have q4 := str_of ((RdB.own ht).below (b7.next b8))
    have b38' := b38
    have hz8 := ownsRow_below hz b58
    have HXO := Lib.hid (ownsRow_below hx b4)
    have HB24 := Lib.hid b24; have HB02 := Lib.hid b02
    have hb02s := b02.size; have hb24s := b24.size
    have hbx := b3.size; have hby := b4.size; have hb3z := b38.size; have hb4z := b48.size
    clear hz hx hy ht b1 b2 b3 b4 b5 b6 b7 b8 b02 b03 b04 b05 b06 b07 b24 b58 b38'
    have HB := Lib.hid b08
    have HB48 := Lib.hid b48
    go_wp2_with (fail)
    clear q1 q2 q3 q4
    generalize openB m = Z at *
    generalize openC m = zc0 at *
    generalize sealB l = X at *
    obtain ⟨zo, zcap, rfl, hzr⟩ := RdA.of_own hz8 (by decide)
    obtain ⟨xo, xcap, rfl, hxr⟩ := RdA.of_own HXO.out (by decide)
    have hZm : Z.length ≤ maxLen := by have h1 := hzr.2.1; have h2 := hzr.2.2.1; omega
    have hXm : X.length ≤ maxLen := by have h1 := hxr.2.1; have h2 := hxr.2.2.1; omega
    unfold maxLen at hZm hXm
    clear hzr hxr
    have HZO := Lib.hid hz8
    clear hz8 b08 b48 b38
    go_loopg [22] Z.length (fun g s22 wx => ∃ (k : Nat) (q : List UInt8), k + g = Z.length ∧ q.length = Z.length ∧ s22 = .int .i64 k ∧ wx.ownsRow w4.heap.size 5 1 (.slice zo Z.length zcap) Z.length (q.map B8) ∧ Below w4.heap.size w8 wx)
    case atStart => exact ⟨0, Z, by omega, rfl, rfl, HZO.out, Below.refl _ _⟩
    case round =>
      obtain ⟨k, q, hkg, hq, rfl, hown, hbel⟩ := hrel
      generalize Z.length = L at *
      by_cases hlt : k < L
      · obtain ⟨g, c, e, _, _, _, _⟩ := ownsRow_some hown (by omega)
        cases e
        obtain ⟨y, hy⟩ : ∃ y, q[k]? = some y := ⟨_, List.getElem?_eq_getElem (by omega)⟩
        have hcell : wr.cell? ⟨g, k, none⟩ = some (B8 y) := by rw [hown.cellAt k (by omega)]; simp [hy]
        have hfz := hown.frozenAt k
        have hst := hown.stored k (.int .u8 (((y.toNat : Int) + 1) % 256))
        rw [set_step q k y hy] at hst
        have HST := Lib.hid hst
        have hyb := y.toNat_lt
        clear hst hy hown
        go_wp2_with (fail)
        go_roundg (gk - 1)
        case rel => exact ⟨k + 1, q.set k (y + 1), by omega, by simp [hq], by go_num, HST.out.1, hbel.setCell (by assumption) _⟩
        case measure => omega
      · have hkE : k = L := by omega
        have B4 := Lib.hid (HB48.out.trans hbel)
        have hX4 := Lib.hid (ownsRow_below HXO.out B4.out)
        clear hown hbel
        go_wp2_with (fail)
        go_loopg [23] X.length (fun g s23 wx => ∃ (k : Nat) (q : List UInt8), k + g = X.length ∧ q.length = X.length ∧ s23 = .int .i64 k ∧ wx.ownsRow w2.heap.size 5 1 (.slice xo X.length xcap) X.length (q.map B8) ∧ Below w2.heap.size w4 wx)
        case atStart => exact ⟨0, X, by omega, rfl, rfl, hX4.out, B4.out.mono hb24s⟩
        case round =>
          obtain ⟨j, p, hjg, hp, rfl, hown, hbel⟩ := hrel
          generalize X.length = M at *
          by_cases hlt : j < M
          · obtain ⟨g, c, e, _, _, _, _⟩ := ownsRow_some hown (by omega)
            cases e
            obtain ⟨y, hy⟩ : ∃ y, p[j]? = some y := ⟨_, List.getElem?_eq_getElem (by omega)⟩
            have hcell : wr.cell? ⟨g, j, none⟩ = some (B8 y) := by rw [hown.cellAt j (by omega)]; simp [hy]
            have hfz := hown.frozenAt j
            have hst := hown.stored j (.int .u8 (((y.toNat : Int) + 1) % 256))
            rw [set_step p j y hy] at hst
            have HST := Lib.hid hst
            have hyb := y.toNat_lt
            clear hst hy hown
            go_wp2_with (fail)
            go_roundg (gk - 1)
            case rel => exact ⟨j + 1, p.set j (y + 1), by omega, by simp [hp], by go_num, HST.out.1, hbel.setCell (by assumption) _⟩
            case measure => omega
          · have hjE : j = M := by omega
            have b2F := HB24.out.trans hbel
            have b0F := HB02.out.trans (b2F.mono hb02s)
            have q1 := str_of (HO.out.below b2F)
            have q2 := str_of (HW.out.below b2F)
            have q3 := str_of (hr0.out.below b0F)
            have q4 := str_of (hu0.out.below b0F)
            clear hown hbel
            have BF := Lib.hid b0F
            clear b2F b0F
            go_wp2_with (fail)
            go_ret
            exact ⟨rfl, BF.out⟩
end Go.Proofs.Ytgdcpgmbmppfgaa
