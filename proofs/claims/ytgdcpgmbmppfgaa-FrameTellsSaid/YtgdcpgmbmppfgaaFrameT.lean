/-
  The statements FrameBack and FrameLong: the walks.
-/
import Derived.Test.YtgdcpgmbmppfgaaFrameL
namespace Go.Proofs.Ytgdcpgmbmppfgaa
open Go.RowKit

/-- What 'Seal' and 'Open' leave, case by case. -/
theorem seal_ok (v : Value) (l : List UInt8) (w : World) (hr : RdB w.heap.size w v l) (hl : l.length ≤ 1000) :
    Calls Try.prog 9 #[v] w fun e w' => ∃ x, e = .returned (.tuple #[x, .int .i64 0]) ∧ w'.ownsRow w.heap.size 5 1 x (frameL l).length ((frameL l).map B8) ∧ Below w.heap.size w w' := by
  have C := seal_any v l w hr (by omega)
  unfold SealPost at C
  rwa [show sealC l = 0 from if_pos hl, show sealB l = frameL l from if_pos hl] at C
theorem seal_no (v : Value) (l : List UInt8) (w : World) (hr : RdB w.heap.size w v l) (hl : 1000 < l.length) (hm : l.length ≤ 1000000) :
    Calls Try.prog 9 #[v] w fun e w' => ∃ x, e = .returned (.tuple #[x, .int .i64 4]) ∧ w'.ownsRow w.heap.size 5 1 x 0 [] ∧ Below w.heap.size w w' := by
  have C := seal_any v l w hr hm
  unfold SealPost at C
  rwa [show sealC l = 4 from if_neg (by omega), show sealB l = [] from if_neg (by omega)] at C
theorem open_ok (v : Value) (l body : List UInt8) (w : World) (hr : RdB w.heap.size w v l) (hm : l.length ≤ 1000000) (ho : openL l = some body) :
    Calls Try.prog 14 #[v] w fun e w' => ∃ x, e = .returned (.tuple #[x, .int .i64 0]) ∧ w'.ownsRow w.heap.size 5 1 x body.length (body.map B8) ∧ Below w.heap.size w w' := by
  have C := open_any v l w hr hm
  unfold OpenPost at C
  rwa [show openC l = 0 by simp [openC, ho], show openB l = body by simp [openB, ho]] at C
theorem open_no (v : Value) (l : List UInt8) (w : World) (hr : RdB w.heap.size w v l) (hm : l.length ≤ 1000000) (ho : openL l = none) :
    Calls Try.prog 14 #[v] w fun e w' => ∃ x, e = .returned (.tuple #[x, .int .i64 80]) ∧ w'.ownsRow w.heap.size 5 1 x 0 [] ∧ Below w.heap.size w w' := by
  have C := open_any v l w hr hm
  unfold OpenPost at C
  rwa [show openC l = 80 by simp [openC, ho], show openB l = [] by simp [openB, ho]] at C

set_option maxHeartbeats 2000000 in
set_option maxRecDepth 100000 in
theorem frameBack_walk (v : Value) (l : List UInt8) (w : World) (hr : RdB w.heap.size w v l) :
    Calls Try.prog 5 #[v] w fun e w' => e = .returned (.bool true) ∧ Below w.heap.size w w' := by
  have hr0 := Lib.hid hr
  obtain ⟨ao, cap, rfl, hr⟩ := hr
  clear hr
  by_cases hl : l.length ≤ 3000
  · by_cases h1 : l.length ≤ 1000
    · have ho := openL_frame l h1
      have hfl := frameL_length l h1
      have hcm := classM_le l.length
      have HO := Lib.hid ho
      have HFL := Lib.hid (show (frameL l).length ≤ 1024 by rw [hfl]; exact hcm)
      have hd : decide ((l.length : Int) ≤ 1000) = true := by simp; omega
      clear ho hfl hcm
      go_enter Try.func5, Try.ntmps5
      go_wp2_with (fail)
      refine (falive_true _).mono ?_
      rintro e w1 ⟨rfl, b1⟩
      go_wp2_with (fail)
      refine (seal_ok _ l w1 ((hr0.out.below b1).mono b1.size) h1).mono ?_
      rintro e w2 ⟨x, rfl, hx, b2⟩
      have b02 := b1.next b2
      go_wp2_with (fail)
      refine (open_ok _ (frameL l) l w2 (RdB.own hx) (by have := HFL.out; omega) HO.out).mono ?_
      rintro e w3 ⟨y, rfl, hy, b3⟩
      have b03 := b02.next b3
      have q1 := str_of (RdB.own hy)
      have q2 := str_of (hr0.out.below b03)
      clear hx hy
      go_wp2_with (fail)
      clear q1 q2
      cases hol : openL l with
      | none =>
        refine (open_no _ l w3 ((hr0.out.below b03).mono b03.size) (by omega) hol).mono ?_
        clear hol
        rintro e w4 ⟨z, rfl, hz, b4⟩
        have b04 := b03.next b4
        obtain ⟨zo, zc, rfl, hzr⟩ := RdA.of_own hz (by decide)
        clear hz hzr
        go_wp2_with (fail)
        go_ret
        exact ⟨by simp, b04⟩
      | some body =>
        have hos := openL_some hol
        refine (open_ok _ l body w3 ((hr0.out.below b03).mono b03.size) (by omega) hol).mono ?_
        clear hol
        rintro e w4 ⟨z, rfl, hz, b4⟩
        have b04 := b03.next b4
        have HE := Lib.hid hos.2
        have hb1 := hos.1
        clear hos
        go_wp2_with (fail)
        refine (seal_ok _ body w4 (RdB.own hz) hb1).mono ?_
        rintro e w5 ⟨u, rfl, hu, b5⟩
        rw [HE.out] at hu
        have b05 := b04.next b5
        have q1 := str_of (RdB.own hu)
        have q2 := str_of (hr0.out.below b05)
        clear hz hu
        go_wp2_with (fail)
        go_ret
        exact ⟨by simp, b05⟩
    · have hd : decide ((l.length : Int) ≤ 1000) = false := by simp; omega
      go_enter Try.func5, Try.ntmps5
      go_wp2_with (fail)
      refine (falive_true _).mono ?_
      rintro e w1 ⟨rfl, b1⟩
      go_wp2_with (fail)
      refine (seal_no _ l w1 ((hr0.out.below b1).mono b1.size) (by omega) (by omega)).mono ?_
      rintro e w2 ⟨x, rfl, hx, b2⟩
      have b03 := b1.next b2
      clear hx
      go_wp2_with (fail)
      cases hol : openL l with
      | none =>
        refine (open_no _ l w2 ((hr0.out.below b03).mono b03.size) (by omega) hol).mono ?_
        clear hol
        rintro e w4 ⟨z, rfl, hz, b4⟩
        have b04 := b03.next b4
        obtain ⟨zo, zc, rfl, hzr⟩ := RdA.of_own hz (by decide)
        clear hz hzr
        go_wp2_with (fail)
        go_ret
        exact ⟨by simp, b04⟩
      | some body =>
        have hos := openL_some hol
        refine (open_ok _ l body w2 ((hr0.out.below b03).mono b03.size) (by omega) hol).mono ?_
        clear hol
        rintro e w4 ⟨z, rfl, hz, b4⟩
        have b04 := b03.next b4
        have HE := Lib.hid hos.2
        have hb1 := hos.1
        clear hos
        go_wp2_with (fail)
        refine (seal_ok _ body w4 (RdB.own hz) hb1).mono ?_
        rintro e w5 ⟨u, rfl, hu, b5⟩
        rw [HE.out] at hu
        have b05 := b04.next b5
        have q1 := str_of (RdB.own hu)
        have q2 := str_of (hr0.out.below b05)
        clear hz hu
        go_wp2_with (fail)
        go_ret
        exact ⟨by simp, b05⟩
  · go_enter Try.func5, Try.ntmps5
    go_wp2_with (fail)
    refine (falive_true _).mono ?_
    rintro e w1 ⟨rfl, b1⟩
    go_wp2_with (fail)
    go_ret
    exact ⟨rfl, b1⟩

set_option maxHeartbeats 2000000 in
set_option maxRecDepth 100000 in
theorem frameLong_walk (v : Value) (l : List UInt8) (u : Value) (m : List UInt8) (w : World) (hr : RdB w.heap.size w v l) (hu : RdB w.heap.size w u m) :
    Calls Try.prog 6 #[v, u] w fun e w' => e = .returned (.bool true) ∧ Below w.heap.size w w' := by
  obtain ⟨ao, ca, rfl, hr⟩ := hr
  obtain ⟨bo, cb, rfl, hu⟩ := hu
  obtain ⟨k, hk⟩ : ∃ k, k = min l.length m.length := ⟨_, rfl⟩
  have hkl : k ≤ l.length := by omega
  have hkm : k ≤ m.length := by omega
  by_cases h1 : k ≤ 1000
  · have hxa := hr.preA k hkl
    have hxb := hu.preA k hkm
    have la : (l.take k).length = k := by rw [List.length_take, Nat.min_eq_left hkl]
    have lb : (m.take k).length = k := by rw [List.length_take, Nat.min_eq_left hkm]
    have fa := frameL_length (l.take k) (by omega)
    have fb := frameL_length (m.take k) (by omega)
    rw [la] at fa
    rw [lb] at fb
    have hcl := classM_ge k h1
    have C := fun wx => class_any (k : Int) wx
    rw [show classN (k : Int) = classM k by rw [classN, if_neg (by omega), Int.toNat_natCast], show classC (k : Int) = 0 from if_neg (by omega)] at C
    have HC := Lib.hid C; have HA := Lib.hid hxa; have HB := Lib.hid hxb; have LA := Lib.hid la; have LB := Lib.hid lb
    have FA := Lib.hid fa; have FB := Lib.hid fb
    have hgt : k < classM k := by omega
    have c1 := hr.2.1
    have c2 := hu.2.1
    obtain ⟨Z, hZ⟩ : ∃ Z, Z = classM k := ⟨_, rfl⟩
    rw [← hZ] at hgt HC FA FB
    clear C hxa hxb la lb fa fb hr hu hcl hZ
    rcases Nat.lt_or_ge m.length l.length with h | h
    · have e : k = m.length := by omega
      subst e
      clear hk
      go_enter Try.func6, Try.ntmps6
      go_wp2_with (fail)
      refine (falive_true _).mono ?_
      rintro e w1 ⟨rfl, b1⟩
      go_wp2_with (fail)
      refine (seal_ok _ _ w1 ((HA.out.below b1).mono b1.size) (by rw [LA.out]; exact h1)).mono ?_
      rintro e w2 ⟨x, rfl, hx, b2⟩
      have b02 := b1.next b2
      rw [FA.out] at hx
      obtain ⟨xo, xc, rfl, hxr⟩ := RdA.of_own hx (by decide)
      clear hx hxr
      go_wp2_with (fail)
      refine (seal_ok _ _ w2 ((HB.out.below b02).mono b02.size) (by rw [LB.out]; exact h1)).mono ?_
      rintro e w3 ⟨y, rfl, hy, b3⟩
      have b03 := b02.next b3
      rw [FB.out] at hy
      obtain ⟨yo, yc, rfl, hyr⟩ := RdA.of_own hy (by decide)
      clear hy hyr
      go_wp2_with (fail)
      refine (HC.out _).mono ?_
      rintro e w4 ⟨rfl, b4⟩
      have b04 := b03.next b4
      go_wp2_with (fail)
      go_ret
      exact ⟨by simp, b04⟩
    · have e : k = l.length := by omega
      subst e
      clear hk
      go_enter Try.func6, Try.ntmps6
      go_wp2_with (fail)
      refine (falive_true _).mono ?_
      rintro e w1 ⟨rfl, b1⟩
      go_wp2_with (fail)
      refine (seal_ok _ _ w1 ((HA.out.below b1).mono b1.size) (by rw [LA.out]; exact h1)).mono ?_
      rintro e w2 ⟨x, rfl, hx, b2⟩
      have b02 := b1.next b2
      rw [FA.out] at hx
      obtain ⟨xo, xc, rfl, hxr⟩ := RdA.of_own hx (by decide)
      clear hx hxr
      go_wp2_with (fail)
      refine (seal_ok _ _ w2 ((HB.out.below b02).mono b02.size) (by rw [LB.out]; exact h1)).mono ?_
      rintro e w3 ⟨y, rfl, hy, b3⟩
      have b03 := b02.next b3
      rw [FB.out] at hy
      obtain ⟨yo, yc, rfl, hyr⟩ := RdA.of_own hy (by decide)
      clear hy hyr
      go_wp2_with (fail)
      refine (HC.out _).mono ?_
      rintro e w4 ⟨rfl, b4⟩
      have b04 := b03.next b4
      go_wp2_with (fail)
      go_ret
      exact ⟨by simp, b04⟩
  · rcases Nat.lt_or_ge m.length l.length with h | h
    all_goals
      have hbig : 1000 < l.length := by omega
      have hbig2 : 1000 < m.length := by omega
      clear hr hu hk hkl hkm h1
      go_enter Try.func6, Try.ntmps6
      go_wp2_with (fail)
      refine (falive_true _).mono ?_
      rintro e w1 ⟨rfl, b1⟩
      go_wp2_with (fail)
      go_ret
      exact ⟨rfl, b1⟩
end Go.Proofs.Ytgdcpgmbmppfgaa
