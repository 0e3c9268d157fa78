/-
  The statements on numbers (blindstamplaw02): each returns true, and writes nothing that was there.
-/
import Derived.Test.YtflkpodnfboobaaNumL
import Derived.Test.YtflkpodnfboobaaStr
namespace Go.Proofs.Ytflkpodnfboobaa
open Go.RowKit

set_option maxHeartbeats 1000000 in
set_option maxRecDepth 100000 in
theorem numTells_walk (n : Int) (v : Value) (l : List UInt8) (w : World) (hr : RdB w.heap.size w v l) :
    Calls Try.prog 4 #[.int .i64 n, v] w fun e w' => e = .returned (.bool true) ∧ Below w.heap.size w w' := by
  have q0 := str_of hr
  by_cases hl : l.length ≤ 10000
  · have hr0 := Lib.hid hr
    obtain ⟨ao, cap, rfl, hr⟩ := hr
    clear hr
    go_enter Try.func4, Try.ntmps4
    go_wp2_with (fail)
    clear q0
    refine (put_any n _).mono ?_
    rintro e w1 ⟨x, rfl, hx, b1⟩
    go_wp2_with (fail)
    refine (rput_any n _).mono ?_
    rintro e w2 ⟨y, rfl, hy, b2⟩
    have b12 := b1.next b2
    go_wp2_with (fail)
    refine (get_any _ l _ _ ((hr0.out.below b12)) (by omega)).mono ?_
    rintro e w3 ⟨rfl, rfl⟩
    go_wp2_with (fail)
    refine (rget_any _ l _ ((hr0.out.below b12).mono b12.size) (by omega)).mono ?_
    rintro e w4 ⟨rfl, b4⟩
    have b14 := b12.next b4
    have q1 := str_of (((RdB.own hx).below b2).below (b4.mono b2.size))
    have q2 := str_of ((RdB.own hy).below b4)
    go_wp2_with (fail)
    refine (size_any n _).mono ?_
    rintro e w5 ⟨rfl, rfl⟩
    go_wp2_with (fail)
    refine (rsize_any n _).mono ?_
    rintro e w6 ⟨rfl, b6⟩
    have b16 := b14.next b6
    have q3 := str_of (hr0.out.below b16)
    go_wp2_with (fail)
    go_ret
    exact ⟨by simp, b16⟩
  · obtain ⟨ao, cap, rfl, hr⟩ := hr
    clear hr
    go_enter Try.func4, Try.ntmps4
    go_wp2_with (fail)
    go_ret
    exact ⟨rfl, Below.refl _ _⟩

set_option maxHeartbeats 400000 in
set_option maxRecDepth 100000 in
theorem numBack_walk (n : Int) (v : Value) (l : List UInt8) (w : World) (hr : RdB w.heap.size w v l) :
    Calls Try.prog 5 #[.int .i64 n, v] w fun e w' => e = .returned (.bool true) ∧ Below w.heap.size w w' := by
  obtain ⟨i5, hi, hz0, hz1, hz2⟩ := info_parts info_u8
  by_cases hl : l.length ≤ 10000
  · have hr0 := Lib.hid hr
    obtain ⟨ao, cap, rfl, hr⟩ := hr
    have hr1 := Lib.hid hr
    have hcap := hr.2.1
    clear hr
    go_enter Try.func5, Try.ntmps5
    go_wp2_with (fail)
    refine (nalive_true _).mono ?_
    rintro e w0 ⟨rfl, b0⟩
    go_wp2_with (fail)
    refine (put_any n _).mono ?_
    rintro e w1 ⟨x, rfl, hx, b1⟩
    have b01 := b0.next b1
    by_cases hbad : n < 0 ∨ 72057594037927936 ≤ n
    · rw [show putC n = 2 from if_pos hbad]
      go_wp2_with (fail)
      obtain ⟨w3, e3⟩ : ∃ w3, w3 = w1 := ⟨_, rfl⟩
      subst e3
      have b03 := b01
      clear b01 b1 hx hbad
      rcases getM_form l with h | ⟨m, s, h, hs, hs1, hm, hp⟩
      · have C := get_any _ l _ _ (hr0.out.below b03) (by omega)
        rw [h] at C
        clear h
        refine C.mono ?_
        clear C
        rintro e w5 ⟨rfl, rfl⟩
        go_wp2_with (fail)
        go_ret
        exact ⟨rfl, b03⟩
      · have C := get_any _ l _ _ (hr0.out.below b03) (by omega)
        rw [h] at C
        clear h
        refine C.mono ?_
        clear C
        rintro e w5 ⟨rfl, rfl⟩
        go_wp2_with (fail)
        have D := put_any (m : Int) w3
        unfold PutPost at D
        rw [show putC (m : Int) = 0 from if_neg (by unfold badN; omega), show putB (m : Int) = l.take s from (if_neg (by unfold badN; omega)).trans (by rw [Int.toNat_natCast, hp])] at D
        clear hp hm
        refine D.mono ?_
        clear D
        rintro e w6 ⟨y, rfl, hy, b6⟩
        have b06 := b03.next b6
        obtain ⟨b, off, e, hbb, hc⟩ := hr1.out.at (by omega)
        subst e
        clear hc
        have q1 : ∀ nq, (convert 25 9 y).run Try.prog (w6.drewN nq) = .ok (.string ⟨(l.take s).toArray⟩) (w6.drewN nq) := fun nq => str_of ((RdB.own hy).below (below_drewN (Below.refl _ _) nq))
        have q2 : ∀ nq, (convert 25 9 (.slice (some ⟨b, off, none⟩) s cap)).run Try.prog (w6.drewN nq) = .ok (.string ⟨(l.take s).toArray⟩) (w6.drewN nq) := fun nq => str_of ((hr1.out.below (below_drewN b06 nq)).pre s hs (by omega))
        have i0 : (0 : Int) ≤ (s : Int) := by omega
        have i1 : (s : Int) ≤ (cap : Int) := by omega
        have i2 : (s : Int) ≤ (l.length : Int) := by omega
        clear hy
        go_wp2_with (fail)
        go_quiet (fail)
        go_wp2_with (fail)
        go_ret
        exact ⟨by simp, below_drewN b06 _⟩
    · rw [show putC n = 0 from if_neg hbad]
      have hpb : putB n = putL n.toNat := if_neg hbad
      have hp8 := putL_le n.toNat (by omega)
      have hg := getM_put n.toNat (by omega) l
      rw [Int.toNat_of_nonneg (by omega)] at hg
      rw [hpb] at hx
      generalize putL n.toNat = pl at *
      clear hpb hbad
      have hxr := RdB.own hx
      obtain ⟨ax, cx, rfl, hxr⟩ := hxr
      have HG := Lib.hid hg
      clear hg
      go_wp2_with (first
        | (at_builtin; refine wpList_append_rd rfl (.tmp 34) (.tmp 35) 25 rfl w1.heap.size 5 i5 (.int .u8 0) 1 1 Try.underlying25 hi hz0 hz1 hz2 rfl (by decide) _ _ _ rfl ho2 rfl (hr1.out.below b02) (bytes_one _) (by unfold maxLen; omega) (by omega) hg2.size ?_; intro v2 w3 ho3 hg3; have b03 : Below w.heap.size w w3 := b02.grown hg3 b02.size (fun j hj => Nat.le_trans b01.size (ho2.lt j hj).1); rw [← List.map_append, ← List.length_append] at ho3)
        | (at_builtin; refine wpList_append_rd rfl (.const (.slice none 0 0)) (.tmp 33) 25 rfl w1.heap.size 5 i5 (.int .u8 0) 1 1 Try.underlying25 hi hz0 hz1 hz2 rfl (by decide) _ _ _ rfl (World.ownsRow_nil _ _ _ _) rfl hxr (bytes_one _) (by unfold maxLen; omega) (by omega) (Nat.le_refl _) ?_; intro v1 w2 ho2 hg2; have b02 : Below w.heap.size w w2 := b01.grown hg2 b01.size (fun j hj => by cases hj); simp only [Nat.zero_add, List.nil_append] at ho2)
        | fail)
      have C := get_any _ (pl ++ l) _ _ (RdB.own ho3) (by simp; omega)
      rw [HG.out] at C
      refine C.mono ?_
      clear C
      rintro e w4 ⟨rfl, rfl⟩
      go_wp2_with (fail)
      clear ho2 ho3 hg2 hg3 b02 b01 b1 hx hxr
      rcases getM_form l with h | ⟨m, s, h, hs, hs1, hm, hp⟩
      · have C := get_any _ l _ _ (hr0.out.below b03) (by omega)
        rw [h] at C
        clear h
        refine C.mono ?_
        clear C
        rintro e w5 ⟨rfl, rfl⟩
        go_wp2_with (fail)
        go_ret
        exact ⟨rfl, b03⟩
      · have C := get_any _ l _ _ (hr0.out.below b03) (by omega)
        rw [h] at C
        clear h
        refine C.mono ?_
        clear C
        rintro e w5 ⟨rfl, rfl⟩
        go_wp2_with (fail)
        have D := put_any (m : Int) w3
        unfold PutPost at D
        rw [show putC (m : Int) = 0 from if_neg (by unfold badN; omega), show putB (m : Int) = l.take s from (if_neg (by unfold badN; omega)).trans (by rw [Int.toNat_natCast, hp])] at D
        clear hp hm
        refine D.mono ?_
        clear D
        rintro e w6 ⟨y, rfl, hy, b6⟩
        have b06 := b03.next b6
        obtain ⟨b, off, e, hbb, hc⟩ := hr1.out.at (by omega)
        subst e
        clear hc
        have q1 : ∀ nq, (convert 25 9 y).run Try.prog (w6.drewN nq) = .ok (.string ⟨(l.take s).toArray⟩) (w6.drewN nq) := fun nq => str_of ((RdB.own hy).below (below_drewN (Below.refl _ _) nq))
        have q2 : ∀ nq, (convert 25 9 (.slice (some ⟨b, off, none⟩) s cap)).run Try.prog (w6.drewN nq) = .ok (.string ⟨(l.take s).toArray⟩) (w6.drewN nq) := fun nq => str_of ((hr1.out.below (below_drewN b06 nq)).pre s hs (by omega))
        have i0 : (0 : Int) ≤ (s : Int) := by omega
        have i1 : (s : Int) ≤ (cap : Int) := by omega
        have i2 : (s : Int) ≤ (l.length : Int) := by omega
        clear hy
        go_wp2_with (fail)
        go_quiet (fail)
        go_wp2_with (fail)
        go_ret
        exact ⟨by simp, below_drewN b06 _⟩
  · obtain ⟨ao, cap, rfl, hr⟩ := hr
    clear hr
    go_enter Try.func5, Try.ntmps5
    go_wp2_with (fail)
    refine (nalive_true _).mono ?_
    rintro e w0 ⟨rfl, b0⟩
    go_wp2_with (fail)
    go_ret
    exact ⟨rfl, b0⟩
end Go.Proofs.Ytflkpodnfboobaa
