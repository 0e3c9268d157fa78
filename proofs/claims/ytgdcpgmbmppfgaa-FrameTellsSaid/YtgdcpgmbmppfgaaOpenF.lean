/-
  frame.Open: what a call returns.
-/
import Derived.Test.YtgdcpgmbmppfgaaSeal
namespace Go.Proofs.Ytgdcpgmbmppfgaa
open Go.RowKit

/-- What 'Open' leaves. -/
def OpenPost (w : World) (l : List UInt8) (e : Ending) (w' : World) : Prop :=
  ∃ v, e = .returned (.tuple #[v, .int .i64 (openC l)]) ∧ w'.ownsRow w.heap.size 5 1 v (openB l).length ((openB l).map B8) ∧ Below w.heap.size w w'
theorem openPost_none {w w' : World} {l : List UInt8} (h : openL l = none) (hb : Below w.heap.size w w') : OpenPost w l (.returned (.tuple #[.slice none 0 0, .int .i64 80])) w' := by
  refine ⟨.slice none 0 0, by simp [openC, h], ?_, hb⟩
  rw [show openB l = [] by simp [openB, h]]
  exact World.ownsRow_nil _ _ _ _

set_option maxHeartbeats 2000000 in
set_option maxRecDepth 100000 in
theorem open_any (v : Value) (l : List UInt8) (w : World) (hr : RdB w.heap.size w v l) (hl : l.length ≤ 1000000) :
    Calls Try.prog 14 #[v] w (OpenPost w l) := by
  have hr0 := Lib.hid hr
  obtain ⟨ao, cap, rfl, hr⟩ := hr
  by_cases h4 : l.length < 4
  · have H := Lib.hid (openL_short l (by omega))
    clear hr
    go_enter Try.func14, Try.ntmps14
    go_wp2_with (fail)
    go_ret2
    exact openPost_none H.out (Below.refl _ _)
  · obtain ⟨b, off, rfl, hbb, hc⟩ := hr.at (by omega)
    clear hc
    have hcap := hr.2.1
    have HR := Lib.hid hr
    have C1 := right_any _ l w hr0.out hl
    by_cases hs : sumOf l = 0
    · rw [show rightB l = true by simp [rightB, hs]; omega] at C1
      have HC1 := Lib.hid C1
      clear C1 hr
      rcases getM_form (l.drop 1) with hg | ⟨n, s, hg, hsl, hs1, hn, hp⟩
      · have H := Lib.hid (openL_bad l hg)
        have HG := Lib.hid hg
        clear hg
        go_enter Try.func14, Try.ntmps14
        go_wp2_with (fail)
        refine HC1.out.mono ?_
        rintro e w1 ⟨rfl, b1⟩
        go_wp2_with (fail)
        have C2 := get_any _ (l.drop 1) _ w1 ((HR.out.below b1).suf 1 (by omega) (by omega)) (by simp; omega)
        rw [HG.out] at C2
        refine C2.mono ?_
        clear C2
        rintro e w2 ⟨rfl, rfl⟩
        go_wp2_with (fail)
        go_ret2
        exact openPost_none H.out b1
      · have hs8 : s ≤ 8 := by
          have := putL_le n hn
          rw [hp, List.length_take] at this; omega
        have HG := Lib.hid hg
        rw [List.length_drop] at hsl
        clear hp
        by_cases hfar : l.length < 1 + s + n + 3
        · have H := Lib.hid (openL_far l n s hg hfar)
          have hni : (l.length : Int) - 1 - s - 3 < n := by omega
          obtain ⟨X, hX⟩ : ∃ X : Int, X = (n : Int) := ⟨_, rfl⟩
          have hX0 : 0 ≤ X := by omega
          have hX1 : X < 72057594037927936 := by omega
          rw [← hX] at hg hni
          have HG := Lib.hid hg
          clear hg hX hn hfar
          go_enter Try.func14, Try.ntmps14
          go_wp2_with (fail)
          refine HC1.out.mono ?_
          rintro e w1 ⟨rfl, b1⟩
          go_wp2_with (fail)
          have C2 := get_any _ (l.drop 1) _ w1 ((HR.out.below b1).suf 1 (by omega) (by omega)) (by simp; omega)
          rw [HG.out] at C2
          refine C2.mono ?_
          clear C2
          rintro e w2 ⟨rfl, rfl⟩
          go_wp2_with (fail)
          go_ret2
          exact openPost_none H.out b1
        · have hnear := openL_near l n s hg (by omega)
          have H := Lib.hid hnear
          have hnl : n ≤ 1000000 := by omega
          clear hg hnear hn
          obtain ⟨body, hbody⟩ : ∃ body, body = (l.drop (1 + s)).take n := ⟨_, rfl⟩
          have hbl : body.length = n := by rw [hbody]; simp; omega
          have HB := Lib.hid hbody
          have HBL := Lib.hid hbl
          clear hbody hbl
          go_enter Try.func14, Try.ntmps14
          go_wp2_with (fail)
          refine HC1.out.mono ?_
          rintro e w1 ⟨rfl, b1⟩
          go_wp2_with (fail)
          have C2 := get_any _ (l.drop 1) _ w1 ((HR.out.below b1).suf 1 (by omega) (by omega)) (by simp; omega)
          rw [HG.out] at C2
          refine C2.mono ?_
          clear C2
          rintro e w2 ⟨rfl, rfl⟩
          go_wp2_with (fail)
          refine (clone_any _ body w.heap.size w1 (by rw [HB.out]; exact (HR.out.below b1).mid (1 + s) n (by omega) (by omega)) b1.size (by rw [HBL.out]; omega)).mono ?_
          rintro e w3 ⟨x, rfl, hx, b3⟩
          have b03 := b1.next b3
          go_wp2_with (fail)
          have C4 := seal_any x body w3 (RdB.own hx) (by rw [HBL.out]; omega)
          unfold SealPost at C4
          by_cases hn1 : n ≤ 1000
          · rw [show sealC body = 0 from if_pos (by rw [HBL.out]; exact hn1), show sealB body = frameL body from if_pos (by rw [HBL.out]; exact hn1)] at C4
            refine C4.mono ?_
            clear C4
            rintro e w4 ⟨y, rfl, hy, b4⟩
            have b04 := b03.next b4
            go_wp2_with (fail)
            have C5 := equal_any y _ (frameL body) l _ _ w4 (RdB.own hy) (hr0.out.below b04)
            by_cases he : frameL body = l
            · rw [show (frameL body == l) = true by simpa using he] at C5
              refine C5.mono ?_
              clear C5
              rintro e w5 ⟨rfl, rfl⟩
              have HO := Lib.hid (show openL l = some body by rw [H.out, ← HB.out, if_pos ⟨hn1, he⟩])
              have hx2 := ownsRow_mono (ownsRow_below hx b4) b1.size
              clear he hx hy
              go_wp2_with (fail)
              go_ret2
              refine ⟨x, ?_, ?_, b04⟩
              · simp [openC, HO.out]
              · rw [show openB l = body by simp [openB, HO.out]]
                exact hx2
            · rw [show (frameL body == l) = false by simpa using he] at C5
              refine C5.mono ?_
              clear C5
              rintro e w5 ⟨rfl, rfl⟩
              have HO := Lib.hid (show openL l = none by rw [H.out, ← HB.out, if_neg (fun h => he h.2)])
              clear he hx hy
              go_wp2_with (fail)
              go_ret2
              exact openPost_none HO.out b04
          · rw [show sealC body = 4 from if_neg (by rw [HBL.out]; exact hn1), show sealB body = [] from if_neg (by rw [HBL.out]; exact hn1)] at C4
            refine C4.mono ?_
            clear C4
            rintro e w4 ⟨y, rfl, hy, b4⟩
            have b04 := b03.next b4
            have HO := Lib.hid (show openL l = none by rw [H.out, if_neg (fun h => hn1 h.1)])
            clear hx hy
            go_wp2_with (fail)
            go_ret2
            exact openPost_none HO.out b04
    · rw [show rightB l = false by simp [rightB, hs]] at C1
      have HC1 := Lib.hid C1
      have H := Lib.hid (openL_wrong l hs)
      clear C1 hr
      go_enter Try.func14, Try.ntmps14
      go_wp2_with (fail)
      refine HC1.out.mono ?_
      rintro e w1 ⟨rfl, b1⟩
      go_wp2_with (fail)
      go_ret2
      exact openPost_none H.out b1
end Go.Proofs.Ytgdcpgmbmppfgaa
