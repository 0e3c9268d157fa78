/-
  The reference of frame.Open, and the small functions of the statements on frames (blindstamplaw08).
-/
import Derived.Test.YtgdcpgmbmppfgaaFrameR
import Derived.Test.YtgdcpgmbmppfgaaNumRG
namespace Go.Proofs.Ytgdcpgmbmppfgaa
open Go.RowKit

set_option maxHeartbeats 2000000 in
set_option maxRecDepth 100000 in
theorem ropen_any (v : Value) (l : List UInt8) (w : World) (hr : RdB w.heap.size w v l) (hl : l.length ≤ 1000000) :
    Calls Try.prog 15 #[v] w (OpenPost w l) := by
  obtain ⟨i5, hi, hz0, hz1, hz2⟩ := info_parts info_u8
  have hr0 := Lib.hid hr
  obtain ⟨ao, cap, rfl, hr⟩ := hr
  by_cases hodd : l.length ≠ 64 ∧ l.length ≠ 256 ∧ l.length ≠ 1024
  · have H := Lib.hid (openL_odd l hodd)
    obtain ⟨o1, o2, o3⟩ := hodd
    have t1 : ((l.length : Int) == 64) = false := by simp; omega
    have t2 : ((l.length : Int) == 256) = false := by simp; omega
    have t3 : ((l.length : Int) == 1024) = false := by simp; omega
    have u1 : ((l.length : Int) != 64) = true := by simp; omega
    have u2 : ((l.length : Int) != 256) = true := by simp; omega
    have u3 : ((l.length : Int) != 1024) = true := by simp; omega
    clear hr o1 o2 o3
    go_enter Try.func15, Try.ntmps15
    go_wp2_with (fail)
    go_ret2
    exact openPost_none H.out (Below.refl _ _)
  · have hlen : l.length = 64 ∨ l.length = 256 ∨ l.length = 1024 := by omega
    obtain ⟨b, off, rfl, hbb, hc⟩ := hr.at (by omega)
    clear hc hodd
    have hcap := hr.2.1
    have HR := Lib.hid hr
    clear hr
    -- what stands behind the first test, for whichever length
    have hstr : ∀ wx, Below w.heap.size w wx → (convert 23 9 (.slice (some ⟨b, off, none⟩) l.length cap)).run Try.prog wx = .ok (.string ⟨l.toArray⟩) wx := fun wx hwx => str_of (hr0.out.below hwx)
    have HSTR := Lib.hid hstr
    clear hstr
    have hl64 : 64 ≤ l.length := by omega
    have hl1024 : l.length ≤ 1024 := by omega
    obtain ⟨L, hL⟩ : ∃ L, L = l.length := ⟨_, rfl⟩
    have htest : ((((L : Int) == 64) = true ∧ ((L : Int) != 64) = false) ∨ (((L : Int) == 64) = false ∧ ((L : Int) != 64) = true ∧ ((L : Int) == 256) = true ∧ ((L : Int) != 256) = false) ∨ (((L : Int) == 64) = false ∧ ((L : Int) != 64) = true ∧ ((L : Int) == 256) = false ∧ ((L : Int) != 256) = true ∧ ((L : Int) == 1024) = true ∧ ((L : Int) != 1024) = false)) := by
      rcases hlen with h | h | h <;> rw [hL, h] <;> simp
    rw [hL] at htest
    clear hlen hL L
    rcases getM_form (l.drop 1) with hg | ⟨n, s, hg, hsl, hs1, hn, hp⟩
    · have H := Lib.hid (openL_bad l hg)
      have HG := Lib.hid hg
      clear hg
      rcases htest with ⟨t1, u1⟩ | ⟨t1, u1, t2, u2⟩ | ⟨t1, u1, t2, u2, t3, u3⟩
      all_goals
        go_enter Try.func15, Try.ntmps15
        go_wp2_with (fail)
        have C2 := rget_any _ (l.drop 1) w ((HR.out).suf 1 (by omega) (by omega)) (by simp; omega)
        rw [HG.out] at C2
        refine C2.mono ?_
        clear C2
        rintro e w2 ⟨rfl, b2⟩
        go_wp2_with (fail)
        go_ret2
        exact openPost_none H.out b2
    · have hs8 : s ≤ 8 := by
        have := putL_le n hn
        rw [hp, List.length_take] at this; omega
      have HG := Lib.hid hg
      rw [List.length_drop] at hsl
      clear hp
      by_cases hbig : 1000 < n
      · have H := Lib.hid (openL_big l n s hg hbig)
        obtain ⟨X, hX⟩ : ∃ X : Int, X = (n : Int) := ⟨_, rfl⟩
        have hX0 : 1000 < X := by omega
        have hX1 : X < 72057594037927936 := by omega
        rw [← hX] at hg
        have HG := Lib.hid hg
        clear hg hX hn hbig
        rcases htest with ⟨t1, u1⟩ | ⟨t1, u1, t2, u2⟩ | ⟨t1, u1, t2, u2, t3, u3⟩
        all_goals
          go_enter Try.func15, Try.ntmps15
          go_wp2_with (fail)
          have C2 := rget_any _ (l.drop 1) w ((HR.out).suf 1 (by omega) (by omega)) (by simp; omega)
          rw [HG.out] at C2
          refine C2.mono ?_
          clear C2
          rintro e w2 ⟨rfl, b2⟩
          go_wp2_with (fail)
          go_ret2
          exact openPost_none H.out b2
      · by_cases hfar : l.length < 1 + s + n
        · have H := Lib.hid (openL_far2 l n s hg hfar)
          have hn1 : n ≤ 1000 := by omega
          clear hg hn hbig
          rcases htest with ⟨t1, u1⟩ | ⟨t1, u1, t2, u2⟩ | ⟨t1, u1, t2, u2, t3, u3⟩
          all_goals
            go_enter Try.func15, Try.ntmps15
            go_wp2_with (fail)
            have C2 := rget_any _ (l.drop 1) w ((HR.out).suf 1 (by omega) (by omega)) (by simp; omega)
            rw [HG.out] at C2
            refine C2.mono ?_
            clear C2
            rintro e w2 ⟨rfl, b2⟩
            go_wp2_with (fail)
            go_ret2
            exact openPost_none H.out b2
        · have hn1 : n ≤ 1000 := by omega
          have H := Lib.hid (openL_near2 l n s hg hn1 (by omega))
          clear hg hn hbig
          obtain ⟨body, hbody⟩ : ∃ body, body = (l.drop (1 + s)).take n := ⟨_, rfl⟩
          have hbl : body.length = n := by rw [hbody]; simp; omega
          have HB := Lib.hid hbody
          have HBL := Lib.hid hbl
          clear hbody hbl
          have hcs : (1 : Int) + s ≤ cap := by omega
          rcases htest with ⟨t1, u1⟩ | ⟨t1, u1, t2, u2⟩ | ⟨t1, u1, t2, u2, t3, u3⟩
          all_goals
            go_enter Try.func15, Try.ntmps15
            go_wp2_with (fail)
            have C2 := rget_any _ (l.drop 1) w ((HR.out).suf 1 (by omega) (by omega)) (by simp; omega)
            rw [HG.out] at C2
            refine C2.mono ?_
            clear C2
            rintro e w2 ⟨rfl, b2⟩
            have hmid := (HR.out.below b2).mid (1 + s) n (by omega) (by omega)
            rw [← HB.out] at hmid
            have hcc : ¬ cap = 1 + s := by omega
            have hmr : RdA w.heap.size w2 1 (some ⟨b, off + (1 + s), none⟩) (1 + s + n - (1 + s)) (cap - (1 + s)) (body.map B8) := by
              rw [Nat.add_sub_cancel_left]
              obtain ⟨mo, mc, em, hmr⟩ := hmid
              cases em
              rw [← HBL.out]; exact hmr
            clear hmid
            go_wp2_with (at_builtin; (refine wpList_append_rd rfl (.const (.slice none 0 0)) (.tmp 50) 23 rfl w2.heap.size 5 i5 (.int .u8 0) 1 1 Try.underlying23 hi hz0 hz1 hz2 rfl (by decide) _ _ _ rfl (World.ownsRow_nil _ _ _ _) rfl hmr (bytes_one _) (by unfold maxLen; omega) (by omega) (Nat.le_refl _) ?_); intro v3 w3 ho3 hg3)
            have b03 : Below w.heap.size w w3 := b2.grown hg3 b2.size (fun j hj => by cases hj)
            have hb3 := RdB.owned body ho3 (by simp)
            have hS0 := fun wx (h : Below w3.heap.size w3 wx) => HSTR.out wx (b03.next h)
            have HS0 := Lib.hid hS0
            have ho3' := Lib.hid ho3
            clear hmr hS0 ho3
            go_region_held (fun wx => (convert 23 9 (.slice (some ⟨b, off, none⟩) l.length cap)).run Try.prog wx = .ok (.string ⟨l.toArray⟩) wx)
              (first | exact HS0.out _ (Below.refl _ _).drew | exact HS0.out _ ((Below.refl _ _).drew.trans b4))
              (first | (go_at_call 22; refine (framed_any _ body w3.drew (hb3.below (Below.refl _ _).drew) (by rw [HBL.out]; exact hn1)).mono ?_; rintro e w4 ⟨y, rfl, hy, b4⟩; have hcv := str_of (RdB.own hy)))
            all_goals
              have b04 : Below w.heap.size w w4 := b03.trans (((Below.refl _ _).drew.trans b4).mono b03.size)
              have ho4 := ownsRow_mono (ownsRow_below ho3'.out ((Below.refl _ _).drew.trans b4)) b2.size
              clear hb3 hy
              go_wp2_with (fail)
              · have he : ¬ frameL body = l := by
                  have h : (!frameL body == l) = true := by assumption
                  simpa using h
                have HO := Lib.hid (show openL l = none by rw [H.out, ← HB.out, if_neg he])
                go_ret2
                exact openPost_none HO.out b04
              · have he : frameL body = l := by
                  have h : (!frameL body == l) = false := by assumption
                  simpa using h
                have HO := Lib.hid (show openL l = some body by rw [H.out, ← HB.out, if_pos he])
                have HBL2 := Lib.hid (show openB l = body by simp [openB, HO.out])
                have ho5 : w4.ownsRow w.heap.size 5 1 v3 body.length (body.map B8) := by rw [HBL.out]; rw [Nat.zero_add, List.nil_append, Nat.add_sub_cancel_left] at ho4; exact ho4
                go_ret2
                refine ⟨v3, by simp [openC, HO.out], ?_, b04⟩
                rw [HBL2.out]
                exact ho5
end Go.Proofs.Ytgdcpgmbmppfgaa
