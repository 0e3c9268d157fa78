/-
  The reference's Get.
-/
import Derived.Test.YtgdcpgmbmppfgaaNumR
namespace Go.Proofs.Ytgdcpgmbmppfgaa
open Go.RowKit

set_option maxHeartbeats 1000000 in
set_option maxRecDepth 100000 in
theorem rget_any (v : Value) (l : List UInt8) (w : World) (hr : RdB w.heap.size w v l) (hl : l.length ≤ 1000000) :
    Calls Try.prog 27 #[v] w fun e w' => e = .returned (.tuple #[.int .i64 (getM l).1, .int .i64 (getM l).2.1, .int .i64 (getM l).2.2]) ∧ Below w.heap.size w w' := by
  obtain ⟨ao, cap, rfl, hr⟩ := hr
  have hcap := hr.2.1
  go_enter Try.func27, Try.ntmps27
  go_wp2
  go_loopg [5] 9 (fun g s5 wx => ∃ s : Nat, s + g = 10 ∧ 1 ≤ s ∧ s5 = .int .i64 s ∧ Hid (∀ s', 1 ≤ s' → s' < s → s' ≤ l.length → hits l s' = false) ∧ Below w.heap.size w wx)
  case atStart => exact ⟨1, by omega, by omega, rfl, by intro s' h1 h2; omega, Below.refl _ _⟩
  case round =>
    obtain ⟨s, hsg, hs1, rfl, HN, hbel⟩ := hrel
    generalize gk = g0 at *
    by_cases hlt : s ≤ 8 ∧ s ≤ l.length
    · obtain ⟨hs8, hsl⟩ := hlt
      have hr' := hr.below hbel
      obtain ⟨b, off, rfl, hbb, hc⟩ := hr'.at (by omega)
      obtain ⟨x, hx⟩ : ∃ x, l[0]? = some x := ⟨_, List.getElem?_eq_getElem (by omega)⟩
      have h0 : wr.cell? ⟨b, off, none⟩ = some (B8 x) := hc 0 _ (by simp [hx])
      have hcs : ∀ (j : Nat) y, l[j]? = some y → wr.cell? ⟨b, off + j, none⟩ = some (B8 y) := fun j y hj => hc j _ (by simp [hj])
      have HC := Lib.hid hcs
      clear hc hcs
      have hxA : s ≤ 1 → ((x.toNat : Nat) : Int) = (cand l s 1 : Nat) := fun h => by
        have e : s = 1 := by omega
        rw [e]; simp [cand, hx]
      have hxZ : 1 < s → (0 : Int) = (cand l s 1 : Nat) := fun h => by rw [cand, if_neg (by omega)]; simp [dec]
      have HA := Lib.hid hxA; have HZ := Lib.hid hxZ
      have hxb := x.toNat_lt
      have HR := Lib.hid hr
      clear hr hr' hx hxA hxZ
      rcases (show s ≤ 1 ∨ 1 < s by omega) with hone | hone
      all_goals
        go_wp2
        go_loopg [6, 7] (s - 1) (fun g2 s6 s7 wy => ∃ i : Nat, 1 ≤ i ∧ i + g2 = s ∧ s7 = .int .i64 i ∧ s6 = .int .i64 (cand l s i) ∧ wr = wy)
        case atStart => exact ⟨1, by omega, by omega, rfl, congrArg (Value.int .i64) (by first | exact HA.out hone | exact HZ.out hone), rfl⟩
        case round =>
          obtain ⟨i, hi1, his, rfl, rfl, rfl⟩ := hrel
          by_cases hlt : i < s
          · obtain ⟨y, hy⟩ : ∃ y, l[i]? = some y := ⟨_, List.getElem?_eq_getElem (by omega)⟩
            have hcell := HC.out i y hy
            have hst := Lib.hid (cand_step l s i y (by omega) hi1 hy)
            have hd := cand_smaller l s i hi1 (by omega)
            have hyb := y.toNat_lt
            clear hy
            generalize cand l s i = D at *
            go_wp2
            go_roundg (gk - 1)
            case rel => exact ⟨i + 1, by omega, by omega, by go_num, by rw [hst.out]; go_num, rfl⟩
            case measure => omega
          · have hisE : i = s := by omega
            subst hisE
            have hd := cand_small l i i hi1 hs8
            have hmat : hits l i = decide (putL (cand l i i) = l.take i) := by simp [hits, hd]
            have HM := Lib.hid hmat; clear hmat
            obtain ⟨X, hX⟩ : ∃ X : Int, X = ((cand l i i : Nat) : Int) := ⟨_, rfl⟩
            have hX0 : 0 ≤ X := by omega
            have hX1 : X < 72057594037927936 := by omega
            rw [← hX]
            have HX := Lib.hid (show cand l i i = X.toNat by omega)
            have hgd : decide (X < 72057594037927936) = true := by simpa using hX1
            have hi0 : (0 : Int) ≤ (i : Int) := by omega
            have hic : (i : Int) ≤ (cap : Int) := by omega
            clear hX hd
            have hstr : ∀ wx, Below w.heap.size w wx → (convert 23 9 (.slice (some ⟨b, off, none⟩) i cap)).run Try.prog wx = .ok (.string ⟨(l.take i).toArray⟩) wx := by
              intro wx hwx
              have h1 := (HR.out.below hwx).piece (by decide) 0 i cap (Nat.zero_le _) hsl (by omega) (Nat.le_refl _)
              have hcp : cap ≠ 0 := by omega
              have h2 : RdB w.heap.size wx (.slice (some ⟨b, off, none⟩) i cap) (l.take i) := by
                refine ⟨_, _, by rw [List.length_take, Nat.min_eq_left hsl], ?_⟩
                simpa [hcp, addr_add0, Nat.min_eq_left hsl] using h1
              exact run_str h2 _ _ 5 Try.underlying23 Try.underlying5 Try.underlying9
            have HS := Lib.hid hstr; clear hstr
            go_wp2_with fail
            go_cut [48] (fun s48 wx => s48 = .bool (hits l i) ∧ Below w.heap.size w wx)
            case first =>
              go_region_held (fun wx => (convert 23 9 (.slice (some ⟨b, off, none⟩) i cap)).run Try.prog wx = .ok (.string ⟨(l.take i).toArray⟩) wx)
                (first | exact HS.out _ hbel.drew | exact HS.out _ hb3)
                (first | (go_at_call 31; refine (rbytes_int _ _ (by omega) (by omega)).mono ?_; rintro e w1 ⟨v, rfl, hown, hb⟩; have hb3 : Below w.heap.size w w1 := hbel.drew.trans (hb.mono hbel.size); have hcv := run_str (P := Try.prog) (RdB.own hown) 23 9 5 Try.underlying23 Try.underlying5 Try.underlying9))
              all_goals (go_wp2_with fail; go_meet)
              all_goals exact ⟨by rw [HM.out, HX.out]; exact congrArg Value.bool (by rw [Bool.eq_iff_iff]; simp), hb3⟩
            case rest =>
              obtain ⟨rfl, hb2⟩ := hcut
              cases hH : hits l i with
              | true =>
                go_wp2
                go_ret3
                rw [getM_hit l i hi1 hs8 hsl hH, HX.out, Int.toNat_of_nonneg hX0]
                exact ⟨rfl, hb2⟩
              | false =>
                go_wp2
                go_roundg (g0 - 1)
                case rel => exact ⟨i + 1, by omega, by omega, by go_num, fun s' h1 h2 h3 => by
                  by_cases he : s' = i
                  · rw [he]; exact hH
                  · exact HN.out s' h1 (by omega) h3, hb2⟩
                case measure => omega
    · have hm : getM l = (0, 0, 8) := getM_miss l fun s' h1 h2 h3 => HN.out s' h1 (by omega) h3
      have HM := Lib.hid hm; clear hm hr
      rcases (show 8 < s ∨ (s ≤ 8 ∧ l.length < s) by omega) with h | ⟨h, h'⟩
      all_goals
        go_wp2
        go_ret3
        rw [HM.out]
        exact ⟨rfl, hbel⟩
end Go.Proofs.Ytgdcpgmbmppfgaa
