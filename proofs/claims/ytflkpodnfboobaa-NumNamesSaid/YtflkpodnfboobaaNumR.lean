/-
  The reference of package num (blindstampref02): what each call returns.
-/
import Derived.Test.YtflkpodnfboobaaNumG
namespace Go.Proofs.Ytflkpodnfboobaa
open Go.RowKit

/-- What a call leaves that makes bytes. -/
def Makes (l : List UInt8) (w : World) (e : Ending) (w' : World) : Prop :=
  ∃ v, e = .returned v ∧ w'.ownsRow w.heap.size 5 1 v l.length (l.map B8) ∧ Below w.heap.size w w'

set_option maxHeartbeats 1000000 in
set_option maxRecDepth 100000 in
theorem rbytes_any (n : Nat) (w : World) (hn : n < 9223372036854775808) : Calls Try.prog 18 #[.int .i64 n] w (Makes (putL n) w) := by
  by_cases h : n < 248
  · have e : putL n = [UInt8.ofNat n] := if_pos h
    have H := Lib.hid e; clear e
    go_enter Try.func18, Try.ntmps18
    go_wp2
    go_ret
    unfold Makes
    rw [H.out]
    have he : [UInt8.ofNat n].map B8 = [.int .u8 n] := by simp [B8, UInt8.toNat_ofNat']; omega
    rw [he]
    exact ⟨_, rfl, World.ownsRow_lit w #[_] 1 (Nat.le_refl _) (by decide) rfl, (Below.refl _ _).alloc (Nat.le_refl _) _⟩
  · have e : putL n = UInt8.ofNat (247 + fol n) :: be n (fol n) := if_neg h
    have h8 := fol_le 7 n (by omega)
    have hf : fol0 n = fol n := if_neg (by omega)
    have H := Lib.hid e; have HF := Lib.hid hf; clear e hf
    obtain ⟨i5, hi, hz0, hz1, hz2⟩ := info_parts info_u8
    go_enter Try.func18, Try.ntmps18
    go_wp2
    go_loopg [3, 4, 5] n (fun g s3 s4 s5 wx => ∃ k : Nat, k + fol0 g = fol n ∧ k ≤ 8 ∧ g < 9223372036854775808 ∧ s4 = .int .i64 (247 + k) ∧ s5 = .int .i64 g ∧ Hid (g = n / 256 ^ k) ∧ wx.ownsRow w.heap.size 5 1 s3 k ((be n k).map B8) ∧ Below w.heap.size w wx)
    case atStart => exact ⟨0, by rw [HF.out]; simp, by omega, hn, rfl, rfl, by simp [Hid], World.ownsRow_nil _ _ _ _, Below.refl _ _⟩
    case round =>
      obtain ⟨k, hk, hk8, hg, rfl, rfl, HG, hown, hbel⟩ := hrel
      generalize gk = m at *
      by_cases hm : 0 < m
      · have hs := fol0_step m hm
        obtain ⟨ao, cap, e, hrd⟩ := RdA.of_own hown (by decide)
        subst e
        have hx := RdA.lit wr #[.int .u8 ((m : Int) % 256)] 5 1 1 rfl (by decide)
        have ho := World.ownsRow_lit (base := w.heap.size) (size := 1) (e := 5) wr #[.int .u8 ((m : Int) % 256)] 1 hbel.size (by decide) rfl
        have hs' := Lib.hid hs; have hk' := Lib.hid hk
        clear hk hs
        go_wp2_with (at_builtin; refine wpList_append_rd rfl _ _ 25 rfl w.heap.size 5 i5 (.int .u8 0) 1 1 Try.underlying25 hi hz0 hz1 hz2 rfl (by decide) _ _ _ rfl ho rfl (hrd.alloc (Nat.le_refl _) _) (bytes_one _) (by unfold maxLen; omega) (by omega) (by simp; have := hbel.size; omega) ?_; intro v' w1 hown' hg)
        have hb1 : Below w.heap.size w w1 := (hbel.alloc hbel.size _).grown hg (by simp; have := hbel.size; omega) (fun j hj => by cases hj; exact hbel.size)
        have hl : [.int .u8 ((m : Int) % 256)] ++ (be n k).map B8 = (be n (k + 1)).map B8 := by
          rw [← be_push n k m HG.out]; simp [B8, UInt8.toNat_ofNat']
        rw [hl, Nat.add_comm] at hown'
        have hk1 := hk'.out
        rw [hs'.out] at hk1
        go_roundg (m / 256)
        case rel => exact ⟨k + 1, by omega, by omega, by omega, by go_num, by go_num, div_step n k m HG.out, hown', hb1⟩
        case measure => omega
      · have hm0 : m = 0 := by omega
        subst hm0
        have hk1 : k = fol n := by simpa [fol0] using hk
        have HK := Lib.hid hk1
        clear hk hk1
        obtain ⟨ao, cap, e, hrd⟩ := RdA.of_own hown (by decide)
        subst e
        have ho := World.ownsRow_lit (base := w.heap.size) (size := 1) (e := 5) wr #[.int .u8 (247 + (k : Int))] 1 hbel.size (by decide) rfl
        go_wp2_with (at_builtin; refine wpList_append_rd rfl _ _ 25 rfl w.heap.size 5 i5 (.int .u8 0) 1 1 Try.underlying25 hi hz0 hz1 hz2 rfl (by decide) _ _ _ rfl ho rfl (hrd.alloc (Nat.le_refl _) _) (bytes_one _) (by unfold maxLen; omega) (by omega) (by simp; have := hbel.size; omega) ?_; intro v' w1 hown' hg)
        have hb1 : Below w.heap.size w w1 := (hbel.alloc hbel.size _).grown hg (by simp; have := hbel.size; omega) (fun j hj => by cases hj; exact hbel.size)
        go_ret
        unfold Makes
        rw [H.out, ← HK.out]
        refine ⟨_, rfl, ?_, hb1⟩
        have hl : (UInt8.ofNat (247 + k) :: be n k).map B8 = [.int .u8 (247 + (k : Int))] ++ (be n k).map B8 := by simp [B8, UInt8.toNat_ofNat']; omega
        rw [hl, List.length_cons, be_length, Nat.add_comm]
        exact hown'
theorem rbytes_int (n : Int) (w : World) (h0 : 0 ≤ n) (hn : n < 9223372036854775808) : Calls Try.prog 18 #[.int .i64 n] w (Makes (putL n.toNat) w) := by
  obtain ⟨m, rfl⟩ := Int.eq_ofNat_of_zero_le h0
  exact rbytes_any m w (by omega)

set_option maxHeartbeats 1000000 in
set_option maxRecDepth 100000 in
theorem rput_any (n : Int) (w : World) : Calls Try.prog 12 #[.int .i64 n] w (PutPost w n) := by
  by_cases h : n < 0 ∨ 72057594037927936 ≤ n
  · have H1 := Lib.hid (show putC n = 2 from if_pos h)
    have H2 := Lib.hid (show putB n = [] from if_pos h)
    rcases h with h | h
    all_goals
      go_enter Try.func12, Try.ntmps12
      go_wp2
      go_ret2
      unfold PutPost
      rw [H1.out, H2.out]
      exact ⟨_, rfl, World.ownsRow_nil _ _ _ _, Below.refl _ _⟩
  · have H1 := Lib.hid (show putC n = 0 from if_neg h)
    have H2 := Lib.hid (show putB n = putL n.toNat from if_neg h)
    have h1 : 0 ≤ n := by omega
    have h2 : n < 72057594037927936 := by omega
    clear h
    go_enter Try.func12, Try.ntmps12
    go_wp2_with (go_at_call 18; refine (rbytes_int _ _ (by omega) (by omega)).mono ?_; rintro e w' ⟨v, rfl, hown, hb⟩)
    go_ret2
    unfold PutPost
    rw [H1.out, H2.out]
    exact ⟨_, rfl, hown, hb⟩

set_option maxHeartbeats 1000000 in
set_option maxRecDepth 100000 in
theorem rget_any (v : Value) (l : List UInt8) (w : World) (hr : RdB w.heap.size w v l) (hl : l.length ≤ 1000000) :
    Calls Try.prog 13 #[v] w fun e w' => e = .returned (.tuple #[.int .i64 (getM l).1, .int .i64 (getM l).2.1, .int .i64 (getM l).2.2]) ∧ Below w.heap.size w w' := by
  obtain ⟨ao, cap, rfl, hr⟩ := hr
  have hcap := hr.2.1
  go_enter Try.func13, Try.ntmps13
  go_wp2
  go_loopg [5] 9 (fun g s5 wx => ∃ s : Nat, s + g = 10 ∧ 1 ≤ s ∧ s5 = .int .i64 s ∧ Hid (∀ s', 1 ≤ s' → s' < s → s' ≤ l.length → hits l s' = false) ∧ Below w.heap.size w wx)
  case atStart => exact ⟨1, by omega, by omega, rfl, by intro s' h1 h2; omega, Below.refl _ _⟩
  case round =>
    obtain ⟨s, hsg, hs1, rfl, HN, hbel⟩ := hrel
    generalize gk = g0 at *
    by_cases hlt : s ≤ 8 ∧ s ≤ l.length
    · obtain ⟨hs8, hsl⟩ := hlt
      have hr' := hr.below hbel
      obtain ⟨b, off, rfl, hbb, hc⟩ := hr'.at (by omega)
      obtain ⟨x, hx⟩ : ∃ x, l[0]? = some x := ⟨_, List.getElem?_eq_getElem (by omega)⟩
      have h0 : wr.cell? ⟨b, off, none⟩ = some (B8 x) := hc 0 _ (by simp [hx])
      have hcs : ∀ (j : Nat) y, l[j]? = some y → wr.cell? ⟨b, off + j, none⟩ = some (B8 y) := fun j y hj => hc j _ (by simp [hj])
      have HC := Lib.hid hcs
      clear hc hcs
      have hxA : s ≤ 1 → ((x.toNat : Nat) : Int) = (cand l s 1 : Nat) := fun h => by
        have e : s = 1 := by omega
        rw [e]; simp [cand, hx]
      have hxZ : 1 < s → (0 : Int) = (cand l s 1 : Nat) := fun h => by rw [cand, if_neg (by omega)]; simp [dec]
      have HA := Lib.hid hxA; have HZ := Lib.hid hxZ
      have hxb := x.toNat_lt
      have HR := Lib.hid hr
      clear hr hr' hx hxA hxZ
      rcases (show s ≤ 1 ∨ 1 < s by omega) with hone | hone
      all_goals
        go_wp2
        go_loopg [6, 7] (s - 1) (fun g2 s6 s7 wy => ∃ i : Nat, 1 ≤ i ∧ i + g2 = s ∧ s7 = .int .i64 i ∧ s6 = .int .i64 (cand l s i) ∧ wr = wy)
        case atStart => exact ⟨1, by omega, by omega, rfl, congrArg (Value.int .i64) (by first | exact HA.out hone | exact HZ.out hone), rfl⟩
        case round =>
          obtain ⟨i, hi1, his, rfl, rfl, rfl⟩ := hrel
          by_cases hlt : i < s
          · obtain ⟨y, hy⟩ : ∃ y, l[i]? = some y := ⟨_, List.getElem?_eq_getElem (by omega)⟩
            have hcell := HC.out i y hy
            have hst := Lib.hid (cand_step l s i y (by omega) hi1 hy)
            have hd := cand_smaller l s i hi1 (by omega)
            have hyb := y.toNat_lt
            clear hy
            generalize cand l s i = D at *
            go_wp2
            go_roundg (gk - 1)
            case rel => exact ⟨i + 1, by omega, by omega, by go_num, by rw [hst.out]; go_num, rfl⟩
            case measure => omega
          · have hisE : i = s := by omega
            subst hisE
            have hd := cand_small l i i hi1 hs8
            have hmat : hits l i = decide (putL (cand l i i) = l.take i) := by simp [hits, hd]
            have HM := Lib.hid hmat; clear hmat
            obtain ⟨X, hX⟩ : ∃ X : Int, X = ((cand l i i : Nat) : Int) := ⟨_, rfl⟩
            have hX0 : 0 ≤ X := by omega
            have hX1 : X < 72057594037927936 := by omega
            rw [← hX]
            have HX := Lib.hid (show cand l i i = X.toNat by omega)
            have hgd : decide (X < 72057594037927936) = true := by simpa using hX1
            have hi0 : (0 : Int) ≤ (i : Int) := by omega
            have hic : (i : Int) ≤ (cap : Int) := by omega
            clear hX hd
            have hstr : ∀ wx, Below w.heap.size w wx → (convert 25 9 (.slice (some ⟨b, off, none⟩) i cap)).run Try.prog wx = .ok (.string ⟨(l.take i).toArray⟩) wx := by
              intro wx hwx
              have h1 := (HR.out.below hwx).piece (by decide) 0 i cap (Nat.zero_le _) hsl (by omega) (Nat.le_refl _)
              have hcp : cap ≠ 0 := by omega
              have h2 : RdB w.heap.size wx (.slice (some ⟨b, off, none⟩) i cap) (l.take i) := by
                refine ⟨_, _, by rw [List.length_take, Nat.min_eq_left hsl], ?_⟩
                simpa [hcp, addr_add0, Nat.min_eq_left hsl] using h1
              exact run_str h2 _ _ 5 Try.underlying25 Try.underlying5 Try.underlying9
            have HS := Lib.hid hstr; clear hstr
            go_wp2_with fail
            go_cut [48] (fun s48 wx => s48 = .bool (hits l i) ∧ Below w.heap.size w wx)
            case first =>
              go_region_held (fun wx => (convert 25 9 (.slice (some ⟨b, off, none⟩) i cap)).run Try.prog wx = .ok (.string ⟨(l.take i).toArray⟩) wx)
                (first | exact HS.out _ hbel.drew | exact HS.out _ hb3)
                (first | (go_at_call 18; refine (rbytes_int _ _ (by omega) (by omega)).mono ?_; rintro e w1 ⟨v, rfl, hown, hb⟩; have hb3 : Below w.heap.size w w1 := hbel.drew.trans (hb.mono hbel.size); have hcv := run_str (P := Try.prog) (RdB.own hown) 25 9 5 Try.underlying25 Try.underlying5 Try.underlying9))
              all_goals (go_wp2_with fail; go_meet)
              all_goals exact ⟨by rw [HM.out, HX.out]; exact congrArg Value.bool (by rw [Bool.eq_iff_iff]; simp), hb3⟩
            case rest =>
              obtain ⟨rfl, hb2⟩ := hcut
              cases hH : hits l i with
              | true =>
                go_wp2
                go_ret3
                rw [getM_hit l i hi1 hs8 hsl hH, HX.out, Int.toNat_of_nonneg hX0]
                exact ⟨rfl, hb2⟩
              | false =>
                go_wp2
                go_roundg (g0 - 1)
                case rel => exact ⟨i + 1, by omega, by omega, by go_num, fun s' h1 h2 h3 => by
                  by_cases he : s' = i
                  · rw [he]; exact hH
                  · exact HN.out s' h1 (by omega) h3, hb2⟩
                case measure => omega
    · have hm : getM l = (0, 0, 8) := getM_miss l fun s' h1 h2 h3 => HN.out s' h1 (by omega) h3
      have HM := Lib.hid hm; clear hm hr
      rcases (show 8 < s ∨ (s ≤ 8 ∧ l.length < s) by omega) with h | ⟨h, h'⟩
      all_goals
        go_wp2
        go_ret3
        rw [HM.out]
        exact ⟨rfl, hbel⟩
end Go.Proofs.Ytflkpodnfboobaa
