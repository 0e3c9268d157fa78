/-
  Package num, function by function: what each call returns.
-/
import Derived.Test.YtgdcpgmbmppfgaaBase
import Derived.Test.YtgdcpgmbmppfgaaNumM
namespace Go.Proofs.Ytgdcpgmbmppfgaa
open Go.RowKit

theorem info_u8 : (Try.prog.info? 5).map (fun i => (i.zero, i.size, i.bytes)) = some (some (.int .u8 0), 1, 1) := by kernel_rfl

set_option maxHeartbeats 400000 in
theorem follow_nat (n : Nat) (w : World) (h : n < 9223372036854775808) :
    Calls Try.prog 30 #[.int .i64 n] w fun e w' => e = .returned (.int .i64 (fol n)) ∧ w = w' := by
  have h8 := fol_le 7 n (by omega)
  go_enter Try.func30, Try.ntmps30
  go_wp2
  go_step3
  go_wp2
  go_step3
  go_wp2
  go_loopg [0, 2] n (fun g s0 s2 wx => ∃ k : Nat, g < 9223372036854775808 ∧ k + fol g ≤ 8 ∧ s0 = .int .i64 g ∧ s2 = .int .i64 k ∧ Hid (k + fol g = fol n) ∧ w = wx)
  case atStart => exact ⟨0, h, by omega, rfl, rfl, by simp [Hid], rfl⟩
  case round =>
    obtain ⟨k, hm, hk, rfl, rfl, H, rfl⟩ := hrel
    generalize gk = m at *
    have hp := fol_pos m
    by_cases hlt : m < 256
    · have hf : fol m = 1 := by unfold fol; simp [hlt]
      have HF := Lib.hid hf; clear hf
      go_wp2
      rw [Exit.noGoto_ret]; go_ret
      exact ⟨by rw [← H.out, HF.out]; rfl, rfl⟩
    · have hf : fol m = 1 + fol (m / 256) := by rw [fol]; simp [hlt]
      have HF := Lib.hid hf; clear hf
      go_wp2
      go_roundg (m / 256)
      case rel => exact ⟨k + 1, by omega, by rw [HF.out] at hk; omega, by go_num, by go_num, by have := H.out; rw [HF.out] at this; show _ = _; omega, rfl⟩
      case measure => omega
theorem follow_int (n : Int) (w : World) (h : 0 ≤ n) (h' : n < 9223372036854775808) :
    Calls Try.prog 30 #[.int .i64 n] w fun e w' => e = .returned (.int .i64 (fol n.toNat)) ∧ w = w' := by
  obtain ⟨m, rfl⟩ := Int.eq_ofNat_of_zero_le h
  exact follow_nat m w (by omega)

set_option maxHeartbeats 400000 in
set_option maxRecDepth 100000 in
theorem size_any (n : Int) (w : World) :
    Calls Try.prog 21 #[.int .i64 n] w fun e w' => e = .returned (.int .i64 (sizeM n)) ∧ w = w' := by
  by_cases h : n < 0 ∨ 72057594037927936 ≤ n
  · have hs : sizeM n = 0 := by simp [sizeM, h]
    rw [hs]; clear hs
    rcases h with h | h
    all_goals
      go_enter Try.func21, Try.ntmps21
      go_wp2
      go_ret
      exact ⟨rfl, rfl⟩
  · have h1 : 0 ≤ n := by omega
    have h2 : n < 72057594037927936 := by omega
    by_cases h3 : n < 248
    · have hs : sizeM n = 1 := by simp [sizeM, h, h3]
      rw [hs]; clear hs h
      go_enter Try.func21, Try.ntmps21
      go_wp2
      go_ret
      exact ⟨rfl, rfl⟩
    · have hs : sizeM n = 1 + fol n.toNat := by simp [sizeM, h, h3]
      rw [hs]; clear hs h
      have h8 := fol_le 6 n.toNat (by omega)
      have C := follow_int n w h1 (by omega)
      generalize fol n.toNat = K at *
      have HC := Lib.hid C; clear C
      go_enter Try.func21, Try.ntmps21
      go_wp2_with (go_at_call 30; refine HC.out.mono ?_; rintro e w' ⟨rfl, rfl⟩)
      go_ret
      exact ⟨rfl, rfl⟩

set_option maxHeartbeats 1000000 in
set_option maxRecDepth 100000 in
theorem join_any (ls : List (List UInt8)) (b cap : Nat) (vs : List Value) (w : World) (hl : vs.length = ls.length) (hb : b < w.heap.size)
    (hc : ∀ (j : Nat) v, vs[j]? = some v → w.cell? ⟨b, j, none⟩ = some v) (hr : ∀ (j : Nat) v l, vs[j]? = some v → ls[j]? = some l → RdB w.heap.size w v l) (hs : (ls.flatten).length ≤ 1000000) (hs' : ls.length ≤ 1000000) :
    Calls Try.prog 29 #[.slice (some ⟨b, 0, none⟩) vs.length cap] w fun e w' => ∃ v, e = .returned v ∧ w'.ownsRow w.heap.size 5 1 v ls.flatten.length (ls.flatten.map B8) ∧ Below w.heap.size w w' := by
  obtain ⟨i5, hi, hz0, hz1, hz2⟩ := info_parts info_u8
  generalize hn : vs.length = n at *
  have HN := Lib.hid hn; have HL := Lib.hid hl; clear hn hl
  have HC := Lib.hid hc; have HR := Lib.hid hr; clear hc hr
  go_enter Try.func29, Try.ntmps29
  go_wp2
  go_loopg [2, 7] n (fun g s2 s7 wx => ∃ k : Nat, k + g = n ∧ s7 = .int .i64 k ∧ wx.ownsRow w.heap.size 5 1 s2 (ls.take k).flatten.length ((ls.take k).flatten.map B8) ∧ Below w.heap.size w wx)
  case atStart => exact ⟨0, by omega, rfl, World.ownsRow_nil _ _ _ _, Below.refl _ _⟩
  case round =>
    obtain ⟨k, hk, rfl, hown, hbel⟩ := hrel
    have hn' : n ≤ 1000000 := by have := HL.out; omega
    by_cases hlt : k < n
    · obtain ⟨v, hv⟩ : ∃ v, vs[k]? = some v := ⟨_, List.getElem?_eq_getElem (by rw [HN.out]; exact hlt)⟩
      obtain ⟨l, hll⟩ : ∃ l, ls[k]? = some l := ⟨_, List.getElem?_eq_getElem (by have := HL.out; omega)⟩
      have hcell := (hbel.cell (p := ⟨b, k, none⟩) hb).trans (HC.out k v hv)
      obtain ⟨ao, cp, rfl, hrd⟩ := HR.out k v l hv hll
      have hfl : (ls.take (k + 1)).flatten = (ls.take k).flatten ++ l := by rw [List.take_add_one, hll]; simp
      have hle : (ls.take (k + 1)).flatten.length ≤ ls.flatten.length := flatten_take_le _ _
      rw [hfl, List.length_append] at hle
      have HF := Lib.hid hfl; clear hfl hv hll
      have hrd' := hrd.below hbel
      clear hrd
      go_wp2_with (at_builtin; refine wpList_append_rd rfl _ _ 23 rfl w.heap.size 5 i5 (.int .u8 0) 1 1 Try.underlying23 hi hz0 hz1 hz2 rfl (by decide) _ _ _ rfl hown rfl hrd' (bytes_one l) (by unfold maxLen; omega) (by omega) hbel.size ?_; intro v' w1 hown' hg)
      have hbel' := hbel.grown hg hbel.size (fun j hj => (hown.lt j hj).1)
      rw [← List.length_append, ← List.map_append, ← HF.out] at hown'
      go_roundg (gk - 1)
      case rel => exact ⟨k + 1, by omega, by go_num, hown', hbel'⟩
      case measure => omega
    · have : k = n := by omega
      subst this
      clear HC HR
      rw [List.take_of_length_le (by have := HL.out; omega)] at hown
      go_wp2
      go_ret
      exact ⟨_, rfl, hown, hbel⟩

/-- What 'Put' leaves. -/
def PutPost (w : World) (n : Int) (e : Ending) (w' : World) : Prop :=
  ∃ v, e = .returned (.tuple #[v, .int .i64 (putC n)]) ∧ w'.ownsRow w.heap.size 5 1 v (putB n).length ((putB n).map B8) ∧ Below w.heap.size w w'

theorem tail_step (n : Int) (hn : 0 ≤ n) (K i : Nat) (hi : i < K) :
    ((List.replicate (K - i) 0 ++ be n.toNat i).map B8).set (K - 1 - i) (.int .u8 (n / 2 ^ (8 * i) % 256)) = (List.replicate (K - (i + 1)) 0 ++ be n.toNat (i + 1)).map B8 := by
  obtain ⟨m, rfl⟩ := Int.eq_ofNat_of_zero_le hn
  obtain ⟨d, rfl⟩ : ∃ d, K = i + d + 1 := ⟨K - i - 1, by omega⟩
  rw [show i + d + 1 - i = d + 1 by omega, show i + d + 1 - 1 - i = d by omega, show i + d + 1 - (i + 1) = d by omega, List.replicate_succ', Int.toNat_natCast, be, List.map_append, List.map_append, List.map_append]
  have e : Value.int .u8 ((m : Int) / 2 ^ (8 * i) % 256) = B8 (UInt8.ofNat (m / 256 ^ i)) := by
    have h2 : (2 : Int) ^ (8 * i) = ((256 ^ i : Nat) : Int) := by rw [Int.pow_mul, Int.natCast_pow]; rfl
    rw [h2]; simp only [B8, UInt8.toNat_ofNat']
    rw [Int.natCast_emod, Int.natCast_ediv]; rfl
  rw [e, List.set_append_left _ _ (by rw [List.length_append, List.length_map, List.length_replicate]; exact Nat.lt_succ_self d), List.set_append_right _ _ (by rw [List.length_map, List.length_replicate]; exact Nat.le_refl d)]
  rw [List.length_map, List.length_replicate, Nat.sub_self]
  simp

set_option maxHeartbeats 1000000 in
set_option maxRecDepth 100000 in
theorem put_any (n : Int) (w : World) : Calls Try.prog 17 #[.int .i64 n] w (PutPost w n) := by
  by_cases h : n < 0 ∨ 72057594037927936 ≤ n
  · have hs : sizeM n = 0 := by simp [sizeM, h]
    have C := size_any n w
    rw [hs] at C
    have e1 : putC n = 2 := if_pos h
    have e2 : putB n = [] := if_pos h
    have HC := Lib.hid C; have H1 := Lib.hid e1; have H2 := Lib.hid e2; clear C h hs e1 e2
    go_enter Try.func17, Try.ntmps17
    go_wp2_with (go_at_call 21; refine (HC.out).mono ?_; rintro e w' ⟨rfl, rfl⟩)
    go_ret2
    unfold PutPost
    rw [H1.out, H2.out]
    exact ⟨_, rfl, World.ownsRow_nil _ _ _ _, Below.refl _ _⟩
  · have h1 : 0 ≤ n := by omega
    have h2 : n < 72057594037927936 := by omega
    by_cases h3 : n < 248
    · have hs : sizeM n = 1 := by simp [sizeM, h, h3]
      have C := size_any n w
      rw [hs] at C
      have e1 : putC n = 0 := if_neg h
      have e2 : putB n = [UInt8.ofNat n.toNat] := (if_neg h).trans (if_pos (by omega))
      have HC := Lib.hid C; have H1 := Lib.hid e1; have H2 := Lib.hid e2; clear C h hs e1 e2
      go_enter Try.func17, Try.ntmps17
      go_wp2_with (go_at_call 21; refine (HC.out).mono ?_; rintro e w' ⟨rfl, rfl⟩)
      go_ret2
      unfold PutPost
      rw [H1.out, H2.out]
      have he : [UInt8.ofNat n.toNat].map B8 = [.int .u8 n] := by simp [B8, UInt8.toNat_ofNat']; omega
      rw [he]
      exact ⟨_, rfl, World.ownsRow_lit w #[_] 1 (Nat.le_refl _) (by decide) rfl, (Below.refl _ _).alloc (Nat.le_refl _) _⟩
    · have hs : sizeM n = fol n.toNat + 1 := by simp [sizeM, h, h3]; omega
      have h8 := fol_le 6 n.toNat (by omega)
      have h9 := fol_pos n.toNat
      have C := size_any n w
      rw [hs] at C
      have e1 : putC n = 0 := if_neg h
      have e2 : putB n = UInt8.ofNat (247 + fol n.toNat) :: be n.toNat (fol n.toNat) := (if_neg h).trans (if_neg (by omega))
      generalize fol n.toNat = K at *
      have HC := Lib.hid C; have H1 := Lib.hid e1; have H2 := Lib.hid e2; clear C h hs e1 e2
      obtain ⟨i5, hi, hz0, hz1, hz2⟩ := info_parts info_u8
      obtain ⟨w1, hmk, hown0, hg0⟩ := run_make_full (P := Try.prog) (w := w) w.heap.size 23 5 i5 (.int .u8 0) 1 Try.underlying23 hi hz0 hz1 .i64 .i64 K (by rw [hz2]; omega) (by unfold maxLen; omega) (Nat.le_refl _)
      have hb1 : Below w.heap.size w w1 := (Below.refl _ _).grown hg0 (Nat.le_refl _) (by simp)
      have hown1 : w1.ownsRow w.heap.size 5 1 (.slice (some ⟨w.heap.size, 0, none⟩) K K) K ((List.replicate (K - 0) 0 ++ be n.toNat 0).map B8) := by
        simpa [be, toList_madeCells_one, Value.cells, B8] using hown0
      go_enter Try.func17, Try.ntmps17
      go_wp2_with (go_at_call 21; refine (HC.out).mono ?_; rintro e w' ⟨rfl, rfl⟩)
      clear hmk hown0 hg0
      go_loopg [6, 14] K (fun g s6 s14 wx => ∃ i : Nat, i + g = K ∧ s14 = .int .i64 i ∧ wx.ownsRow w.heap.size 5 1 (.slice (some ⟨w.heap.size, 0, none⟩) K K) K ((List.replicate (K - i) 0 ++ be n.toNat i).map B8) ∧ Below w.heap.size w wx)
      case atStart => exact ⟨0, by omega, rfl, hown1, hb1⟩
      case round =>
        obtain ⟨i, hk, rfl, hown, hbel⟩ := hrel
        clear hown1 hb1
        by_cases hlt : i < K
        · have hcell : wr.cell? ⟨w.heap.size, K - 1 - i, none⟩ = some (.int .u8 0) := by
            rw [hown.cellAt _ (by omega), List.getElem?_map, List.getElem?_append_left (by simp; omega)]
            simp [List.getElem?_replicate]; omega
          have hfr : wr.frozen? ⟨w.heap.size, K - 1 - i, none⟩ = false := hown.frozenAt _
          go_wp2
          go_roundg (gk - 1)
          case rel =>
            have hst := hown.stored (K - 1 - i) (.int .u8 (n / 2 ^ (8 * i) % 256))
            rw [tail_step n h1 K i hlt] at hst
            exact ⟨i + 1, by omega, by go_num, hst.1, hbel.grown hst.2 hbel.size (fun j hj => by cases hj; exact Nat.le_refl _)⟩
          case measure => omega
        · have : i = K := by omega
          subst this
          have hz : wr.heap.size > w.heap.size := (hown.lt _ rfl).2
          have hrt : RdB wr.heap.size wr (.slice (some ⟨w.heap.size, 0, none⟩) i i) (be n.toNat i) := by
            have := Rd.of_own hown (by decide)
            simpa [RdB, be_length] using this
          have hrl := RdB.lit wr [UInt8.ofNat (247 + i)] #[.int .u8 (247 + (i : Int))] 5 (by simp [B8, UInt8.toNat_ofNat']; omega) (by simp [maxLen])
          have CJ := join_any [[UInt8.ofNat (247 + i)], be n.toNat i] (wr.heap.size + 1) 2 [.slice (some ⟨wr.heap.size, 0, none⟩) 1 1, .slice (some ⟨w.heap.size, 0, none⟩) i i]
            ((wr.alloc (.cells #[.int .u8 (247 + (i : Int))] 5)).alloc (.cells #[.slice (some ⟨wr.heap.size, 0, none⟩) 1 1, .slice (some ⟨w.heap.size, 0, none⟩) i i] 23)) rfl (by simp)
            (by have := cell_lit (wr.alloc (.cells #[.int .u8 (247 + (i : Int))] 5)) #[.slice (some ⟨wr.heap.size, 0, none⟩) 1 1, .slice (some ⟨w.heap.size, 0, none⟩) i i] 23
                rwa [alloc_size] at this)
            (by intro j v l hv hl
                match j, hv, hl with
                | 0, hv, hl => simp only [List.getElem?_cons_zero, Option.some.injEq] at hv hl; subst hv hl; exact ((hrl.alloc (by simp) _).mono (by simp))
                | 1, hv, hl => simp only [List.getElem?_cons_zero, List.getElem?_cons_succ, Option.some.injEq] at hv hl; subst hv hl; exact ((hrt.alloc (Nat.le_refl _) _).alloc (by simp) _).mono (by simp; omega)
                | j + 2, hv, hl => simp at hv)
            (by simp [be_length]; omega) (by simp)
          clear hrl hrt hown
          go_wp2_with (go_at_call 29; refine CJ.mono ?_; rintro e w' ⟨v, rfl, hown, hb⟩)
          go_ret2
          unfold PutPost
          rw [H1.out, H2.out]
          have hb2 : Below w.heap.size w w' := ((hbel.alloc hbel.size _).alloc (by simp; omega) _).trans (hb.mono (by simp; omega))
          refine ⟨_, rfl, ?_, hb2⟩
          simpa using ownsRow_mono (B' := w.heap.size) hown (by simp; omega)
end Go.Proofs.Ytgdcpgmbmppfgaa
