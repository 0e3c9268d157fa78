/-
  The reference of package num (blindstampref02): what each call returns.
-/
import Derived.Test.YtgdcpgmbmppfgaaNumG
namespace Go.Proofs.Ytgdcpgmbmppfgaa
open Go.RowKit

/-- What a call leaves that makes bytes. -/
def Makes (l : List UInt8) (w : World) (e : Ending) (w' : World) : Prop :=
  ∃ v, e = .returned v ∧ w'.ownsRow w.heap.size 5 1 v l.length (l.map B8) ∧ Below w.heap.size w w'

set_option maxHeartbeats 1000000 in
set_option maxRecDepth 100000 in
theorem rbytes_any (n : Nat) (w : World) (hn : n < 9223372036854775808) : Calls Try.prog 31 #[.int .i64 n] w (Makes (putL n) w) := by
  by_cases h : n < 248
  · have e : putL n = [UInt8.ofNat n] := if_pos h
    have H := Lib.hid e; clear e
    go_enter Try.func31, Try.ntmps31
    go_wp2
    go_ret
    unfold Makes
    rw [H.out]
    have he : [UInt8.ofNat n].map B8 = [.int .u8 n] := by simp [B8, UInt8.toNat_ofNat']; omega
    rw [he]
    exact ⟨_, rfl, World.ownsRow_lit w #[_] 1 (Nat.le_refl _) (by decide) rfl, (Below.refl _ _).alloc (Nat.le_refl _) _⟩
  · have e : putL n = UInt8.ofNat (247 + fol n) :: be n (fol n) := if_neg h
    have h8 := fol_le 7 n (by omega)
    have hf : fol0 n = fol n := if_neg (by omega)
    have H := Lib.hid e; have HF := Lib.hid hf; clear e hf
    obtain ⟨i5, hi, hz0, hz1, hz2⟩ := info_parts info_u8
    go_enter Try.func31, Try.ntmps31
    go_wp2
    go_loopg [3, 4, 5] n (fun g s3 s4 s5 wx => ∃ k : Nat, k + fol0 g = fol n ∧ k ≤ 8 ∧ g < 9223372036854775808 ∧ s4 = .int .i64 (247 + k) ∧ s5 = .int .i64 g ∧ Hid (g = n / 256 ^ k) ∧ wx.ownsRow w.heap.size 5 1 s3 k ((be n k).map B8) ∧ Below w.heap.size w wx)
    case atStart => exact ⟨0, by rw [HF.out]; simp, by omega, hn, rfl, rfl, by simp [Hid], World.ownsRow_nil _ _ _ _, Below.refl _ _⟩
    case round =>
      obtain ⟨k, hk, hk8, hg, rfl, rfl, HG, hown, hbel⟩ := hrel
      generalize gk = m at *
      by_cases hm : 0 < m
      · have hs := fol0_step m hm
        obtain ⟨ao, cap, e, hrd⟩ := RdA.of_own hown (by decide)
        subst e
        have hx := RdA.lit wr #[.int .u8 ((m : Int) % 256)] 5 1 1 rfl (by decide)
        have ho := World.ownsRow_lit (base := w.heap.size) (size := 1) (e := 5) wr #[.int .u8 ((m : Int) % 256)] 1 hbel.size (by decide) rfl
        have hs' := Lib.hid hs; have hk' := Lib.hid hk
        clear hk hs
        go_wp2_with (at_builtin; refine wpList_append_rd rfl _ _ 23 rfl w.heap.size 5 i5 (.int .u8 0) 1 1 Try.underlying23 hi hz0 hz1 hz2 rfl (by decide) _ _ _ rfl ho rfl (hrd.alloc (Nat.le_refl _) _) (bytes_one _) (by unfold maxLen; omega) (by omega) (by simp; have := hbel.size; omega) ?_; intro v' w1 hown' hg)
        have hb1 : Below w.heap.size w w1 := (hbel.alloc hbel.size _).grown hg (by simp; have := hbel.size; omega) (fun j hj => by cases hj; exact hbel.size)
        have hl : [.int .u8 ((m : Int) % 256)] ++ (be n k).map B8 = (be n (k + 1)).map B8 := by
          rw [← be_push n k m HG.out]; simp [B8, UInt8.toNat_ofNat']
        rw [hl, Nat.add_comm] at hown'
        have hk1 := hk'.out
        rw [hs'.out] at hk1
        go_roundg (m / 256)
        case rel => exact ⟨k + 1, by omega, by omega, by omega, by go_num, by go_num, div_step n k m HG.out, hown', hb1⟩
        case measure => omega
      · have hm0 : m = 0 := by omega
        subst hm0
        have hk1 : k = fol n := by simpa [fol0] using hk
        have HK := Lib.hid hk1
        clear hk hk1
        obtain ⟨ao, cap, e, hrd⟩ := RdA.of_own hown (by decide)
        subst e
        have ho := World.ownsRow_lit (base := w.heap.size) (size := 1) (e := 5) wr #[.int .u8 (247 + (k : Int))] 1 hbel.size (by decide) rfl
        go_wp2_with (at_builtin; refine wpList_append_rd rfl _ _ 23 rfl w.heap.size 5 i5 (.int .u8 0) 1 1 Try.underlying23 hi hz0 hz1 hz2 rfl (by decide) _ _ _ rfl ho rfl (hrd.alloc (Nat.le_refl _) _) (bytes_one _) (by unfold maxLen; omega) (by omega) (by simp; have := hbel.size; omega) ?_; intro v' w1 hown' hg)
        have hb1 : Below w.heap.size w w1 := (hbel.alloc hbel.size _).grown hg (by simp; have := hbel.size; omega) (fun j hj => by cases hj; exact hbel.size)
        go_ret
        unfold Makes
        rw [H.out, ← HK.out]
        refine ⟨_, rfl, ?_, hb1⟩
        have hl : (UInt8.ofNat (247 + k) :: be n k).map B8 = [.int .u8 (247 + (k : Int))] ++ (be n k).map B8 := by simp [B8, UInt8.toNat_ofNat']; omega
        rw [hl, List.length_cons, be_length, Nat.add_comm]
        exact hown'
theorem rbytes_int (n : Int) (w : World) (h0 : 0 ≤ n) (hn : n < 9223372036854775808) : Calls Try.prog 31 #[.int .i64 n] w (Makes (putL n.toNat) w) := by
  obtain ⟨m, rfl⟩ := Int.eq_ofNat_of_zero_le h0
  exact rbytes_any m w (by omega)
end Go.Proofs.Ytgdcpgmbmppfgaa
