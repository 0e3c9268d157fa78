/-
  Package sum, function by function: what each call returns.
-/
import Derived.Test.YtgdcpgmbmppfgaaNumR
import Derived.Test.YtgdcpgmbmppfgaaFrameM
import Derived.Test.YtgdcpgmbmppfgaaStr
namespace Go.Proofs.Ytgdcpgmbmppfgaa
open Go.RowKit

theorem makes_lit (w : World) (l : List UInt8) (cs : Array Value) (n : Nat) (hc : cs.toList = l.map B8) (hn : l.length = n) (hm : n ≤ maxLen) :
    Makes l w (.returned (.slice (some ⟨w.heap.size, 0, none⟩) n n)) (w.alloc (.cells cs 5)) := by
  subst hn
  have hs : cs.size = l.length := by rw [← Array.length_toList, hc, List.length_map]
  have h := World.ownsRow_lit (base := w.heap.size) (size := 1) (e := 5) w cs l.length (Nat.le_refl _) hm (by omega)
  rw [hc] at h
  exact ⟨_, rfl, h, (Below.refl _ _).alloc (Nat.le_refl _) _⟩

set_option maxHeartbeats 1000000 in
set_option maxRecDepth 100000 in
theorem sumBytes_any (s : Nat) (w : World) (hs : s < 16777216) : Calls Try.prog 18 #[.int .u32 s] w (Makes (sumB s) w) := by
  go_enter Try.func18, Try.ntmps18
  go_wp2
  go_ret
  exact makes_lit w (sumB s) _ 3 (by simp [sumB, B8, UInt8.toNat_ofNat']; omega) rfl (by decide)

set_option maxHeartbeats 1000000 in
set_option maxRecDepth 100000 in
theorem sumOf_any (v : Value) (l : List UInt8) (B : Nat) (w : World) (hr : RdB B w v l) (hl : l.length ≤ 1000000) :
    Calls Try.prog 19 #[v] w fun e w' => e = .returned (.int .u32 (sumOf l)) ∧ w = w' := by
  obtain ⟨ao, cap, rfl, hr⟩ := hr
  have HR := Lib.hid hr
  clear hr
  go_enter Try.func19, Try.ntmps19
  go_wp2
  go_loopg [3, 8] l.length (fun g s3 s8 wx => ∃ k : Nat, k + g = l.length ∧ s8 = .int .i64 k ∧ s3 = .int .u32 (sumOf (l.take k)) ∧ w = wx)
  case atStart => exact ⟨0, by omega, rfl, rfl, rfl⟩
  case round =>
    obtain ⟨k, hk, rfl, rfl, rfl⟩ := hrel
    generalize gk = g0 at *
    by_cases hlt : k < l.length
    · obtain ⟨b, off, rfl, hbb, hc⟩ := HR.out.at (by omega)
      obtain ⟨x, hx⟩ : ∃ x, l[k]? = some x := ⟨_, List.getElem?_eq_getElem hlt⟩
      have hcell : w.cell? ⟨b, off + k, none⟩ = some (B8 x) := hc k _ (by simp [hx])
      have hs := sumOf_lt (l.take k)
      have hst : sumOf (l.take (k + 1)) = byteS (sumOf (l.take k)) x := by
        rw [List.take_add_one, hx]; simp [sumOf]
      have HST := Lib.hid hst
      have hxb := x.toNat_lt
      clear hc hst hx
      generalize sumOf (l.take k) = S at *
      have hxo : bits .xor .u32 (S : Int) ((x.toNat : Int) * 65536) = ((S ^^^ (x.toNat * 65536) : Nat) : Int) := by
        have := u32_xor_nat S (x.toNat * 65536) (by omega) (by omega)
        rwa [Int.natCast_mul] at this
      go_wp2
      go_loopg [3, 17] 8 (fun g s3 s17 wx => ∃ j : Nat, j + g = 8 ∧ s17 = .int .i64 j ∧ s3 = .int .u32 (stepN j (S ^^^ (x.toNat * 65536)) : Nat) ∧ w = wx)
      case atStart => exact ⟨0, by omega, rfl, rfl, rfl⟩
      case round =>
        obtain ⟨j, hj, rfl, rfl, rfl⟩ := hrel
        have h24 : stepN j (S ^^^ (x.toNat * 65536)) < 16777216 := stepN_lt j _ (xor_lt24 hs (by omega))
        have hnx := stepN_succ j (S ^^^ (x.toNat * 65536))
        by_cases hj8 : j < 8
        · have HNX := Lib.hid hnx
          clear hnx
          generalize stepN j (S ^^^ (x.toNat * 65536)) = T at *
          have hxp : bits .xor .u32 ((T : Int) * 2) 25578747 = (((T * 2) ^^^ 25578747 : Nat) : Int) := by
            have := u32_xor_nat (T * 2) 25578747 (by omega) (by omega)
            rwa [Int.natCast_mul] at this
          by_cases ht : 16777216 ≤ T * 2
          · have HT := Lib.hid (show stepS T = (T * 2) ^^^ 25578747 from if_pos ht)
            go_wp2
            go_roundg (gk - 1)
            case rel => exact ⟨j + 1, by omega, by go_num, by rw [HNX.out, HT.out], rfl⟩
            case measure => omega
          · have HT := Lib.hid (show stepS T = T * 2 from if_neg ht)
            go_wp2
            go_roundg (gk - 1)
            case rel => exact ⟨j + 1, by omega, by go_num, by rw [HNX.out, HT.out]; go_num, rfl⟩
            case measure => omega
        · have : j = 8 := by omega
          subst this
          clear hnx
          go_wp2
          go_roundg (g0 - 1)
          case rel => exact ⟨k + 1, by omega, by go_num, by rw [HST.out]; rfl, rfl⟩
          case measure => omega
    · have : k = l.length := by omega
      subst this
      rw [List.take_of_length_le (Nat.le_refl _)]
      go_wp2
      go_ret
      exact ⟨rfl, rfl⟩

set_option maxHeartbeats 1000000 in
set_option maxRecDepth 100000 in
theorem equal_any (v u : Value) (l m : List UInt8) (B B' : Nat) (w : World) (hr : RdB B w v l) (hu : RdB B' w u m) :
    Calls Try.prog 26 #[v, u] w fun e w' => e = .returned (.bool (l == m)) ∧ w = w' := by
  have q1 := str_of hr
  have q2 := str_of hu
  clear hr hu
  go_enter Try.func26, Try.ntmps26
  go_wp2
  go_ret
  exact ⟨rfl, rfl⟩

set_option maxHeartbeats 1000000 in
set_option maxRecDepth 100000 in
theorem clone_any (v : Value) (l : List UInt8) (B : Nat) (w : World) (hr : RdB B w v l) (hB : B ≤ w.heap.size) (hl : l.length ≤ 1000000) :
    Calls Try.prog 25 #[v] w (Makes l w) := by
  obtain ⟨i5, hi, hz0, hz1, hz2⟩ := info_parts info_u8
  obtain ⟨ao, cap, rfl, hr⟩ := hr
  have he := Lib.run_eql_slice_nil (P := Try.prog) w 23 5 ao l.length cap 0 0 Try.underlying23
  cases ao with
  | none =>
    obtain ⟨h0, rfl⟩ := hr.zero rfl
    have : l = [] := List.eq_nil_of_length_eq_zero h0
    subst this
    simp only [List.length_nil, Option.isNone_none] at he
    go_enter Try.func25, Try.ntmps25
    go_wp2
    go_ret
    exact ⟨_, rfl, World.ownsRow_nil _ _ _ _, Below.refl _ _⟩
  | some a =>
    simp only [Option.isNone_some] at he
    have ho := World.ownsRow_lit (base := w.heap.size) (size := 1) (e := 5) w #[] 0 (Nat.le_refl _) (by decide) rfl
    have hr' := hr.alloc hB (.cells #[] 5)
    clear hr
    go_enter Try.func25, Try.ntmps25
    go_wp2_with (at_builtin; refine wpList_append_rd rfl _ _ 23 rfl w.heap.size 5 i5 (.int .u8 0) 1 1 Try.underlying23 hi hz0 hz1 hz2 rfl (by decide) _ _ _ rfl ho rfl hr' (bytes_one _) (by unfold maxLen; omega) (by omega) (by simp) ?_; intro v' w1 hown' hg)
    go_ret
    simp only [Nat.zero_add, List.nil_append] at hown'
    exact ⟨_, rfl, hown', (Below.one (Nat.le_refl _) _).grown hg (by simp) (fun j hj => by cases hj; exact Nat.le_refl _)⟩

end Go.Proofs.Ytgdcpgmbmppfgaa
