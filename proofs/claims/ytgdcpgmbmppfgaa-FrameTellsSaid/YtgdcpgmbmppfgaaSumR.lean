/-
  sum.Right: what a call returns.
-/
import Derived.Test.YtgdcpgmbmppfgaaSum
namespace Go.Proofs.Ytgdcpgmbmppfgaa
open Go.RowKit

def rightB (l : List UInt8) : Bool := decide (3 ≤ l.length ∧ sumOf l = 0)

theorem right_eq (l : List UInt8) (k : Nat) (h : l.length = k + 3) : (l.take k ++ sumB (sumOf (l.take k)) == l) = rightB l := by
  obtain ⟨a, b, c, he⟩ : ∃ a b c, l.drop k = [a, b, c] := by
    have hd : (l.drop k).length = 3 := by rw [List.length_drop]; omega
    match hl : l.drop k, hd with
    | [a, b, c], _ => exact ⟨a, b, c, rfl⟩
  have hr := right_iff (l.take k) a b c
  rw [← he, List.take_append_drop] at hr
  rw [Bool.eq_iff_iff]
  simp only [rightB, beq_iff_eq, decide_eq_true_eq]
  constructor
  · intro h1
    refine ⟨by omega, hr.1 ?_⟩
    have h2 : l.take k ++ sumB (sumOf (l.take k)) = l.take k ++ l.drop k := by rw [h1, List.take_append_drop]
    exact List.append_cancel_left h2
  · rintro ⟨_, h1⟩
    rw [hr.2 h1, List.take_append_drop]

set_option maxHeartbeats 1000000 in
set_option maxRecDepth 100000 in
theorem right_any (v : Value) (l : List UInt8) (w : World) (hr : RdB w.heap.size w v l) (hl : l.length ≤ 1000000) :
    Calls Try.prog 23 #[v] w fun e w' => e = .returned (.bool (rightB l)) ∧ Below w.heap.size w w' := by
  obtain ⟨i5, hi, hz0, hz1, hz2⟩ := info_parts info_u8
  have hr0 := Lib.hid hr
  obtain ⟨ao, cap, rfl, hr⟩ := hr
  by_cases h3 : l.length < 3
  · have H := Lib.hid (show rightB l = false by simp [rightB]; omega)
    clear hr
    have hd : decide ((0 : Int) ≤ (l.length : Int) - 3) = false := by simp; omega
    have hd2 : decide ((3 : Int) ≤ (l.length : Int)) = false := by simp; omega
    go_enter Try.func23, Try.ntmps23
    go_wp2_with (fail)
    go_quiet (fail)
    go_wp2_with (fail)
    go_ret
    rw [H.out]
    exact ⟨rfl, below_drewN (Below.refl _ _) _⟩
  · obtain ⟨k, hk⟩ : ∃ k, l.length = k + 3 := ⟨l.length - 3, by omega⟩
    obtain ⟨b, off, rfl, hbb, hc⟩ := hr.at (by omega)
    clear hc
    have hcap := hr.2.1
    have H := Lib.hid (right_eq l k hk)
    have hp1 : ∀ wx, Below w.heap.size w wx → RdB w.heap.size wx (.slice (some ⟨b, off, none⟩) k cap) (l.take k) := fun wx hwx => (hr.below hwx).pre k (by omega) (by omega)
    have hp2 : ∀ wx, Below w.heap.size w wx → RdA w.heap.size wx 1 (some ⟨b, off, none⟩) k k ((l.take k).map B8) := fun wx hwx => by
      have h1 := (hr.below hwx).piece (by decide) 0 k k (Nat.zero_le _) (by omega) (Nat.le_refl _) (by omega)
      have h2 : (if k = 0 then some (⟨b, off, none⟩ : Addr) else (some (⟨b, off, none⟩ : Addr)).map (·.add (0 * 1))) = some ⟨b, off, none⟩ := by split <;> simp [addr_add0]
      rw [h2] at h1
      simpa using h1
    have HP1 := Lib.hid hp1; have HP2 := Lib.hid hp2; have HK := Lib.hid hk
    have hk6 : k ≤ 1000000 := by omega
    have hck : (k : Int) ≤ (cap : Int) := by omega
    have hsl := sumOf_lt (l.take k)
    have e1 : (l.length : Int) - 3 = (k : Int) := by omega
    have hge : decide ((0 : Int) ≤ (k : Int)) = true := by simp
    clear hr hp1 hp2 hk
    go_enter Try.func23, Try.ntmps23
    go_wp2_with (fail)
    go_region_held_law (fun _ => True) (exact trivial)
      (first
        | (go_at_call 19; refine (sumOf_any _ (l.take k) _ _ (HP1.out _ (Below.refl _ _).drew) (by rw [List.length_take]; omega)).mono ?_; rintro e w1 ⟨rfl, rfl⟩)
        | (go_at_call 18; refine (sumBytes_any _ _ hsl).mono ?_; rintro e w2 ⟨x, rfl, hx, b2⟩; obtain ⟨xo, xc, rfl, hxr⟩ := RdB.own hx)
        | (refine step_append_grow_rd rfl _ _ 23 rfl 5 i5 (.int .u8 0) 1 1 Try.underlying23 hi hz0 hz1 hz2 rfl (by decide) rfl (HP2.out _ ((Below.refl _ _).drew.trans b2)) rfl hxr (bytes_one _) (by simp [sumB]) (by simp [sumB]) (by simp [sumB, maxLen]; omega) (by simp [sumB]; omega) ?_; intro v3 w3 h3 hg3)
        | (go_at_call 26; have b3 : Below w.heap.size w w3 := ((Below.refl _ _).drew.trans b2).grown hg3 ((Below.refl _ _).drew.trans b2).size (fun j hj => by cases hj); refine (equal_any _ _ (l.take k ++ sumB (sumOf (l.take k))) l _ _ _ (RdB.owned _ h3 (by simp)) (hr0.out.below b3)).mono ?_; rintro e w4 ⟨rfl, rfl⟩; rw [H.out]))
    all_goals (go_wp2_with (fail); go_ret; exact ⟨rfl, b3⟩)
end Go.Proofs.Ytgdcpgmbmppfgaa
