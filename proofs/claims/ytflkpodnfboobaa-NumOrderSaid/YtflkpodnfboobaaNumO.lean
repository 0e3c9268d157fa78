/-
  The order of numbers' bytes; the statement NumOrder's walk.
-/
import Derived.Test.YtflkpodnfboobaaNumT
namespace Go.Proofs.Ytflkpodnfboobaa
open Go.RowKit

theorem less_cons (a b : UInt8) (x y : List UInt8) : Op.bytesLess (a :: x) (b :: y) = (a < b || (a == b && Op.bytesLess x y)) := rfl
theorem less_be (n m k : Nat) (hn : n < 256 ^ k) (hm : m < 256 ^ k) : Op.bytesLess (be n k) (be m k) = decide (n < m) := by
  induction k generalizing n m with
  | zero => simp at hn hm; subst hn hm; rfl
  | succ k ih =>
    have hp : 0 < 256 ^ k := Nat.pow_pos (by decide)
    rw [Nat.pow_succ] at hn hm
    have h1 : n / 256 ^ k < 256 := (Nat.div_lt_iff_lt_mul hp).2 (by rw [Nat.mul_comm]; exact hn)
    have h2 : m / 256 ^ k < 256 := (Nat.div_lt_iff_lt_mul hp).2 (by rw [Nat.mul_comm]; exact hm)
    have e1 : (UInt8.ofNat (n / 256 ^ k)).toNat = n / 256 ^ k := by rw [UInt8.toNat_ofNat']; exact Nat.mod_eq_of_lt h1
    have e2 : (UInt8.ofNat (m / 256 ^ k)).toNat = m / 256 ^ k := by rw [UInt8.toNat_ofNat']; exact Nat.mod_eq_of_lt h2
    have dn := Nat.div_add_mod n (256 ^ k)
    have dm := Nat.div_add_mod m (256 ^ k)
    have rn := Nat.mod_lt n hp
    have rm := Nat.mod_lt m hp
    have ihx := ih (n % 256 ^ k) (m % 256 ^ k) rn rm
    rw [be_low, be_low] at ihx
    rw [be, be, less_cons, ihx, Bool.eq_iff_iff]
    simp only [Bool.or_eq_true, Bool.and_eq_true, decide_eq_true_eq, beq_iff_eq, UInt8.lt_iff_toNat_lt, ← UInt8.toNat_inj, e1, e2]
    generalize n / 256 ^ k = qn at *
    generalize m / 256 ^ k = qm at *
    generalize n % 256 ^ k = an at *
    generalize m % 256 ^ k = am at *
    generalize 256 ^ k = P at *
    subst dn dm
    constructor
    · rintro (h | ⟨h, h'⟩)
      · have : P * (qn + 1) ≤ P * qm := Nat.mul_le_mul_left _ h
        rw [Nat.mul_add] at this; omega
      · subst h; omega
    · intro h
      by_cases hlt : qn < qm
      · exact .inl hlt
      · by_cases he : qn = qm
        · subst he; exact .inr ⟨rfl, by omega⟩
        · exfalso
          have : P * (qm + 1) ≤ P * qn := Nat.mul_le_mul_left _ (by omega)
          rw [Nat.mul_add] at this; omega

theorem fol_bounds (n : Nat) : (256 ≤ n → 256 ^ (fol n - 1) ≤ n) ∧ n < 256 ^ fol n := by
  induction n using Nat.strongRecOn with
  | _ n ih =>
    by_cases h : n < 256
    · rw [fol, if_pos h]; exact ⟨by omega, by simpa⟩
    · rw [fol, if_neg h]
      have := ih (n / 256) (by omega)
      refine ⟨fun _ => ?_, ?_⟩
      · rw [Nat.add_sub_cancel_left]
        by_cases h2 : 256 ≤ n / 256
        · have h3 := this.1 h2
          have hp := fol_pos (n / 256)
          obtain ⟨k, hk⟩ : ∃ k, fol (n / 256) = k + 1 := ⟨fol (n / 256) - 1, by omega⟩
          rw [hk, Nat.add_sub_cancel] at h3
          rw [hk, Nat.pow_succ]
          exact (Nat.le_div_iff_mul_le (by decide)).1 h3
        · rw [fol, if_pos (by omega)]; omega
      · rw [Nat.add_comm, Nat.pow_succ]
        exact (Nat.div_lt_iff_lt_mul (by decide)).1 this.2
theorem fol_lt (n m : Nat) (h : fol n < fol m) : n < m := by
  have h1 := (fol_bounds n).2
  have h2 := (fol_bounds m).1
  have hp := fol_pos n
  by_cases hm : 256 ≤ m
  · refine Nat.lt_of_lt_of_le h1 (Nat.le_trans (Nat.pow_le_pow_right (by decide) (by omega)) (h2 hm))
  · have : fol m = 1 := by rw [fol, if_pos (by omega)]
    omega
theorem fol_le8 (n : Nat) (h : n < 72057594037927936) : fol n ≤ 7 := fol_le 6 n (by omega)

theorem less_put (n m : Nat) (hn : n < 72057594037927936) (hm : m < 72057594037927936) : Op.bytesLess (putL n) (putL m) = decide (n < m) := by
  have f1 := fol_le8 n hn
  have f2 := fol_le8 m hm
  have p1 := fol_pos n
  have p2 := fol_pos m
  unfold putL
  by_cases h1 : n < 248 <;> by_cases h2 : m < 248
  · rw [if_pos h1, if_pos h2, less_cons, Bool.eq_iff_iff]
    simp only [Bool.or_eq_true, Bool.and_eq_true, decide_eq_true_eq, UInt8.lt_iff_toNat_lt, UInt8.toNat_ofNat', Op.bytesLess, Bool.false_eq_true, and_false, or_false]
    omega
  · rw [if_pos h1, if_neg h2, less_cons, Bool.eq_iff_iff]
    simp only [Bool.or_eq_true, Bool.and_eq_true, decide_eq_true_eq, beq_iff_eq, UInt8.lt_iff_toNat_lt, UInt8.toNat_ofNat', ← UInt8.toNat_inj]
    constructor
    · intro _; omega
    · intro _; left; omega
  · rw [if_neg h1, if_pos h2, less_cons, Bool.eq_iff_iff]
    simp only [Bool.or_eq_true, Bool.and_eq_true, decide_eq_true_eq, beq_iff_eq, UInt8.lt_iff_toNat_lt, UInt8.toNat_ofNat', ← UInt8.toNat_inj]
    constructor
    · rintro (h | ⟨h, _⟩) <;> omega
    · intro _; omega
  · rw [if_neg h1, if_neg h2, less_cons, Bool.eq_iff_iff]
    simp only [Bool.or_eq_true, Bool.and_eq_true, decide_eq_true_eq, beq_iff_eq, UInt8.lt_iff_toNat_lt, UInt8.toNat_ofNat', ← UInt8.toNat_inj]
    rw [Nat.mod_eq_of_lt (by omega), Nat.mod_eq_of_lt (by omega)]
    constructor
    · rintro (h | ⟨h, h'⟩)
      · exact fol_lt n m (by omega)
      · have he : fol n = fol m := by omega
        rw [← he, less_be n m (fol n) (fol_bounds n).2 (by rw [he]; exact (fol_bounds m).2)] at h'
        simpa using h'
    · intro h
      by_cases hlt : fol n < fol m
      · left; omega
      · by_cases he : fol n = fol m
        · right; refine ⟨by omega, ?_⟩
          rw [← he, less_be n m (fol n) (fol_bounds n).2 (by rw [he]; exact (fol_bounds m).2)]
          simpa using h
        · have := fol_lt m n (by omega); omega

theorem pre_bad (n k : Nat) (hn : n < 72057594037927936) (hk : k < (putL n).length) : getM ((putL n).take k) = (0, 0, 8) := by
  rcases getM_form ((putL n).take k) with h | ⟨n', s, h, hs, hs1, hn', hp⟩
  · exact h
  · exfalso
    have h1 := getM_put n hn []
    have hsk : s ≤ k := by rw [List.length_take] at hs; omega
    rw [List.take_take, Nat.min_eq_left hsk] at hp
    have h2 := getM_put n' hn' ((putL n).drop s)
    rw [hp, List.take_append_drop] at h2
    rw [List.append_nil, h2] at h1
    simp only [Prod.mk.injEq, Int.natCast_inj] at h1
    have := h1.2.1
    rw [List.length_take] at this; omega

set_option maxHeartbeats 2000000 in
set_option maxRecDepth 100000 in
theorem numOrder_walk (n m k : Int) (w : World) (hk0 : 0 ≤ k) (hk1 : k ≤ 255) :
    Calls Try.prog 6 #[.int .i64 n, .int .i64 m, .int .u8 k] w fun e w' => e = .returned (.bool true) ∧ Below w.heap.size w w' := by
  by_cases hn : n < 0 ∨ 72057594037927936 ≤ n
  · go_enter Try.func6, Try.ntmps6
    go_wp2_with (fail)
    refine (nalive_true _).mono ?_
    rintro e w0 ⟨rfl, b0⟩
    go_wp2_with (fail)
    refine (put_any n _).mono ?_
    rintro e w1 ⟨x, rfl, hx, b1⟩
    rw [show putC n = 2 from if_pos hn]
    clear hn
    have b01 := b0.next b1
    go_wp2_with (fail)
    refine (put_any m _).mono ?_
    rintro e w2 ⟨y, rfl, hy, b2⟩
    have b02 := b01.next b2
    generalize putC m = cm at *
    go_wp2_with (fail)
    go_ret
    exact ⟨rfl, b02⟩
  · by_cases hm : m < 0 ∨ 72057594037927936 ≤ m
    · go_enter Try.func6, Try.ntmps6
      go_wp2_with (fail)
      refine (nalive_true _).mono ?_
      rintro e w0 ⟨rfl, b0⟩
      go_wp2_with (fail)
      refine (put_any n _).mono ?_
      rintro e w1 ⟨x, rfl, hx, b1⟩
      rw [show putC n = 0 from if_neg hn]
      clear hn
      have b01 := b0.next b1
      go_wp2_with (fail)
      refine (put_any m _).mono ?_
      rintro e w2 ⟨y, rfl, hy, b2⟩
      rw [show putC m = 2 from if_pos hm]
      clear hm
      have b02 := b01.next b2
      go_wp2_with (fail)
      go_ret
      exact ⟨rfl, b02⟩
    · have hn0 : 0 ≤ n := by omega
      have hm0 : 0 ≤ m := by omega
      have hlen : sizeM n = (putL n.toNat).length := by
        have := sizeM_len n.toNat (by omega)
        rwa [Int.toNat_of_nonneg hn0] at this
      have hless := less_put n.toNat m.toNat (by omega) (by omega)
      rw [show decide (n.toNat < m.toNat) = decide (n < m) by rw [decide_eq_decide]; omega] at hless
      have hpre : ∀ j : Nat, j < (putL n.toNat).length → getM ((putL n.toNat).take j) = (0, 0, 8) := fun j hj => pre_bad n.toNat j (by omega) hj
      have hl8 := putL_le n.toNat (by omega)
      have e1 : putB n = putL n.toNat := if_neg hn
      have e2 : putB m = putL m.toNat := if_neg hm
      generalize putL n.toNat = pn at *
      generalize putL m.toNat = pm at *
      have C1 := fun wx => put_any n wx
      have C2 := fun wx => put_any m wx
      have p1 : putC n = 0 := if_neg hn
      have p2 : putC m = 0 := if_neg hm
      unfold PutPost at C1 C2
      rw [p1, e1] at C1
      rw [p2, e2] at C2
      have HC1 := Lib.hid C1; have HC2 := Lib.hid C2
      have HL := Lib.hid hless; have HP := Lib.hid hpre
      have HS : Hid (∀ wx, Calls Try.prog 11 #[.int .i64 n] wx fun e w' => e = .returned (.int .i64 pn.length) ∧ wx = w') := fun wx => by rw [← hlen]; exact size_any n wx
      clear C1 C2 hless hpre e1 e2 hn hm hlen p1 p2
      go_enter Try.func6, Try.ntmps6
      go_wp2_with (fail)
      refine (nalive_true _).mono ?_
      rintro e w0 ⟨rfl, b0⟩
      go_wp2_with (fail)
      refine (HC1.out _).mono ?_
      rintro e w1 ⟨x, rfl, hx, b1⟩
      have b01 := b0.next b1
      go_wp2_with (fail)
      refine (HC2.out _).mono ?_
      rintro e w2 ⟨y, rfl, hy, b2⟩
      have b02 := b01.next b2
      have hxr := (RdB.own hx).below b2
      have q1 := str_of hxr
      have q2 := str_of (RdB.own hy)
      obtain ⟨ax, cx, rfl, hxr⟩ := hxr
      obtain ⟨K, rfl⟩ := Int.eq_ofNat_of_zero_le hk0
      by_cases hlt : K < pn.length
      · obtain ⟨b, off, e, hbb, hc⟩ := hxr.at (by omega)
        subst e
        clear hc
        have hcx := hxr.2.1
        have hpx := (hxr.pre K (by omega) (by omega)).mono b2.size
        have B := bad_any _ (pn.take K) w2 hpx (by rw [List.length_take]; omega)
        rw [HP.out K hlt] at B
        have HB := Lib.hid B
        clear B hx hy
        go_wp2_with (fail)
        refine HB.out.mono ?_
        rintro e w3 ⟨rfl, rfl⟩
        have hl := HL.out
        go_wp2_with (fail)
        refine (HS.out _).mono ?_
        rintro e w4 ⟨rfl, rfl⟩
        go_wp2_with (fail)
        go_ret
        exact ⟨rfl, b02⟩
      · clear hx hy
        have hl := HL.out
        go_wp2_with (fail)
        refine (HS.out _).mono ?_
        rintro e w4 ⟨rfl, rfl⟩
        go_wp2_with (fail)
        go_ret
        exact ⟨rfl, b02⟩
end Go.Proofs.Ytflkpodnfboobaa
