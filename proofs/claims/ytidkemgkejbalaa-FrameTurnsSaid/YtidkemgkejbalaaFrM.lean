/-
  Numbers as bytes, sums of bytes, frames: said without the program.
-/
import Derived.Test.YtidkemgkejbalaaTb
set_option linter.unusedSimpArgs false
set_option linter.unusedVariables false
/-
  Plain functions on numbers and bytes: what package num computes, said without the program.
-/
namespace Go.Proofs.Ytidkemgkejbalaa

/-- How many bytes a number needs. -/
def fol (n : Nat) : Nat := if n < 256 then 1 else 1 + fol (n / 256)
theorem fol_pos (n : Nat) : 1 ≤ fol n := by unfold fol; split <;> omega
theorem fol_le (k n : Nat) (h : n < 256 ^ (k + 1)) : fol n ≤ k + 1 := by
  induction k generalizing n with
  | zero => unfold fol; simp at h; simp [h]
  | succ k ih =>
    unfold fol; split
    · omega
    · have := ih (n/256) (by rw [Nat.div_lt_iff_lt_mul (by omega)]; rw [Nat.pow_succ] at h; exact h); omega

def sizeM (n : Int) : Int := if n < 0 ∨ 72057594037927936 ≤ n then 0 else if n < 248 then 1 else 1 + fol n.toNat

/-- The lowest k bytes of a number, the highest first. -/
def be (n : Nat) : Nat → List UInt8
  | 0 => []
  | k + 1 => UInt8.ofNat (n / 256 ^ k) :: be n k
theorem be_length (n k : Nat) : (be n k).length = k := by induction k with | zero => rfl | succ k ih => simp [be, ih]

def putL (n : Nat) : List UInt8 := if n < 248 then [UInt8.ofNat n] else UInt8.ofNat (247 + fol n) :: be n (fol n)

theorem be_low (n k : Nat) : be (n % 256 ^ k) k = be n k := by
  have h : ∀ j, j ≤ k → be (n % 256 ^ k) j = be n j := by
    intro j
    induction j with
    | zero => intro _; rfl
    | succ j ih =>
      intro hj
      simp only [be, ih (by omega), List.cons.injEq, and_true]
      obtain ⟨d, rfl⟩ : ∃ d, k = j + (d + 1) := ⟨k - j - 1, by omega⟩
      rw [Nat.pow_add, Nat.mod_mul_right_div_self]
      apply UInt8.toNat_inj.1
      simp only [UInt8.toNat_ofNat']
      rw [Nat.pow_succ]
      exact Nat.mod_mul_left_mod _ _ _
  exact h k (Nat.le_refl _)

/-- How many rounds are to come. -/
def fol0 (m : Nat) : Nat := if m = 0 then 0 else fol m
theorem fol0_step (m : Nat) (h : 0 < m) : fol0 m = 1 + fol0 (m / 256) := by
  unfold fol0
  rw [if_neg (by omega)]
  by_cases h2 : m < 256
  · rw [fol, if_pos h2, if_pos (by omega)]
  · rw [fol, if_neg h2, if_neg (by omega)]

theorem be_push (n k m : Nat) (h : m = n / 256 ^ k) : [UInt8.ofNat m] ++ be n k = be n (k + 1) := by rw [h]; rfl
theorem div_step (n k m : Nat) (h : m = n / 256 ^ k) : m / 256 = n / 256 ^ (k + 1) := by rw [h, Nat.div_div_eq_div_mul, Nat.pow_succ]

def badN (n : Int) : Prop := n < 0 ∨ 72057594037927936 ≤ n
instance (n : Int) : Decidable (badN n) := by unfold badN; infer_instance
/-- What writing a number gives: its bytes, and a code. -/
def putB (n : Int) : List UInt8 := if badN n then [] else putL n.toNat
def putC (n : Int) : Int := if badN n then 2 else 0

/-- The number of bytes. -/
def dec (l : List UInt8) : Nat := l.foldl (fun n x => n * 256 + x.toNat) 0

theorem dec_step (l : List UInt8) (x : UInt8) : dec (l ++ [x]) = dec l * 256 + x.toNat := by simp [dec]
theorem decFrom_eq (l : List UInt8) (n : Nat) : l.foldl (fun n x => n * 256 + x.toNat) n = n * 256 ^ l.length + dec l := by
  induction l generalizing n with
  | nil => simp [dec]
  | cons x l ih =>
    have h := ih (n * 256 + x.toNat)
    have h' := ih x.toNat
    simp only [List.foldl_cons, List.length_cons, dec] at h h' ⊢
    rw [h, Nat.zero_mul, Nat.zero_add, h', Nat.pow_succ, Nat.add_mul, Nat.mul_assoc, Nat.mul_comm 256]; omega
theorem dec_cons (x : UInt8) (l : List UInt8) : dec (x :: l) = x.toNat * 256 ^ l.length + dec l := by
  rw [dec, List.foldl_cons, decFrom_eq]; simp
theorem dec_lt (l : List UInt8) : dec l < 256 ^ l.length := by
  induction l with
  | nil => simp [dec]
  | cons x l ih =>
    rw [dec_cons, List.length_cons, Nat.pow_succ]
    have := x.toNat_lt
    have h2 : x.toNat * 256 ^ l.length ≤ 255 * 256 ^ l.length := Nat.mul_le_mul_right _ (by omega)
    omega
theorem dec_take_succ (l : List UInt8) (k : Nat) (x : UInt8) (h : l[k]? = some x) : dec (l.take (k + 1)) = dec (l.take k) * 256 + x.toNat := by
  rw [List.take_add_one, h]; exact dec_step _ _
theorem dec_be (n k : Nat) : dec (be n k) = n % 256 ^ k := by
  induction k with
  | zero => simp [be, dec, Nat.mod_one]
  | succ k ih =>
    rw [be, dec_cons, ih, be_length, UInt8.toNat_ofNat', show (2 : Nat) ^ 8 = 256 from rfl, Nat.pow_succ, Nat.mod_mul, Nat.mul_comm, Nat.add_comm]

theorem be_dec (l : List UInt8) : be (dec l) l.length = l := by
  induction l with
  | nil => rfl
  | cons x l ih =>
    rw [List.length_cons, be, dec_cons]
    have h1 := dec_lt l
    have hp : 0 < 256 ^ l.length := Nat.pow_pos (by decide)
    have e1 : (x.toNat * 256 ^ l.length + dec l) / 256 ^ l.length = x.toNat := by
      rw [Nat.mul_comm, Nat.mul_add_div hp, Nat.div_eq_of_lt h1, Nat.add_zero]
    rw [e1]
    have e2 : be (x.toNat * 256 ^ l.length + dec l) l.length = l := by
      rw [← be_low, Nat.mul_comm, Nat.mul_add_mod, Nat.mod_eq_of_lt h1, ih]
    rw [e2]; simp

def getM (b : List UInt8) : Int × Int × Int :=
  match b with
  | [] => (0, 0, 8)
  | x :: r =>
    if x.toNat < 248 then (x.toNat, 1, 0) else
    if 254 < x.toNat ∨ r.length < x.toNat - 247 then (0, 0, 8) else
    if sizeM (dec (r.take (x.toNat - 247))) = 1 + ((x.toNat - 247 : Nat) : Int) then (dec (r.take (x.toNat - 247)), 1 + ((x.toNat - 247 : Nat) : Int), 0) else (0, 0, 8)

/-- The number of s first bytes, as the reference reads it. -/
def cand (l : List UInt8) (s i : Nat) : Nat := if s = 1 then (l[0]?.getD 0).toNat else dec ((l.take i).drop 1)
def hits (l : List UInt8) (s : Nat) : Bool := decide (cand l s s < 72057594037927936) && decide (putL (cand l s s) = l.take s)

theorem cand_lt (l : List UInt8) (s i : Nat) (h1 : 1 ≤ i) : cand l s i < 256 ^ (if s = 1 then 1 else i - 1) := by
  unfold cand
  split
  · have := (l[0]?.getD 0).toNat_lt; omega
  · refine Nat.lt_of_lt_of_le (dec_lt _) (Nat.pow_le_pow_right (by decide) ?_)
    simp; omega
theorem cand_step (l : List UInt8) (s i : Nat) (y : UInt8) (hs : s ≠ 1) (h1 : 1 ≤ i) (hy : l[i]? = some y) : cand l s (i + 1) = cand l s i * 256 + y.toNat := by
  unfold cand
  rw [if_neg hs, if_neg hs, List.take_add_one, hy, Option.toList_some, List.drop_append_of_le_length, dec_step]
  have := (List.getElem?_eq_some_iff.1 hy).1
  simp; omega
theorem cand_small (l : List UInt8) (s i : Nat) (h1 : 1 ≤ i) (h8 : i ≤ 8) : cand l s i < 72057594037927936 := by
  refine Nat.lt_of_lt_of_le (cand_lt l s i h1) (Nat.le_trans (Nat.pow_le_pow_right (by decide) (?_ : _ ≤ 7)) (by decide))
  split <;> omega
theorem cand_smaller (l : List UInt8) (s i : Nat) (h1 : 1 ≤ i) (h8 : i ≤ 7) : cand l s i < 281474976710656 := by
  refine Nat.lt_of_lt_of_le (cand_lt l s i h1) (Nat.le_trans (Nat.pow_le_pow_right (by decide) (?_ : _ ≤ 6)) (by decide))
  split <;> omega

theorem putL_len (n : Nat) : (putL n).length = if n < 248 then 1 else 1 + fol n := by
  unfold putL; split
  · rfl
  · simp [be_length]; omega
theorem drop_take1 (r : List UInt8) (x : UInt8) (k : Nat) : ((x :: r).take (k + 1)).drop 1 = r.take k := by simp

/-- What is read is what the first fitting length gives. -/
theorem getM_hit (l : List UInt8) (s : Nat) (h1 : 1 ≤ s) (h8 : s ≤ 8) (hl : s ≤ l.length) (h : hits l s = true) : getM l = ((cand l s s : Int), (s : Int), 0) := by
  simp only [hits, Bool.and_eq_true, decide_eq_true_eq] at h
  obtain ⟨ha, hb⟩ := h
  cases l with
  | nil => simp at hl; omega
  | cons x r =>
    have hx := x.toNat_lt
    by_cases hs : s = 1
    · subst hs
      simp only [cand, if_pos, List.getElem?_cons_zero, Option.getD_some] at ha hb ⊢
      have hx2 : x.toNat < 248 := by
        have := congrArg List.length hb
        rw [putL_len] at this
        split at this
        · assumption
        · have := fol_pos x.toNat; simp at *; omega
      simp [getM, hx2]
    · obtain ⟨k, rfl⟩ : ∃ k, s = k + 1 := ⟨s - 1, by omega⟩
      have hc : cand (x :: r) (k + 1) (k + 1) = dec (r.take k) := by rw [cand, if_neg hs, drop_take1]
      rw [hc] at ha hb ⊢
      have hk : (r.take k).length = k := by simp at hl ⊢; omega
      have hlen := congrArg List.length hb
      rw [putL_len, List.take_succ_cons, List.length_cons, hk] at hlen
      split at hlen
      · omega
      · rename_i hge
        rw [putL, if_neg hge, List.take_succ_cons, List.cons.injEq] at hb
        have hf : fol (dec (r.take k)) = k := by omega
        have hxk : x.toNat = 247 + k := by
          rw [← hb.1, hf, UInt8.toNat_ofNat']; omega
        have hS : sizeM (dec (r.take k)) = 1 + (k : Int) := by
          unfold sizeM
          rw [if_neg (by omega), if_neg (by omega), Int.toNat_natCast, hf]
        simp only [getM, hxk, Nat.add_sub_cancel_left]
        rw [if_neg (by omega), if_neg (by simp at hl; omega), if_pos hS]
        simp only [Prod.mk.injEq, true_and, and_true]; omega
theorem getM_miss (l : List UInt8) (h : ∀ s, 1 ≤ s → s ≤ 8 → s ≤ l.length → hits l s = false) : getM l = (0, 0, 8) := by
  cases l with
  | nil => rfl
  | cons x r =>
    have hx := x.toNat_lt
    have h1 := h 1 (by omega) (by omega) (by simp)
    have hx2 : ¬ x.toNat < 248 := by
      intro hlt
      simp only [hits, cand, if_pos, List.getElem?_cons_zero, Option.getD_some] at h1
      simp [putL, hlt] at h1
      omega
    by_cases hb : 254 < x.toNat ∨ r.length < x.toNat - 247
    · simp only [getM]; rw [if_neg hx2, if_pos hb]
    · obtain ⟨k, hk⟩ : ∃ k : Nat, x.toNat = 247 + k := ⟨x.toNat - 247, by omega⟩
      have hk1 : 1 ≤ k := by omega
      simp only [getM, hk, Nat.add_sub_cancel_left]
      rw [if_neg (by omega), if_neg (by omega)]
      by_cases hS : sizeM (dec (r.take k)) = 1 + (k : Int)
      · exfalso
        have h2 := h (k + 1) (by omega) (by omega) (by simp; omega)
        have hc : cand (x :: r) (k + 1) (k + 1) = dec (r.take k) := by rw [cand, if_neg (by omega), drop_take1]
        have hlt := dec_lt (r.take k)
        have hlk : (r.take k).length = k := by simp; omega
        rw [hlk] at hlt
        unfold sizeM at hS
        split at hS
        · omega
        · split at hS
          · omega
          · rw [Int.toNat_natCast] at hS
            have hf : fol (dec (r.take k)) = k := by omega
            have he : putL (dec (r.take k)) = (x :: r).take (k + 1) := by
              rw [putL, if_neg (by omega), hf, List.take_succ_cons, List.cons.injEq]
              refine ⟨UInt8.toNat_inj.1 (by rw [UInt8.toNat_ofNat', hk]; omega), ?_⟩
              have hbd := be_dec (r.take k)
              rwa [hlk] at hbd
            rw [hits, hc, he] at h2
            simp at h2; omega
      · rw [if_neg hS]

theorem getM_form (l : List UInt8) : getM l = (0, 0, 8) ∨ ∃ n s : Nat, getM l = ((n : Int), (s : Int), 0) ∧ s ≤ l.length ∧ 1 ≤ s ∧ n < 72057594037927936 ∧ putL n = l.take s := by
  by_cases h : ∃ s, 1 ≤ s ∧ s ≤ 8 ∧ s ≤ l.length ∧ hits l s = true
  · obtain ⟨s, h1, h2, h3, h4⟩ := h
    have h5 := h4
    simp only [hits, Bool.and_eq_true, decide_eq_true_eq] at h5
    exact .inr ⟨_, s, getM_hit l s h1 h2 h3 h4, h3, h1, h5.1, h5.2⟩
  · refine .inl (getM_miss l fun s h1 h2 h3 => ?_)
    cases hh : hits l s with
    | true => exact absurd ⟨s, h1, h2, h3, hh⟩ h
    | false => rfl
theorem putL_le (n : Nat) (h : n < 72057594037927936) : (putL n).length ≤ 8 := by
  rw [putL_len]; split
  · omega
  · have := fol_le 6 n (by omega); omega
theorem putL_pos (n : Nat) : 1 ≤ (putL n).length := by rw [putL_len]; split <;> omega
theorem sizeM_len (n : Nat) (h : n < 72057594037927936) : sizeM n = (putL n).length := by
  rw [putL_len, sizeM, if_neg (by omega)]
  split
  · rw [if_pos (by omega)]; rfl
  · rw [if_neg (by omega), Int.toNat_natCast]; omega
/-- What is written is read, whatever stands behind. -/
theorem getM_put (n : Nat) (h : n < 72057594037927936) (r : List UInt8) : getM (putL n ++ r) = ((n : Int), ((putL n).length : Int), 0) := by
  have h1 := putL_pos n
  have h8 := putL_le n h
  have hc : cand (putL n ++ r) (putL n).length (putL n).length = n := by
    have ht : (putL n ++ r).take (putL n).length = putL n := List.take_left
    unfold cand
    rw [ht]
    by_cases hs : n < 248
    · have e : putL n = [UInt8.ofNat n] := if_pos hs
      rw [e]; simp; omega
    · have e : putL n = UInt8.ofNat (247 + fol n) :: be n (fol n) := if_neg hs
      have hp := fol_pos n
      rw [if_neg (by rw [e, List.length_cons, be_length]; omega), e, List.drop_one, List.tail_cons, dec_be]
      have : ∀ m : Nat, m < 256 ^ (fol m) := by
        intro m
        induction m using Nat.strongRecOn with
        | _ m ih =>
          unfold fol; split
          · simpa
          · have := ih (m / 256) (by omega)
            rw [Nat.add_comm, Nat.pow_succ]
            exact (Nat.div_lt_iff_lt_mul (by decide)).1 this
      exact Nat.mod_eq_of_lt (this n)
  have hh : hits (putL n ++ r) (putL n).length = true := by
    rw [hits, hc, List.take_left]; simp [h]
  have := getM_hit (putL n ++ r) (putL n).length h1 h8 (by simp) hh
  rw [this, hc]

end Go.Proofs.Ytidkemgkejbalaa

/-
  The sum of bytes (24 bits), said without the program: its step is linear, so that turned bytes tell.
-/
namespace Go.Proofs.Ytidkemgkejbalaa

/-- One step: a bit is shifted out, and the rest is turned if it was set. -/
def stepS (s : Nat) : Nat := if 16777216 ≤ s * 2 then (s * 2) ^^^ 25578747 else s * 2
def stepN : Nat → Nat → Nat
  | 0, s => s
  | k + 1, s => stepN k (stepS s)
/-- One byte. -/
def byteS (s : Nat) (x : UInt8) : Nat := stepN 8 (s ^^^ (x.toNat * 65536))
def sumOf (l : List UInt8) : Nat := l.foldl byteS 11994318
def sumB (s : Nat) : List UInt8 := [UInt8.ofNat (s / 65536), UInt8.ofNat (s / 256), UInt8.ofNat s]

theorem xor_lt24 {a b : Nat} (ha : a < 16777216) (hb : b < 16777216) : a ^^^ b < 16777216 := Nat.xor_lt_two_pow (n := 24) ha hb

theorem stepS_lt (s : Nat) (h : s < 16777216) : stepS s < 16777216 := by
  unfold stepS
  split
  · rename_i hge
    have h1 : s * 2 = 16777216 + (s * 2 - 16777216) := by omega
    have h2 : 16777216 + (s * 2 - 16777216) = 16777216 ^^^ (s * 2 - 16777216) := by
      have := Nat.two_pow_add_eq_or_of_lt (i := 24) (b := s * 2 - 16777216) (by omega) 1
      rw [Nat.mul_one] at this
      rw [show (16777216 : Nat) = 2 ^ 24 from rfl, this]
      apply Nat.eq_of_testBit_eq
      intro i
      rw [Nat.testBit_or, Nat.testBit_xor, Nat.testBit_two_pow]
      by_cases hi : 24 = i
      · subst hi
        rw [Nat.testBit_lt_two_pow (by omega)]; rfl
      · simp [hi]
    have h3 : (25578747 : Nat) = 16777216 ^^^ 8801531 := by decide
    rw [h1, h2, h3]
    have : (16777216 ^^^ (s * 2 - 16777216)) ^^^ (16777216 ^^^ 8801531) = (s * 2 - 16777216) ^^^ 8801531 := by
      rw [Nat.xor_comm 16777216 (s * 2 - 16777216), Nat.xor_assoc, ← Nat.xor_assoc 16777216 16777216, Nat.xor_self, Nat.zero_xor]
    rw [this]
    exact xor_lt24 (by omega) (by decide)
  · omega
theorem stepN_lt (k s : Nat) (h : s < 16777216) : stepN k s < 16777216 := by
  induction k generalizing s with
  | zero => exact h
  | succ k ih => exact ih _ (stepS_lt s h)
theorem byteS_lt (s : Nat) (x : UInt8) (h : s < 16777216) : byteS s x < 16777216 :=
  stepN_lt 8 _ (xor_lt24 h (by have := x.toNat_lt; omega))
theorem foldS_lt (l : List UInt8) (s : Nat) (h : s < 16777216) : l.foldl byteS s < 16777216 := by
  induction l generalizing s with
  | nil => exact h
  | cons x l ih => rw [List.foldl_cons]; exact ih _ (byteS_lt s x h)
theorem sumOf_lt (l : List UInt8) : sumOf l < 16777216 := foldS_lt l _ (by decide)

/-! ### It is linear -/
theorem top_iff (s : Nat) (h : s < 16777216) : 16777216 ≤ s * 2 ↔ s.testBit 23 = true := by
  rw [Nat.testBit_eq_decide_div_mod_eq, decide_eq_true_eq, show (2 : Nat) ^ 23 = 8388608 from rfl]
  omega
theorem eq_of_xor {a b : Nat} (h : a ^^^ b = 0) : a = b := by
  have := congrArg (· ^^^ b) h
  simpa [Nat.xor_assoc] using this
theorem stepS_xor (a b : Nat) (ha : a < 16777216) (hb : b < 16777216) : stepS (a ^^^ b) = stepS a ^^^ stepS b := by
  have hab := xor_lt24 ha hb
  have e : (a ^^^ b) * 2 = (a * 2) ^^^ (b * 2) := by
    have := Nat.shiftLeft_xor_distrib (a := a) (b := b) (i := 1)
    simpa [Nat.shiftLeft_eq] using this
  unfold stepS
  simp only [top_iff a ha, top_iff b hb, top_iff _ hab, Nat.testBit_xor]
  rw [e]
  cases a.testBit 23 <;> cases b.testBit 23 <;> simp
  · rw [Nat.xor_assoc]
  · rw [Nat.xor_assoc, Nat.xor_comm (b * 2), Nat.xor_assoc]
  · rw [Nat.xor_assoc, Nat.xor_comm (b * 2), ← Nat.xor_assoc 25578747 25578747, Nat.xor_self, Nat.zero_xor]
theorem stepN_xor (k a b : Nat) (ha : a < 16777216) (hb : b < 16777216) : stepN k (a ^^^ b) = stepN k a ^^^ stepN k b := by
  induction k generalizing a b with
  | zero => rfl
  | succ k ih =>
    rw [stepN, stepN, stepN, stepS_xor a b ha hb]
    exact ih _ _ (stepS_lt a ha) (stepS_lt b hb)
theorem stepS_zero (s : Nat) (h : s < 16777216) (h0 : stepS s = 0) : s = 0 := by
  unfold stepS at h0
  split at h0
  · have : s * 2 = 25578747 := by
      have := congrArg (· ^^^ 25578747) h0
      simpa [Nat.xor_assoc] using this
    omega
  · omega
theorem stepN_zero (k s : Nat) (h : s < 16777216) (h0 : stepN k s = 0) : s = 0 := by
  induction k generalizing s with
  | zero => exact h0
  | succ k ih => exact stepS_zero s h (ih _ (stepS_lt s h) h0)
theorem stepN_of_zero (k : Nat) : stepN k 0 = 0 := by induction k with | zero => rfl | succ k ih => exact ih
theorem stepN_add (j k s : Nat) : stepN (j + k) s = stepN k (stepN j s) := by
  induction j generalizing s with
  | zero => simp [stepN]
  | succ j ih => rw [show j + 1 + k = (j + k) + 1 by omega, stepN, stepN, ih]
/-- Where no bit is shifted out. -/
theorem stepN_small (k s : Nat) (h : s * 2 ^ k < 16777216) : stepN k s = s * 2 ^ k := by
  induction k generalizing s with
  | zero => simp [stepN]
  | succ k ih =>
    rw [Nat.pow_succ, Nat.mul_comm (2 ^ k), ← Nat.mul_assoc] at h
    have hp : 1 ≤ 2 ^ k := Nat.one_le_two_pow
    have h2 : s * 2 < 16777216 := by
      have := Nat.mul_le_mul_left (s * 2) hp
      omega
    rw [stepN, stepS, if_neg (by omega), ih _ h, Nat.pow_succ, Nat.mul_comm (2 ^ k) 2, Nat.mul_assoc]
theorem byteS_zero (s t : Nat) (x : UInt8) (hs : s < 16777216) (ht : t < 16777216) : byteS (s ^^^ t) x = byteS s x ^^^ stepN 8 t := by
  unfold byteS
  rw [Nat.xor_assoc, Nat.xor_comm t, ← Nat.xor_assoc]
  exact stepN_xor 8 _ _ (xor_lt24 hs (by have := x.toNat_lt; omega)) ht
theorem foldS_zero (l : List UInt8) (s t : Nat) (hs : s < 16777216) (ht : t < 16777216) : l.foldl byteS (s ^^^ t) = l.foldl byteS s ^^^ stepN (8 * l.length) t := by
  induction l generalizing s t with
  | nil => rfl
  | cons x l ih =>
    rw [List.foldl_cons, List.foldl_cons, byteS_zero s t x hs ht, ih _ _ (byteS_lt s x hs) (stepN_lt 8 t ht), List.length_cons, show 8 * (l.length + 1) = 8 + 8 * l.length by omega, stepN_add]
/-- Three bytes at once. -/
def word3 (a b c : UInt8) : Nat := a.toNat * 65536 + b.toNat * 256 + c.toNat
theorem xor_low (a b k : Nat) (h : b < 2 ^ k) : a * 2 ^ k + b = (a * 2 ^ k) ^^^ b := by
  rw [Nat.mul_comm, Nat.two_pow_add_eq_or_of_lt h]
  apply Nat.eq_of_testBit_eq
  intro i
  rw [Nat.testBit_or, Nat.testBit_xor]
  by_cases hi : i < k
  · rw [Nat.testBit_two_pow_mul]; simp [Nat.not_le.2 hi]
  · rw [Nat.testBit_lt_two_pow (Nat.lt_of_lt_of_le h (Nat.pow_le_pow_right (by decide) (by omega)))]; simp
theorem word3_xor (a b c : UInt8) : word3 a b c = (a.toNat * 65536) ^^^ ((b.toNat * 256) ^^^ c.toNat) := by
  have hb := b.toNat_lt; have hc := c.toNat_lt
  unfold word3
  rw [Nat.add_assoc, ← xor_low b.toNat c.toNat 8 (by omega)]
  exact xor_low a.toNat _ 16 (by omega)
theorem word3_lt (a b c : UInt8) : word3 a b c < 16777216 := by
  have ha := a.toNat_lt; have hb := b.toNat_lt; have hc := c.toNat_lt
  unfold word3; omega
theorem three (s : Nat) (a b c : UInt8) (hs : s < 16777216) : byteS (byteS (byteS s a) b) c = stepN 24 (s ^^^ word3 a b c) := by
  have ha := a.toNat_lt; have hb := b.toNat_lt; have hc := c.toNat_lt
  have h1 : b.toNat * 65536 = stepN 8 (b.toNat * 256) := by rw [stepN_small 8 _ (by omega)]; omega
  have h2 : c.toNat * 65536 = stepN 16 c.toNat := by rw [stepN_small 16 _ (by omega)]
  have l1 : s ^^^ (a.toNat * 65536) < 16777216 := xor_lt24 hs (by omega)
  have l2 : s ^^^ (a.toNat * 65536) ^^^ (b.toNat * 256) < 16777216 := xor_lt24 l1 (by omega)
  unfold byteS
  rw [h1, ← stepN_xor 8 _ _ l1 (by omega), ← stepN_add, h2, ← stepN_xor 16 _ _ l2 (by omega), ← stepN_add, word3_xor]
  congr 1
  simp only [Nat.xor_assoc]

/-- Bytes end with the sum of the others just where the sum of all is nought. -/
theorem sumB_word (s : Nat) (h : s < 16777216) (a b c : UInt8) : sumB s = [a, b, c] ↔ s = word3 a b c := by
  have ha := a.toNat_lt; have hb := b.toNat_lt; have hc := c.toNat_lt
  unfold sumB word3
  simp only [List.cons.injEq, and_true, ← UInt8.toNat_inj, UInt8.toNat_ofNat']
  omega
theorem right_iff (l : List UInt8) (a b c : UInt8) : sumB (sumOf l) = [a, b, c] ↔ sumOf (l ++ [a, b, c]) = 0 := by
  have hl := sumOf_lt l
  rw [sumB_word _ hl]
  unfold sumOf at *
  rw [List.foldl_append]
  simp only [List.foldl_cons, List.foldl_nil]
  rw [three _ a b c hl]
  constructor
  · intro h; rw [h, Nat.xor_self]; exact stepN_of_zero 24
  · intro h
    have := stepN_zero 24 _ (xor_lt24 hl (word3_lt a b c)) h
    exact eq_of_xor this

/-- Where three bytes side by side are turned, the sum of all turns. -/
theorem turned (p q : List UInt8) (a b c a' b' c' : UInt8) (h : [a, b, c] ≠ [a', b', c']) : sumOf (p ++ ([a, b, c] ++ q)) ≠ sumOf (p ++ ([a', b', c'] ++ q)) := by
  intro he
  have hp := sumOf_lt p
  have w1 := word3_lt a b c
  have w2 := word3_lt a' b' c'
  unfold sumOf at he hp
  simp only [List.foldl_append, List.foldl_cons, List.foldl_nil] at he
  rw [three _ a b c hp, three _ a' b' c' hp] at he
  generalize p.foldl byteS 11994318 = s at *
  have x1 := xor_lt24 hp w1
  have x2 := xor_lt24 hp w2
  have e : stepN 24 (s ^^^ word3 a' b' c') = stepN 24 (s ^^^ word3 a b c) ^^^ stepN 24 (word3 a b c ^^^ word3 a' b' c') := by
    rw [← stepN_xor 24 _ _ x1 (xor_lt24 w1 w2)]
    congr 1
    rw [Nat.xor_assoc, ← Nat.xor_assoc (word3 a b c), Nat.xor_self, Nat.zero_xor]
  rw [e, foldS_zero q _ _ (stepN_lt 24 _ x1) (stepN_lt 24 _ (xor_lt24 w1 w2))] at he
  generalize q.foldl byteS (stepN 24 (s ^^^ word3 a b c)) = t at *
  have hz : stepN (8 * q.length) (stepN 24 (word3 a b c ^^^ word3 a' b' c')) = 0 := by
    have := congrArg (t ^^^ ·) he
    simpa [← Nat.xor_assoc] using this.symm
  have h1 := stepN_zero _ _ (stepN_lt 24 _ (xor_lt24 w1 w2)) hz
  have h2 := stepN_zero _ _ (xor_lt24 w1 w2) h1
  have h3 := eq_of_xor h2
  apply h
  rw [← (sumB_word _ w1 a b c).2 rfl, h3, (sumB_word _ w2 a' b' c').2 rfl]

/-! ### The reference's way, bit by bit -/
def rbit (s x : Nat) : Nat := if s / 8388608 = x / 128 % 2 then s % 8388608 * 2 else (s % 8388608 * 2) ^^^ 8801531
def rbits : Nat → Nat → Nat → Nat
  | 0, s, _ => s
  | k + 1, s, x => rbits k (rbit s x) (x * 2)
theorem rbit_lt (s x : Nat) (_h : s < 16777216) : rbit s x < 16777216 := by
  unfold rbit; split
  · omega
  · exact xor_lt24 (by omega) (by decide)
theorem stepS_alt (s : Nat) (h : s < 16777216) : stepS s = if s / 8388608 = 0 then s % 8388608 * 2 else (s % 8388608 * 2) ^^^ 8801531 := by
  unfold stepS
  by_cases h2 : 16777216 ≤ s * 2
  · rw [if_pos h2, if_neg (by omega)]
    have e1 : s * 2 = 16777216 ^^^ (s % 8388608 * 2) := by
      have := xor_low 1 (s % 8388608 * 2) 24 (by omega)
      rw [← show 1 * 2 ^ 24 = 16777216 from rfl, ← this]; omega
    have e2 : (25578747 : Nat) = 16777216 ^^^ 8801531 := by decide
    rw [e1, e2, Nat.xor_comm 16777216 (s % 8388608 * 2), Nat.xor_assoc, ← Nat.xor_assoc 16777216 16777216, Nat.xor_self, Nat.zero_xor]
  · rw [if_neg h2, if_pos (by omega)]; omega
theorem rbit_step (s x : Nat) (hs : s < 16777216) : stepS (s ^^^ (x * 65536 % 16777216)) = rbit s x ^^^ (x * 2 * 65536 % 16777216) := by
  have hy : x * 65536 % 16777216 < 16777216 := Nat.mod_lt _ (by decide)
  have e1 : x * 65536 % 16777216 / 8388608 = x / 128 % 2 := by omega
  have e2 : x * 65536 % 16777216 % 8388608 * 2 = x * 2 * 65536 % 16777216 := by omega
  rw [stepS_xor _ _ hs hy, stepS_alt s hs, stepS_alt _ hy, e1, e2]
  unfold rbit
  have ht : s / 8388608 = 0 ∨ s / 8388608 = 1 := by omega
  have hu : x / 128 % 2 = 0 ∨ x / 128 % 2 = 1 := by omega
  revert ht hu
  generalize s / 8388608 = t
  generalize x / 128 % 2 = u
  generalize s % 8388608 * 2 = a
  generalize x * 2 * 65536 % 16777216 = b
  clear hs hy e1 e2
  generalize 8801531 = P
  intro ht hu
  have hc : ∀ c d : Nat, c ^^^ (c ^^^ d) = d := fun c d => by rw [← Nat.xor_assoc, Nat.xor_self, Nat.zero_xor]
  rcases ht with rfl | rfl <;> rcases hu with rfl | rfl
  · simp
  · simp [Nat.xor_assoc, Nat.xor_comm b]
  · simp [Nat.xor_assoc, Nat.xor_comm b]
  · simp only [Nat.one_ne_zero, if_false, if_true, Nat.xor_assoc]
    rw [Nat.xor_comm b P, hc]
theorem rbits_step (k s x : Nat) (hs : s < 16777216) : stepN k (s ^^^ (x * 65536 % 16777216)) = rbits k s x ^^^ (x * 2 ^ k * 65536 % 16777216) := by
  induction k generalizing s x with
  | zero => simp [stepN, rbits]
  | succ k ih =>
    rw [stepN, rbits, rbit_step s x hs, ih _ _ (rbit_lt s x hs), Nat.pow_succ, Nat.mul_comm (2 ^ k) 2, Nat.mul_assoc x 2]
theorem rbits_byte (s : Nat) (x : UInt8) (hs : s < 16777216) : rbits 8 s x.toNat = byteS s x := by
  have hx := x.toNat_lt
  have h := rbits_step 8 s x.toNat hs
  rw [Nat.mod_eq_of_lt (by omega)] at h
  unfold byteS
  rw [h, show x.toNat * 2 ^ 8 * 65536 % 16777216 = 0 by omega, Nat.xor_zero]
theorem rbits_succ (k s x : Nat) : rbits (k + 1) s x = rbit (rbits k s x) (x * 2 ^ k) := by
  induction k generalizing s x with
  | zero => simp [rbits]
  | succ k ih => rw [rbits, ih, rbits, Nat.pow_succ, Nat.mul_comm (2 ^ k) 2, Nat.mul_assoc]
theorem rbits_lt (k s x : Nat) (h : s < 16777216) : rbits k s x < 16777216 := by
  induction k generalizing s x with
  | zero => exact h
  | succ k ih => exact ih _ _ (rbit_lt s x h)
theorem stepN_succ (k s : Nat) : stepN (k + 1) s = stepS (stepN k s) := by
  rw [stepN_add k 1 s]; rfl

end Go.Proofs.Ytidkemgkejbalaa

/-
  Frames, said without the program.
-/
namespace Go.Proofs.Ytidkemgkejbalaa

def classM (n : Nat) : Nat := if 1 + (putL n).length + n + 3 ≤ 64 then 64 else if 1 + (putL n).length + n + 3 ≤ 256 then 256 else 1024
def headL (body : List UInt8) : List UInt8 := 181 :: putL body.length
/-- What stands ahead of a frame's sum. -/
def bareL (body : List UInt8) : List UInt8 := headL body ++ body ++ List.replicate (classM body.length - 3 - ((headL body).length + body.length)) 0
def frameL (body : List UInt8) : List UInt8 := bareL body ++ sumB (sumOf (bareL body))

theorem putL_small (n : Nat) (h : n ≤ 1000) : (putL n).length ≤ 3 := by
  rw [putL_len]; split
  · omega
  · have := fol_le 1 n (by omega); omega
theorem classM_ge (n : Nat) (h : n ≤ 1000) : 1 + (putL n).length + n + 3 ≤ classM n := by
  have := putL_small n h
  unfold classM; split
  · assumption
  · split
    · assumption
    · omega
theorem classM_le (n : Nat) : classM n ≤ 1024 := by unfold classM; split <;> (try split) <;> omega
theorem classM_cases (n : Nat) : classM n = 64 ∨ classM n = 256 ∨ classM n = 1024 := by unfold classM; split <;> (try split) <;> simp
theorem headL_length (body : List UInt8) : (headL body).length = 1 + (putL body.length).length := by simp [headL]; omega
theorem bareL_length (body : List UInt8) (h : body.length ≤ 1000) : (bareL body).length = classM body.length - 3 := by
  have h1 := classM_ge _ h
  have h2 := headL_length body
  simp only [bareL, List.length_append, List.length_replicate]
  omega
theorem frameL_length (body : List UInt8) (h : body.length ≤ 1000) : (frameL body).length = classM body.length := by
  have h1 := classM_ge _ h
  have h2 := bareL_length body h
  simp only [frameL, List.length_append, sumB, List.length_cons, List.length_nil]; omega
theorem frameL_sum (body : List UInt8) : sumOf (frameL body) = 0 := by
  unfold frameL
  generalize bareL body = p
  have := (right_iff p (UInt8.ofNat (sumOf p / 65536)) (UInt8.ofNat (sumOf p / 256)) (UInt8.ofNat (sumOf p))).1 rfl
  exact this

/-- What a frame has. -/
def openL (b : List UInt8) : Option (List UInt8) :=
  let g := getM (b.drop 1)
  if g.2.2 = 0 ∧ ((b.drop (1 + g.2.1.toNat)).take g.1.toNat).length ≤ 1000 ∧ frameL ((b.drop (1 + g.2.1.toNat)).take g.1.toNat) = b then some ((b.drop (1 + g.2.1.toNat)).take g.1.toNat) else none

theorem openL_some {b body : List UInt8} (h : openL b = some body) : body.length ≤ 1000 ∧ frameL body = b := by
  unfold openL at h
  simp only at h
  split at h
  · rename_i hc
    cases h
    exact ⟨hc.2.1, hc.2.2⟩
  · cases h
theorem openL_frame (body : List UInt8) (h : body.length ≤ 1000) : openL (frameL body) = some body := by
  have hg : getM ((frameL body).drop 1) = ((body.length : Int), ((putL body.length).length : Int), 0) := by
    have e : (frameL body).drop 1 = putL body.length ++ (body ++ List.replicate (classM body.length - 3 - ((headL body).length + body.length)) 0 ++ sumB (sumOf (bareL body))) := by
      simp [frameL, bareL, headL]
    rw [e]
    exact getM_put _ (by omega) _
  have hb : ((frameL body).drop (1 + (putL body.length).length)).take body.length = body := by
    have e : frameL body = headL body ++ (body ++ (List.replicate (classM body.length - 3 - ((headL body).length + body.length)) 0 ++ sumB (sumOf (bareL body)))) := by
      simp [frameL, bareL]
    rw [e, ← headL_length, List.drop_left, List.take_left]
  unfold openL
  rw [hg]
  simp only [Int.toNat_natCast, hb]
  simp [h]
theorem openL_iff (b body : List UInt8) : openL b = some body ↔ body.length ≤ 1000 ∧ frameL body = b := by
  constructor
  · exact openL_some
  · rintro ⟨h, rfl⟩; exact openL_frame body h
theorem openL_none_of {b : List UInt8} (h : ∀ body : List UInt8, body.length ≤ 1000 → frameL body ≠ b) : openL b = none := by
  cases ho : openL b with
  | none => rfl
  | some body => exact absurd (openL_some ho).2 (h body (openL_some ho).1)
theorem openL_len {b body : List UInt8} (h : openL b = some body) : b.length = 64 ∨ b.length = 256 ∨ b.length = 1024 := by
  have h1 := openL_some h
  rw [← h1.2, frameL_length _ h1.1]
  exact classM_cases _

/-- As the program asks: the sum first, then whether there is room. -/
theorem openL_wrong (b : List UInt8) (h : sumOf b ≠ 0) : openL b = none := by
  refine openL_none_of fun body _ he => h ?_
  rw [← he]; exact frameL_sum body

def openB (l : List UInt8) : List UInt8 := (openL l).getD []
def openC (l : List UInt8) : Int := if (openL l).isSome then 0 else 80
theorem openL_short (l : List UInt8) (h : l.length < 64) : openL l = none := by
  cases ho : openL l with
  | none => rfl
  | some b => have := openL_len ho; omega
theorem openL_bad (l : List UInt8) (h : getM (l.drop 1) = (0, 0, 8)) : openL l = none := by
  unfold openL; rw [h]; simp
theorem openL_get {l body : List UInt8} (h : openL l = some body) : getM (l.drop 1) = ((body.length : Int), ((putL body.length).length : Int), 0) ∧ l.length = classM body.length ∧ body.length ≤ 1000 := by
  have h1 := openL_some h
  refine ⟨?_, by rw [← h1.2]; exact frameL_length _ h1.1, h1.1⟩
  have e : l.drop 1 = putL body.length ++ (body ++ List.replicate (classM body.length - 3 - ((headL body).length + body.length)) 0 ++ sumB (sumOf (bareL body))) := by
    rw [← h1.2]; simp [frameL, bareL, headL]
  rw [e]
  exact getM_put _ (by omega) _
theorem openL_far (l : List UInt8) (n s : Nat) (hg : getM (l.drop 1) = ((n : Int), (s : Int), 0)) (h : l.length < 1 + s + n + 3) : openL l = none := by
  cases ho : openL l with
  | none => rfl
  | some b =>
    obtain ⟨h1, h2, h3⟩ := openL_get ho
    rw [hg] at h1
    simp only [Prod.mk.injEq, Int.natCast_inj, and_true] at h1
    have := classM_ge b.length h3
    omega
theorem openL_near (l : List UInt8) (n s : Nat) (hg : getM (l.drop 1) = ((n : Int), (s : Int), 0)) (h : 1 + s + n + 3 ≤ l.length) :
    openL l = if n ≤ 1000 ∧ frameL ((l.drop (1 + s)).take n) = l then some ((l.drop (1 + s)).take n) else none := by
  have hl : ((l.drop (1 + s)).take n).length = n := by simp; omega
  unfold openL
  rw [hg]
  simp only [Int.toNat_natCast, hl, true_and]

theorem openL_odd (l : List UInt8) (h : l.length ≠ 64 ∧ l.length ≠ 256 ∧ l.length ≠ 1024) : openL l = none := by
  cases ho : openL l with
  | none => rfl
  | some b => have := openL_len ho; omega
theorem openL_big (l : List UInt8) (n s : Nat) (hg : getM (l.drop 1) = ((n : Int), (s : Int), 0)) (h : 1000 < n) : openL l = none := by
  cases ho : openL l with
  | none => rfl
  | some b =>
    obtain ⟨h1, h2, h3⟩ := openL_get ho
    rw [hg] at h1
    simp only [Prod.mk.injEq, Int.natCast_inj, and_true] at h1
    omega
theorem openL_near2 (l : List UInt8) (n s : Nat) (hg : getM (l.drop 1) = ((n : Int), (s : Int), 0)) (hn : n ≤ 1000) (h : 1 + s + n ≤ l.length) :
    openL l = if frameL ((l.drop (1 + s)).take n) = l then some ((l.drop (1 + s)).take n) else none := by
  have hl : ((l.drop (1 + s)).take n).length = n := by simp; omega
  unfold openL
  rw [hg]
  simp only [Int.toNat_natCast, hl, true_and, hn]
theorem openL_far2 (l : List UInt8) (n s : Nat) (hg : getM (l.drop 1) = ((n : Int), (s : Int), 0)) (h : l.length < 1 + s + n) : openL l = none := openL_far l n s hg (by omega)

end Go.Proofs.Ytidkemgkejbalaa

/-
  Longer, shorter and turned frames, said without the program.
-/
namespace Go.Proofs.Ytidkemgkejbalaa

theorem frameL_head (body : List UInt8) : ∃ R, frameL body = headL body ++ R := ⟨body ++ (List.replicate (classM body.length - 3 - ((headL body).length + body.length)) 0 ++ sumB (sumOf (bareL body))), by simp [frameL, bareL]⟩

/-- What a frame begins with says how long it is. -/
theorem openL_head {b1 b2 l R : List UInt8} (h1 : b1.length ≤ 1000) (e : l = headL b1 ++ R) (ho : openL l = some b2) : l.length = classM b1.length := by
  obtain ⟨g, hl, h2⟩ := openL_get ho
  have e1 : l.drop 1 = putL b1.length ++ R := by rw [e]; simp [headL]
  rw [e1, getM_put _ (by omega)] at g
  simp only [Prod.mk.injEq, Int.natCast_inj, and_true] at g
  rw [hl, g.1]

theorem openL_more (body more : List UInt8) (h : body.length ≤ 1000) (hm : 0 < more.length) : openL (frameL body ++ more) = none := by
  cases ho : openL (frameL body ++ more) with
  | none => rfl
  | some b =>
    obtain ⟨R, hR⟩ := frameL_head body
    have := openL_head (b1 := body) (R := R ++ more) h (by rw [hR, List.append_assoc]) ho
    rw [List.length_append, frameL_length _ h] at this
    omega

theorem openL_less (body : List UInt8) (k : Nat) (h : body.length ≤ 1000) (hk : k < (frameL body).length) : openL ((frameL body).take k) = none := by
  cases ho : openL ((frameL body).take k) with
  | none => rfl
  | some b =>
    obtain ⟨R, hR⟩ := frameL_head body
    have h64 := openL_len ho
    rw [List.length_take, Nat.min_eq_left (by omega)] at h64
    have hs := putL_small _ h
    have hh := headL_length body
    have e : (frameL body).take k = headL body ++ R.take (k - (headL body).length) := by
      rw [hR, List.take_append, List.take_of_length_le (by omega)]
    have := openL_head h e ho
    rw [List.length_take, Nat.min_eq_left (by omega), ← frameL_length _ h] at this
    omega

/-- Three neighbours of a frame turned. -/
theorem openL_turn (body p q : List UInt8) (a b c x y z : UInt8) (h : body.length ≤ 1000) (e : frameL body = p ++ ([a, b, c] ++ q)) :
    (openL (p ++ ([a ^^^ x, b ^^^ y, c ^^^ z] ++ q))).isNone = !decide (x = 0 ∧ y = 0 ∧ z = 0) := by
  by_cases hz : x = 0 ∧ y = 0 ∧ z = 0
  · obtain ⟨rfl, rfl, rfl⟩ := hz
    simp only [UInt8.xor_zero]
    rw [← e, openL_frame _ h]; simp
  · rw [openL_wrong _ ?_]
    · simp [hz]
    · intro hs
      refine turned p q a b c (a ^^^ x) (b ^^^ y) (c ^^^ z) ?_ (by rw [← e, frameL_sum, hs])
      intro he
      simp only [List.cons.injEq, and_true] at he
      have k : ∀ u v : UInt8, u = u ^^^ v → v = 0 := fun u v huv => by
        have h2 : u ^^^ u = u ^^^ (u ^^^ v) := congrArg (u ^^^ ·) huv
        rw [← UInt8.xor_assoc, UInt8.xor_self, UInt8.zero_xor] at h2
        exact h2.symm
      exact hz ⟨k _ _ he.1, k _ _ he.2.1, k _ _ he.2.2⟩
end Go.Proofs.Ytidkemgkejbalaa

