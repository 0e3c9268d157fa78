/-
  The sum of bytes (24 bits), said without the program: its step is linear, so that turned bytes tell.
-/
import Derived.Test.YtgdcpgmbmppfgaaNumM
namespace Go.Proofs.Ytgdcpgmbmppfgaa

/-- One step: a bit is shifted out, and the rest is turned if it was set. -/
def stepS (s : Nat) : Nat := if 16777216 ≤ s * 2 then (s * 2) ^^^ 25578747 else s * 2
def stepN : Nat → Nat → Nat
  | 0, s => s
  | k + 1, s => stepN k (stepS s)
/-- One byte. -/
def byteS (s : Nat) (x : UInt8) : Nat := stepN 8 (s ^^^ (x.toNat * 65536))
def sumOf (l : List UInt8) : Nat := l.foldl byteS 11994318
def sumB (s : Nat) : List UInt8 := [UInt8.ofNat (s / 65536), UInt8.ofNat (s / 256), UInt8.ofNat s]

theorem xor_lt24 {a b : Nat} (ha : a < 16777216) (hb : b < 16777216) : a ^^^ b < 16777216 := Nat.xor_lt_two_pow (n := 24) ha hb

theorem stepS_lt (s : Nat) (h : s < 16777216) : stepS s < 16777216 := by
  unfold stepS
  split
  · rename_i hge
    have h1 : s * 2 = 16777216 + (s * 2 - 16777216) := by omega
    have h2 : 16777216 + (s * 2 - 16777216) = 16777216 ^^^ (s * 2 - 16777216) := by
      have := Nat.two_pow_add_eq_or_of_lt (i := 24) (b := s * 2 - 16777216) (by omega) 1
      rw [Nat.mul_one] at this
      rw [show (16777216 : Nat) = 2 ^ 24 from rfl, this]
      apply Nat.eq_of_testBit_eq
      intro i
      rw [Nat.testBit_or, Nat.testBit_xor, Nat.testBit_two_pow]
      by_cases hi : 24 = i
      · subst hi
        rw [Nat.testBit_lt_two_pow (by omega)]; rfl
      · simp [hi]
    have h3 : (25578747 : Nat) = 16777216 ^^^ 8801531 := by decide
    rw [h1, h2, h3]
    have : (16777216 ^^^ (s * 2 - 16777216)) ^^^ (16777216 ^^^ 8801531) = (s * 2 - 16777216) ^^^ 8801531 := by
      rw [Nat.xor_comm 16777216 (s * 2 - 16777216), Nat.xor_assoc, ← Nat.xor_assoc 16777216 16777216, Nat.xor_self, Nat.zero_xor]
    rw [this]
    exact xor_lt24 (by omega) (by decide)
  · omega
theorem stepN_lt (k s : Nat) (h : s < 16777216) : stepN k s < 16777216 := by
  induction k generalizing s with
  | zero => exact h
  | succ k ih => exact ih _ (stepS_lt s h)
theorem byteS_lt (s : Nat) (x : UInt8) (h : s < 16777216) : byteS s x < 16777216 :=
  stepN_lt 8 _ (xor_lt24 h (by have := x.toNat_lt; omega))
theorem foldS_lt (l : List UInt8) (s : Nat) (h : s < 16777216) : l.foldl byteS s < 16777216 := by
  induction l generalizing s with
  | nil => exact h
  | cons x l ih => rw [List.foldl_cons]; exact ih _ (byteS_lt s x h)
theorem sumOf_lt (l : List UInt8) : sumOf l < 16777216 := foldS_lt l _ (by decide)

/-! ### It is linear -/
theorem top_iff (s : Nat) (h : s < 16777216) : 16777216 ≤ s * 2 ↔ s.testBit 23 = true := by
  rw [Nat.testBit_eq_decide_div_mod_eq, decide_eq_true_eq, show (2 : Nat) ^ 23 = 8388608 from rfl]
  omega
theorem eq_of_xor {a b : Nat} (h : a ^^^ b = 0) : a = b := by
  have := congrArg (· ^^^ b) h
  simpa [Nat.xor_assoc] using this
theorem stepS_xor (a b : Nat) (ha : a < 16777216) (hb : b < 16777216) : stepS (a ^^^ b) = stepS a ^^^ stepS b := by
  have hab := xor_lt24 ha hb
  have e : (a ^^^ b) * 2 = (a * 2) ^^^ (b * 2) := by
    have := Nat.shiftLeft_xor_distrib (a := a) (b := b) (i := 1)
    simpa [Nat.shiftLeft_eq] using this
  unfold stepS
  simp only [top_iff a ha, top_iff b hb, top_iff _ hab, Nat.testBit_xor]
  rw [e]
  cases a.testBit 23 <;> cases b.testBit 23 <;> simp
  · rw [Nat.xor_assoc]
  · rw [Nat.xor_assoc, Nat.xor_comm (b * 2), Nat.xor_assoc]
  · rw [Nat.xor_assoc, Nat.xor_comm (b * 2), ← Nat.xor_assoc 25578747 25578747, Nat.xor_self, Nat.zero_xor]
theorem stepN_xor (k a b : Nat) (ha : a < 16777216) (hb : b < 16777216) : stepN k (a ^^^ b) = stepN k a ^^^ stepN k b := by
  induction k generalizing a b with
  | zero => rfl
  | succ k ih =>
    rw [stepN, stepN, stepN, stepS_xor a b ha hb]
    exact ih _ _ (stepS_lt a ha) (stepS_lt b hb)
theorem stepS_zero (s : Nat) (h : s < 16777216) (h0 : stepS s = 0) : s = 0 := by
  unfold stepS at h0
  split at h0
  · have : s * 2 = 25578747 := by
      have := congrArg (· ^^^ 25578747) h0
      simpa [Nat.xor_assoc] using this
    omega
  · omega
theorem stepN_zero (k s : Nat) (h : s < 16777216) (h0 : stepN k s = 0) : s = 0 := by
  induction k generalizing s with
  | zero => exact h0
  | succ k ih => exact stepS_zero s h (ih _ (stepS_lt s h) h0)
theorem stepN_of_zero (k : Nat) : stepN k 0 = 0 := by induction k with | zero => rfl | succ k ih => exact ih
theorem stepN_add (j k s : Nat) : stepN (j + k) s = stepN k (stepN j s) := by
  induction j generalizing s with
  | zero => simp [stepN]
  | succ j ih => rw [show j + 1 + k = (j + k) + 1 by omega, stepN, stepN, ih]
/-- Where no bit is shifted out. -/
theorem stepN_small (k s : Nat) (h : s * 2 ^ k < 16777216) : stepN k s = s * 2 ^ k := by
  induction k generalizing s with
  | zero => simp [stepN]
  | succ k ih =>
    rw [Nat.pow_succ, Nat.mul_comm (2 ^ k), ← Nat.mul_assoc] at h
    have hp : 1 ≤ 2 ^ k := Nat.one_le_two_pow
    have h2 : s * 2 < 16777216 := by
      have := Nat.mul_le_mul_left (s * 2) hp
      omega
    rw [stepN, stepS, if_neg (by omega), ih _ h, Nat.pow_succ, Nat.mul_comm (2 ^ k) 2, Nat.mul_assoc]
theorem byteS_zero (s t : Nat) (x : UInt8) (hs : s < 16777216) (ht : t < 16777216) : byteS (s ^^^ t) x = byteS s x ^^^ stepN 8 t := by
  unfold byteS
  rw [Nat.xor_assoc, Nat.xor_comm t, ← Nat.xor_assoc]
  exact stepN_xor 8 _ _ (xor_lt24 hs (by have := x.toNat_lt; omega)) ht
theorem foldS_zero (l : List UInt8) (s t : Nat) (hs : s < 16777216) (ht : t < 16777216) : l.foldl byteS (s ^^^ t) = l.foldl byteS s ^^^ stepN (8 * l.length) t := by
  induction l generalizing s t with
  | nil => rfl
  | cons x l ih =>
    rw [List.foldl_cons, List.foldl_cons, byteS_zero s t x hs ht, ih _ _ (byteS_lt s x hs) (stepN_lt 8 t ht), List.length_cons, show 8 * (l.length + 1) = 8 + 8 * l.length by omega, stepN_add]
/-- Three bytes at once. -/
def word3 (a b c : UInt8) : Nat := a.toNat * 65536 + b.toNat * 256 + c.toNat
theorem xor_low (a b k : Nat) (h : b < 2 ^ k) : a * 2 ^ k + b = (a * 2 ^ k) ^^^ b := by
  rw [Nat.mul_comm, Nat.two_pow_add_eq_or_of_lt h]
  apply Nat.eq_of_testBit_eq
  intro i
  rw [Nat.testBit_or, Nat.testBit_xor]
  by_cases hi : i < k
  · rw [Nat.testBit_two_pow_mul]; simp [Nat.not_le.2 hi]
  · rw [Nat.testBit_lt_two_pow (Nat.lt_of_lt_of_le h (Nat.pow_le_pow_right (by decide) (by omega)))]; simp
theorem word3_xor (a b c : UInt8) : word3 a b c = (a.toNat * 65536) ^^^ ((b.toNat * 256) ^^^ c.toNat) := by
  have hb := b.toNat_lt; have hc := c.toNat_lt
  unfold word3
  rw [Nat.add_assoc, ← xor_low b.toNat c.toNat 8 (by omega)]
  exact xor_low a.toNat _ 16 (by omega)
theorem word3_lt (a b c : UInt8) : word3 a b c < 16777216 := by
  have ha := a.toNat_lt; have hb := b.toNat_lt; have hc := c.toNat_lt
  unfold word3; omega
theorem three (s : Nat) (a b c : UInt8) (hs : s < 16777216) : byteS (byteS (byteS s a) b) c = stepN 24 (s ^^^ word3 a b c) := by
  have ha := a.toNat_lt; have hb := b.toNat_lt; have hc := c.toNat_lt
  have h1 : b.toNat * 65536 = stepN 8 (b.toNat * 256) := by rw [stepN_small 8 _ (by omega)]; omega
  have h2 : c.toNat * 65536 = stepN 16 c.toNat := by rw [stepN_small 16 _ (by omega)]
  have l1 : s ^^^ (a.toNat * 65536) < 16777216 := xor_lt24 hs (by omega)
  have l2 : s ^^^ (a.toNat * 65536) ^^^ (b.toNat * 256) < 16777216 := xor_lt24 l1 (by omega)
  unfold byteS
  rw [h1, ← stepN_xor 8 _ _ l1 (by omega), ← stepN_add, h2, ← stepN_xor 16 _ _ l2 (by omega), ← stepN_add, word3_xor]
  congr 1
  simp only [Nat.xor_assoc]

/-- Bytes end with the sum of the others just where the sum of all is nought. -/
theorem sumB_word (s : Nat) (h : s < 16777216) (a b c : UInt8) : sumB s = [a, b, c] ↔ s = word3 a b c := by
  have ha := a.toNat_lt; have hb := b.toNat_lt; have hc := c.toNat_lt
  unfold sumB word3
  simp only [List.cons.injEq, and_true, ← UInt8.toNat_inj, UInt8.toNat_ofNat']
  omega
theorem right_iff (l : List UInt8) (a b c : UInt8) : sumB (sumOf l) = [a, b, c] ↔ sumOf (l ++ [a, b, c]) = 0 := by
  have hl := sumOf_lt l
  rw [sumB_word _ hl]
  unfold sumOf at *
  rw [List.foldl_append]
  simp only [List.foldl_cons, List.foldl_nil]
  rw [three _ a b c hl]
  constructor
  · intro h; rw [h, Nat.xor_self]; exact stepN_of_zero 24
  · intro h
    have := stepN_zero 24 _ (xor_lt24 hl (word3_lt a b c)) h
    exact eq_of_xor this

/-- Where three bytes side by side are turned, the sum of all turns. -/
theorem turned (p q : List UInt8) (a b c a' b' c' : UInt8) (h : [a, b, c] ≠ [a', b', c']) : sumOf (p ++ ([a, b, c] ++ q)) ≠ sumOf (p ++ ([a', b', c'] ++ q)) := by
  intro he
  have hp := sumOf_lt p
  have w1 := word3_lt a b c
  have w2 := word3_lt a' b' c'
  unfold sumOf at he hp
  simp only [List.foldl_append, List.foldl_cons, List.foldl_nil] at he
  rw [three _ a b c hp, three _ a' b' c' hp] at he
  generalize p.foldl byteS 11994318 = s at *
  have x1 := xor_lt24 hp w1
  have x2 := xor_lt24 hp w2
  have e : stepN 24 (s ^^^ word3 a' b' c') = stepN 24 (s ^^^ word3 a b c) ^^^ stepN 24 (word3 a b c ^^^ word3 a' b' c') := by
    rw [← stepN_xor 24 _ _ x1 (xor_lt24 w1 w2)]
    congr 1
    rw [Nat.xor_assoc, ← Nat.xor_assoc (word3 a b c), Nat.xor_self, Nat.zero_xor]
  rw [e, foldS_zero q _ _ (stepN_lt 24 _ x1) (stepN_lt 24 _ (xor_lt24 w1 w2))] at he
  generalize q.foldl byteS (stepN 24 (s ^^^ word3 a b c)) = t at *
  have hz : stepN (8 * q.length) (stepN 24 (word3 a b c ^^^ word3 a' b' c')) = 0 := by
    have := congrArg (t ^^^ ·) he
    simpa [← Nat.xor_assoc] using this.symm
  have h1 := stepN_zero _ _ (stepN_lt 24 _ (xor_lt24 w1 w2)) hz
  have h2 := stepN_zero _ _ (xor_lt24 w1 w2) h1
  have h3 := eq_of_xor h2
  apply h
  rw [← (sumB_word _ w1 a b c).2 rfl, h3, (sumB_word _ w2 a' b' c').2 rfl]

/-! ### The reference's way, bit by bit -/
def rbit (s x : Nat) : Nat := if s / 8388608 = x / 128 % 2 then s % 8388608 * 2 else (s % 8388608 * 2) ^^^ 8801531
def rbits : Nat → Nat → Nat → Nat
  | 0, s, _ => s
  | k + 1, s, x => rbits k (rbit s x) (x * 2)
theorem rbit_lt (s x : Nat) (_h : s < 16777216) : rbit s x < 16777216 := by
  unfold rbit; split
  · omega
  · exact xor_lt24 (by omega) (by decide)
theorem stepS_alt (s : Nat) (h : s < 16777216) : stepS s = if s / 8388608 = 0 then s % 8388608 * 2 else (s % 8388608 * 2) ^^^ 8801531 := by
  unfold stepS
  by_cases h2 : 16777216 ≤ s * 2
  · rw [if_pos h2, if_neg (by omega)]
    have e1 : s * 2 = 16777216 ^^^ (s % 8388608 * 2) := by
      have := xor_low 1 (s % 8388608 * 2) 24 (by omega)
      rw [← show 1 * 2 ^ 24 = 16777216 from rfl, ← this]; omega
    have e2 : (25578747 : Nat) = 16777216 ^^^ 8801531 := by decide
    rw [e1, e2, Nat.xor_comm 16777216 (s % 8388608 * 2), Nat.xor_assoc, ← Nat.xor_assoc 16777216 16777216, Nat.xor_self, Nat.zero_xor]
  · rw [if_neg h2, if_pos (by omega)]; omega
theorem rbit_step (s x : Nat) (hs : s < 16777216) : stepS (s ^^^ (x * 65536 % 16777216)) = rbit s x ^^^ (x * 2 * 65536 % 16777216) := by
  have hy : x * 65536 % 16777216 < 16777216 := Nat.mod_lt _ (by decide)
  have e1 : x * 65536 % 16777216 / 8388608 = x / 128 % 2 := by omega
  have e2 : x * 65536 % 16777216 % 8388608 * 2 = x * 2 * 65536 % 16777216 := by omega
  rw [stepS_xor _ _ hs hy, stepS_alt s hs, stepS_alt _ hy, e1, e2]
  unfold rbit
  have ht : s / 8388608 = 0 ∨ s / 8388608 = 1 := by omega
  have hu : x / 128 % 2 = 0 ∨ x / 128 % 2 = 1 := by omega
  revert ht hu
  generalize s / 8388608 = t
  generalize x / 128 % 2 = u
  generalize s % 8388608 * 2 = a
  generalize x * 2 * 65536 % 16777216 = b
  clear hs hy e1 e2
  generalize 8801531 = P
  intro ht hu
  have hc : ∀ c d : Nat, c ^^^ (c ^^^ d) = d := fun c d => by rw [← Nat.xor_assoc, Nat.xor_self, Nat.zero_xor]
  rcases ht with rfl | rfl <;> rcases hu with rfl | rfl
  · simp
  · simp [Nat.xor_assoc, Nat.xor_comm b]
  · simp [Nat.xor_assoc, Nat.xor_comm b]
  · simp only [Nat.one_ne_zero, if_false, if_true, Nat.xor_assoc]
    rw [Nat.xor_comm b P, hc]
theorem rbits_step (k s x : Nat) (hs : s < 16777216) : stepN k (s ^^^ (x * 65536 % 16777216)) = rbits k s x ^^^ (x * 2 ^ k * 65536 % 16777216) := by
  induction k generalizing s x with
  | zero => simp [stepN, rbits]
  | succ k ih =>
    rw [stepN, rbits, rbit_step s x hs, ih _ _ (rbit_lt s x hs), Nat.pow_succ, Nat.mul_comm (2 ^ k) 2, Nat.mul_assoc x 2]
theorem rbits_byte (s : Nat) (x : UInt8) (hs : s < 16777216) : rbits 8 s x.toNat = byteS s x := by
  have hx := x.toNat_lt
  have h := rbits_step 8 s x.toNat hs
  rw [Nat.mod_eq_of_lt (by omega)] at h
  unfold byteS
  rw [h, show x.toNat * 2 ^ 8 * 65536 % 16777216 = 0 by omega, Nat.xor_zero]
theorem rbits_succ (k s x : Nat) : rbits (k + 1) s x = rbit (rbits k s x) (x * 2 ^ k) := by
  induction k generalizing s x with
  | zero => simp [rbits]
  | succ k ih => rw [rbits, ih, rbits, Nat.pow_succ, Nat.mul_comm (2 ^ k) 2, Nat.mul_assoc]
theorem rbits_lt (k s x : Nat) (h : s < 16777216) : rbits k s x < 16777216 := by
  induction k generalizing s x with
  | zero => exact h
  | succ k ih => exact ih _ _ (rbit_lt s x h)
theorem stepN_succ (k s : Nat) : stepN (k + 1) s = stepS (stepN k s) := by
  rw [stepN_add k 1 s]; rfl

end Go.Proofs.Ytgdcpgmbmppfgaa
