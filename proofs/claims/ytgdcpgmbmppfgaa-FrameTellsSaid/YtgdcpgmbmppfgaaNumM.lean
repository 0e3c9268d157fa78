/-
  Plain functions on numbers and bytes: what package num computes, said without the program.
-/
namespace Go.Proofs.Ytgdcpgmbmppfgaa

/-- How many bytes a number needs. -/
def fol (n : Nat) : Nat := if n < 256 then 1 else 1 + fol (n / 256)
theorem fol_pos (n : Nat) : 1 ≤ fol n := by unfold fol; split <;> omega
theorem fol_le (k n : Nat) (h : n < 256 ^ (k + 1)) : fol n ≤ k + 1 := by
  induction k generalizing n with
  | zero => unfold fol; simp at h; simp [h]
  | succ k ih =>
    unfold fol; split
    · omega
    · have := ih (n/256) (by rw [Nat.div_lt_iff_lt_mul (by omega)]; rw [Nat.pow_succ] at h; exact h); omega

def sizeM (n : Int) : Int := if n < 0 ∨ 72057594037927936 ≤ n then 0 else if n < 248 then 1 else 1 + fol n.toNat

/-- The lowest k bytes of a number, the highest first. -/
def be (n : Nat) : Nat → List UInt8
  | 0 => []
  | k + 1 => UInt8.ofNat (n / 256 ^ k) :: be n k
theorem be_length (n k : Nat) : (be n k).length = k := by induction k with | zero => rfl | succ k ih => simp [be, ih]

def putL (n : Nat) : List UInt8 := if n < 248 then [UInt8.ofNat n] else UInt8.ofNat (247 + fol n) :: be n (fol n)

theorem be_low (n k : Nat) : be (n % 256 ^ k) k = be n k := by
  have h : ∀ j, j ≤ k → be (n % 256 ^ k) j = be n j := by
    intro j
    induction j with
    | zero => intro _; rfl
    | succ j ih =>
      intro hj
      simp only [be, ih (by omega), List.cons.injEq, and_true]
      obtain ⟨d, rfl⟩ : ∃ d, k = j + (d + 1) := ⟨k - j - 1, by omega⟩
      rw [Nat.pow_add, Nat.mod_mul_right_div_self]
      apply UInt8.toNat_inj.1
      simp only [UInt8.toNat_ofNat']
      rw [Nat.pow_succ]
      exact Nat.mod_mul_left_mod _ _ _
  exact h k (Nat.le_refl _)

/-- How many rounds are to come. -/
def fol0 (m : Nat) : Nat := if m = 0 then 0 else fol m
theorem fol0_step (m : Nat) (h : 0 < m) : fol0 m = 1 + fol0 (m / 256) := by
  unfold fol0
  rw [if_neg (by omega)]
  by_cases h2 : m < 256
  · rw [fol, if_pos h2, if_pos (by omega)]
  · rw [fol, if_neg h2, if_neg (by omega)]

theorem be_push (n k m : Nat) (h : m = n / 256 ^ k) : [UInt8.ofNat m] ++ be n k = be n (k + 1) := by rw [h]; rfl
theorem div_step (n k m : Nat) (h : m = n / 256 ^ k) : m / 256 = n / 256 ^ (k + 1) := by rw [h, Nat.div_div_eq_div_mul, Nat.pow_succ]

def badN (n : Int) : Prop := n < 0 ∨ 72057594037927936 ≤ n
instance (n : Int) : Decidable (badN n) := by unfold badN; infer_instance
/-- What writing a number gives: its bytes, and a code. -/
def putB (n : Int) : List UInt8 := if badN n then [] else putL n.toNat
def putC (n : Int) : Int := if badN n then 2 else 0

/-- The number of bytes. -/
def dec (l : List UInt8) : Nat := l.foldl (fun n x => n * 256 + x.toNat) 0

theorem dec_step (l : List UInt8) (x : UInt8) : dec (l ++ [x]) = dec l * 256 + x.toNat := by simp [dec]
theorem decFrom_eq (l : List UInt8) (n : Nat) : l.foldl (fun n x => n * 256 + x.toNat) n = n * 256 ^ l.length + dec l := by
  induction l generalizing n with
  | nil => simp [dec]
  | cons x l ih =>
    have h := ih (n * 256 + x.toNat)
    have h' := ih x.toNat
    simp only [List.foldl_cons, List.length_cons, dec] at h h' ⊢
    rw [h, Nat.zero_mul, Nat.zero_add, h', Nat.pow_succ, Nat.add_mul, Nat.mul_assoc, Nat.mul_comm 256]; omega
theorem dec_cons (x : UInt8) (l : List UInt8) : dec (x :: l) = x.toNat * 256 ^ l.length + dec l := by
  rw [dec, List.foldl_cons, decFrom_eq]; simp
theorem dec_lt (l : List UInt8) : dec l < 256 ^ l.length := by
  induction l with
  | nil => simp [dec]
  | cons x l ih =>
    rw [dec_cons, List.length_cons, Nat.pow_succ]
    have := x.toNat_lt
    have h2 : x.toNat * 256 ^ l.length ≤ 255 * 256 ^ l.length := Nat.mul_le_mul_right _ (by omega)
    omega
theorem dec_take_succ (l : List UInt8) (k : Nat) (x : UInt8) (h : l[k]? = some x) : dec (l.take (k + 1)) = dec (l.take k) * 256 + x.toNat := by
  rw [List.take_add_one, h]; exact dec_step _ _
theorem dec_be (n k : Nat) : dec (be n k) = n % 256 ^ k := by
  induction k with
  | zero => simp [be, dec, Nat.mod_one]
  | succ k ih =>
    rw [be, dec_cons, ih, be_length, UInt8.toNat_ofNat', show (2 : Nat) ^ 8 = 256 from rfl, Nat.pow_succ, Nat.mod_mul, Nat.mul_comm, Nat.add_comm]

theorem be_dec (l : List UInt8) : be (dec l) l.length = l := by
  induction l with
  | nil => rfl
  | cons x l ih =>
    rw [List.length_cons, be, dec_cons]
    have h1 := dec_lt l
    have hp : 0 < 256 ^ l.length := Nat.pow_pos (by decide)
    have e1 : (x.toNat * 256 ^ l.length + dec l) / 256 ^ l.length = x.toNat := by
      rw [Nat.mul_comm, Nat.mul_add_div hp, Nat.div_eq_of_lt h1, Nat.add_zero]
    rw [e1]
    have e2 : be (x.toNat * 256 ^ l.length + dec l) l.length = l := by
      rw [← be_low, Nat.mul_comm, Nat.mul_add_mod, Nat.mod_eq_of_lt h1, ih]
    rw [e2]; simp

def getM (b : List UInt8) : Int × Int × Int :=
  match b with
  | [] => (0, 0, 8)
  | x :: r =>
    if x.toNat < 248 then (x.toNat, 1, 0) else
    if 254 < x.toNat ∨ r.length < x.toNat - 247 then (0, 0, 8) else
    if sizeM (dec (r.take (x.toNat - 247))) = 1 + ((x.toNat - 247 : Nat) : Int) then (dec (r.take (x.toNat - 247)), 1 + ((x.toNat - 247 : Nat) : Int), 0) else (0, 0, 8)

/-- The number of s first bytes, as the reference reads it. -/
def cand (l : List UInt8) (s i : Nat) : Nat := if s = 1 then (l[0]?.getD 0).toNat else dec ((l.take i).drop 1)
def hits (l : List UInt8) (s : Nat) : Bool := decide (cand l s s < 72057594037927936) && decide (putL (cand l s s) = l.take s)

theorem cand_lt (l : List UInt8) (s i : Nat) (h1 : 1 ≤ i) : cand l s i < 256 ^ (if s = 1 then 1 else i - 1) := by
  unfold cand
  split
  · have := (l[0]?.getD 0).toNat_lt; omega
  · refine Nat.lt_of_lt_of_le (dec_lt _) (Nat.pow_le_pow_right (by decide) ?_)
    simp; omega
theorem cand_step (l : List UInt8) (s i : Nat) (y : UInt8) (hs : s ≠ 1) (h1 : 1 ≤ i) (hy : l[i]? = some y) : cand l s (i + 1) = cand l s i * 256 + y.toNat := by
  unfold cand
  rw [if_neg hs, if_neg hs, List.take_add_one, hy, Option.toList_some, List.drop_append_of_le_length, dec_step]
  have := (List.getElem?_eq_some_iff.1 hy).1
  simp; omega
theorem cand_small (l : List UInt8) (s i : Nat) (h1 : 1 ≤ i) (h8 : i ≤ 8) : cand l s i < 72057594037927936 := by
  refine Nat.lt_of_lt_of_le (cand_lt l s i h1) (Nat.le_trans (Nat.pow_le_pow_right (by decide) (?_ : _ ≤ 7)) (by decide))
  split <;> omega
theorem cand_smaller (l : List UInt8) (s i : Nat) (h1 : 1 ≤ i) (h8 : i ≤ 7) : cand l s i < 281474976710656 := by
  refine Nat.lt_of_lt_of_le (cand_lt l s i h1) (Nat.le_trans (Nat.pow_le_pow_right (by decide) (?_ : _ ≤ 6)) (by decide))
  split <;> omega

theorem putL_len (n : Nat) : (putL n).length = if n < 248 then 1 else 1 + fol n := by
  unfold putL; split
  · rfl
  · simp [be_length]; omega
theorem drop_take1 (r : List UInt8) (x : UInt8) (k : Nat) : ((x :: r).take (k + 1)).drop 1 = r.take k := by simp

/-- What is read is what the first fitting length gives. -/
theorem getM_hit (l : List UInt8) (s : Nat) (h1 : 1 ≤ s) (h8 : s ≤ 8) (hl : s ≤ l.length) (h : hits l s = true) : getM l = ((cand l s s : Int), (s : Int), 0) := by
  simp only [hits, Bool.and_eq_true, decide_eq_true_eq] at h
  obtain ⟨ha, hb⟩ := h
  cases l with
  | nil => simp at hl; omega
  | cons x r =>
    have hx := x.toNat_lt
    by_cases hs : s = 1
    · subst hs
      simp only [cand, if_pos, List.getElem?_cons_zero, Option.getD_some] at ha hb ⊢
      have hx2 : x.toNat < 248 := by
        have := congrArg List.length hb
        rw [putL_len] at this
        split at this
        · assumption
        · have := fol_pos x.toNat; simp at *; omega
      simp [getM, hx2]
    · obtain ⟨k, rfl⟩ : ∃ k, s = k + 1 := ⟨s - 1, by omega⟩
      have hc : cand (x :: r) (k + 1) (k + 1) = dec (r.take k) := by rw [cand, if_neg hs, drop_take1]
      rw [hc] at ha hb ⊢
      have hk : (r.take k).length = k := by simp at hl ⊢; omega
      have hlen := congrArg List.length hb
      rw [putL_len, List.take_succ_cons, List.length_cons, hk] at hlen
      split at hlen
      · omega
      · rename_i hge
        rw [putL, if_neg hge, List.take_succ_cons, List.cons.injEq] at hb
        have hf : fol (dec (r.take k)) = k := by omega
        have hxk : x.toNat = 247 + k := by
          rw [← hb.1, hf, UInt8.toNat_ofNat']; omega
        have hS : sizeM (dec (r.take k)) = 1 + (k : Int) := by
          unfold sizeM
          rw [if_neg (by omega), if_neg (by omega), Int.toNat_natCast, hf]
        simp only [getM, hxk, Nat.add_sub_cancel_left]
        rw [if_neg (by omega), if_neg (by simp at hl; omega), if_pos hS]
        simp only [Prod.mk.injEq, true_and, and_true]; omega
theorem getM_miss (l : List UInt8) (h : ∀ s, 1 ≤ s → s ≤ 8 → s ≤ l.length → hits l s = false) : getM l = (0, 0, 8) := by
  cases l with
  | nil => rfl
  | cons x r =>
    have hx := x.toNat_lt
    have h1 := h 1 (by omega) (by omega) (by simp)
    have hx2 : ¬ x.toNat < 248 := by
      intro hlt
      simp only [hits, cand, if_pos, List.getElem?_cons_zero, Option.getD_some] at h1
      simp [putL, hlt] at h1
      omega
    by_cases hb : 254 < x.toNat ∨ r.length < x.toNat - 247
    · simp only [getM]; rw [if_neg hx2, if_pos hb]
    · obtain ⟨k, hk⟩ : ∃ k : Nat, x.toNat = 247 + k := ⟨x.toNat - 247, by omega⟩
      have hk1 : 1 ≤ k := by omega
      simp only [getM, hk, Nat.add_sub_cancel_left]
      rw [if_neg (by omega), if_neg (by omega)]
      by_cases hS : sizeM (dec (r.take k)) = 1 + (k : Int)
      · exfalso
        have h2 := h (k + 1) (by omega) (by omega) (by simp; omega)
        have hc : cand (x :: r) (k + 1) (k + 1) = dec (r.take k) := by rw [cand, if_neg (by omega), drop_take1]
        have hlt := dec_lt (r.take k)
        have hlk : (r.take k).length = k := by simp; omega
        rw [hlk] at hlt
        unfold sizeM at hS
        split at hS
        · omega
        · split at hS
          · omega
          · rw [Int.toNat_natCast] at hS
            have hf : fol (dec (r.take k)) = k := by omega
            have he : putL (dec (r.take k)) = (x :: r).take (k + 1) := by
              rw [putL, if_neg (by omega), hf, List.take_succ_cons, List.cons.injEq]
              refine ⟨UInt8.toNat_inj.1 (by rw [UInt8.toNat_ofNat', hk]; omega), ?_⟩
              have hbd := be_dec (r.take k)
              rwa [hlk] at hbd
            rw [hits, hc, he] at h2
            simp at h2; omega
      · rw [if_neg hS]

theorem getM_form (l : List UInt8) : getM l = (0, 0, 8) ∨ ∃ n s : Nat, getM l = ((n : Int), (s : Int), 0) ∧ s ≤ l.length ∧ 1 ≤ s ∧ n < 72057594037927936 ∧ putL n = l.take s := by
  by_cases h : ∃ s, 1 ≤ s ∧ s ≤ 8 ∧ s ≤ l.length ∧ hits l s = true
  · obtain ⟨s, h1, h2, h3, h4⟩ := h
    have h5 := h4
    simp only [hits, Bool.and_eq_true, decide_eq_true_eq] at h5
    exact .inr ⟨_, s, getM_hit l s h1 h2 h3 h4, h3, h1, h5.1, h5.2⟩
  · refine .inl (getM_miss l fun s h1 h2 h3 => ?_)
    cases hh : hits l s with
    | true => exact absurd ⟨s, h1, h2, h3, hh⟩ h
    | false => rfl
theorem putL_le (n : Nat) (h : n < 72057594037927936) : (putL n).length ≤ 8 := by
  rw [putL_len]; split
  · omega
  · have := fol_le 6 n (by omega); omega
theorem putL_pos (n : Nat) : 1 ≤ (putL n).length := by rw [putL_len]; split <;> omega
theorem sizeM_len (n : Nat) (h : n < 72057594037927936) : sizeM n = (putL n).length := by
  rw [putL_len, sizeM, if_neg (by omega)]
  split
  · rw [if_pos (by omega)]; rfl
  · rw [if_neg (by omega), Int.toNat_natCast]; omega
/-- What is written is read, whatever stands behind. -/
theorem getM_put (n : Nat) (h : n < 72057594037927936) (r : List UInt8) : getM (putL n ++ r) = ((n : Int), ((putL n).length : Int), 0) := by
  have h1 := putL_pos n
  have h8 := putL_le n h
  have hc : cand (putL n ++ r) (putL n).length (putL n).length = n := by
    have ht : (putL n ++ r).take (putL n).length = putL n := List.take_left
    unfold cand
    rw [ht]
    by_cases hs : n < 248
    · have e : putL n = [UInt8.ofNat n] := if_pos hs
      rw [e]; simp; omega
    · have e : putL n = UInt8.ofNat (247 + fol n) :: be n (fol n) := if_neg hs
      have hp := fol_pos n
      rw [if_neg (by rw [e, List.length_cons, be_length]; omega), e, List.drop_one, List.tail_cons, dec_be]
      have : ∀ m : Nat, m < 256 ^ (fol m) := by
        intro m
        induction m using Nat.strongRecOn with
        | _ m ih =>
          unfold fol; split
          · simpa
          · have := ih (m / 256) (by omega)
            rw [Nat.add_comm, Nat.pow_succ]
            exact (Nat.div_lt_iff_lt_mul (by decide)).1 this
      exact Nat.mod_eq_of_lt (this n)
  have hh : hits (putL n ++ r) (putL n).length = true := by
    rw [hits, hc, List.take_left]; simp [h]
  have := getM_hit (putL n ++ r) (putL n).length h1 h8 (by simp) hh
  rw [this, hc]

end Go.Proofs.Ytgdcpgmbmppfgaa
