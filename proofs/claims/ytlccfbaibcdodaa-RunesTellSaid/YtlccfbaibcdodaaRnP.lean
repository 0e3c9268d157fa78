/-
  runes: texts, in plain words.
-/
import Derived.Test.YtlccfbaibcdodaaEe
import Derived.Test.YtlccfbaibcdodaaRxX
import Derived.Lib.TrimUEq
set_option linter.unusedSimpArgs false
set_option linter.unusedVariables false
set_option maxRecDepth 100000
namespace Go.Proofs.Ytlccfbaibcdodaa
open Go Go.Ax
def isR (n : Nat) : Bool := decide (n ≤ 1114111) && (decide (n < 55296) || decide (57343 < n))
def headN (c : Nat) : Nat × Nat := if c < 128 then (1, c) else if 192 ≤ c ∧ c < 224 then (2, c - 192) else if 224 ≤ c ∧ c < 240 then (3, c - 224) else if 240 ≤ c ∧ c < 248 then (4, c - 240) else (0, 0)
def numN (n : Nat) : List UInt8 → Nat
  | [] => n
  | b :: l => numN (64 * n + b.toNat % 64) l
def bytesN (n : Nat) : List Nat := if n < 128 then [n] else if n < 2048 then [192 + n / 64, 128 + n % 64] else if n < 65536 then [224 + n / 4096, 128 + n / 64 % 64, 128 + n % 64] else [240 + n / 262144, 128 + n / 4096 % 64, 128 + n / 64 % 64, 128 + n % 64]
def bytesU (n : Nat) : List UInt8 := (bytesN n).map UInt8.ofNat
/-- The rune that a text begins with, and how many bytes it has. -/
def firstL (l : List UInt8) : Option (Nat × Nat) := match l with
  | [] => none
  | c :: tl => if (headN c.toNat).1 = 0 ∨ (c :: tl).length < (headN c.toNat).1 then none
    else if isR (numN (headN c.toNat).2 (tl.take ((headN c.toNat).1 - 1))) = true ∧ bytesU (numN (headN c.toNat).2 (tl.take ((headN c.toNat).1 - 1))) = (c :: tl).take (headN c.toNat).1 then
      some (numN (headN c.toNat).2 (tl.take ((headN c.toNat).1 - 1)), (headN c.toNat).1) else none
theorem ofNat_eq (a : Nat) (x : UInt8) : UInt8.ofNat a = x ↔ a % 256 = x.toNat := by
  constructor
  · rintro rfl; simp
  · intro h
    apply UInt8.toNat_inj.1
    simp [h]
theorem bytes1 (n : Nat) (c : UInt8) : bytesU n = [c] ↔ n < 128 ∧ n = c.toNat := by
  unfold bytesU bytesN
  split
  · simp [ofNat_eq]; omega
  · split
    · simp; omega
    · split <;> simp <;> omega
theorem bytes2 (n : Nat) (c x : UInt8) : bytesU n = [c, x] ↔ 128 ≤ n ∧ n < 2048 ∧ 192 + n / 64 = c.toNat ∧ 128 + n % 64 = x.toNat := by
  unfold bytesU bytesN
  split
  · simp; omega
  · split
    · simp only [List.map_cons, List.map_nil, List.cons.injEq, ofNat_eq, and_true]; omega
    · split <;> simp <;> omega
theorem bytes3 (n : Nat) (c x y : UInt8) : bytesU n = [c, x, y] ↔ 2048 ≤ n ∧ n < 65536 ∧ 224 + n / 4096 = c.toNat ∧ 128 + n / 64 % 64 = x.toNat ∧ 128 + n % 64 = y.toNat := by
  unfold bytesU bytesN
  split
  · simp; omega
  · split
    · simp; omega
    · split
      · simp only [List.map_cons, List.map_nil, List.cons.injEq, ofNat_eq, and_true]; omega
      · simp; omega
theorem bytes4 (n : Nat) (c x y z : UInt8) (hn : n < 2097152) : bytesU n = [c, x, y, z] ↔ 65536 ≤ n ∧ 240 + n / 262144 = c.toNat ∧ 128 + n / 4096 % 64 = x.toNat ∧ 128 + n / 64 % 64 = y.toNat ∧ 128 + n % 64 = z.toNat := by
  unfold bytesU bytesN
  split
  · simp; omega
  · split
    · simp; omega
    · split
      · simp; omega
      · simp only [List.map_cons, List.map_nil, List.cons.injEq, ofNat_eq, and_true]; omega
theorem dec_bad {n b0 b1 b2 b3 : Nat} (h1 : 128 ≤ b0) (h2 : ¬ (b0 / 32 = 6 ∧ (1 < n ∧ b1 / 64 = 2))) (h3 : ¬ (b0 / 16 = 14 ∧ (1 < n ∧ b1 / 64 = 2) ∧ (2 < n ∧ b2 / 64 = 2))) (h4 : ¬ (b0 / 8 = 30 ∧ (1 < n ∧ b1 / 64 = 2) ∧ (2 < n ∧ b2 / 64 = 2) ∧ (3 < n ∧ b3 / 64 = 2))) : Lib.decodeN n b0 b1 b2 b3 = (65533, 1) := by
  unfold Lib.decodeN
  rw [if_neg (by omega), if_neg h2, if_neg h3, if_neg h4]
set_option maxHeartbeats 4000000 in
/-- The model's way and the document's. -/
theorem first_decode (c : UInt8) (tl : List UInt8) : Lib.decodeL (c :: tl) = (firstL (c :: tl)).getD (65533, 1) := by
  rw [Lib.decodeL_N]
  have hc := c.toNat_lt
  simp only [List.getD_cons_zero, List.length_cons]
  by_cases a1 : c.toNat < 128
  · have hh : headN c.toNat = (1, c.toNat) := by simp [headN, a1]
    simp only [firstL, hh, List.length_cons, Nat.sub_self, List.take_zero, numN, List.take_succ_cons]
    rw [if_neg (by omega), if_pos ⟨by simp [isR]; omega, (bytes1 _ _).2 ⟨a1, rfl⟩⟩]
    unfold Lib.decodeN
    rw [if_pos a1]; rfl
  by_cases a2 : 192 ≤ c.toNat ∧ c.toNat < 224
  · have hh : headN c.toNat = (2, c.toNat - 192) := by simp [headN, a1, a2]
    simp only [firstL, hh, List.length_cons]
    match tl with
    | [] => rw [if_pos (by simp), dec_bad (by omega) (by simp) (by simp) (by simp)]; rfl
    | x :: tl =>
      have hx := x.toNat_lt
      rw [if_neg (by simp)]
      simp only [Nat.reduceSub, List.take_succ_cons, List.take_zero, numN, bytes2, List.getD_cons_succ, List.getD_cons_zero, List.length_cons]
      by_cases a3 : x.toNat / 64 = 2
      · unfold Lib.decodeN
        rw [if_neg a1, if_pos (by omega)]
        by_cases a4 : c.toNat % 32 * 64 + x.toNat % 64 ≥ 128
        · rw [if_pos a4, if_pos ⟨by simp [isR]; omega, by omega⟩]
          simp; omega
        · rw [if_neg a4, if_neg (by rintro ⟨_, h⟩; omega)]; rfl
      · rw [if_neg (by rintro ⟨_, h⟩; omega), dec_bad (by omega) (by omega) (by omega) (by omega)]; rfl
  by_cases b2 : 224 ≤ c.toNat ∧ c.toNat < 240
  · have hh : headN c.toNat = (3, c.toNat - 224) := by unfold headN; rw [if_neg a1, if_neg a2, if_pos b2]
    simp only [firstL, hh, List.length_cons]
    match tl with
    | [] => rw [if_pos (by simp), dec_bad (by omega) (by simp) (by simp) (by simp)]; rfl
    | [x] => rw [if_pos (by simp), dec_bad (by omega) (by omega) (by simp) (by simp)]; rfl
    | x :: y :: tl =>
      have hx := x.toNat_lt
      have hy := y.toNat_lt
      rw [if_neg (by simp)]
      simp only [Nat.reduceSub, List.take_succ_cons, List.take_zero, numN, bytes3, List.getD_cons_succ, List.getD_cons_zero, List.length_cons]
      by_cases a3 : x.toNat / 64 = 2 ∧ y.toNat / 64 = 2
      · obtain ⟨a3, a5⟩ := a3
        unfold Lib.decodeN
        rw [if_neg a1, if_neg (by omega), if_pos (by omega)]
        have e : 64 * (64 * (c.toNat - 224) + x.toNat % 64) + y.toNat % 64 = c.toNat % 16 * 4096 + x.toNat % 64 * 64 + y.toNat % 64 := by omega
        rw [e]
        by_cases a4 : c.toNat % 16 * 4096 + x.toNat % 64 * 64 + y.toNat % 64 ≥ 2048 ∧ (c.toNat % 16 * 4096 + x.toNat % 64 * 64 + y.toNat % 64 < 55296 ∨ (57344 ≤ c.toNat % 16 * 4096 + x.toNat % 64 * 64 + y.toNat % 64 ∧ c.toNat % 16 * 4096 + x.toNat % 64 * 64 + y.toNat % 64 ≤ 1114111))
        · rw [if_pos a4, if_pos ⟨by simp [isR]; omega, by omega⟩]; rfl
        · rw [if_neg a4, if_neg (by rintro ⟨h', h⟩; simp [isR] at h'; omega)]; rfl
      · rw [if_neg (by rintro ⟨_, h⟩; omega), dec_bad (by omega) (by omega) (by omega) (by omega)]; rfl
  by_cases c2 : 240 ≤ c.toNat ∧ c.toNat < 248
  · have hh : headN c.toNat = (4, c.toNat - 240) := by unfold headN; rw [if_neg a1, if_neg a2, if_neg b2, if_pos c2]
    simp only [firstL, hh, List.length_cons]
    match tl with
    | [] => rw [if_pos (by simp), dec_bad (by omega) (by simp) (by simp) (by simp)]; rfl
    | [x] => rw [if_pos (by simp), dec_bad (by omega) (by omega) (by simp) (by simp)]; rfl
    | [x, y] => rw [if_pos (by simp), dec_bad (by omega) (by omega) (by omega) (by simp)]; rfl
    | x :: y :: z :: tl =>
      have hx := x.toNat_lt
      have hy := y.toNat_lt
      have hz := z.toNat_lt
      rw [if_neg (by simp)]
      have e : 64 * (64 * (64 * (c.toNat - 240) + x.toNat % 64) + y.toNat % 64) + z.toNat % 64 = c.toNat % 8 * 262144 + x.toNat % 64 * 4096 + y.toNat % 64 * 64 + z.toNat % 64 := by omega
      have hb := bytes4 (c.toNat % 8 * 262144 + x.toNat % 64 * 4096 + y.toNat % 64 * 64 + z.toNat % 64) c x y z (by omega)
      simp only [Nat.reduceSub, List.take_succ_cons, List.take_zero, numN, List.getD_cons_succ, List.getD_cons_zero, List.length_cons]
      rw [e]; simp only [hb]
      by_cases a3 : x.toNat / 64 = 2 ∧ y.toNat / 64 = 2 ∧ z.toNat / 64 = 2
      · obtain ⟨a3, a5, a6⟩ := a3
        unfold Lib.decodeN
        rw [if_neg a1, if_neg (by omega), if_neg (by omega), if_pos (by omega)]
        by_cases a4 : c.toNat % 8 * 262144 + x.toNat % 64 * 4096 + y.toNat % 64 * 64 + z.toNat % 64 ≥ 65536 ∧ (c.toNat % 8 * 262144 + x.toNat % 64 * 4096 + y.toNat % 64 * 64 + z.toNat % 64 < 55296 ∨ (57344 ≤ c.toNat % 8 * 262144 + x.toNat % 64 * 4096 + y.toNat % 64 * 64 + z.toNat % 64 ∧ c.toNat % 8 * 262144 + x.toNat % 64 * 4096 + y.toNat % 64 * 64 + z.toNat % 64 ≤ 1114111))
        · rw [if_pos a4, if_pos ⟨by simp [isR]; omega, by omega⟩]; rfl
        · rw [if_neg a4, if_neg (by rintro ⟨h', h⟩; simp [isR] at h'; omega)]; rfl
      · rw [if_neg (by rintro ⟨_, h⟩; omega), dec_bad (by omega) (by omega) (by omega) (by omega)]; rfl
  · have hh : headN c.toNat = (0, 0) := by simp [headN, a1, a2, b2, c2]
    simp only [firstL, hh]
    rw [if_pos (by simp), dec_bad (by omega) (by omega) (by omega) (by omega)]; rfl
def oddL : List UInt8 := [239, 191, 189]
theorem odd_bytes : bytesU 65533 = oddL := by decide
theorem firstL_bytes {l : List UInt8} {n k : Nat} (h : firstL l = some (n, k)) : isR n = true ∧ bytesU n = l.take k ∧ 0 < k ∧ k ≤ l.length := by
  unfold firstL at h
  split at h
  · cases h
  · split at h
    · cases h
    · rename_i c tl h1
      split at h
      · rename_i h2
        simp only [Option.some.injEq, Prod.mk.injEq] at h
        obtain ⟨rfl, rfl⟩ := h
        exact ⟨h2.1, h2.2, by omega, by omega⟩
      · cases h
/-- What stands for bytes that are no rune's is a rune of its own. -/
theorem first_odd (tl : List UInt8) : firstL (239 :: 191 :: 189 :: tl) = some (65533, 3) := by
  simp [firstL, headN, numN, isR, bytesU, bytesN]
end Go.Proofs.Ytlccfbaibcdodaa
