/-
  runes: there and back, in plain words; Text as the executor has it.
-/
import Derived.Test.YtlccfbaibcdodaaRnG
import Derived.Test.YtlccfbaibcdodaaRnH
set_option linter.unusedSimpArgs false
set_option linter.unusedVariables false
set_option maxRecDepth 100000
namespace Go.Proofs.Ytlccfbaibcdodaa
open Go Go.Ax
variable {fuel : Nat} {M : Mem} {Q : AV → Mem → Prop} {d : Nat}

theorem i32s_of : ∀ {rows : List (List AV)} {l : List Int}, All2 isI32 rows l → i32s rows.flatten = some l
  | _, _, .nil => rfl
  | _, _, .cons ⟨h, h1, h2⟩ t => by
    subst h
    simp only [List.flatten_cons, List.cons_append, List.nil_append, i32s, i32s_of t, decide_eq_true h1, decide_eq_true h2, Bool.and_self]
theorem row32_of {a : AV} {l : List Int} (h : Sl 1 isI32 a l) : row32 a = some l := by
  rcases h with ⟨rfl, rfl⟩ | ⟨rows, cap, rfl, h, hl⟩
  · rfl
  · have hf := flat_len hl
    simp only [row32, i32s_of h, show Nat.beq rows.flatten.length rows.length = true by rw [hf, Nat.mul_one]; exact Nat.beq_refl _, Nat.beq_refl, Bool.and_self]
theorem text_run {a : AV} {l : List Int} (h : Sl 1 isI32 a l) (m : List UInt8) (hm : m.length ≤ 1000000) (M : Mem) : callN Try.prog (fsT tbl) fuel (d + 1) (.fn 14) [a, STR m] M = some (textR m l, M) := by
  have ic : icyL (icy 12) M [a, STR m] = some ([a, STR m], M) := by simp (maxSteps := 2000000) (disch := first | omega | assumption | (simp only [DS, Nat.reduceAdd, *]; done) | (simp only [DZ]; omega)) only [RUN, RU, footA, feetIn, resultsA, tupOf, frzL, slot, lay, icyL, fillA, repCells, kR, reduceIte, Nat.reduceEqDiff, Nat.reduceBEq, Nat.reduceLT, Nat.reduceAdd, Nat.reduceLeDiff, Nat.reduceSub, Nat.reduceMul, Int.reduceLT, Int.reduceLE, Int.reduceEq, Int.reduceAdd, Int.reduceSub, Int.reduceMul, h.icy]
  have e : extText [a, STR m] = some (textR m l) := by
    simp only [extText, str_size, Nat.ble_eq_true_of_le hm, row32_of h]
  simp only [callN, tf14, a14, ic, e]
theorem textR_ok {m : List UInt8} {l : List Int} (h : chk l = 0) : textR m l = .tup [STR (textL m l), I64 0] := by
  unfold textR; rw [h]; rfl
theorem textR_bad {m : List UInt8} {l : List Int} (h : chk l ≠ 0) : textR m l = .tup [STR [], I64 (chk l)] := by
  unfold textR
  split
  · rename_i e; exact absurd e h
  · rfl
theorem all2_bound : ∀ {rows : List (List AV)} {l : List Int}, All2 isI32 rows l → ∀ x ∈ l, -2147483648 ≤ x ∧ x ≤ 2147483647
  | _, _, .nil => by simp
  | _, _, .cons a t => fun x hx => by
    rcases List.mem_cons.1 hx with rfl | hx
    · exact ⟨a.2.1, a.2.2⟩
    · exact all2_bound t x hx
/-- The numbers are int32's. -/
theorem sl_bound {a : AV} {l : List Int} (h : Sl 1 isI32 a l) : ∀ x ∈ l, -2147483648 ≤ x ∧ x ≤ 2147483647 := by
  rcases h with ⟨_, rfl⟩ | ⟨rows, cap, _, h, _⟩
  · simp
  · exact all2_bound h
theorem by8_val (n : Int) : ((by8 n).toNat : Int) = n % 256 := by
  simp [by8, UInt8.toNat_ofNat']; omega
theorem i32_mod (x n : Int) (h1 : -2147483648 ≤ x) (h2 : x ≤ 2147483647) (hn : n = x % 4294967296) : IntKind.i32.wrap n = x := by
  simp [IntKind.wrap, IntKind.bits, IntKind.signed]
  omega
theorem num_four (x : Int) (h1 : -2147483648 ≤ x) (h2 : x ≤ 2147483647) : IntKind.i32.wrap (num4 (by8 (x.fdiv 16777216)) (by8 (x.fdiv 65536)) (by8 (x.fdiv 256)) (by8 x) : Nat) = x := by
  have a1 := by8_val (x.fdiv 16777216)
  have a2 := by8_val (x.fdiv 65536)
  have a3 := by8_val (x.fdiv 256)
  have a4 := by8_val x
  refine i32_mod x _ h1 h2 ?_
  unfold num4
  generalize (by8 (x.fdiv 16777216)).toNat = b1 at *
  generalize (by8 (x.fdiv 65536)).toNat = b2 at *
  generalize (by8 (x.fdiv 256)).toNat = b3 at *
  generalize (by8 x).toNat = b4 at *
  rw [Int.fdiv_eq_ediv_of_nonneg _ (by omega)] at a1 a2 a3
  have e2 : x / 65536 = x / 256 / 256 := by rw [Int.ediv_ediv_of_nonneg (by omega)]; rfl
  have e3 : x / 16777216 = x / 256 / 256 / 256 := by rw [Int.ediv_ediv_of_nonneg (by omega), Int.ediv_ediv_of_nonneg (by omega)]; rfl
  rw [e2] at a2
  rw [e3] at a1
  generalize hq1 : x / 256 = q1 at *
  generalize hq2 : q1 / 256 = q2 at *
  generalize hq3 : q2 / 256 = q3 at *
  omega
theorem nums_wide : ∀ l : List Int, (∀ x ∈ l, -2147483648 ≤ x ∧ x ≤ 2147483647) → nums (wide l) = l
  | [], _ => rfl
  | x :: l, h => by
    have hx := h x (by simp)
    have e : wide (x :: l) = by8 (x.fdiv 16777216) :: by8 (x.fdiv 65536) :: by8 (x.fdiv 256) :: by8 x :: wide l := by simp [wide, four]
    rw [e, nums, num_four x hx.1 hx.2, nums_wide l fun y hy => h y (by simp [hy])]
theorem wide_len (l : List Int) : (wide l).length = 4 * l.length := by
  induction l with
  | nil => rfl
  | cons x l ih =>
    have e : wide (x :: l) = by8 (x.fdiv 16777216) :: by8 (x.fdiv 65536) :: by8 (x.fdiv 256) :: by8 x :: wide l := by simp [wide, four]
    rw [e]; simp only [List.length_cons, ih]; omega
theorem by8_eq (n : Int) (b : UInt8) (h : n % 256 = b.toNat) : by8 n = b := by
  apply UInt8.toNat_inj.1
  have := by8_val n
  omega
theorem four_num (a b c e : UInt8) : four (IntKind.i32.wrap (num4 a b c e : Nat)) = [a, b, c, e] := by
  have ha := a.toNat_lt
  have hb := b.toNat_lt
  have hc := c.toNat_lt
  have he := e.toNat_lt
  have hw : IntKind.i32.wrap (num4 a b c e : Nat) % 4294967296 = (num4 a b c e : Nat) := by
    simp [IntKind.wrap, IntKind.bits, IntKind.signed, num4]; omega
  generalize IntKind.i32.wrap (num4 a b c e : Nat) = x at *
  unfold num4 at hw
  unfold four
  rw [Int.fdiv_eq_ediv_of_nonneg _ (by omega), Int.fdiv_eq_ediv_of_nonneg _ (by omega), Int.fdiv_eq_ediv_of_nonneg _ (by omega)]
  rw [by8_eq (x / 16777216) a (by omega), by8_eq (x / 65536) b (by omega), by8_eq (x / 256) c (by omega), by8_eq x e (by omega)]
theorem wide_nums : ∀ b : List UInt8, b.length % 4 = 0 → wide (nums b) = b
  | [], _ => rfl
  | [_], h => by simp at h
  | [_, _], h => by simp at h
  | [_, _, _], h => by simp at h
  | a :: b :: c :: e :: l, h => by
    have ih := wide_nums l (by simp only [List.length_cons] at h; omega)
    simp only [nums, wide, List.flatMap_cons] at ih ⊢
    rw [four_num, ih]; rfl
theorem get_put {l : List Int} (hb : ∀ x ∈ l, -2147483648 ≤ x ∧ x ≤ 2147483647) (h : chk l = 0) : getF (wide l) = (l, 0) := by
  have hl : l.length ≤ 64 := by unfold chk at h; split at h <;> omega
  unfold getF
  rw [if_neg (by rw [wide_len]; omega), if_neg (by rw [wide_len]; omega), nums_wide l hb, if_neg (by simpa using h)]
theorem getF_ok {b : List UInt8} (h : (getF b).2 = 0) : getF b = (nums b, 0) ∧ chk (nums b) = 0 ∧ wide (nums b) = b ∧ b.length ≤ 256 := by
  unfold getF at *
  split at h
  · cases h
  · split at h
    · cases h
    · rename_i h1 h2
      split at h
      · rename_i h3; exact absurd h h3
      · rename_i h3
        rw [if_neg h1, if_neg h2, if_neg h3]
        exact ⟨rfl, by simpa using h3, wide_nums b (by omega), by omega⟩
theorem enc_eq (n : Nat) (h : isR n = true) : Lib.encodeRune (n : Int) = bytesU n := by
  simp [isR] at h
  unfold Lib.encodeRune bytesU bytesN
  have key : ∀ x : Int, ∀ y : Nat, x = y → x.toNat.toUInt8 = UInt8.ofNat y := by rintro x y rfl; rfl
  by_cases h1 : n < 128
  · rw [Lib.encodeRuneZ_one (by omega) (by omega), if_pos h1]
    simp only [List.map_cons, List.map_nil]
    rw [key _ n rfl]
  by_cases h2 : n < 2048
  · rw [Lib.encodeRuneZ_two (by omega) (by omega), if_neg h1, if_pos h2]
    simp only [List.map_cons, List.map_nil]
    rw [key _ (192 + n / 64) (by omega), key _ (128 + n % 64) (by omega)]
  by_cases h3 : n < 65536
  · rw [Lib.encodeRuneZ_three (by omega), if_neg h1, if_neg h2, if_pos h3]
    simp only [List.map_cons, List.map_nil]
    rw [key _ (224 + n / 4096) (by omega), key _ (128 + n / 64 % 64) (by omega), key _ (128 + n % 64) (by omega)]
  · rw [Lib.encodeRuneZ_four (by omega) (by omega), if_neg h1, if_neg h2, if_neg h3]
    simp only [List.map_cons, List.map_nil]
    rw [key _ (240 + n / 262144) (by omega), key _ (128 + n / 4096 % 64) (by omega), key _ (128 + n / 64 % 64) (by omega), key _ (128 + n % 64) (by omega)]
theorem valid_isR (n : Nat) : valid (n : Int) = isR n := by
  unfold valid isR
  by_cases h1 : n ≤ 1114111 <;> by_cases h2 : n < 55296 <;> by_cases h3 : 57343 < n <;> simp [h1, h2, h3] <;> omega
theorem of_text (mk : List UInt8) : ∀ (f : Nat) (l : List UInt8) (m : List Int), l.length ≤ f → ofF f l = some m → textL mk m = l ∧ ∀ x ∈ m, valid x = true ∧ x ≠ -1
  | 0, l, m, hl, h => by
    have : l = [] := List.eq_nil_of_length_eq_zero (by omega)
    subst this
    simp only [ofF, Option.some.injEq] at h
    subst h; exact ⟨rfl, by simp⟩
  | f + 1, [], m, _, h => by
    simp only [ofF, Option.some.injEq] at h
    subst h; exact ⟨rfl, by simp⟩
  | f + 1, c :: tl, m, hl, h => by
    cases hf : firstL (c :: tl) with
    | none => simp only [ofF, hf, reduceCtorEq] at h
    | some p =>
      obtain ⟨n, k⟩ := p
      obtain ⟨b1, b2, b3, b4⟩ := firstL_bytes hf
      simp only [ofF, hf, Option.map_eq_some_iff] at h
      obtain ⟨m', h1, rfl⟩ := h
      obtain ⟨i1, i2⟩ := of_text mk f _ m' (by rw [List.length_drop]; simp only [List.length_cons] at hl ⊢; omega) h1
      refine ⟨?_, ?_⟩
      · have : textL mk ((n : Int) :: m') = Lib.encodeRune n ++ textL mk m' := by
          simp only [textL, List.flatMap_cons]
          rw [if_neg (by omega)]
        rw [this, i1, enc_eq n b1, b2, List.take_append_drop]
      · intro x hx
        rcases List.mem_cons.1 hx with rfl | hx
        · exact ⟨by rw [valid_isR]; exact b1, by omega⟩
        · exact i2 x hx
theorem ofM_ok {l : List UInt8} (mk : List UInt8) (h : ofE l = 0) : textL mk (ofM l) = l ∧ chk (ofM l) = 0 := by
  unfold ofE ofM at *
  cases ho : ofL l with
  | none => rw [ho] at h; cases h
  | some m =>
    rw [ho] at h
    simp only at h ⊢
    by_cases h64 : 64 < m.length
    · rw [if_pos h64] at h; cases h
    · rw [if_neg h64]
      obtain ⟨h1, h2⟩ := of_text mk _ _ m (Nat.le_refl _) ho
      refine ⟨h1, ?_⟩
      unfold chk
      rw [if_neg h64, if_pos]
      rw [List.all_eq_true]
      intro x hx
      simp [okR, (h2 x hx).1]
theorem ofM_bad {l : List UInt8} (h : ofE l ≠ 0) : ofM l = [] := by
  unfold ofE ofM at *
  cases ho : ofL l with
  | none => rfl
  | some m =>
    rw [ho] at h
    simp only at h ⊢
    by_cases h64 : 64 < m.length
    · rw [if_pos h64]
    · rw [if_neg h64] at h; exact absurd rfl h
end Go.Proofs.Ytlccfbaibcdodaa
