/-
  runes: Get (a range over slices.Chunk).
-/
import Derived.Test.YtlccfbaibcdodaaRnC
set_option linter.unusedSimpArgs false
set_option linter.unusedVariables false
set_option maxRecDepth 100000
namespace Go.Proofs.Ytlccfbaibcdodaa
open Go Go.Ax
variable {fuel : Nat} {M : Mem} {Q : AV → Mem → Prop} {d : Nat}

theorem or_add (i a b : Nat) (hb : b < 2 ^ i) : 2 ^ i * a ||| b = 2 ^ i * a + b := (Nat.two_pow_add_eq_or_of_lt hb a).symm
theorem u32_wrap (n : Nat) (h : n < 4294967296) : IntKind.u32.wrap (n : Int) = (n : Int) := by
  simp [IntKind.wrap, IntKind.bits, IntKind.signed]; omega
theorem or32 (P : Program) (ty : TypeId) (i a b x : Nat) (hx : x = 2 ^ i * a) (hb : b < 2 ^ i) (h : x + b < 4294967296) : binV P .or ty .u32 (x : Int) .u32 (b : Int) = some (.int .u32 ((x + b : Nat) : Int)) := by
  subst hx
  rw [vOr]
  congr 2
  have e : (BitVec.ofInt 32 ((2 ^ i * a : Nat) : Int) ||| BitVec.ofInt 32 (b : Int)).toNat = 2 ^ i * a + b := by
    rw [BitVec.ofInt_natCast, BitVec.ofInt_natCast, BitVec.toNat_or, BitVec.toNat_ofNat, BitVec.toNat_ofNat, Nat.mod_eq_of_lt (by omega), Nat.mod_eq_of_lt (by omega), or_add _ _ _ hb]
  rw [show IntKind.u32.bits = 32 from rfl, e, u32_wrap _ h]
theorem shl32 (P : Program) (ty : TypeId) (a s m : Nat) {z : Int} (hz : z = (s : Int)) (hs : s < 32) (hm : m = 2 ^ s) (h : a * m < 4294967296) : binV P .shl ty   .u32 (a : Int) .u64 z = some (.int .u32 ((a * m : Nat) : Int)) := by
  subst hm hz
  rw [vShl ty .u32 .u64 a s (by omega)]
  congr 2
  show IntKind.u32.wrap ((a : Int) * 2 ^ (min (s : Int).toNat 32)) = _
  rw [Int.toNat_natCast, Nat.min_eq_left (by omega), ← u32_wrap _ h]
  push_cast
  rfl
def num4 (a b c e : UInt8) : Nat := a.toNat * 16777216 + b.toNat * 65536 + c.toNat * 256 + e.toNat
/-- The numbers of bytes, four by four. -/
def nums : List UInt8 → List Int
  | a :: b :: c :: e :: l => IntKind.i32.wrap (num4 a b c e : Nat) :: nums l
  | _ => []
theorem nums_len : ∀ l : List UInt8, (nums l).length = l.length / 4
  | [] => rfl
  | [_] => by simp [nums]
  | [_, _] => by simp [nums]
  | [_, _, _] => by simp [nums]
  | a :: b :: c :: e :: l => by
    simp only [nums, List.length_cons, nums_len l]; omega
theorem i32_wrap (n : Int) : -2147483648 ≤ IntKind.i32.wrap n ∧ IntKind.i32.wrap n ≤ 2147483647 := by
  simp [IntKind.wrap, IntKind.bits, IntKind.signed]
  omega
theorem nums_four {l : List UInt8} {a b c e : UInt8} (m : List UInt8) (h : ∃ k, l = m ++ [a, b, c, e] ∧ m.length = 4 * k) : nums l = nums m ++ [IntKind.i32.wrap (num4 a b c e : Nat)] := by
  obtain ⟨k, rfl, hm⟩ := h
  induction k generalizing m with
  | zero =>
    have : m = [] := List.eq_nil_of_length_eq_zero (by omega)
    subst this; rfl
  | succ k ih =>
    match m, hm with
    | x :: y :: z :: u :: m, hm =>
      simp only [List.cons_append, nums]
      rw [ih m (by simp only [List.length_cons] at hm; omega)]
    | [], h => simp at h
    | [_], h => simp at h; omega
    | [_, _], h => simp at h; omega
    | [_, _, _], h => simp at h; omega
def getF (b : List UInt8) : List Int × Int := if 256 < b.length then ([], 4) else if b.length % 4 ≠ 0 then ([], 8) else if chk (nums b) ≠ 0 then ([], chk (nums b)) else (nums b, 0)

theorem cut_mid {a : AV} {l : List UInt8} (h : Bs a l) {i j : Nat} (hi : i ≤ j) (hj : j ≤ l.length) : ∃ a', (∀ M, slcO M 1 a (some (I64 i)) (some (I64 j)) (some (I64 j)) = some (a', M)) ∧ Bs a' ((l.drop i).take (j - i)) := by
  rcases bs_form h with ⟨rfl, rfl⟩ | ⟨cap, rfl⟩
  · obtain rfl : j = 0 := by simpa using hj
    obtain rfl : i = 0 := by omega
    exact ⟨NIL, fun M => rfl, .inl ⟨rfl, rfl⟩⟩
  · refine ⟨.pv (u8s ((l.drop i).take (j - i))) (j - i) (some (j - i)) 1, fun M => ?_, bs_pv _ _ (by rw [List.length_take, List.length_drop]; omega)⟩
    unfold slcO
    simp only [Nat.beq_refl, bnd_int _ _ _ _ hj, bnd_int _ _ _ _ hi, bnd_int _ _ _ _ (Nat.le_refl j), slot_u8]
/-- The lesser of two numbers. -/
def pmn (d : Option AV) (u v : AV) : Option AV := match u with
  | .sc (.int .i64 n) => match v with
    | .sc (.int .i64 m) => some (I64 (if m < n then m else n))
    | _ => d
  | _ => d
theorem pmn_int (d : Option AV) (n m : Int) : pmn d (.sc (.int .i64 n)) (.sc (.int .i64 m)) = some (I64 (if m < n then m else n)) := rfl
theorem pMin2 {P : Program} {t : List AV} (ty : TypeId) (i j : Nat) : pureOp P t (mkO (.call ⟨.builtin .min, #[.tmp i, .tmp j], #[ty, ty]⟩) ty) = pmn (pureD P t (mkO (.call ⟨.builtin .min, #[.tmp i, .tmp j], #[ty, ty]⟩) ty)) (evalA t (.tmp i)) (evalA t (.tmp j)) := by
  unfold pmn
  split
  · rename_i n hx
    split
    · rename_i m hy
      refine pureOp_of (v := .int .i64 (if m < n then m else n)) ?_ ?_
      · show ([Operand.tmp i, .tmp j].all fun x => (toVal (evalA t x)).isSome) = true
        simp only [List.all_cons, List.all_nil, hx, hy]
        rfl
      · refine pureRun_bind2 (P := P) _ (a := (⟨.builtin .min #[ty, ty] ty #[false, false], #[.int .i64 n, .int .i64 m]⟩ : Deferred)) ?_ ?_
        · simp only [resolve, List.map_toArray, List.map_cons, List.map_nil, mkO, hx, hy, toVal, Option.getD_some]
          rfl
        · rfl
    · rfl
  · rfl
end Go.Proofs.Ytlccfbaibcdodaa
