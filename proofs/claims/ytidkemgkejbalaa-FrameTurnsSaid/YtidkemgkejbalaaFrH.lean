/-
  max of nought and a number.
-/
import Derived.Test.YtidkemgkejbalaaFrG
set_option linter.unusedSimpArgs false
set_option linter.unusedVariables false
set_option maxRecDepth 100000
namespace Go.Proofs.Ytidkemgkejbalaa
open Go Go.Ax

theorem p_max {P : Program} {t : List AV} (ty : TypeId) (i : Nat) (n : Int) (h : nth undefA t i = I64 n) : pureOp P t (mkO (.call ⟨.builtin .max, #[.const (.int .i64 0), .tmp i], #[ty, ty]⟩) ty) = some (I64 (if n > 0 then n else 0)) := by
  have h' : evalA t (.tmp i) = I64 n := h
  refine pureOp_of (v := .int .i64 (if n > 0 then n else 0)) ?_ ?_
  · show ([Operand.const (.int .i64 0), .tmp i].all fun x => (toVal (evalA t x)).isSome) = true
    simp only [List.all_cons, List.all_nil, h']
    rfl
  · refine pureRun_bind2 (P := P) _ (a := (⟨.builtin .max #[ty, ty] ty #[true, false], #[.int .i64 0, .int .i64 n]⟩ : Deferred)) ?_ ?_
    · simp only [resolve, List.map_toArray, List.map_cons, List.map_nil, mkO, h', toVal, Option.getD_some]
      rfl
    · rfl
def pmx (d : Option AV) (u : AV) : Option AV := match u with
  | .sc (.int .i64 n) => some (I64 (if n > 0 then n else 0))
  | _ => d
theorem pmx_int (d : Option AV) (n : Int) : pmx d (.sc (.int .i64 n)) = some (I64 (if n > 0 then n else 0)) := rfl
theorem pMax2 {P : Program} {t : List AV} (ty : TypeId) (i : Nat) : pureOp P t (mkO (.call ⟨.builtin .max, #[.const (.int .i64 0), .tmp i], #[ty, ty]⟩) ty) = pmx (pureD P t (mkO (.call ⟨.builtin .max, #[.const (.int .i64 0), .tmp i], #[ty, ty]⟩) ty)) (evalA t (.tmp i)) := by
  unfold pmx
  split
  · rename_i n hx; exact p_max ty i n hx
  · rfl
theorem or8 (P : Program) (ty : TypeId) (a b : Nat) (ha : a * 256 < 9223372036854775808) (hb : b < 256) : binV P .or ty .i64 ((a * 256 : Nat) : Int) .i64 (b : Int) = some (.int .i64 ((a * 256 + b : Nat) : Int)) := by
  rw [vOr]
  congr 2
  have e : (BitVec.ofInt 64 ((a * 256 : Nat) : Int) ||| BitVec.ofInt 64 (b : Int)).toNat = a * 256 + b := by
    rw [BitVec.ofInt_natCast, BitVec.ofInt_natCast, BitVec.toNat_or, BitVec.toNat_ofNat, BitVec.toNat_ofNat, Nat.mod_eq_of_lt (by omega), Nat.mod_eq_of_lt (by omega)]
    have := Nat.two_pow_add_eq_or_of_lt (i := 8) (b := b) (by omega) a
    rw [show 2 ^ 8 * a = a * 256 by omega] at this
    exact this.symm
  rw [show IntKind.i64.bits = 64 from rfl, e, wrap_i64] <;> omega
theorem shl8 (P : Program) (ty : TypeId) (a : Nat) (h : a * 256 < 9223372036854775808) : binV P .shl ty .i64 (a : Int) .u64 8 = some (.int .i64 ((a * 256 : Nat) : Int)) := by
  rw [vShl ty .i64 .u64 a 8 (by omega)]
  congr 2
  show IntKind.i64.wrap ((a : Int) * 256) = _
  rw [wrap_i64] <;> omega
end Go.Proofs.Ytidkemgkejbalaa
