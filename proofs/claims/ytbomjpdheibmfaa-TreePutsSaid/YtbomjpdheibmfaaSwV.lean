/-
  What arguments read as: labels, operations, rows of numbers.
-/
import Derived.Test.YtbomjpdheibmfaaSaA
import Derived.Test.YtbomjpdheibmfaaEf
set_option linter.unusedSimpArgs false
set_option linter.unusedVariables false
set_option maxRecDepth 100000
namespace Go.Proofs.Ytbomjpdheibmfaa
open Go Go.Ax
abbrev gLb : GT := .ag [.int .u8, .int .u32]
abbrev gHd : GT := .ag [gLb, .int .u8]
abbrev gId : GT := .ag [gHd, .int .i64]
abbrev gSp : GT := .ag [gId, .int .i64]
theorem rng_u8 {n : Int} (h : (Lit.int .u8 n).wf = true) : 0 ≤ n ∧ n ≤ 255 := by
  simp [Lit.wf, IntKind.min, IntKind.max, IntKind.signed, IntKind.bits] at h
  omega
theorem rng_u32 {n : Int} (h : (Lit.int .u32 n).wf = true) : 0 ≤ n ∧ n < 4294967296 := by
  simp [Lit.wf, IntKind.min, IntKind.max, IntKind.signed, IntKind.bits] at h
  omega
theorem rng_i64 {n : Int} (h : (Lit.int .i64 n).wf = true) : i64R n := by
  simp [Lit.wf, IntKind.min, IntKind.max, IntKind.signed, IntKind.bits] at h
  unfold i64R
  omega
def isI32r (r : List AV) (x : Int) : Prop := isI32 r x ∧ (-2147483648 ≤ x ∧ x ≤ 2147483647)
theorem of_i32 (r : List AV) (h : Is (.int .i32) r) : ∃ x, isI32r r x := by
  simp only [Is] at h
  obtain ⟨n, rfl, hw⟩ := h
  refine ⟨n, rfl, ?_⟩
  simp [Lit.wf, IntKind.min, IntKind.max, IntKind.signed, IntKind.bits] at hw
  omega
theorem all2_i32 : ∀ {rows : List (List AV)} {l : List Int}, All2 isI32r rows l → All2 isI32 rows l ∧ i32s l
  | _, _, .nil => ⟨.nil, fun x h => by cases h⟩
  | _, _, .cons a t => by
    obtain ⟨h1, h2⟩ := all2_i32 t
    refine ⟨.cons a.1 h1, fun x h => ?_⟩
    rcases List.mem_cons.1 h with rfl | h
    · exact a.2
    · exact h2 x h
theorem sl_i32 {a : AV} {l : List Int} (h : Sl 1 isI32r a l) : Sl 1 isI32 a l ∧ i32s l := by
  rcases h with ⟨rfl, rfl⟩ | ⟨rows, cap, rfl, hA, hr⟩
  · exact ⟨.inl ⟨rfl, rfl⟩, fun x h => by cases h⟩
  · obtain ⟨h1, h2⟩ := all2_i32 hA
    exact ⟨.inr ⟨rows, cap, rfl, h1, hr⟩, h2⟩
theorem of_runes {r : List AV} (h : Is (.sl (.int .i32)) r) : ∃ a l, r = [a] ∧ Sl 1 isI32 a l ∧ i32s l := by
  obtain ⟨a, l, e, hs⟩ := Is.slice of_i32 h
  obtain ⟨h1, h2⟩ := sl_i32 hs
  exact ⟨a, l, e, h1, h2⟩
end Go.Proofs.Ytbomjpdheibmfaa
