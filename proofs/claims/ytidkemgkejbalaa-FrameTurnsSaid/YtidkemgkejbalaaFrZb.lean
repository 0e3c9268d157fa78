/-
  The statement FrameTurns: from its arguments to the run.
-/
import Derived.Test.YtidkemgkejbalaaFrZa
set_option linter.unusedSimpArgs false
set_option linter.unusedVariables false
set_option maxRecDepth 100000
namespace Go.Proofs.Ytidkemgkejbalaa
open Go Go.Ax

abbrev gBy : GT := .ag [.int .u8, .int .u8, .int .u8]
theorem of_isBy {a : AV} (h : IsA gBy a) : ∃ x y z : UInt8, a = .agg [U8 x.toNat, U8 y.toNat, U8 z.toNat] := by
  obtain ⟨cs, rfl, h⟩ := h
  simp only [IsL] at h
  obtain ⟨_, _, rfl, h1, _, _, rfl, h2, _, _, rfl, h3, rfl⟩ := h
  obtain ⟨x, rfl⟩ := h1.u8
  obtain ⟨y, rfl⟩ := h2.u8
  obtain ⟨z, rfl⟩ := h3.u8
  exact ⟨x, y, z, rfl⟩

namespace frameTurns
theorem run_args (b0 b1 b2 b3 : AV) (h0 : IsA (.sl (.int .u8)) b0) (h1 : IsA (.int .i64) b1) (h2 : IsA gBy b2) (h3 : IsA (.sl (.int .u8)) b3) :
    callN Try.prog (fsT tbl) 100000 21 (.fn 3) [b0, b1, b2, b3] mem0 = some (BL true, mem0) := by
  obtain ⟨o, l, h0', h0⟩ := Is.bytes h0
  obtain rfl : b0 = o := by simpa using h0'
  obtain ⟨n, h1', _⟩ := Is.i64 h1
  obtain rfl : b1 = I64 n := by simpa using h1'
  obtain ⟨x, y, z, rfl⟩ := of_isBy h2
  obtain ⟨o2, l2, h3', h3⟩ := Is.bytes h3
  obtain rfl : b3 = o2 := by simpa using h3'
  exact law_run b0 l h0 n x y z b3 l2 h3
end frameTurns
end Go.Proofs.Ytidkemgkejbalaa
