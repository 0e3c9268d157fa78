/-
  The statement LinkWraps: from its arguments to the run.
-/
import Derived.Test.YtbemomagabjbnaaFrXj
set_option linter.unusedSimpArgs false
set_option linter.unusedVariables false
set_option maxRecDepth 100000
namespace Go.Proofs.Ytbemomagabjbnaa
open Go Go.Ax

abbrev gPk : GT := .ag [.int .i64, .int .i64, .int .i64, .sl (.int .u8)]
theorem of_isPk {a : AV} (h : IsA gPk a) : ∃ p, IsPk a p := by
  obtain ⟨cs, rfl, h⟩ := h
  simp only [IsL] at h
  obtain ⟨_, _, rfl, h1, _, _, rfl, h2, _, _, rfl, h3, _, _, rfl, h4, rfl⟩ := h
  obtain ⟨e, rfl, _⟩ := h1.i64
  obtain ⟨s, rfl, _⟩ := h2.i64
  obtain ⟨k, rfl, _⟩ := h3.i64
  obtain ⟨o, b, rfl, hb⟩ := Is.bytes h4
  exact ⟨⟨e, s, k, b⟩, o, rfl, hb⟩

namespace linkWraps
theorem run_args (a0 a1 : AV) (h0 : IsA gPk a0) (h1 : IsA (.sl (.int .u8)) a1) :
    callN Try.prog (fsT tbl) 100000 21 (.fn 5) [a0, a1] mem0 = some (BL true, mem0) := by
  obtain ⟨p, hp⟩ := of_isPk h0
  obtain ⟨o, l, h1', h1⟩ := Is.bytes h1
  obtain rfl : a1 = o := by simpa using h1'
  exact law_run a0 p hp a1 l h1
end linkWraps
end Go.Proofs.Ytbemomagabjbnaa
