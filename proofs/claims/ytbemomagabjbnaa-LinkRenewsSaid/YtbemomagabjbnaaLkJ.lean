/-
  The statement LinkRenews: from its arguments to the run.
-/
import Derived.Test.YtbemomagabjbnaaLkI
set_option linter.unusedSimpArgs false
set_option linter.unusedVariables false
set_option maxRecDepth 100000
namespace Go.Proofs.Ytbemomagabjbnaa
open Go Go.Ax

abbrev gItem : GT := .ag [.int .i64, .sl (.int .u8)]
abbrev gEnd : GT := .ag [.int .i64, .int .i64, .sl gItem, .int .i64, .int .i64, .bool]
theorem of_isItem (r : List AV) (h : Is gItem r) : ∃ x, isItem r x := by
  simp only [gItem, Is, IsL] at h
  obtain ⟨_, _, rfl, ⟨n, rfl, _⟩, _, _, rfl, h2, rfl⟩ := h
  obtain ⟨a, b, rfl, hb⟩ := Is.bytes (by simpa only [Is] using h2)
  exact ⟨⟨n, b⟩, a, rfl, hb⟩
theorem of_isEnd {a : AV} (h : IsA gEnd a) : ∃ e, IsEnd a e ∧ -9223372036854775808 ≤ e.nx ∧ e.nx ≤ 9223372036854775807 := by
  obtain ⟨cs, rfl, h⟩ := h
  simp only [IsL] at h
  obtain ⟨_, _, rfl, h1, _, _, rfl, h2, _, _, rfl, h3, _, _, rfl, h4, _, _, rfl, h5, _, _, rfl, h6, rfl⟩ := h
  obtain ⟨ep, rfl, _⟩ := h1.i64
  obtain ⟨nx, rfl, hn⟩ := h2.i64
  obtain ⟨o, out, rfl, hS⟩ := Is.slice of_isItem h3
  obtain ⟨want, rfl, _⟩ := h4.i64
  obtain ⟨since, rfl, _⟩ := h5.i64
  simp only [Is] at h6
  obtain ⟨owe, rfl⟩ := h6
  exact ⟨⟨ep, nx, out, want, since, owe⟩, ⟨o, rfl, hS⟩, hn⟩
theorem of_isBs (r : List AV) (h : Is (.sl (.int .u8)) r) : ∃ x, isBs r x := by
  obtain ⟨a, b, rfl, hb⟩ := Is.bytes h
  exact ⟨b, a, rfl, hb⟩

namespace linkRenews
theorem run_args (a0 a1 a2 : AV) (h0 : IsA gEnd a0) (h1 : IsA (.int .i64) a1) (h2 : IsA (.sl (.sl (.int .u8))) a2) :
    callN Try.prog (fsT tbl) 100000 21 (.fn 3) [a0, a1, a2] mem0 = some (BL true, mem0) := by
  obtain ⟨e, he, hn⟩ := of_isEnd h0
  obtain ⟨n, h1', _⟩ := Is.i64 h1
  obtain rfl : a1 = I64 n := by simpa using h1'
  obtain ⟨a, l, hal, hl⟩ := Is.slice of_isBs h2
  obtain rfl : a2 = a := by simpa using hal
  exact law_run e a0 he hn n a2 l hl
end linkRenews
end Go.Proofs.Ytbemomagabjbnaa
