/-
  The statement RunesTell: from its arguments to the run.
-/
import Derived.Test.YtlccfbaibcdodaaRtG
import Derived.Test.YtlccfbaibcdodaaRnT
set_option linter.unusedSimpArgs false
set_option linter.unusedVariables false
set_option maxRecDepth 100000
namespace Go.Proofs.Ytlccfbaibcdodaa
open Go Go.Ax

theorem of_isI32 (r : List AV) (h : Is (.int .i32) r) : ∃ x, isI32 r x := by
  simp only [Is] at h
  obtain ⟨n, rfl, hw⟩ := h
  refine ⟨n, rfl, ?_⟩
  simp [Lit.wf, IntKind.min, IntKind.max, IntKind.signed, IntKind.bits] at hw
  omega
theorem of_isBool (r : List AV) (h : Is .bool r) : ∃ x, isBool r x := by
  simp only [Is] at h
  obtain ⟨b, rfl⟩ := h
  exact ⟨b, rfl⟩
theorem of_isStr {a : AV} (h : IsA .str a) : ∃ l : List UInt8, a = STR l := by
  have h : Is .str [a] := h
  simp only [Is] at h
  obtain ⟨s, hs, _⟩ := h
  simp only [List.cons.injEq, and_true] at hs
  exact ⟨s.data.toList, hs⟩
namespace runesTell
theorem run_args (a0 a1 a2 a3 a4 : AV) (h0 : IsA .str a0) (h1 : IsA (.sl (.int .i32)) a1) (h2 : IsA (.sl .bool) a2) (h3 : IsA (.sl (.int .u8)) a3) (h4 : IsA .str a4) :
    callN Try.prog (fsT tbl) 100000 21 (.fn 6) [a0, a1, a2, a3, a4] mem0 = some (BL true, mem0) := by
  obtain ⟨s, rfl⟩ := of_isStr h0
  obtain ⟨a, l, ha, hl⟩ := Is.slice of_isI32 h1
  obtain rfl : a1 = a := by simpa using ha
  obtain ⟨a, w, ha, hw⟩ := Is.slice of_isBool h2
  obtain rfl : a2 = a := by simpa using ha
  obtain ⟨a, b, ha, hb⟩ := Is.bytes h3
  obtain rfl : a3 = a := by simpa using ha
  obtain ⟨m, rfl⟩ := of_isStr h4
  exact tell_run hl hw hb
end runesTell
end Go.Proofs.Ytlccfbaibcdodaa
