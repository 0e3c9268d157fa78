/-
  The statement RunesHidden: from its arguments to the run.
-/
import Derived.Test.YtlccfbaibcdodaaRnE
set_option linter.unusedSimpArgs false
set_option linter.unusedVariables false
set_option maxRecDepth 100000
namespace Go.Proofs.Ytlccfbaibcdodaa
open Go Go.Ax

theorem of_isI32 (r : List AV) (h : Is (.int .i32) r) : ∃ x, isI32 r x := by
  simp only [Is] at h
  obtain ⟨n, rfl, hw⟩ := h
  refine ⟨n, rfl, ?_⟩
  simp [Lit.wf, IntKind.min, IntKind.max, IntKind.signed, IntKind.bits] at hw
  omega
theorem of_isBool (r : List AV) (h : Is .bool r) : ∃ x, isBool r x := by
  simp only [Is] at h
  obtain ⟨b, rfl⟩ := h
  exact ⟨b, rfl⟩

namespace runesHidden
theorem run_args (a0 a1 a2 : AV) (h0 : IsA (.sl (.int .i32)) a0) (h1 : IsA (.sl .bool) a1) (h2 : IsA (.sl (.int .i32)) a2) :
    callN Try.prog (fsT tbl) 100000 21 (.fn 3) [a0, a1, a2] mem0 = some (BL true, mem0) := by
  obtain ⟨a, l, ha, hl⟩ := Is.slice of_isI32 h0
  obtain rfl : a0 = a := by simpa using ha
  obtain ⟨a, w, ha, hw⟩ := Is.slice of_isBool h1
  obtain rfl : a1 = a := by simpa using ha
  obtain ⟨a, o, ha, ho⟩ := Is.slice of_isI32 h2
  obtain rfl : a2 = a := by simpa using ha
  exact law_run hl hw ho
end runesHidden
end Go.Proofs.Ytlccfbaibcdodaa
