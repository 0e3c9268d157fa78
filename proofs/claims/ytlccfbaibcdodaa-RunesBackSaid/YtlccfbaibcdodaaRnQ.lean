/-
  The statement RunesBack: from its arguments to the run.
-/
import Derived.Test.YtlccfbaibcdodaaRnM
import Derived.Test.YtlccfbaibcdodaaRnT
set_option linter.unusedSimpArgs false
set_option linter.unusedVariables false
set_option maxRecDepth 100000
namespace Go.Proofs.Ytlccfbaibcdodaa
open Go Go.Ax

theorem of_isI32 (r : List AV) (h : Is (.int .i32) r) : ∃ x, isI32 r x := by
  simp only [Is] at h
  obtain ⟨n, rfl, hw⟩ := h
  refine ⟨n, rfl, ?_⟩
  simp [Lit.wf, IntKind.min, IntKind.max, IntKind.signed, IntKind.bits] at hw
  omega
theorem of_isBool (r : List AV) (h : Is .bool r) : ∃ x, isBool r x := by
  simp only [Is] at h
  obtain ⟨b, rfl⟩ := h
  exact ⟨b, rfl⟩
theorem of_isStr {a : AV} (h : IsA .str a) : ∃ l : List UInt8, a = STR l := by
  have h : Is .str [a] := h
  simp only [Is] at h
  obtain ⟨s, hs, _⟩ := h
  simp only [List.cons.injEq, and_true] at hs
  exact ⟨s.data.toList, hs⟩
namespace runesBack
theorem run_args (a0 a1 a2 : AV) (h0 : IsA (.sl (.int .i32)) a0) (h1 : IsA .str a1) (h2 : IsA (.sl (.int .u8)) a2) :
    callN Try.prog (fsT tbl) 100000 21 (.fn 4) [a0, a1, a2] mem0 = some (BL true, mem0) := by
  obtain ⟨a, l, ha, hl⟩ := Is.slice of_isI32 h0
  obtain rfl : a0 = a := by simpa using ha
  obtain ⟨s, rfl⟩ := of_isStr h1
  obtain ⟨a, b, ha, hb⟩ := Is.bytes h2
  obtain rfl : a2 = a := by simpa using ha
  exact back_run hl hb
end runesBack
end Go.Proofs.Ytlccfbaibcdodaa
