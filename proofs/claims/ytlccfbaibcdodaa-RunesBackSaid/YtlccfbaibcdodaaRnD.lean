/-
  runes: the chapter's first examples.
-/
import Derived.Test.YtlccfbaibcdodaaRnC
import Derived.KernelRfl
set_option linter.unusedSimpArgs false
set_option linter.unusedVariables false
set_option maxRecDepth 100000
namespace Go.Proofs.Ytlccfbaibcdodaa
open Go Go.Ax
theorem alive0 : isTrue (callN Try.prog (fsT tbl) 100000 20 (.fn 7) [] mem0) = true := by kernel_rfl
theorem alive_run (M : Mem) : callN Try.prog (fsT tbl) 100000 20 (.fn 7) [] M = some (BL true, M) := closed_true tf7 rfl alive0 M
end Go.Proofs.Ytlccfbaibcdodaa
