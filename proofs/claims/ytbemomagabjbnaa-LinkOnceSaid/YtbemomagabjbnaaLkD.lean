/-
  link: the chapter's first examples.
-/
import Derived.Test.YtbemomagabjbnaaLkC
import Derived.KernelRfl
set_option linter.unusedSimpArgs false
set_option linter.unusedVariables false
set_option maxRecDepth 100000
namespace Go.Proofs.Ytbemomagabjbnaa
open Go Go.Ax
theorem alive0 : isTrue (callN Try.prog (fsT tbl) 100000 20 (.fn 8) [] mem0) = true := by kernel_rfl
theorem alive_run (M : Mem) : callN Try.prog (fsT tbl) 100000 20 (.fn 8) [] M = some (BL true, M) := closed_true tf8 rfl alive0 M
end Go.Proofs.Ytbemomagabjbnaa
