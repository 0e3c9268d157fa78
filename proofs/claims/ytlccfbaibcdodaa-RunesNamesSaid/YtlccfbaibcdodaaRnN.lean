/-
  The statement RunesNames: the run.
-/
import Derived.Test.YtlccfbaibcdodaaRnT
import Derived.KernelRfl
set_option linter.unusedSimpArgs false
set_option linter.unusedVariables false
set_option maxRecDepth 100000
namespace Go.Proofs.Ytlccfbaibcdodaa
open Go Go.Ax
namespace runesNames
theorem run_args : callN Try.prog (fsT tbl) 100000 21 (.fn 5) [] mem0 = some (BL true, mem0) := closed_true tf5 rfl (by kernel_rfl) mem0
end runesNames
end Go.Proofs.Ytlccfbaibcdodaa
