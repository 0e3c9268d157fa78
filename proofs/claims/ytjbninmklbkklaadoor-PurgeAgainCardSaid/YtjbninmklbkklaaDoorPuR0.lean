/-
  purge: the chapter's examples, run.
-/
import Derived.Test.YtjbninmklbkklaaDoorPuB
set_option linter.unusedSimpArgs false
set_option linter.unusedVariables false
set_option maxRecDepth 100000
namespace Go.Proofs.YtjbninmklbkklaaDoor
open Go Go.Ax
theorem alive0 : isTrue (callN Tryd.prog (fsT tbl) 100000 20 (.fn 7) [] mem0) = true := by kernel_rfl
end Go.Proofs.YtjbninmklbkklaaDoor
