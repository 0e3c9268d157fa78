/-
  tree: in whatever order runs are put, one text: from the arguments.
-/
import Derived.Test.YtfgeckmlgohbjaaToC
import Derived.Test.YtfgeckmlgohbjaaTrV
import Derived.Test.YtfgeckmlgohbjaaEf
set_option linter.unusedSimpArgs false
set_option linter.unusedVariables false
set_option maxRecDepth 100000
namespace Go.Proofs.Ytfgeckmlgohbjaa.treeOrder
open Go Go.Ax
theorem run_args (a0 : AV) (h0 : IsA (.sl gRn) a0) : callN Try.prog (fsT tbl) 4000000 61 (.fn 3) [a0] mem0 = some (BL true, mem0) := by
  obtain ⟨a, l, ha, hl⟩ := Is.slice of_rn h0
  obtain rfl : a0 = a := by simpa using ha
  exact order_run hl mem0
end Go.Proofs.Ytfgeckmlgohbjaa.treeOrder
