/-
  doc: the chapter's first examples.
-/
import Derived.Test.YtimimdjpmcmpnaaTb
import Derived.KernelRfl
import Derived.Test.YtimimdjpmcmpnaaEf
set_option linter.unusedSimpArgs false
set_option linter.unusedVariables false
set_option maxRecDepth 100000
namespace Go.Proofs.Ytimimdjpmcmpnaa
open Go Go.Ax
theorem alive0 : isTrue (callN Try.prog (fsT tbl) 100000 40 (.fn 4) [] mem0) = true := by kernel_rfl
theorem alive_run (M : Mem) : callN Try.prog (fsT tbl) 100000 40 (.fn 4) [] M = some (BL true, M) := closed_true tf4 rfl alive0 M
end Go.Proofs.Ytimimdjpmcmpnaa
