/-
  stream: the chapter's first examples (StreamHides' table).
-/
import Derived.Test.YtggbpfdbcibifaaTb
import Derived.KernelRfl
import Derived.Test.YtggbpfdbcibifaaEe
set_option linter.unusedSimpArgs false
set_option linter.unusedVariables false
set_option maxRecDepth 100000
namespace Go.Proofs.Ytggbpfdbcibifaa
open Go Go.Ax
theorem alive0 : isTrue (callN Try.prog (fsT tbl) 100000 40 (.fn 9) [] mem0) = true := by kernel_rfl
theorem alive_run (M : Mem) : callN Try.prog (fsT tbl) 100000 40 (.fn 9) [] M = some (BL true, M) := closed_true tf9 rfl alive0 M
end Go.Proofs.Ytggbpfdbcibifaa
