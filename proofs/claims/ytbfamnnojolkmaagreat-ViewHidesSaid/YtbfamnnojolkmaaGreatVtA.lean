/-
 view: the chapter's first examples.
-/
import Derived.Test.YtbfamnnojolkmaaGreatTb
import Derived.KernelRfl
import Derived.Test.YtbfamnnojolkmaaGreatEf
set_option linter.unusedSimpArgs false
set_option linter.unusedVariables false
set_option maxRecDepth 100000
namespace Go.Proofs.YtbfamnnojolkmaaGreat
open Go Go.Ax
theorem zbL : zSB (zAE Tryz.prog (fsT tbl) 4000000 60 (.fn 4) [] mem0) = true:=by kernel_rfl
theorem zQO (M : Mem) : zAE Tryz.prog (fsT tbl) 4000000 60 (.fn 4) [] M = some (BL true,M):=zMO tf4 rfl zbL M
end Go.Proofs.YtbfamnnojolkmaaGreat
