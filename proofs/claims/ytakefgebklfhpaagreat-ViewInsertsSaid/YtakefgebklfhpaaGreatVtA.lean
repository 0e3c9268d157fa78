/-
 view: the chapter's first examples.
-/
import Derived.Test.YtakefgebklfhpaaGreatTb
import Derived.KernelRfl
import Derived.Test.YtakefgebklfhpaaGreatEf
set_option linter.unusedSimpArgs false
set_option linter.unusedVariables false
set_option maxRecDepth 100000
namespace Go.Proofs.YtakefgebklfhpaaGreat
open Go Go.Ax
theorem zc1 : zSS (zAE Tryz.prog (fsT tbl) 4000000 60 (.fn 4) [] mem0) = true:=by kernel_rfl
theorem zR7 (M : Mem) : zAE Tryz.prog (fsT tbl) 4000000 60 (.fn 4) [] M = some (BL true,M):=zMV tf4 rfl zc1 M
end Go.Proofs.YtakefgebklfhpaaGreat
