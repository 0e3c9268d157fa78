/-
 editor: the chapter's first examples.
-/
import Derived.Test.YtebloodpblgncaaGreatTb
import Derived.KernelRfl
import Derived.Test.YtebloodpblgncaaGreatEf
set_option linter.unusedSimpArgs false
set_option linter.unusedVariables false
set_option maxRecDepth 100000
namespace Go.Proofs.YtebloodpblgncaaGreat
open Go Go.Ax
theorem zcW : zTF (zAE Tryz.prog (fsT tbl) 4000000 60 (.fn 4) [] mem0) = true:=by kernel_rfl
theorem zRR (M : Mem) : zAE Tryz.prog (fsT tbl) 4000000 60 (.fn 4) [] M = some (BL true,M):=zNE tf4 rfl zcW M
end Go.Proofs.YtebloodpblgncaaGreat
