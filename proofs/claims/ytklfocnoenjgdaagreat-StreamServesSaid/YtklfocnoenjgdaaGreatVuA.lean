/-
 stream: the chapter's first examples, where views are too.
-/
import Derived.Test.YtklfocnoenjgdaaGreatTb
import Derived.KernelRfl
import Derived.Test.YtklfocnoenjgdaaGreatEf
set_option linter.unusedSimpArgs false
set_option linter.unusedVariables false
set_option maxRecDepth 100000
namespace Go.Proofs.YtklfocnoenjgdaaGreat
open Go Go.Ax
theorem zdD : zTI (zAE Tryz.prog (fsT tbl) 4000000 60 (.fn 4) [] mem0) = true:=by kernel_rfl
theorem zS1 (M : Mem) : zAE Tryz.prog (fsT tbl) 4000000 60 (.fn 4) [] M = some (BL true,M):=zNI tf4 rfl zdD M
end Go.Proofs.YtklfocnoenjgdaaGreat
