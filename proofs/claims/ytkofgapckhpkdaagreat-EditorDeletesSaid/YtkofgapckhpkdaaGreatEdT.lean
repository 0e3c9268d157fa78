/-
 editor: the chapter's first examples.
-/
import Derived.Test.YtkofgapckhpkdaaGreatTb
import Derived.KernelRfl
import Derived.Test.YtkofgapckhpkdaaGreatEf
set_option linter.unusedSimpArgs false
set_option linter.unusedVariables false
set_option maxRecDepth 100000
namespace Go.Proofs.YtkofgapckhpkdaaGreat
open Go Go.Ax
theorem zcA : zSU (zAE Tryz.prog (fsT tbl) 4000000 60 (.fn 4) [] mem0) = true:=by kernel_rfl
theorem zR7 (M : Mem) : zAE Tryz.prog (fsT tbl) 4000000 60 (.fn 4) [] M = some (BL true,M):=zN0 tf4 rfl zcA M
end Go.Proofs.YtkofgapckhpkdaaGreat
