/-
 editor: the chapter's first examples.
-/
import Derived.Test.YtblegbfgedeldaaGreatTb
import Derived.KernelRfl
import Derived.Test.YtblegbfgedeldaaGreatEf
set_option linter.unusedSimpArgs false
set_option linter.unusedVariables false
set_option maxRecDepth 100000
namespace Go.Proofs.YtblegbfgedeldaaGreat
open Go Go.Ax
theorem zcA : zSW (zAE Tryz.prog (fsT tbl) 4000000 60 (.fn 6) [] mem0) = true:=by kernel_rfl
theorem zRA (M : Mem) : zAE Tryz.prog (fsT tbl) 4000000 60 (.fn 6) [] M = some (BL true,M):=zN3 tf6 rfl zcA M
end Go.Proofs.YtblegbfgedeldaaGreat
