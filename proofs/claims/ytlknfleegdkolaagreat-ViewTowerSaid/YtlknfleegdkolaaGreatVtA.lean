/-
 view: the chapter's first examples.
-/
import Derived.Test.YtlknfleegdkolaaGreatTb
import Derived.KernelRfl
import Derived.Test.YtlknfleegdkolaaGreatEf
set_option linter.unusedSimpArgs false
set_option linter.unusedVariables false
set_option maxRecDepth 100000
namespace Go.Proofs.YtlknfleegdkolaaGreat
open Go Go.Ax
theorem zbT : zSP (zAE Tryz.prog (fsT tbl) 4000000 60 (.fn 4) [] mem0) = true:=by kernel_rfl
theorem zR5 (M : Mem) : zAE Tryz.prog (fsT tbl) 4000000 60 (.fn 4) [] M = some (BL true,M):=zN3 tf4 rfl zbT M
end Go.Proofs.YtlknfleegdkolaaGreat
