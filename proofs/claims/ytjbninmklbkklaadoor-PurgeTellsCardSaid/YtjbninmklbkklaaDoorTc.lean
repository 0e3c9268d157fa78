/-
  The program's functions, as the executor has them: the table is the program's.
-/
import Derived.Test.YtjbninmklbkklaaDoorTb
set_option linter.unusedSimpArgs false
set_option linter.unusedVariables false
set_option maxRecDepth 100000
namespace Go.Proofs.YtjbninmklbkklaaDoor
open Go Go.Ax
theorem tbl_eq : (tbl.map noX).map clr = msk (tbl.map noX) (tabList Tryd.prog 74 0) := by kernel_rfl
end Go.Proofs.YtjbninmklbkklaaDoor
