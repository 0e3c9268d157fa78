/-
  The program's functions, as the executor has them: the table is the program's.
-/
import Derived.Test.YtemaoaopenpgcaaGreatTbK
set_option linter.unusedSimpArgs false
set_option linter.unusedVariables false
set_option maxRecDepth 100000
namespace Go.Proofs.YtemaoaopenpgcaaGreat.K
open Go Go.Ax
theorem zLJ : (tbl.map noX).map clr = msk (tbl.map noX) (zC9 Tryz.prog 267 0) := by kernel_rfl
theorem tabOK : zFG Glob.any Tryz.prog (fsT tbl) := zNU zLJ (by kernel_rfl)
end Go.Proofs.YtemaoaopenpgcaaGreat.K
