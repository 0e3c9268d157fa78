/-
  The program's functions, as the executor has them: the table is the program's.
-/
import Derived.Test.YtemaoaopenpgcaaGreatTbK
set_option linter.unusedSimpArgs false
set_option linter.unusedVariables false
set_option maxRecDepth 100000
namespace Go.Proofs.YtemaoaopenpgcaaGreat.K
open Go Go.Ax
theorem zLE : (tbl.map noX).map clr = msk (tbl.map noX) (zC7 Tryz.prog 267 0) := by kernel_rfl
theorem tabOK : zFC Glob.any Tryz.prog (fsT tbl) := zNP zLE (by kernel_rfl)
end Go.Proofs.YtemaoaopenpgcaaGreat.K
