/-
  The program's functions, as the executor has them: the table is the program's.
-/
import Derived.Test.YtliicocdhkcanaaGreatTbK
set_option linter.unusedSimpArgs false
set_option linter.unusedVariables false
set_option maxRecDepth 100000
namespace Go.Proofs.YtliicocdhkcanaaGreat.K
open Go Go.Ax
theorem zWZ : (tbl.map noX).map clr = msk (tbl.map noX) (zEU Tryz.prog 252 0) := by kernel_rfl
theorem tabOK : zL0 Glob.any Tryz.prog (fsT tbl) := zaN zWZ (by kernel_rfl)
end Go.Proofs.YtliicocdhkcanaaGreat.K
