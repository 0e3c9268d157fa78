/-
  The program's functions, as the executor has them: the table is the program's.
-/
import Derived.Test.YtbomjpdheibmfaaTb
set_option linter.unusedSimpArgs false
set_option linter.unusedVariables false
set_option maxRecDepth 100000
namespace Go.Proofs.Ytbomjpdheibmfaa
open Go Go.Ax
theorem tbl_eq : (tbl.map noX).map clr = msk (tbl.map noX) (tabList Try.prog 61 0) := by kernel_rfl
theorem tabOK : TabOK Glob.any Try.prog (fsT tbl) := tab_msk0 tbl_eq (by kernel_rfl)
end Go.Proofs.Ytbomjpdheibmfaa
