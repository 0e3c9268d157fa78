/-
  The program's functions, as the executor has them: the table is the program's.
-/
import Derived.Test.YtidkemgkejbalaaTb
set_option linter.unusedSimpArgs false
set_option linter.unusedVariables false
set_option maxRecDepth 100000
namespace Go.Proofs.Ytidkemgkejbalaa
open Go Go.Ax
theorem tbl_eq : tbl.map clr = tabList Try.prog 20 0 := by kernel_rfl
theorem tabOK : TabOK Try.prog (fsT tbl) := tab_fsT tbl_eq
end Go.Proofs.Ytidkemgkejbalaa
