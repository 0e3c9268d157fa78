/-
  The program's functions, as the executor has them: the table is the program's.
-/
import Derived.Test.YtbemomagabjbnaaTb
set_option linter.unusedSimpArgs false
set_option linter.unusedVariables false
set_option maxRecDepth 100000
namespace Go.Proofs.Ytbemomagabjbnaa
open Go Go.Ax
theorem tbl_eq : tbl.map clr = msk tbl (tabList Try.prog 68 0) := by kernel_rfl
theorem tabOK : TabOK Try.prog (fsT tbl) := tab_msk tbl_eq
end Go.Proofs.Ytbemomagabjbnaa
