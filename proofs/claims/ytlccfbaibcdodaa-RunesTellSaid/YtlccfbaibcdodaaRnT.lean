/-
  runes: the table is the program's.
-/
import Derived.Test.YtlccfbaibcdodaaTc
import Derived.Test.YtlccfbaibcdodaaRxE
set_option linter.unusedSimpArgs false
set_option linter.unusedVariables false
set_option maxRecDepth 100000
namespace Go.Proofs.Ytlccfbaibcdodaa
open Go Go.Ax
theorem tabOK : TabOK Glob.any Try.prog (fsT tbl) := tab_ext (xs := [14]) tbl_eq (by kernel_rfl) fun f hf => by
  obtain rfl : f = 14 := by simpa using hf
  exact ⟨Try.f14, extText, by kernel_rfl, Try.func14, by kernel_rfl, by kernel_rfl, text_ok _⟩
end Go.Proofs.Ytlccfbaibcdodaa
