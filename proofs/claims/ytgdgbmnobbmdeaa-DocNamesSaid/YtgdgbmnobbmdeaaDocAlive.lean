/-
  A closed function's run, in parts: alive.
-/
import Derived.Test.YtgdgbmnobbmdeaaIn
set_option linter.unusedVariables false
namespace Go.Proofs.Ytgdgbmnobbmdeaa.alive
open Go.Ax

def tab : List Nat := []
theorem htab : ∀ g ∈ tab, TrueFn Try.prog g := fun g hg => by cases hg
def t0 : List AV := List.replicate 59 undefA
theorem fin : finB Try.prog tab 20000 200 12 0 t0 mem0 = true := by kernel_rfl
theorem d0 : Done Try.prog 12 0 t0 mem0 := fin_ok insOK htab fin
theorem is_true : TrueFn Try.prog 12 := true_of_done (by kernel_rfl) (by kernel_rfl) d0
end Go.Proofs.Ytgdgbmnobbmdeaa.alive
