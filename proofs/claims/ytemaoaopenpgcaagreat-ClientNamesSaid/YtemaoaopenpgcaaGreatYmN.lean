/-
  A closed call of sum.Right (printed by memo.py).
-/
import Derived.Test.YtemaoaopenpgcaaGreatYmZ
import Derived.KernelRfl
import Derived.Test.YtemaoaopenpgcaaGreatEg
set_option linter.unusedSimpArgs false
set_option linter.unusedVariables false
set_option maxRecDepth 100000
namespace Go.Proofs.YtemaoaopenpgcaaGreat
open Go Go.Ax
theorem k53 : Fact Tryz.prog (fsT tbl) 4000000 41 e53 := fact (K := 26) (J := 14) (L := []) trivial tf125 rfl (fun M => by kernel_rfl) (fun d => by kernel_rfl)
end Go.Proofs.YtemaoaopenpgcaaGreat
