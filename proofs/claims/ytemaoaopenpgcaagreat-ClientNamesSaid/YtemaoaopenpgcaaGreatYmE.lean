/-
  A closed call of frame.Seal (printed by memo.py).
-/
import Derived.Test.YtemaoaopenpgcaaGreatYmZ
import Derived.KernelRfl
import Derived.Test.YtemaoaopenpgcaaGreatEg
set_option linter.unusedSimpArgs false
set_option linter.unusedVariables false
set_option maxRecDepth 100000
namespace Go.Proofs.YtemaoaopenpgcaaGreat
open Go Go.Ax
theorem k17 : Fact Tryz.prog (fsT tbl) 4000000 41 e17 := fact (K := 26) (J := 14) (L := []) trivial tf46 rfl (fun M => by kernel_rfl) (fun d => by kernel_rfl)
end Go.Proofs.YtemaoaopenpgcaaGreat
