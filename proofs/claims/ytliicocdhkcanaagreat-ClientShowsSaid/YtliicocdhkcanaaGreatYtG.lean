/-
  Closed calls and what they come to (printed by memo2.py).
-/
import Derived.Test.YtliicocdhkcanaaGreatYtZ
import Derived.KernelRfl
import Derived.Test.YtliicocdhkcanaaGreatEg
set_option linter.unusedSimpArgs false
set_option linter.unusedVariables false
set_option maxRecDepth 100000
namespace Go.Proofs.YtliicocdhkcanaaGreat
open Go Go.Ax
theorem k7 : Fact Tryz.prog (fsT tbl) 4000000 41 e7 := fact (K := 26) (J := 14) (L := []) trivial tf68 rfl (fun M => by kernel_rfl) (fun d => by kernel_rfl)
theorem k10 : Fact Tryz.prog (fsT tbl) 4000000 41 e10 := fact (K := 26) (J := 14) (L := []) trivial tf84 rfl (fun M => by kernel_rfl) (fun d => by kernel_rfl)
theorem k11 : Fact Tryz.prog (fsT tbl) 4000000 41 e11 := fact (K := 26) (J := 14) (L := []) trivial tf139 rfl (fun M => by kernel_rfl) (fun d => by kernel_rfl)
end Go.Proofs.YtliicocdhkcanaaGreat
