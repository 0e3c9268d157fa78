/-
  Closed calls and what they come to (printed by memo2.py).
-/
import Derived.Test.YtliicocdhkcanaaGreatYtB
import Derived.Test.YtliicocdhkcanaaGreatYtC
import Derived.Test.YtliicocdhkcanaaGreatYtD
import Derived.Test.YtliicocdhkcanaaGreatYtE
import Derived.Test.YtliicocdhkcanaaGreatYtF
import Derived.Test.YtliicocdhkcanaaGreatYtG
import Derived.Test.YtliicocdhkcanaaGreatYtZ
import Derived.KernelRfl
import Derived.Test.YtliicocdhkcanaaGreatEg
set_option linter.unusedSimpArgs false
set_option linter.unusedVariables false
set_option maxRecDepth 100000
namespace Go.Proofs.YtliicocdhkcanaaGreat
open Go Go.Ax
theorem k20 : Fact Tryz.prog (fsT tbl) 4000000 41 e20 := fact (K := 26) (J := 14) (L := []) trivial tf68 rfl (fun M => by kernel_rfl) (fun d => by kernel_rfl)
theorem k4 : Fact Tryz.prog (fsT tbl) 4000000 56 e4 := fact (K := 41) (J := 14) (L := [e2, e1, e3]) ⟨k2, k1, k3, trivial⟩ tf32 rfl (fun M => by kernel_rfl) (fun d => by kernel_rfl)
theorem k8 : Fact Tryz.prog (fsT tbl) 4000000 56 e8 := fact (K := 41) (J := 14) (L := [e6, e5, e7]) ⟨k6, k5, k7, trivial⟩ tf32 rfl (fun M => by kernel_rfl) (fun d => by kernel_rfl)
end Go.Proofs.YtliicocdhkcanaaGreat
