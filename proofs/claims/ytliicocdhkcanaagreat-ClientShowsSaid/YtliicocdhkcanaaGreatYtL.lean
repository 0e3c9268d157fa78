/-
  Closed calls and what they come to (printed by memo2.py).
-/
import Derived.Test.YtliicocdhkcanaaGreatYtA
import Derived.Test.YtliicocdhkcanaaGreatYtB
import Derived.Test.YtliicocdhkcanaaGreatYtE
import Derived.Test.YtliicocdhkcanaaGreatYtG
import Derived.Test.YtliicocdhkcanaaGreatYtK
import Derived.Test.YtliicocdhkcanaaGreatYtZ
import Derived.KernelRfl
import Derived.Test.YtliicocdhkcanaaGreatEg
set_option linter.unusedSimpArgs false
set_option linter.unusedVariables false
set_option maxRecDepth 100000
namespace Go.Proofs.YtliicocdhkcanaaGreat
open Go Go.Ax
theorem k12 : Fact Tryz.prog (fsT tbl) 4000000 56 e12 := fact (K := 41) (J := 14) (L := [e10, e11]) ⟨k10, k11, trivial⟩ tf6 rfl (fun M => by kernel_rfl) (fun d => by kernel_rfl)
theorem k13 : Fact Tryz.prog (fsT tbl) 4000000 56 e13 := fact (K := 41) (J := 14) (L := [e10, e11]) ⟨k10, k11, trivial⟩ tf60 rfl (fun M => by kernel_rfl) (fun d => by kernel_rfl)
theorem k14 : Fact Tryz.prog (fsT tbl) 4000000 56 e14 := fact (K := 41) (J := 14) (L := [e10]) ⟨k10, trivial⟩ tf80 rfl (fun M => by kernel_rfl) (fun d => by kernel_rfl)
theorem k9 : Fact Tryz.prog (fsT tbl) 4000000 71 e9 := fact (K := 56) (J := 14) (L := [e0, e1, e4, e5, e8]) ⟨k0.mono (by decide), k1.mono (by decide), k4, k5.mono (by decide), k8, trivial⟩ tf11 rfl (fun M => by kernel_rfl) (fun d => by kernel_rfl)
end Go.Proofs.YtliicocdhkcanaaGreat
