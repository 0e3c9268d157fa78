/-
  Closed calls and what they come to (printed by memo2.py).
-/
import Derived.Test.YtliicocdhkcanaaGreatYtG
import Derived.Test.YtliicocdhkcanaaGreatYtH
import Derived.Test.YtliicocdhkcanaaGreatYtI
import Derived.Test.YtliicocdhkcanaaGreatYtJ
import Derived.Test.YtliicocdhkcanaaGreatYtK
import Derived.Test.YtliicocdhkcanaaGreatYtL
import Derived.Test.YtliicocdhkcanaaGreatYtZ
import Derived.KernelRfl
import Derived.Test.YtliicocdhkcanaaGreatEg
set_option linter.unusedSimpArgs false
set_option linter.unusedVariables false
set_option maxRecDepth 100000
namespace Go.Proofs.YtliicocdhkcanaaGreat
open Go Go.Ax
theorem k16 : Fact Tryz.prog (fsT tbl) 4000000 71 e16 := fact (K := 56) (J := 14) (L := [e13, e10, e14, e15]) ⟨k13, k10.mono (by decide), k14, k15.mono (by decide), trivial⟩ tf12 rfl (fun M => by kernel_rfl) (fun d => by kernel_rfl)
theorem k17 : Fact Tryz.prog (fsT tbl) 4000000 71 e17 := fact (K := 56) (J := 14) (L := [e13, e10]) ⟨k13, k10.mono (by decide), trivial⟩ tf22 rfl (fun M => by kernel_rfl) (fun d => by kernel_rfl)
theorem k21 : Fact Tryz.prog (fsT tbl) 4000000 71 e21 := fact (K := 56) (J := 14) (L := [e13, e19, e18, e20]) ⟨k13, k19.mono (by decide), k18.mono (by decide), k20.mono (by decide), trivial⟩ tf32 rfl (fun M => by kernel_rfl) (fun d => by kernel_rfl)
end Go.Proofs.YtliicocdhkcanaaGreat
