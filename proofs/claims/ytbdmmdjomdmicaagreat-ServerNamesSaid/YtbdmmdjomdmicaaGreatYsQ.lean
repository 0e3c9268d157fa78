/-
  Closed calls and what they come to (printed by memo2.py).
-/
import Derived.Test.YtbdmmdjomdmicaaGreatYsA
import Derived.Test.YtbdmmdjomdmicaaGreatYsD
import Derived.Test.YtbdmmdjomdmicaaGreatYsH
import Derived.Test.YtbdmmdjomdmicaaGreatYsI
import Derived.Test.YtbdmmdjomdmicaaGreatYsJ
import Derived.Test.YtbdmmdjomdmicaaGreatYsZ
import Derived.KernelRfl
import Derived.Test.YtbdmmdjomdmicaaGreatEg
set_option linter.unusedSimpArgs false
set_option linter.unusedVariables false
set_option maxRecDepth 100000
namespace Go.Proofs.YtbdmmdjomdmicaaGreat
open Go Go.Ax
theorem k39 : Fact Tryz.prog (fsT tbl) 4000000 41 e39 := fact (K := 26) (J := 14) (L := []) trivial tf64 rfl (fun M => by kernel_rfl) (fun d => by kernel_rfl)
theorem k1 : Fact Tryz.prog (fsT tbl) 4000000 56 e1 := fact (K := 41) (J := 14) (L := [e0]) ⟨k0, trivial⟩ tf47 rfl (fun M => by kernel_rfl) (fun d => by kernel_rfl)
theorem k8 : Fact Tryz.prog (fsT tbl) 4000000 56 e8 := fact (K := 41) (J := 14) (L := [e7]) ⟨k7, trivial⟩ tf144 rfl (fun M => by kernel_rfl) (fun d => by kernel_rfl)
theorem k21 : Fact Tryz.prog (fsT tbl) 4000000 56 e21 := fact (K := 41) (J := 14) (L := [e16, e3, e18, e17, e19, e20]) ⟨k16, k3, k18, k17, k19, k20, trivial⟩ tf7 rfl (fun M => by kernel_rfl) (fun d => by kernel_rfl)
end Go.Proofs.YtbdmmdjomdmicaaGreat
