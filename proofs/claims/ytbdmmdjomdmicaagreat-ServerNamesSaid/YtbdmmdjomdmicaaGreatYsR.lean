/-
  Closed calls and what they come to (printed by memo2.py).
-/
import Derived.Test.YtbdmmdjomdmicaaGreatYsA
import Derived.Test.YtbdmmdjomdmicaaGreatYsD
import Derived.Test.YtbdmmdjomdmicaaGreatYsJ
import Derived.Test.YtbdmmdjomdmicaaGreatYsQ
import Derived.Test.YtbdmmdjomdmicaaGreatYsZ
import Derived.KernelRfl
import Derived.Test.YtbdmmdjomdmicaaGreatEg
set_option linter.unusedSimpArgs false
set_option linter.unusedVariables false
set_option maxRecDepth 100000
namespace Go.Proofs.YtbdmmdjomdmicaaGreat
open Go Go.Ax
theorem k22 : Fact Tryz.prog (fsT tbl) 4000000 56 e22 := fact (K := 41) (J := 14) (L := [e20]) ⟨k20, trivial⟩ tf34 rfl (fun M => by kernel_rfl) (fun d => by kernel_rfl)
theorem k23 : Fact Tryz.prog (fsT tbl) 4000000 56 e23 := fact (K := 41) (J := 14) (L := [e19]) ⟨k19, trivial⟩ tf124 rfl (fun M => by kernel_rfl) (fun d => by kernel_rfl)
theorem k30 : Fact Tryz.prog (fsT tbl) 4000000 56 e30 := fact (K := 41) (J := 14) (L := [e7, e3]) ⟨k7, k3, trivial⟩ tf219 rfl (fun M => by kernel_rfl) (fun d => by kernel_rfl)
theorem k32 : Fact Tryz.prog (fsT tbl) 4000000 56 e32 := fact (K := 41) (J := 14) (L := [e7]) ⟨k7, trivial⟩ tf198 rfl (fun M => by kernel_rfl) (fun d => by kernel_rfl)
theorem k33 : Fact Tryz.prog (fsT tbl) 4000000 56 e33 := fact (K := 41) (J := 14) (L := [e7]) ⟨k7, trivial⟩ tf197 rfl (fun M => by kernel_rfl) (fun d => by kernel_rfl)
theorem k9 : Fact Tryz.prog (fsT tbl) 4000000 71 e9 := fact (K := 56) (J := 14) (L := [e8]) ⟨k8, trivial⟩ tf31 rfl (fun M => by kernel_rfl) (fun d => by kernel_rfl)
end Go.Proofs.YtbdmmdjomdmicaaGreat
