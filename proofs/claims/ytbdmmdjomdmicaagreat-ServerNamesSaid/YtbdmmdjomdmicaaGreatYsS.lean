/-
  Closed calls and what they come to (printed by memo2.py).
-/
import Derived.Test.YtbdmmdjomdmicaaGreatYsA
import Derived.Test.YtbdmmdjomdmicaaGreatYsD
import Derived.Test.YtbdmmdjomdmicaaGreatYsJ
import Derived.Test.YtbdmmdjomdmicaaGreatYsQ
import Derived.Test.YtbdmmdjomdmicaaGreatYsR
import Derived.Test.YtbdmmdjomdmicaaGreatYsZ
import Derived.KernelRfl
import Derived.Test.YtbdmmdjomdmicaaGreatEg
set_option linter.unusedSimpArgs false
set_option linter.unusedVariables false
set_option maxRecDepth 100000
namespace Go.Proofs.YtbdmmdjomdmicaaGreat
open Go Go.Ax
theorem k12 : Fact Tryz.prog (fsT tbl) 4000000 71 e12 := fact (K := 56) (J := 14) (L := [e7, e8]) ⟨k7.mono (by decide), k8, trivial⟩ tf31 rfl (fun M => by kernel_rfl) (fun d => by kernel_rfl)
theorem k24 : Fact Tryz.prog (fsT tbl) 4000000 71 e24 := fact (K := 56) (J := 14) (L := [e23]) ⟨k23, trivial⟩ tf47 rfl (fun M => by kernel_rfl) (fun d => by kernel_rfl)
theorem k31 : Fact Tryz.prog (fsT tbl) 4000000 71 e31 := fact (K := 56) (J := 14) (L := [e3, e7, e30]) ⟨k3.mono (by decide), k7.mono (by decide), k30, trivial⟩ tf171 rfl (fun M => by kernel_rfl) (fun d => by kernel_rfl)
theorem k34 : Fact Tryz.prog (fsT tbl) 4000000 71 e34 := fact (K := 56) (J := 14) (L := [e19, e33, e32]) ⟨k19.mono (by decide), k33, k32, trivial⟩ tf80 rfl (fun M => by kernel_rfl) (fun d => by kernel_rfl)
end Go.Proofs.YtbdmmdjomdmicaaGreat
