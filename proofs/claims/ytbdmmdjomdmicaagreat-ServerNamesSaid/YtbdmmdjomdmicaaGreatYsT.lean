/-
  Closed calls and what they come to (printed by memo2.py).
-/
import Derived.Test.YtbdmmdjomdmicaaGreatYsA
import Derived.Test.YtbdmmdjomdmicaaGreatYsE
import Derived.Test.YtbdmmdjomdmicaaGreatYsF
import Derived.Test.YtbdmmdjomdmicaaGreatYsG
import Derived.Test.YtbdmmdjomdmicaaGreatYsI
import Derived.Test.YtbdmmdjomdmicaaGreatYsJ
import Derived.Test.YtbdmmdjomdmicaaGreatYsK
import Derived.Test.YtbdmmdjomdmicaaGreatYsQ
import Derived.Test.YtbdmmdjomdmicaaGreatYsS
import Derived.Test.YtbdmmdjomdmicaaGreatYsZ
import Derived.KernelRfl
import Derived.Test.YtbdmmdjomdmicaaGreatEg
set_option linter.unusedSimpArgs false
set_option linter.unusedVariables false
set_option maxRecDepth 100000
namespace Go.Proofs.YtbdmmdjomdmicaaGreat
open Go Go.Ax
theorem k14 : Fact Tryz.prog (fsT tbl) 4000000 86 e14 := fact (K := 71) (J := 14) (L := [e1, e3, e11, e10, e8, e12, e13]) ⟨k1.mono (by decide), k3.mono (by decide), k11.mono (by decide), k10.mono (by decide), k8.mono (by decide), k12, k13.mono (by decide), trivial⟩ tf7 rfl (fun M => by kernel_rfl) (fun d => by kernel_rfl)
theorem k26 : Fact Tryz.prog (fsT tbl) 4000000 86 e26 := fact (K := 71) (J := 14) (L := [e1, e3, e18, e17, e19, e24, e25]) ⟨k1.mono (by decide), k3.mono (by decide), k18.mono (by decide), k17.mono (by decide), k19.mono (by decide), k24, k25.mono (by decide), trivial⟩ tf7 rfl (fun M => by kernel_rfl) (fun d => by kernel_rfl)
theorem k35 : Fact Tryz.prog (fsT tbl) 4000000 86 e35 := fact (K := 71) (J := 14) (L := [e34]) ⟨k34, trivial⟩ tf47 rfl (fun M => by kernel_rfl) (fun d => by kernel_rfl)
end Go.Proofs.YtbdmmdjomdmicaaGreat
