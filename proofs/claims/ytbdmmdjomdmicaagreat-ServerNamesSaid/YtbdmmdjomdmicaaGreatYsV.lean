/-
  Closed calls and what they come to (printed by memo2.py).
-/
import Derived.Test.YtbdmmdjomdmicaaGreatYsA
import Derived.Test.YtbdmmdjomdmicaaGreatYsB
import Derived.Test.YtbdmmdjomdmicaaGreatYsC
import Derived.Test.YtbdmmdjomdmicaaGreatYsD
import Derived.Test.YtbdmmdjomdmicaaGreatYsE
import Derived.Test.YtbdmmdjomdmicaaGreatYsG
import Derived.Test.YtbdmmdjomdmicaaGreatYsH
import Derived.Test.YtbdmmdjomdmicaaGreatYsI
import Derived.Test.YtbdmmdjomdmicaaGreatYsJ
import Derived.Test.YtbdmmdjomdmicaaGreatYsQ
import Derived.Test.YtbdmmdjomdmicaaGreatYsR
import Derived.Test.YtbdmmdjomdmicaaGreatYsT
import Derived.Test.YtbdmmdjomdmicaaGreatYsU
import Derived.Test.YtbdmmdjomdmicaaGreatYsZ
import Derived.KernelRfl
import Derived.Test.YtbdmmdjomdmicaaGreatEg
set_option linter.unusedSimpArgs false
set_option linter.unusedVariables false
set_option maxRecDepth 100000
namespace Go.Proofs.YtbdmmdjomdmicaaGreat
open Go Go.Ax
theorem root : Fact Tryz.prog (fsT tbl) 4000000 131 (3, [], BL true) := fact (K := 116) (J := 14) (L := [e1, e2, e3, e4, e5, e6, e9, e10, e14, e15, e13, e16, e17, e21, e20, e22, e40]) ⟨k1.mono (by decide), k2.mono (by decide), k3.mono (by decide), k4.mono (by decide), k5.mono (by decide), k6.mono (by decide), k9.mono (by decide), k10.mono (by decide), k14.mono (by decide), k15.mono (by decide), k13.mono (by decide), k16.mono (by decide), k17.mono (by decide), k21.mono (by decide), k20.mono (by decide), k22.mono (by decide), k40, trivial⟩ tf3 rfl (fun M => by kernel_rfl) (fun d => by kernel_rfl)
end Go.Proofs.YtbdmmdjomdmicaaGreat
