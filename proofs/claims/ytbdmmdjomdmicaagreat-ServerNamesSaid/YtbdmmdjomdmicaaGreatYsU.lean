/-
  Closed calls and what they come to (printed by memo2.py).
-/
import Derived.Test.YtbdmmdjomdmicaaGreatYsA
import Derived.Test.YtbdmmdjomdmicaaGreatYsI
import Derived.Test.YtbdmmdjomdmicaaGreatYsK
import Derived.Test.YtbdmmdjomdmicaaGreatYsL
import Derived.Test.YtbdmmdjomdmicaaGreatYsM
import Derived.Test.YtbdmmdjomdmicaaGreatYsN
import Derived.Test.YtbdmmdjomdmicaaGreatYsO
import Derived.Test.YtbdmmdjomdmicaaGreatYsP
import Derived.Test.YtbdmmdjomdmicaaGreatYsQ
import Derived.Test.YtbdmmdjomdmicaaGreatYsR
import Derived.Test.YtbdmmdjomdmicaaGreatYsS
import Derived.Test.YtbdmmdjomdmicaaGreatYsT
import Derived.Test.YtbdmmdjomdmicaaGreatYsZ
import Derived.KernelRfl
import Derived.Test.YtbdmmdjomdmicaaGreatEg
set_option linter.unusedSimpArgs false
set_option linter.unusedVariables false
set_option maxRecDepth 100000
namespace Go.Proofs.YtbdmmdjomdmicaaGreat
open Go Go.Ax
theorem k38 : Fact Tryz.prog (fsT tbl) 4000000 101 e38 := fact (K := 86) (J := 14) (L := [e24, e3, e29, e28, e8, e12, e31, e32, e35, e36, e37]) ⟨k24.mono (by decide), k3.mono (by decide), k29.mono (by decide), k28.mono (by decide), k8.mono (by decide), k12.mono (by decide), k31.mono (by decide), k32.mono (by decide), k35, k36.mono (by decide), k37.mono (by decide), trivial⟩ tf7 rfl (fun M => by kernel_rfl) (fun d => by kernel_rfl)
theorem k40 : Fact Tryz.prog (fsT tbl) 4000000 116 e40 := fact (K := 101) (J := 14) (L := [e1, e17, e26, e27, e25, e9, e28, e38, e39, e37]) ⟨k1.mono (by decide), k17.mono (by decide), k26.mono (by decide), k27.mono (by decide), k25.mono (by decide), k9.mono (by decide), k28.mono (by decide), k38, k39.mono (by decide), k37.mono (by decide), trivial⟩ tf14 rfl (fun M => by kernel_rfl) (fun d => by kernel_rfl)
end Go.Proofs.YtbdmmdjomdmicaaGreat
