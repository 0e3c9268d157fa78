/-
  Closed calls and what they come to (printed by memo2.py).
-/
import Derived.Test.YtliicocdhkcanaaGreatYtI
import Derived.Test.YtliicocdhkcanaaGreatYtL
import Derived.Test.YtliicocdhkcanaaGreatYtM
import Derived.Test.YtliicocdhkcanaaGreatYtZ
import Derived.KernelRfl
import Derived.Test.YtliicocdhkcanaaGreatEg
set_option linter.unusedSimpArgs false
set_option linter.unusedVariables false
set_option maxRecDepth 100000
namespace Go.Proofs.YtliicocdhkcanaaGreat
open Go Go.Ax
theorem root : Fact Tryz.prog (fsT tbl) 4000000 86 (4, [], BL true) := fact (K := 71) (J := 14) (L := [e9, e12, e16, e13, e17, e18, e21]) ⟨k9, k12.mono (by decide), k16, k13.mono (by decide), k17, k18.mono (by decide), k21, trivial⟩ tf4 rfl (fun M => by kernel_rfl) (fun d => by kernel_rfl)
end Go.Proofs.YtliicocdhkcanaaGreat
