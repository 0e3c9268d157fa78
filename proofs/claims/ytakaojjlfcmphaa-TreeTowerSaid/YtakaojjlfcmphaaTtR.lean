/-
  TreeTower: from the arguments.
-/
import Derived.Test.YtakaojjlfcmphaaTtF
import Derived.Test.YtakaojjlfcmphaaEf
import Derived.Test.YtakaojjlfcmphaaPc
set_option linter.unusedSimpArgs false
set_option linter.unusedVariables false
set_option maxRecDepth 100000
namespace Go.Proofs.Ytakaojjlfcmphaa.treeTower
open Go Go.Ax
theorem run_args (a0 a1 a2 a3 : AV) (h0 : IsA (.sl gRn) a0) (h1 : IsA gRn a1) (h2 : IsA gLb a2) (h3 : IsA gLb a3) : zAF Try.prog (fsT tbl) 4000000 61 (.fn 3) [a0, a1, a2, a3] mem0 = some (BL true, mem0) := by
  obtain ⟨a, l, ha, hl⟩ := Is.slice zZO h0
  obtain rfl : a0 = a := by simpa using ha
  obtain ⟨c1, rfl, h1⟩ := h1
  obtain ⟨x, ra, rfl, hR, hx⟩ := zZO c1 h1
  obtain ⟨c2, rfl, h2⟩ := h2
  obtain ⟨v, rfl, _⟩ := zZN c2 h2
  obtain ⟨c3, rfl, h3⟩ := h3
  obtain ⟨u, rfl, _⟩ := zZN c3 h3
  exact zOO hl hR hx mem0
end Go.Proofs.Ytakaojjlfcmphaa.treeTower
