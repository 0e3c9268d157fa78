/-
  tree: where what is put stands: from the arguments.
-/
import Derived.Test.YtbomjpdheibmfaaTuA
import Derived.Test.YtbomjpdheibmfaaTrV
import Derived.Test.YtbomjpdheibmfaaEf
set_option linter.unusedSimpArgs false
set_option linter.unusedVariables false
set_option maxRecDepth 100000
namespace Go.Proofs.Ytbomjpdheibmfaa.treePuts
open Go Go.Ax
theorem run_args (a0 a1 : AV) (h0 : IsA (.sl gRn) a0) (h1 : IsA gRn a1) : callN Try.prog (fsT tbl) 4000000 61 (.fn 3) [a0, a1] mem0 = some (BL true, mem0) := by
  obtain ⟨a, l, ha, hl⟩ := Is.slice of_rn h0
  obtain rfl : a0 = a := by simpa using ha
  obtain ⟨c1, rfl, h1⟩ := h1
  obtain ⟨x, ra, rfl, hR, hx⟩ := of_rn c1 h1
  exact puts_run hl hR hx mem0
end Go.Proofs.Ytbomjpdheibmfaa.treePuts
