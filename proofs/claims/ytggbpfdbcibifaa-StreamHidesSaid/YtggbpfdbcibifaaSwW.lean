/-
  The statement StreamHides: from its arguments to the run.
-/
import Derived.Test.YtggbpfdbcibifaaSwT
import Derived.Test.YtggbpfdbcibifaaSwV
set_option linter.unusedSimpArgs false
set_option linter.unusedVariables false
set_option maxRecDepth 100000
namespace Go.Proofs.Ytggbpfdbcibifaa
open Go Go.Ax
namespace streamHides
theorem run_args (a0 a1 a2 a3 : AV) (h0 : IsA (.sl gOp) a0) (h1 : IsA gLb a1) (h2 : IsA (.int .i64) a2) (h3 : IsA (.sl (.int .i32)) a3) :
    callN Try.prog (fsT tbl) 100000 41 (.fn 4) [a0, a1, a2, a3] mem0 = some (BL true, mem0) := by
  obtain ⟨a, l, ha, hl⟩ := Is.slice of_op h0
  obtain rfl : a0 = a := by simpa using ha
  obtain ⟨c1, rfl, h1⟩ := h1
  obtain ⟨v, rfl, _⟩ := of_lb c1 h1
  have h2 : Is (.int .i64) [a2] := h2
  simp only [Is] at h2
  obtain ⟨n, hn, _⟩ := h2
  obtain rfl : a2 = I64 n := by simpa using hn
  obtain ⟨b, m, hb, hm, hr⟩ := of_runes (r := [a3]) h3
  obtain rfl : a3 = b := by simpa using hb
  exact hidelaw_run hl hm hr mem0
end streamHides
end Go.Proofs.Ytggbpfdbcibifaa
