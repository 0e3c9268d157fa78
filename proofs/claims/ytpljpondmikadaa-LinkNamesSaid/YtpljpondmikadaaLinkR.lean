/-
  LinkNames: the whole run, computed by the kernel.
-/
import Derived.Test.YtpljpondmikadaaRows
import Derived.Test.YtpljpondmikadaaEd
namespace Go.Proofs.Ytpljpondmikadaa
open Go.Ax

theorem noins : noIns Try.prog = true := by kernel_rfl
theorem computed : isTrue (callE Try.prog (fsOf Try.prog) 20000 200 (.fn 3) [] mem0 stopE) = true := by kernel_rfl
theorem run (w : World) : Calls Try.prog 3 #[] w (fun e w' => e = .returned (.bool true) ∧ RowKit.Below w.heap.size w w') := runs_ofE (insOK_of_noIns noins) computed w
end Go.Proofs.Ytpljpondmikadaa
