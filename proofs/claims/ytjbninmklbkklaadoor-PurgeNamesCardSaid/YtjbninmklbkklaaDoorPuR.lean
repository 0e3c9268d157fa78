/-
  purge: the closed statement's run.
-/
import Derived.Test.YtjbninmklbkklaaDoorPuB
set_option linter.unusedSimpArgs false
set_option linter.unusedVariables false
set_option maxRecDepth 100000
namespace Go.Proofs.YtjbninmklbkklaaDoor
open Go Go.Ax
theorem alive0 : isTrue (callN Tryd.prog (fsT tbl) 100000 20 (.fn 7) [] mem0) = true := by kernel_rfl
theorem names0 : isTrue (callN Tryd.prog (fsT tbl) 100000 20 (.fn 4) [] mem0) = true := by kernel_rfl
namespace purgeNames
theorem run (W : World) (hG : ownG.G fun b => W.heap[b]?) : Calls Tryd.prog 4 #[] W (fun e w' => e = .returned (.bool true) ∧ RowKit.Below W.heap.size W w') := by
  have h := names0
  unfold Ax.isTrue at h
  split at h
  · rename_i M hc
    exact runs_true (insOK_of_noIns (by kernel_rfl)) tabOK hc W hG
  · cases h
end purgeNames
end Go.Proofs.YtjbninmklbkklaaDoor
