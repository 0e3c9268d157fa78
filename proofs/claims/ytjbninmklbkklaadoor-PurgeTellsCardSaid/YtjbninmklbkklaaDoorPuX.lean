/-
  purge: handles, as the executor has it.
-/
import Derived.Test.YtjbninmklbkklaaDoorEe
set_option linter.unusedSimpArgs false
set_option linter.unusedVariables false
namespace Go.Proofs.YtjbninmklbkklaaDoor
open Go Go.Ax
def itsK (k : Int) : Bool := !(decide (17 ≤ k) && decide (k ≤ 20))
def extHandles (args : List AV) : Option AV := match args with
  | [.agg (.sc (.int .u8 k) :: l)] => match Nat.beq l.length 16 && decide (0 ≤ k) && decide (k ≤ 255) with
    | true => some (.sc (.bool (itsK k)))
    | false => none
  | _ => none
end Go.Proofs.YtjbninmklbkklaaDoor
