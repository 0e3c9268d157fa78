/-
  What run may be.
-/
import Derived.Test.YtbomjpdheibmfaaSbD
set_option linter.unusedSimpArgs false
set_option linter.unusedVariables false
set_option maxRecDepth 100000
namespace Go.Proofs.Ytbomjpdheibmfaa
open Go Go.Ax
def Rn.may (r : Rn) : Bool := r.sp.may && (decide (r.af = Eid.z) || (r.af.may && decide (r.af.c < r.sp.f.c))) && decide ((r.rs.length : Int) = r.sp.n) && decide (chkR r.rs = 0)
theorem rn_icy {o : Rn} {ra : AV} (h : Fz ra) (M : Mem) : icy 12 M (.agg (rnR o ra)) = some (.agg (rnR o ra), M) := fz_icyA (fz_rnR h) (by omega) M
end Go.Proofs.Ytbomjpdheibmfaa
