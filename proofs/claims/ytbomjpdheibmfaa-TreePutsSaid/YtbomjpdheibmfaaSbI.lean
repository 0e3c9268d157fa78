/-
  The greater of two errors.
-/
import Derived.Test.YtbomjpdheibmfaaTb
import Derived.Test.YtbomjpdheibmfaaEf
set_option linter.unusedSimpArgs false
set_option linter.unusedVariables false
set_option maxRecDepth 100000
namespace Go.Proofs.Ytbomjpdheibmfaa
open Go Go.Ax
theorem im88 : imax 8 8 = 8 := by decide
theorem im80 : imax 8 0 = 8 := by decide
theorem im08 : imax 0 8 = 8 := by decide
theorem im00 : imax 0 0 = 0 := by decide
theorem IMX : type_of% (And.intro im88 (And.intro im80 (And.intro im08 im00))) := And.intro im88 (And.intro im80 (And.intro im08 im00))
end Go.Proofs.Ytbomjpdheibmfaa
