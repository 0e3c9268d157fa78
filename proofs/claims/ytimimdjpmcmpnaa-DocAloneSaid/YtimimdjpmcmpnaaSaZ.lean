/-
  Histories, plainly.
-/
import Derived.Test.YtimimdjpmcmpnaaSaV
set_option linter.unusedSimpArgs false
set_option linter.unusedVariables false
set_option maxRecDepth 100000
namespace Go.Proofs.Ytimimdjpmcmpnaa
open Go Go.Ax
theorem only_ok {l : List Op} {v : Lb} (h : onlyE l v = 0) : histF [] l = true := by
  unfold onlyE err at h
  cases hh : histF [] l <;> simp [hh] at h ⊢
theorem hist_may : ∀ {pre l : List Op}, histF pre l = true → ∀ o ∈ l, o.may = true
  | _, [], _, _, h => by cases h
  | pre, o :: l, h, p, hp => by
    simp only [histF, Bool.and_eq_true] at h
    rcases List.mem_cons.1 hp with rfl | hp
    · exact h.1.1
    · exact hist_may h.2 p hp
end Go.Proofs.Ytimimdjpmcmpnaa
