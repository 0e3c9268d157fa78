/-
  What is served, plainly.
-/
import Derived.Test.YtggbpfdbcibifaaSaW
set_option linter.unusedSimpArgs false
set_option linter.unusedVariables false
set_option maxRecDepth 100000
namespace Go.Proofs.Ytggbpfdbcibifaa
open Go Go.Ax
def hideO (l : List Op) (v : Lb) (o : Op) : Op := { o with rs := hideL l o v }
def pageE (l : List Op) (v : Lb) (fr : Int) : Int := if onlyE l v = 0 then (if fr < 0 ∨ ((lowL l v).length : Int) < fr then 2 else 0) else onlyE l v
def pageT (l : List Op) (v : Lb) (fr : Int) : Int := if pageE l v fr = 0 then (lowL l v).length else 0
def pageL (l : List Op) (v : Lb) (fr : Int) : List Op := if pageE l v fr = 0 then (((lowL l v).drop fr.toNat).take 3).map (hideO l v) else []
def pageK (l : List Op) (v : Lb) (fr : Int) (r : AV) : Prop := ∃ r1, r = .tup [r1, I64 (pageT l v fr), I64 (pageE l v fr)] ∧ Sl 17 isOp r1 (pageL l v fr)
theorem hideO_ok {l : List Op} {v : Lb} {o : Op} (h : o.ok) : (hideO l v o).ok := by
  obtain ⟨h1, h2, h3, h4, h5, h6, h7⟩ := h
  refine ⟨h1, h2, h3, h4, h5, h6, fun x hx => ?_⟩
  simp only [hideO, hideL] at hx
  obtain ⟨i, hi, rfl⟩ := List.mem_mapIdx.1 hx
  unfold hid1
  split
  · exact h7 _ (List.getElem_mem hi)
  · omega
theorem only_ok {l : List Op} {v : Lb} (h : onlyE l v = 0) : histF [] l = true := by
  unfold onlyE err at h
  cases hh : histF [] l <;> simp [hh] at h ⊢
theorem hist_may : ∀ {pre l : List Op}, histF pre l = true → ∀ o ∈ l, o.may = true
  | _, [], _, _, h => by cases h
  | pre, o :: l, h, p, hp => by
    simp only [histF, Bool.and_eq_true] at h
    rcases List.mem_cons.1 hp with rfl | hp
    · exact h.1.1
    · exact hist_may h.2 p hp
end Go.Proofs.Ytggbpfdbcibifaa
