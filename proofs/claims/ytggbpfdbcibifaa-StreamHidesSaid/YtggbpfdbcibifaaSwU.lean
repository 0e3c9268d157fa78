/-
  What is served, plainly: it hangs on the history up to the label.
-/
import Derived.Test.YtggbpfdbcibifaaSwQ
set_option linter.unusedSimpArgs false
set_option linter.unusedVariables false
set_option maxRecDepth 100000
namespace Go.Proofs.Ytggbpfdbcibifaa
open Go Go.Ax

theorem only_low {l : List Op} {v : Lb} (h : onlyE l v = 0) : onlyE (lowL l v) v = 0 := by
  have h1 := only_ok h
  have h2 : v.may = true := by
    unfold onlyE err at h
    rw [h1] at h
    cases hv : v.may <;> simp [hv] at h ⊢
  unfold onlyE
  rw [hist_low0 v h1, h2]
  rfl
theorem hid_congr {l m : List Op} {o : Op} {v : Lb} (h : ∀ x, shownB l x v = shownB m x v) : hideO l v o = hideO m v o := by
  unfold hideO hideL hid1
  simp only [h]
theorem hide_low {l : List Op} {v : Lb} (h : histF [] l = true) (o : Op) : hideO (lowL l v) v o = hideO l v o := hid_congr fun x => shown_low v h x
theorem pageE_low {l : List Op} {v : Lb} {fr : Int} (h : pageE l v fr = 0) : pageE (lowL l v) v fr = 0 ∧ pageT (lowL l v) v fr = pageT l v fr ∧ pageL (lowL l v) v fr = pageL l v fr := by
  have h0 : onlyE l v = 0 := by
    unfold pageE at h
    split at h
    · assumption
    · exact h
  have h1 : pageE (lowL l v) v fr = 0 := by
    unfold pageE at h ⊢
    rw [if_pos h0] at h
    rw [if_pos (only_low h0), low_low]
    exact h
  refine ⟨h1, ?_, ?_⟩
  · unfold pageT
    rw [if_pos h1, if_pos h, low_low]
  · unfold pageL
    rw [if_pos h1, if_pos h, low_low]
    apply List.map_congr_left
    intro o _
    exact hide_low (only_ok h0) o
theorem page_rs {l : List Op} {v : Lb} {fr : Int} {n : Nat} (h : ∀ o ∈ l, o.rs.length ≤ n) : ∀ o ∈ pageL l v fr, o.rs.length ≤ n := by
  intro o ho
  unfold pageL at ho
  split at ho
  · obtain ⟨p, hp, rfl⟩ := List.mem_map.1 ho
    have := h p (List.mem_filter.1 (List.mem_of_mem_drop (List.mem_of_mem_take hp))).1
    simp only [hideO, hide_len]
    exact this
  · cases ho
theorem page_len (l : List Op) (v : Lb) (fr : Int) : (pageL l v fr).length ≤ 3 := by
  unfold pageL
  split
  · rw [List.length_map, List.length_take]; omega
  · simp
end Go.Proofs.Ytggbpfdbcibifaa
