/-
  What a run in the caller's memory leaves.
-/
import Derived.Test.YtidkemgkejbalaaFrK
set_option linter.unusedSimpArgs false
set_option linter.unusedVariables false
set_option maxRecDepth 100000
namespace Go.Proofs.Ytidkemgkejbalaa
open Go Go.Ax

theorem put_dirty {M M' : Mem} {i : Nat} {o : AObj} (h : M.put i o = some M') (hw : M.wm ≤ i) : M'.dirty = M.dirty := by
  unfold Mem.put at h
  have hb : Nat.blt i M.wm = false := by
    cases hc : Nat.blt i M.wm with
    | false => rfl
    | true => have := Nat.ble_eq ▸ hc; have := Nat.le_of_ble_eq_true hc; omega
  repeat' split at h
  all_goals first | cases h | skip
  all_goals simp [hb]
theorem new_dirty {M M' : Mem} {i : Nat} {o : AObj} (h : M.new o = some (i, M')) : M'.dirty = M.dirty ∧ M'.wm = M.wm := by
  unfold Mem.new at h
  split at h
  · cases h; exact ⟨rfl, rfl⟩
  · cases h
theorem appendA_dirty {M M' : Mem} {a a' : AV} {old new : List AV} {n st bytes : Nat} (h : appendA M a old new n st bytes = some (a', M')) (hw : ∀ id, rowOf a = some id → M.wm ≤ id) : M'.dirty = M.dirty := by
  unfold appendA at h
  cases hn : Nat.beq n 0 with
  | true =>
    rw [hn] at h
    simp only at h
    split at h <;> first | (cases h; rfl) | cases h
  | false =>
  rw [hn] at h
  simp only at h
  split at h
  · split at h
    · rename_i id off len cap st'
      have hw2 : M.wm ≤ id := hw id rfl
      clear hw
      repeat' split at h
      all_goals first | cases h | skip
      all_goals first | (rename_i q; exact put_dirty q hw2) | (rename_i q; exact (new_dirty q).1) | skip
      all_goals exact ((new_dirty (by assumption)).1).trans (put_dirty (by assumption) hw2)
    · repeat' split at h
      all_goals first | cases h | skip
      all_goals (rename_i q; exact (new_dirty q).1)
    · repeat' split at h
      all_goals first | cases h | skip
      all_goals (rename_i q; exact (new_dirty q).1)
    · cases h
  · cases h
theorem appO_dirty {M M' : Mem} {a a' y : AV} {st bytes : Nat} (h : appO M st bytes a y = some (a', M')) (hw : ∀ id, rowOf a = some id → M.wm ≤ id) : M'.dirty = M.dirty := by
  unfold appO at h
  split at h
  · exact appendA_dirty h hw
  · cases h

structure Kp (M N : Mem) : Prop where
  wf : Wf N
  le : M.size ≤ N.size
  get : ∀ j, j < M.size → N.get j = M.get j
  wm : N.wm = M.wm
  di : N.dirty = M.dirty
theorem Kp.refl {M : Mem} (wf : Wf M) : Kp M M := ⟨wf, Nat.le_refl _, fun _ _ => rfl, rfl, rfl⟩
theorem Kp.add {M N : Mem} (h : Kp M N) (o : AObj) : Kp M (N.add o) :=
  ⟨h.wf.add _, by rw [add_size]; have := h.le; omega, fun j hj => by rw [get_add h.wf _ _ (by have := h.le; omega)]; exact h.get j hj, h.wm, h.di⟩
theorem Kp.upd {M N : Mem} (h : Kp M N) (hw : M.wm ≤ M.size) {i : Nat} (hi : M.size ≤ i) (o : AObj) : Kp M (N.upd i o) := by
  refine ⟨h.wf.upd _ _, by rw [upd_size]; exact h.le, fun j hj => by rw [get_upd_ne h.wf _ _ _ (by omega)]; exact h.get j hj, h.wm, ?_⟩
  show (N.dirty || Nat.blt i N.wm) = M.dirty
  have hb : Nat.blt i N.wm = false := by
    cases hc : Nat.blt i N.wm with
    | false => rfl
    | true => have := Nat.le_of_ble_eq_true hc; have := h.wm; omega
  rw [hb, h.di, Bool.or_false]
/-- append in the caller's memory. -/
theorem Kp.app {M N N' : Mem} {st bytes : Nat} {a a' y : AV} (h : Kp M N) (hw : M.wm ≤ M.size) (e : Go.Ax.appO N st bytes a y = some (a', N')) (hr : ∀ id, rowOf a = some id → M.size ≤ id)
    (wf : Wf N') (le : N.size ≤ N'.size) (kp : ∀ j, j < N.size → rowOf a ≠ some j → N'.get j = N.get j) (wm : N'.wm = N.wm) : Kp M N' :=
  ⟨wf, Nat.le_trans h.le le, fun j hj => by rw [kp j (by have := h.le; omega) (fun q => by have := hr j q; omega)]; exact h.get j hj, wm.trans h.wm, (appO_dirty e (fun id q => by have := hr id q; have := h.wm; omega)).trans h.di⟩
end Go.Proofs.Ytidkemgkejbalaa
