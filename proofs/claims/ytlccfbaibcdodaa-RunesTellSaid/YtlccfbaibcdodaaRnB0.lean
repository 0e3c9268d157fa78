/-
  runes: what is hidden; Clone.
-/
import Derived.Test.YtlccfbaibcdodaaRnA
set_option linter.unusedSimpArgs false
set_option linter.unusedVariables false
set_option maxRecDepth 100000
namespace Go.Proofs.Ytlccfbaibcdodaa
open Go Go.Ax
variable {fuel : Nat} {M : Mem} {Q : AV → Mem → Prop} {d : Nat}

theorem all2_mk {α β : Type} {T : α → β → Prop} : ∀ {l : List α} {m : List β}, l.length = m.length → (∀ (i : Nat) x y, l[i]? = some x → m[i]? = some y → T x y) → All2 T l m
  | [], [], _, _ => .nil
  | x :: l, y :: m, h, k => .cons (k 0 x y rfl rfl) (all2_mk (by simpa using h) fun i x y a b => k (i + 1) x y (by simpa using a) (by simpa using b))
  | [], _ :: _, h, _ => by simp at h
  | _ :: _, [], h, _ => by simp at h
theorem all2_at {α β : Type} {T : α → β → Prop} {l : List α} {m : List β} (h : All2 T l m) {i : Nat} {x : α} {y : β} (hx : l[i]? = some x) (hy : m[i]? = some y) : T x y := by
  obtain ⟨h1, rfl⟩ := List.getElem?_eq_some_iff.1 hx
  obtain ⟨h2, rfl⟩ := List.getElem?_eq_some_iff.1 hy
  exact h.get h1 h2

/-- What is hidden in the first k places. -/
def hidTo (k : Nat) (l : List Int) (w : List Bool) : List Int := l.mapIdx fun j x => if j < k ∧ w[j]? = some true then -1 else x
theorem hidTo_len (k : Nat) (l : List Int) (w : List Bool) : (hidTo k l w).length = l.length := by simp [hidTo]
theorem hidTo_get (k : Nat) (l : List Int) (w : List Bool) (j : Nat) : (hidTo k l w)[j]? = (l[j]?).map fun x => if j < k ∧ w[j]? = some true then -1 else x := by simp [hidTo]
theorem hidTo_zero (l : List Int) (w : List Bool) : hidTo 0 l w = l := by
  apply List.ext_getElem?; intro j; rw [hidTo_get]; simp
def hid (l : List Int) (w : List Bool) : List Int := hidTo l.length l w

theorem iclone_run {a : AV} {l : List Int} (hS : Sl 1 isI32 a l) (hl : l.length ≤ 100000) (wf : Wf M)
    (k : ∀ a' M', Wf M' → M.size ≤ M'.size → (∀ j, j < M.size → M'.get j = M.get j) → SlM M' 1 isI32 a' l → (∀ id, rowOf a' = some id → M.size ≤ id) → M'.wm = M.wm → M'.dirty = M.dirty → Q a' M') : W3 (callN Try.prog (fsT tbl) fuel (d + 1) (.fn 25) [a] M) Q :=
  clone_0 cel_I32 tf25 Try.underlying22 hS (by omega) (by omega) wf k

end Go.Proofs.Ytlccfbaibcdodaa
