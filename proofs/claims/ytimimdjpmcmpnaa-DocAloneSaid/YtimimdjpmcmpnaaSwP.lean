/-
  Histories up to a label.
-/
import Derived.Test.YtimimdjpmcmpnaaSaZ
set_option linter.unusedSimpArgs false
set_option linter.unusedVariables false
set_option maxRecDepth 100000
namespace Go.Proofs.Ytimimdjpmcmpnaa
open Go Go.Ax

theorem lacks_zero (a b : Int) : lacks a b = 0 ↔ BitVec.ofInt 32 a &&& ~~~ BitVec.ofInt 32 b = 0#32 := by
  have e : lacks a b = ((BitVec.ofInt 32 a &&& ~~~ BitVec.ofInt 32 b).toNat : Int) := by
    have := (BitVec.ofInt 32 a &&& ~~~ BitVec.ofInt 32 b).isLt
    unfold lacks
    generalize (BitVec.ofInt 32 a &&& ~~~ BitVec.ofInt 32 b).toNat = z at *
    simp [IntKind.wrap, IntKind.bits, IntKind.signed]
    omega
  rw [e, ← BitVec.toNat_inj]
  simp
theorem bits_trans (x y z : BitVec 32) (h1 : x &&& ~~~ y = 0#32) (h2 : y &&& ~~~ z = 0#32) : x &&& ~~~ z = 0#32 := by
  apply BitVec.eq_of_getLsbD_eq
  intro i hi
  have a1 := congrArg (fun v => BitVec.getLsbD v i) h1
  have a2 := congrArg (fun v => BitVec.getLsbD v i) h2
  simp only [BitVec.getLsbD_and, BitVec.getLsbD_not, hi, BitVec.getLsbD_zero, decide_true, Bool.true_and] at a1 a2 ⊢
  cases hx : x.getLsbD i <;> cases hy : y.getLsbD i <;> cases hz : z.getLsbD i <;> simp_all
theorem leq_trans {a b c : Lb} (h1 : a.leq b = true) (h2 : b.leq c = true) : a.leq c = true := by
  unfold Lb.leq at *
  simp only [Bool.and_eq_true, decide_eq_true_eq, lacks_zero] at *
  exact ⟨Int.le_trans h1.1 h2.1, bits_trans _ _ _ h1.2 h2.2⟩
theorem leq_refl (a : Lb) : a.leq a = true := by
  unfold Lb.leq
  simp only [Bool.and_eq_true, decide_eq_true_eq, lacks_zero]
  refine ⟨Int.le_refl _, ?_⟩
  apply BitVec.eq_of_getLsbD_eq
  intro i hi
  simp only [BitVec.getLsbD_and, BitVec.getLsbD_not, hi, BitVec.getLsbD_zero, decide_true, Bool.true_and]
  cases (BitVec.ofInt 32 a.cats).getLsbD i <;> rfl
/-! ### Raises -/
theorem raises_low (l : List Op) (v u : Lb) (h : u.leq v = true) (x : Eid) : raisesL (lowL l v) x u = raisesL l x u := by
  unfold raisesL lowL
  rw [List.filter_filter]
  congr 1
  apply List.filter_congr
  intro o _
  cases hc : raiseC x u o with
  | false => rfl
  | true =>
    have hl : o.hd.lb.leq u = true := by
      unfold raiseC at hc
      simp only [Bool.and_eq_true] at hc
      exact hc.2
    rw [leq_trans hl h]; rfl
theorem made_low (l : List Op) (v u : Lb) (h : u.leq v = true) (x : Eid) : made (lowL l v) x u = made l x u := by
  unfold made
  rw [raises_low l v u h]
theorem rightly_low (l : List Op) (v : Lb) (o : Op) (h : o.hd.lb.leq v = true) : rightly (lowL l v) o = rightly l o := by
  unfold rightly
  simp only [made_low l v _ h]
/-! ### A history is right -/
theorem fit_len {pre : List Op} {o : Op} (h : fitE pre o = 0) : pre.length < 2048 := by
  unfold fitE at h
  split at h
  · split at h
    · cases h
    · omega
  · rename_i h1; exact absurd h h1
theorem fit_kind {pre : List Op} {o : Op} (h : fitE pre o = 0) : kindE pre o = 0 := by
  unfold fitE at h
  split at h
  · assumption
  · exact h
theorem fit_right {pre : List Op} {o : Op} (hm : o.may = true) (h : fitE pre o = 0) : rightly pre o = true := by
  by_cases hk : o.kd = 3
  · have h1 := fit_kind h
    unfold kindE at h1
    rw [if_neg (by omega), if_neg (by omega)] at h1
    unfold raiE at h1
    split at h1
    · split at h1
      · rename_i h2
        have := h2.2
        unfold chfB at this
        simp only [Bool.and_eq_true] at this
        exact this.2
      · cases h1
    · cases h1
  · unfold rightly
    rw [if_neg hk]
theorem hist_right : ∀ {pre l : List Op}, histF pre l = true → rightF pre l = true
  | _, [], _ => rfl
  | pre, o :: l, h => by
    simp only [histF, Bool.and_eq_true, decide_eq_true_eq] at h
    simp only [rightF, Bool.and_eq_true]
    exact ⟨⟨h.1.1, fit_right h.1.1 h.1.2⟩, hist_right h.2⟩
theorem hist_len : ∀ {pre l : List Op}, histF pre l = true → l ≠ [] → pre.length + l.length ≤ 2048
  | _, [], _, h => absurd rfl h
  | pre, [o], h, _ => by
    simp only [histF, Bool.and_eq_true, decide_eq_true_eq] at h
    have := fit_len h.1.2
    simp only [List.length_singleton]
    omega
  | pre, o :: p :: l, h, _ => by
    simp only [histF, Bool.and_eq_true] at h
    have := hist_len (pre := pre ++ [o]) (l := p :: l) (by simp only [histF, Bool.and_eq_true]; exact h.2) (by simp)
    simp only [List.length_append, List.length_cons, List.length_nil] at this ⊢
    omega
theorem hist_chain {l : List Op} (h : histF [] l = true) : chainE l = 0 := by
  have h1 : ¬2048 < l.length := by
    by_cases e : l = []
    · subst e; simp
    · have := hist_len h e
      simp only [List.length_nil] at this
      omega
  unfold chainE
  rw [if_neg h1, hist_right h]
  rfl
end Go.Proofs.Ytimimdjpmcmpnaa
