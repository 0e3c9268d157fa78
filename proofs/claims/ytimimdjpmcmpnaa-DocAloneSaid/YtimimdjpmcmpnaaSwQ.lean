/-
  A history up to a label is a history.
-/
import Derived.Test.YtimimdjpmcmpnaaSwP
set_option linter.unusedSimpArgs false
set_option linter.unusedVariables false
set_option maxRecDepth 100000
namespace Go.Proofs.Ytimimdjpmcmpnaa
open Go Go.Ax

theorem may_ins {o : Op} (h : o.may = true) (hk : o.kd = 1) : o.sp.f.hd = o.hd ∧ (o.rs.length : Int) = o.sp.n := by
  unfold Op.may Op.part at h
  rw [if_pos hk] at h
  simp only [Bool.and_eq_true, decide_eq_true_eq] at h
  exact ⟨h.2.1.1.2, h.2.1.2⟩
theorem may_bare {o : Op} (h : o.may = true) (hk : o.kd ≠ 1) : o.rs = [] := by
  unfold Op.may Op.part Op.bare at h
  rw [if_neg hk] at h
  have h := (Bool.and_eq_true _ _ ▸ h).2
  split at h <;> simp only [Bool.and_eq_true, decide_eq_true_eq] at h
  · exact List.length_eq_zero_iff.1 (by omega)
  · exact List.length_eq_zero_iff.1 (by omega)
theorem mem_ids {s : Spn} {x : Eid} (h : x ∈ s.ids) : x.hd = s.f.hd := by
  unfold Spn.ids at h
  obtain ⟨i, _, rfl⟩ := List.mem_map.1 h
  rfl
theorem mem_there {l : List Op} {x : Eid} : x ∈ thereL l ↔ ∃ o ∈ l, o.kd = 1 ∧ x ∈ o.sp.ids := by
  unfold thereL
  rw [List.mem_flatMap]
  constructor
  · rintro ⟨o, ho, h⟩
    split at h
    · exact ⟨o, ho, by assumption, h⟩
    · cases h
  · rintro ⟨o, ho, hk, h⟩
    exact ⟨o, ho, by rw [if_pos hk]; exact h⟩
theorem there_low {l : List Op} (hm : ∀ o ∈ l, o.may = true) {v : Lb} {x : Eid} (hx : x.hd.lb.leq v = true) : x ∈ thereL (lowL l v) ↔ x ∈ thereL l := by
  rw [mem_there, mem_there]
  constructor
  · rintro ⟨o, ho, h⟩
    exact ⟨o, (List.mem_filter.1 ho).1, h⟩
  · rintro ⟨o, ho, hk, h⟩
    refine ⟨o, List.mem_filter.2 ⟨ho, ?_⟩, hk, h⟩
    have := mem_ids h
    rw [← (may_ins (hm o ho) hk).1, ← this]
    exact hx
theorem there_len_low (l : List Op) (v : Lb) : (thereL (lowL l v)).length ≤ (thereL l).length := by
  induction l with
  | nil => exact Nat.le_refl _
  | cons o l ih =>
    unfold lowL thereL at *
    rw [List.filter_cons]
    split
    · simp only [List.flatMap_cons, List.length_append]; omega
    · simp only [List.flatMap_cons, List.length_append]; omega
section
variable {pre : List Op} {o : Op} {v : Lb}
theorem sees_low (hm : ∀ o ∈ pre, o.may = true) (ho : o.hd.lb.leq v = true) (x : Eid) : seesB (lowL pre v) o x = seesB pre o x := by
  unfold seesB
  cases h : x.hd.lb.leq o.hd.lb with
  | false => simp
  | true =>
    have := there_low hm (leq_trans h ho)
    rw [decide_eq_decide.2 this]
theorem all_low (hm : ∀ o ∈ pre, o.may = true) (ho : o.hd.lb.leq v = true) : allB (lowL pre v) o = allB pre o := by
  unfold allB
  congr 1
  funext x
  exact sees_low hm ho x
theorem kind_low (hm : ∀ o ∈ pre, o.may = true) (ho : o.hd.lb.leq v = true) (hom : o.may = true) (hc : chainE pre = 0) (hc2 : chainE (lowL pre v) = 0) (hb : o.kd = 1 → ¬8192 < ((thereL pre).length : Int) + o.sp.n) : kindE (lowL pre v) o = kindE pre o := by
  unfold kindE
  by_cases hk : o.kd = 1
  · rw [if_pos hk, if_pos hk]
    unfold insE
    have h1 : (o.sp.ids.any fun x => decide (x ∈ thereL (lowL pre v))) = (o.sp.ids.any fun x => decide (x ∈ thereL pre)) := by
      rw [Bool.eq_iff_iff, List.any_eq_true, List.any_eq_true]
      constructor
      · rintro ⟨x, hx, h⟩
        refine ⟨x, hx, ?_⟩
        rw [decide_eq_true_eq] at h ⊢
        exact (there_low hm (by rw [mem_ids hx, (may_ins hom hk).1]; exact ho)).1 h
      · rintro ⟨x, hx, h⟩
        refine ⟨x, hx, ?_⟩
        rw [decide_eq_true_eq] at h ⊢
        exact (there_low hm (by rw [mem_ids hx, (may_ins hom hk).1]; exact ho)).2 h
    have := there_len_low pre v
    have hb := hb hk
    rw [sees_low hm ho, h1, if_neg (show ¬8192 < ((thereL (lowL pre v)).length : Int) + o.sp.n by omega), if_neg hb]
  · rw [if_neg hk, if_neg hk]
    split
    · unfold remE
      rw [all_low hm ho]
    · unfold raiE chfB chfE
      rw [all_low hm ho, hc, hc2, rightly_low pre v o ho]
theorem ins_room (h : kindE pre o = 0) : o.kd = 1 → ¬8192 < ((thereL pre).length : Int) + o.sp.n := by
  intro hk hb
  unfold kindE insE at h
  rw [if_pos hk] at h
  split at h
  · cases h
  · split at h
    · cases h
    · first | (rw [if_pos hb] at h; cases h) | cases h
theorem fit_low_eq (hm : ∀ o ∈ pre, o.may = true) (ho : o.hd.lb.leq v = true) (hom : o.may = true) (hc : chainE pre = 0) (hc2 : chainE (lowL pre v) = 0) (hb : o.kd = 1 → ¬8192 < ((thereL pre).length : Int) + o.sp.n) (hl : pre.length < 2048) : fitE (lowL pre v) o = fitE pre o := by
  have := low_len pre v
  unfold fitE
  rw [kind_low hm ho hom hc hc2 hb, if_neg (show ¬2048 ≤ pre.length by omega), if_neg (show ¬2048 ≤ (lowL pre v).length by omega)]
theorem fit_low (hm : ∀ o ∈ pre, o.may = true) (ho : o.hd.lb.leq v = true) (hom : o.may = true) (hc : chainE pre = 0) (hc2 : chainE (lowL pre v) = 0) (h : fitE pre o = 0) : fitE (lowL pre v) o = 0 := by
  rw [fit_low_eq hm ho hom hc hc2 (ins_room (fit_kind h)) (fit_len h)]
  exact h
end
theorem hist_app : ∀ (pre a b : List Op), histF pre (a ++ b) = (histF pre a && histF (pre ++ a) b)
  | pre, [], b => by simp [histF]
  | pre, o :: a, b => by
    simp only [List.cons_append, histF]
    rw [hist_app (pre ++ [o]) a b, List.append_assoc]
    simp only [List.cons_append, List.nil_append, Bool.and_assoc]
/-- A history up to a label is a history. -/
theorem hist_low (v : Lb) : ∀ (l pre : List Op), histF [] pre = true → histF [] (lowL pre v) = true → histF pre l = true → histF (lowL pre v) (lowL l v) = true
  | [], pre, _, _, _ => rfl
  | o :: l, pre, hp, hq, h => by
    simp only [histF, Bool.and_eq_true, decide_eq_true_eq] at h
    have hp' : histF [] (pre ++ [o]) = true := by
      rw [hist_app, hp]
      simp only [List.nil_append, histF, h.1.1, h.1.2, decide_true, Bool.and_self]
    have hs := low_snoc pre o v
    unfold lowL at hs ⊢
    rw [List.filter_cons]
    cases ho : o.hd.lb.leq v with
    | false =>
      rw [ho, if_neg (by decide), List.append_nil] at hs
      have := hist_low v l (pre ++ [o]) hp' (by unfold lowL; rw [hs]; exact hq) h.2
      unfold lowL at this
      rw [hs] at this
      simpa using this
    | true =>
      rw [ho, if_pos rfl] at hs
      have hf := fit_low (hist_may hp) ho h.1.1 (hist_chain hp) (hist_chain hq) h.1.2
      unfold lowL at hf
      have hq' : histF [] (lowL (pre ++ [o]) v) = true := by
        unfold lowL
        rw [hs, hist_app]
        unfold lowL at hq
        rw [hq]
        simp only [List.nil_append, histF, h.1.1, hf, decide_true, Bool.and_self]
      have := hist_low v l (pre ++ [o]) hp' hq' h.2
      unfold lowL at this
      rw [hs] at this
      simp only [if_true, histF, h.1.1, hf, decide_true, Bool.true_and]
      exact this
theorem hist_low0 {l : List Op} (v : Lb) (h : histF [] l = true) : histF [] (lowL l v) = true := hist_low v l [] rfl rfl h
theorem low_low (l : List Op) (v : Lb) : lowL (lowL l v) v = lowL l v := by
  unfold lowL
  rw [List.filter_filter]
  congr 1
  funext o
  simp
end Go.Proofs.Ytimimdjpmcmpnaa
