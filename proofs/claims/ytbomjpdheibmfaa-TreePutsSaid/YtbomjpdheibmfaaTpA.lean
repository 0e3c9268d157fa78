/-
  Texts, in plain Lean: elements, their paths, their one order.
-/
import Derived.Test.YtbomjpdheibmfaaTrF
set_option linter.unusedSimpArgs false
set_option linter.unusedVariables false
set_option maxRecDepth 100000
namespace Go.Proofs.Ytbomjpdheibmfaa
open Go Go.Ax
/-! ### The order of ids -/
theorem less_iff (x y : Eid) : x.less y = true ↔ x.c < y.c ∨ (x.c = y.c ∧ (x.hd.lb.lv < y.hd.lb.lv ∨ (x.hd.lb.lv = y.hd.lb.lv ∧ (x.hd.lb.cats < y.hd.lb.cats ∨ (x.hd.lb.cats = y.hd.lb.cats ∧ x.hd.num < y.hd.num))))) := by
  obtain ⟨⟨⟨a, b⟩, c⟩, e⟩ := x
  obtain ⟨⟨⟨a', b'⟩, c'⟩, e'⟩ := y
  unfold Eid.less Lb.ahead
  by_cases h1 : e = e'
  · subst h1
    by_cases h2 : (⟨a, b⟩ : Lb) = ⟨a', b'⟩
    · injection h2 with h2 h3
      subst h2; subst h3
      simp
    · have h3 : ¬(a = a' ∧ b = b') := fun h => h2 (by rw [h.1, h.2])
      simp only [h2, if_true, if_false, Bool.or_eq_true, Bool.and_eq_true, decide_eq_true_eq, Int.lt_irrefl, true_and, false_or]
      omega
  · simp only [h1, if_false, decide_eq_true_eq, false_and, or_false]
theorem less_irr (x : Eid) : x.less x = false := by
  rw [← Bool.not_eq_true, less_iff]; omega
theorem less_trans {x y z : Eid} (h1 : x.less y = true) (h2 : y.less z = true) : x.less z = true := by
  rw [less_iff] at *; omega
theorem less_asym {x y : Eid} (h1 : x.less y = true) : y.less x = false := by
  rw [← Bool.not_eq_true]; rw [less_iff] at *; omega
theorem less_tot {x y : Eid} (h : x ≠ y) : x.less y = true ∨ y.less x = true := by
  rw [less_iff, less_iff]
  obtain ⟨⟨⟨a, b⟩, c⟩, e⟩ := x
  obtain ⟨⟨⟨a', b'⟩, c'⟩, e'⟩ := y
  simp only
  have : ¬(a = a' ∧ b = b' ∧ c = c' ∧ e = e') := fun k => h (by rw [k.1, k.2.1, k.2.2.1, k.2.2.2])
  omega
theorem less_c {x y : Eid} (h : x.less y = true) : x.c ≤ y.c := by
  rw [less_iff] at h; omega
theorem less_of_c {x y : Eid} (h : x.c < y.c) : x.less y = true := by
  rw [less_iff]; omega
/-! ### Paths -/
def ahd : List Eid → List Eid → Prop
  | [], [] => False
  | [], _ :: _ => True
  | _ :: _, [] => False
  | a :: p, b :: q => b.less a = true ∨ (a = b ∧ ahd p q)
theorem ahd_irr : ∀ p : List Eid, ¬ahd p p
  | [] => fun h => h
  | a :: p => fun h => by
    rcases h with h | ⟨_, h⟩
    · rw [less_irr] at h; cases h
    · exact ahd_irr p h
theorem ahd_trans : ∀ {p q r : List Eid}, ahd p q → ahd q r → ahd p r
  | [], [], _ => fun h _ => h.elim
  | [], _ :: _, [] => fun _ h => h.elim
  | [], _ :: _, _ :: _ => fun _ _ => trivial
  | _ :: _, [], _ => fun h _ => h.elim
  | _ :: _, _ :: _, [] => fun _ h => h.elim
  | a :: p, b :: q, c :: r => fun h1 h2 => by
    rcases h1 with h1 | ⟨rfl, h1⟩ <;> rcases h2 with h2 | ⟨rfl, h2⟩
    · exact .inl (less_trans h2 h1)
    · exact .inl h1
    · exact .inl h2
    · exact .inr ⟨rfl, ahd_trans h1 h2⟩
theorem ahd_app (p : List Eid) (x : Eid) (q : List Eid) : ahd p (p ++ x :: q) := by
  induction p with
  | nil => trivial
  | cons a p ih => exact .inr ⟨rfl, ih⟩
theorem ahd_at (p : List Eid) {a b : Eid} (q r : List Eid) (h : b.less a = true) : ahd (p ++ a :: q) (p ++ b :: r) := by
  induction p with
  | nil => exact .inl h
  | cons a p ih => exact .inr ⟨rfl, ih⟩
theorem ahd_iff : ∀ {p q : List Eid}, ahd p q → (∃ x r, q = p ++ x :: r) ∨ ∃ c a b s t, p = c ++ a :: s ∧ q = c ++ b :: t ∧ b.less a = true
  | [], [] => fun h => h.elim
  | [], x :: r => fun _ => .inl ⟨x, r, rfl⟩
  | _ :: _, [] => fun h => h.elim
  | a :: p, b :: q => fun h => by
    rcases h with h | ⟨rfl, h⟩
    · exact .inr ⟨[], a, b, p, q, rfl, rfl, h⟩
    · rcases ahd_iff h with ⟨x, r, rfl⟩ | ⟨c, x, y, s, t, rfl, rfl, k⟩
      · exact .inl ⟨x, r, rfl⟩
      · exact .inr ⟨a :: c, x, y, s, t, rfl, rfl, k⟩
structure El where
  id : Eid
  af : Eid
  ch : Int
  deriving DecidableEq
inductive Pth (E : List El) : Eid → List Eid → Prop
  | root {x : El} : x ∈ E → x.af = Eid.z → Pth E x.id [x.id]
  | step {x : El} {p : List Eid} : x ∈ E → Pth E x.af p → Pth E x.id (p ++ [x.id])
theorem Pth.mono {E F : List El} (h : ∀ x ∈ E, x ∈ F) {x : Eid} {p : List Eid} (k : Pth E x p) : Pth F x p := by
  induction k with
  | root m e => exact .root (h _ m) e
  | step m _ ih => exact .step (h _ m) ih
theorem Pth.mem {E : List El} {x : Eid} {p : List Eid} (k : Pth E x p) : ∃ e ∈ E, e.id = x := by
  cases k with
  | root m _ => exact ⟨_, m, rfl⟩
  | step m _ => exact ⟨_, m, rfl⟩
theorem Pth.last {E : List El} {x : Eid} {p : List Eid} (k : Pth E x p) : ∃ q, p = q ++ [x] := by
  cases k with
  | root m _ => exact ⟨[], rfl⟩
  | step m _ => exact ⟨_, rfl⟩
theorem Pth.pre {E : List El} {x : Eid} {p : List Eid} (k : Pth E x p) : ∀ {q y r}, p = q ++ y :: r → Pth E y (q ++ [y]) := by
  induction k with
  | root m e =>
    intro q y r h
    cases q with
    | nil => cases h; exact .root m e
    | cons a q => simp at h
  | @step x p m kp ih =>
    intro q y r h
    rcases List.eq_nil_or_concat r with rfl | ⟨r', b, rfl⟩
    · have h2 := List.append_inj' h rfl
      rw [← h2.1]
      injection h2.2 with h3
      rw [← h3]
      exact .step m kp
    · have h' : p ++ [x.id] = (q ++ y :: r') ++ [b] := by rw [h]; simp
      exact ih (List.append_inj' h' rfl).1
structure Set1 (E : List El) : Prop where
  nd : (E.map (·.id)).Nodup
  ct : ∀ x ∈ E, x.af.c < x.id.c ∧ 0 < x.id.c
  rt : ∀ x ∈ E, x.af = Eid.z ∨ ∃ y ∈ E, y.id = x.af
theorem nd_inj {E : List El} (h : (E.map (·.id)).Nodup) {x y : El} (hx : x ∈ E) (hy : y ∈ E) (e : x.id = y.id) : x = y := by
  induction E with
  | nil => cases hx
  | cons a E ih =>
    rw [List.map_cons, List.nodup_cons] at h
    rcases List.mem_cons.1 hx with rfl | hx' <;> rcases List.mem_cons.1 hy with rfl | hy'
    · rfl
    · exact absurd (List.mem_map.2 ⟨y, hy', e.symm⟩) h.1
    · exact absurd (List.mem_map.2 ⟨x, hx', e⟩) h.1
    · exact ih h.2 hx' hy'
theorem Pth.nz {E : List El} (h : ∀ x ∈ E, 0 < x.id.c) {x : Eid} {p : List Eid} (k : Pth E x p) : x ≠ Eid.z := by
  obtain ⟨e, he, rfl⟩ := k.mem
  intro hz
  have := h e he
  rw [hz] at this
  exact absurd this (by decide)
theorem Pth.fn {E : List El} (h : Set1 E) {x : Eid} {p : List Eid} (k : Pth E x p) : ∀ {q}, Pth E x q → p = q := by
  have hz := fun x hx => (h.ct x hx).2
  induction k with
  | @root x m e =>
    intro q k'
    generalize hx : x.id = i at k'
    cases k' with
    | root m' e' => rfl
    | @step x' p' m' kp' =>
      have := nd_inj h.nd m m' hx
      subst this
      exact absurd e (kp'.nz hz)
  | @step x p m kp ih =>
    intro q k'
    generalize hx : x.id = i at k'
    cases k' with
    | @root x' m' e' =>
      have := nd_inj h.nd m m' hx
      subst this
      exact absurd e' (kp.nz hz)
    | @step x' p' m' kp' =>
      have := nd_inj h.nd m m' hx
      subst this
      rw [ih kp']
theorem Pth.ex {E : List El} (h : Set1 E) : ∀ (n : Nat) (x : El), x ∈ E → x.id.c ≤ n → ∃ p, Pth E x.id p
  | 0, x, hx, hn => absurd (h.ct x hx).2 (by omega)
  | n + 1, x, hx, hn => by
    rcases h.rt x hx with e | ⟨y, hy, e⟩
    · exact ⟨_, .root hx e⟩
    · have hc := h.ct x hx
      obtain ⟨p, hp⟩ := Pth.ex h n y hy (by rw [e]; omega)
      rw [e] at hp
      exact ⟨_, .step hx hp⟩
theorem Set1.path {E : List El} (h : Set1 E) {x : El} (hx : x ∈ E) : ∃ p, Pth E x.id p := Pth.ex h x.id.c.toNat x hx (by have := h.ct x hx; omega)
theorem Pth.grow {E : List El} (h : ∀ x ∈ E, x.af.c < x.id.c) {x : Eid} {p : List Eid} (k : Pth E x p) : ∀ y ∈ p, y.c ≤ x.c := by
  induction k with
  | root m e => intro y hy; rw [List.mem_singleton] at hy; subst hy; exact Int.le_refl _
  | @step x p m kp ih =>
    intro y hy
    rcases List.mem_append.1 hy with hy | hy
    · have := ih y hy
      have := h _ m
      omega
    · rw [List.mem_singleton] at hy; subst hy; exact Int.le_refl _
def Ah (E : List El) (x y : El) : Prop := ∃ p q, Pth E x.id p ∧ Pth E y.id q ∧ ahd p q
theorem Ah.irr {E : List El} (h : Set1 E) (x : El) : ¬Ah E x x := fun ⟨p, q, hp, hq, k⟩ => by
  rw [hp.fn h hq] at k
  exact ahd_irr _ k
theorem Ah.trans {E : List El} (h : Set1 E) {x y z : El} (h1 : Ah E x y) (h2 : Ah E y z) : Ah E x z := by
  obtain ⟨p, q, hp, hq, k⟩ := h1
  obtain ⟨q', r, hq', hr, k'⟩ := h2
  rw [hq'.fn h hq] at k'
  exact ⟨p, r, hp, hr, ahd_trans k k'⟩
theorem Ah.mono {E F : List El} (h : ∀ x ∈ E, x ∈ F) {x y : El} (k : Ah E x y) : Ah F x y := by
  obtain ⟨p, q, hp, hq, k⟩ := k
  exact ⟨p, q, hp.mono h, hq.mono h, k⟩
structure Txt (E : List El) : Prop where
  s1 : Set1 E
  pw : E.Pairwise (Ah E)
theorem pw_eq {α : Type} {R : α → α → Prop} : ∀ {l m : List α}, (∀ x y, R x y → ¬R y x) → l.Pairwise R → m.Pairwise R → (∀ x, x ∈ l ↔ x ∈ m) → l = m
  | [], [], _, _, _, _ => rfl
  | [], b :: m, _, _, _, h => absurd ((h b).2 List.mem_cons_self) (by simp)
  | a :: l, [], _, _, _, h => absurd ((h a).1 List.mem_cons_self) (by simp)
  | a :: l, b :: m, hR, hl, hm, h => by
    have hl' := List.pairwise_cons.1 hl
    have hm' := List.pairwise_cons.1 hm
    have e : a = b := by
      rcases List.mem_cons.1 ((h a).1 List.mem_cons_self) with e | ha
      · exact e
      · rcases List.mem_cons.1 ((h b).2 List.mem_cons_self) with e | hb
        · exact e.symm
        · exact absurd (hm'.1 a ha) (hR _ _ (hl'.1 b hb))
    subst e
    rw [pw_eq hR hl'.2 hm'.2 fun x => ?_]
    have na : a ∉ l := fun k => (hR _ _ (hl'.1 a k)) (hl'.1 a k)
    have nb : a ∉ m := fun k => (hR _ _ (hm'.1 a k)) (hm'.1 a k)
    have hx := h x
    simp only [List.mem_cons] at hx
    by_cases k : x = a
    · subst k; exact ⟨fun k => absurd k na, fun k => absurd k nb⟩
    · simpa [k] using hx
theorem Txt.eq {E F : List El} (hE : Txt E) (hF : Txt F) (h : ∀ x, x ∈ E ↔ x ∈ F) : E = F := by
  refine pw_eq (R := Ah E) (fun x y h1 h2 => Ah.irr hE.s1 x (Ah.trans hE.s1 h1 h2)) hE.pw (hF.pw.imp fun k => k.mono fun x => (h x).2) h
theorem Txt.nil : Txt [] := ⟨⟨List.nodup_nil, fun _ h => absurd h (by simp), fun _ h => absurd h (by simp)⟩, .nil⟩
theorem Txt.filter {E : List El} (hE : Txt E) (f : El → Bool) (hf : ∀ x ∈ E, ∀ y ∈ E, f x = true → y.id = x.af → f y = true) : Txt (E.filter f) := by
  have hs : Set1 (E.filter f) := by
    refine ⟨?_, fun x hx => hE.s1.ct x (List.mem_filter.1 hx).1, fun x hx => ?_⟩
    · exact (hE.s1.nd.sublist (List.Sublist.map _ List.filter_sublist))
    · obtain ⟨h1, h2⟩ := List.mem_filter.1 hx
      rcases hE.s1.rt x h1 with e | ⟨y, hy, e⟩
      · exact .inl e
      · exact .inr ⟨y, List.mem_filter.2 ⟨hy, hf x h1 y hy h2 e⟩, e⟩
  refine ⟨hs, ?_⟩
  have h1 := hE.pw.sublist (List.filter_sublist (p := f))
  refine List.Pairwise.imp_of_mem (fun {a b} ha hb k => ?_) h1
  obtain ⟨p, q, hp, hq, k⟩ := k
  obtain ⟨p', hp'⟩ := hs.path ha
  obtain ⟨q', hq'⟩ := hs.path hb
  rw [(hp'.mono fun x hx => (List.mem_filter.1 hx).1).fn hE.s1 hp] at hp'
  rw [(hq'.mono fun x hx => (List.mem_filter.1 hx).1).fn hE.s1 hq] at hq'
  exact ⟨p, q, hp', hq', k⟩
end Go.Proofs.Ytbomjpdheibmfaa
