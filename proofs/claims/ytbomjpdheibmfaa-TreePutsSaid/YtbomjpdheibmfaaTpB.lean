/-
  Texts, in plain Lean: the program's way through the elements is their order; a run is put.
-/
import Derived.Test.YtbomjpdheibmfaaTpA
set_option linter.unusedSimpArgs false
set_option linter.unusedVariables false
set_option maxRecDepth 100000
namespace Go.Proofs.Ytbomjpdheibmfaa
open Go Go.Ax
theorem ahd_nil (p : List Eid) : ¬ahd p [] := by
  cases p <;> exact fun h => h
theorem nil_snoc {α : Type} (l : List α) : l = [] ∨ ∃ q b, l = q ++ [b] := by
  rcases List.eq_nil_or_concat l with h | ⟨q, b, h⟩
  · exact .inl h
  · exact .inr ⟨q, b, by rw [h, List.concat_eq_append]⟩
def popT (af : Eid) : List Eid → Eid → Eid × List Eid
  | [], el => (el, [])
  | t :: s, el => if t = af then (el, t :: s) else popT af s t
def ordS (x : Eid × Eid) (s seen : List Eid) : Bool := !((decide ((popT x.2 s Eid.z).2 = []) && !decide (x.2 = Eid.z)) || (!decide ((popT x.2 s Eid.z).1 = Eid.z) && !x.1.less (popT x.2 s Eid.z).1) || decide (x.1 ∈ seen))
def stk (l : List (Eid × Eid)) : List Eid := l.foldl (fun s x => x.1 :: (popT x.2 s Eid.z).2) []
theorem stk_snoc (l : List (Eid × Eid)) (x : Eid × Eid) : stk (l ++ [x]) = x.1 :: (popT x.2 (stk l) Eid.z).2 := by simp [stk]
def Ord (l : List (Eid × Eid)) : Prop := ∀ pre x post, l = pre ++ x :: post → ordS x (stk pre) (pre.map (·.1)) = true
theorem Ord.nil : Ord [] := fun pre x post h => absurd h (by simp)
theorem Ord.pre {l m : List (Eid × Eid)} (h : Ord (l ++ m)) : Ord l := fun pre x post e => h pre x (post ++ m) (by rw [e]; simp)
theorem Ord.snoc {l : List (Eid × Eid)} {x : Eid × Eid} (h : Ord l) (k : ordS x (stk l) (l.map (·.1)) = true) : Ord (l ++ [x]) := by
  intro pre y post e
  rcases nil_snoc post with rfl | ⟨q, b, rfl⟩
  · have := List.append_inj' e rfl
    obtain ⟨rfl, h2⟩ := this
    injection h2 with h2
    subst h2
    exact k
  · have e' : l ++ [x] = (pre ++ y :: q) ++ [b] := by rw [e]; simp
    exact h pre y q (List.append_inj' e' rfl).1
theorem popT_eq {af : Eid} : ∀ {m : List Eid} {q : List Eid} {el : Eid}, (∀ t ∈ m, t ≠ af) → (q = [] ∨ ∃ t, q = af :: t) → popT af (m ++ q) el = (m.getLast?.getD el, q)
  | [], q, el, _, hq => by
    rcases hq with rfl | ⟨t, rfl⟩
    · rfl
    · show popT af (af :: t) el = _
      rw [popT, if_pos rfl]; rfl
  | a :: m, q, el, hm, hq => by
    rw [List.cons_append, popT, if_neg (hm a List.mem_cons_self), popT_eq (fun t ht => hm t (List.mem_cons_of_mem _ ht)) hq]
    cases m with
    | nil => rfl
    | cons b m => simp [List.getLast?_cons]
theorem pop_ex (af : Eid) : ∀ s : List Eid, ∃ m q, s = m ++ q ∧ (∀ t ∈ m, t ≠ af) ∧ (q = [] ∨ ∃ t, q = af :: t)
  | [] => ⟨[], [], rfl, (fun _ h => absurd h (by simp)), .inl rfl⟩
  | a :: s => by
    by_cases h : a = af
    · subst h
      exact ⟨[], a :: s, rfl, (fun _ h => absurd h (by simp)), .inr ⟨s, rfl⟩⟩
    · obtain ⟨m, q, rfl, hm, hq⟩ := pop_ex af s
      exact ⟨a :: m, q, rfl, fun t ht => (List.mem_cons.1 ht).elim (fun e => e ▸ h) (hm t), hq⟩
def prs (E : List El) : List (Eid × Eid) := E.map fun x => (x.id, x.af)
theorem prs_ids (E : List El) : (prs E).map (·.1) = E.map (·.id) := by simp [prs]
theorem Txt.ins {A R B : List El} (h : Txt (A ++ B)) (hs : Set1 (A ++ R ++ B)) (h1 : ∀ a ∈ A, ∀ r ∈ R, Ah (A ++ R ++ B) a r) (h2 : R.Pairwise (Ah (A ++ R ++ B))) (h3 : ∀ r ∈ R, ∀ b ∈ B, Ah (A ++ R ++ B) r b) : Txt (A ++ R ++ B) := by
  refine ⟨hs, ?_⟩
  have hm : ∀ x ∈ A ++ B, x ∈ A ++ R ++ B := fun x hx => by
    rcases List.mem_append.1 hx with h | h
    · exact List.mem_append.2 (.inl (List.mem_append.2 (.inl h)))
    · exact List.mem_append.2 (.inr h)
  have hp := h.pw.imp (fun k => Ah.mono hm k)
  obtain ⟨pA, pB, pAB⟩ := List.pairwise_append.1 hp
  refine List.pairwise_append.2 ⟨List.pairwise_append.2 ⟨pA, h2, h1⟩, pB, fun a ha b hb => ?_⟩
  rcases List.mem_append.1 ha with ha | ha
  · exact pAB a ha b hb
  · exact h3 a ha b hb
def Stk (E : List El) (s : List Eid) : Prop := (E = [] ∧ s = []) ∨ ∃ E' y, E = E' ++ [y] ∧ Pth E y.id s.reverse
theorem snoc_ind {α : Type} {P : List α → Prop} (h0 : P []) (h1 : ∀ l x, P l → P (l ++ [x])) (l : List α) : P l := by
  suffices h : ∀ n (l : List α), l.length = n → P l from h _ l rfl
  intro n
  induction n with
  | zero => intro l hl; rw [List.eq_nil_of_length_eq_zero hl]; exact h0
  | succ n ih =>
    intro l hl
    rcases nil_snoc l with rfl | ⟨q, b, rfl⟩
    · exact h0
    · exact h1 q b (ih q (by simpa using hl))
theorem Stk.pos {E : List El} {s : List Eid} (hs : Set1 E) (h : Stk E s) : ∀ t ∈ s, t ≠ Eid.z := by
  rcases h with ⟨_, rfl⟩ | ⟨E', y, rfl, hp⟩
  · exact fun _ h => absurd h (by simp)
  · intro t ht
    obtain ⟨q, r, e⟩ := List.append_of_mem (List.mem_reverse.2 ht)
    exact (hp.pre e).nz fun x hx => (hs.ct x hx).2
theorem ord_txt (E : List El) : (∀ x ∈ E, x.af.c < x.id.c ∧ 0 < x.id.c) → Ord (prs E) → Txt E ∧ Stk E (stk (prs E)) := by
  refine snoc_ind (P := fun E => (∀ x ∈ E, x.af.c < x.id.c ∧ 0 < x.id.c) → Ord (prs E) → Txt E ∧ Stk E (stk (prs E))) (fun _ _ => ⟨Txt.nil, .inl ⟨rfl, rfl⟩⟩) (fun E x ih hc ho => ?_) E
  have he : prs (E ++ [x]) = prs E ++ [(x.id, x.af)] := by simp [prs]
  rw [he] at ho ⊢
  obtain ⟨hT, hS⟩ := ih (fun y hy => hc y (List.mem_append_left _ hy)) ho.pre
  have hx := hc x (List.mem_append_right _ List.mem_cons_self)
  have hst := ho (prs E) (x.id, x.af) [] rfl
  obtain ⟨m, q, hmq, hm, hq⟩ := pop_ex x.af (stk (prs E))
  have hpe := popT_eq (el := Eid.z) hm hq
  rw [← hmq] at hpe
  unfold ordS at hst
  rw [hpe, prs_ids] at hst
  simp only [Bool.not_eq_true', Bool.or_eq_false_iff, Bool.and_eq_false_iff, Bool.not_eq_false', decide_eq_false_iff_not, decide_eq_true_eq] at hst
  obtain ⟨⟨h1, h2⟩, h3⟩ := hst
  rw [stk_snoc, hpe]
  have hmem : ∀ y ∈ E, y ∈ E ++ [x] := fun y hy => List.mem_append_left _ hy
  have hxm : x ∈ E ++ [x] := List.mem_append_right _ List.mem_cons_self
  have hpos := hS.pos hT.s1
  -- the path of the new one
  have hrt : x.af = Eid.z ∨ ∃ y ∈ E, y.id = x.af := by
    rcases hq with rfl | ⟨t, rfl⟩
    · rcases h1 with h1 | h1
      · exact absurd rfl h1
      · exact .inl h1
    · rcases hS with ⟨_, h⟩ | ⟨E', y, rfl, hp⟩
      · rw [h] at hmq
        exact absurd hmq.symm (by simp)
      · rw [hmq] at hp
        exact .inr (hp.pre (q := t.reverse) (y := x.af) (r := m.reverse) (by simp)).mem
  have hs1 : Set1 (E ++ [x]) := by
    refine ⟨?_, hc, fun y hy => ?_⟩
    · rw [List.map_append, List.nodup_append]
      refine ⟨hT.s1.nd, by simp, fun a ha b hb e => ?_⟩
      simp at hb
      subst hb
      subst e
      exact h3 ha
    · rcases List.mem_append.1 hy with hy | hy
      · rcases hT.s1.rt y hy with e | ⟨w, hw, e⟩
        · exact .inl e
        · exact .inr ⟨w, hmem w hw, e⟩
      · rw [List.mem_singleton] at hy; subst hy
        rcases hrt with e | ⟨w, hw, e⟩
        · exact .inl e
        · exact .inr ⟨w, hmem w hw, e⟩
  have hpx : Pth (E ++ [x]) x.id (x.id :: q).reverse := by
    rcases hq with rfl | ⟨t, rfl⟩
    · rcases h1 with h1 | h1
      · exact absurd rfl h1
      · exact .root hxm h1
    · rcases hS with ⟨_, h⟩ | ⟨E', y, rfl, hp⟩
      · rw [h] at hmq
        exact absurd hmq.symm (by simp)
      · rw [hmq] at hp
        have := hp.pre (q := t.reverse) (y := x.af) (r := m.reverse) (by simp)
        have := Pth.step hxm (this.mono hmem)
        simpa using this
  refine ⟨?_, .inr ⟨E, x, rfl, hpx⟩⟩
  have hT' : Txt (E ++ []) := by rw [List.append_nil]; exact hT
  have := hT'.ins (R := [x]) (by rw [List.append_nil]; exact hs1) (fun a ha r hr => ?_) (List.pairwise_singleton _ _) (fun r hr b hb => absurd hb (by simp))
  · rwa [List.append_nil] at this
  · rw [List.mem_singleton] at hr; subst hr
    rw [List.append_nil]
    rcases hS with ⟨rfl, h⟩ | ⟨E', y, rfl, hp⟩
    · exact absurd ha (by simp)
    · have hyx : Ah (E' ++ [y] ++ [r]) y r := by
        refine ⟨_, _, hp.mono hmem, hpx, ?_⟩
        rw [hmq, List.reverse_append, List.reverse_cons]
        rcases nil_snoc m with rfl | ⟨m', e, rfl⟩
        · rw [List.reverse_nil, List.append_nil]; exact ahd_app _ _ _
        · rw [List.reverse_append]
          have hle : (m' ++ [e]).getLast?.getD Eid.z = e := by simp
          rw [hle] at h2
          have hez : e ≠ Eid.z := hpos e (by rw [hmq]; simp)
          rcases h2 with h2 | h2
          · exact absurd h2 hez
          · exact ahd_at _ _ _ h2
      rcases List.mem_append.1 ha with ha | ha
      · have := (List.pairwise_append.1 hT.pw).2.2 a ha y List.mem_cons_self
        exact (this.mono hmem).trans hs1 hyx
      · rw [List.mem_singleton] at ha; subst ha; exact hyx
theorem ahd_strip : ∀ {c p q : List Eid}, ahd (c ++ p) (c ++ q) → ahd p q
  | [], _, _, h => h
  | a :: c, p, q, h => by
    rcases h with h | ⟨_, h⟩
    · rw [less_irr] at h; cases h
    · exact ahd_strip h
theorem Txt.pre {E : List El} {x : El} (h : Txt (E ++ [x])) : Txt E := by
  have hmem : ∀ y ∈ E, y ∈ E ++ [x] := fun y hy => List.mem_append_left _ hy
  have hxm : x ∈ E ++ [x] := List.mem_append_right _ List.mem_cons_self
  have hp := List.pairwise_append.1 h.pw
  have hcl : ∀ y ∈ E, y.af ≠ x.id := fun y hy e => by
    have h1 := hp.2.2 y hy x List.mem_cons_self
    obtain ⟨p, hpx⟩ := h.s1.path hxm
    have hpx' := hpx
    rw [← e] at hpx'
    have h2 : Ah (E ++ [x]) x y := ⟨_, _, hpx, .step (hmem y hy) hpx', ahd_app _ _ _⟩
    exact Ah.irr h.s1 x (h2.trans h.s1 h1)
  have hs : Set1 E := by
    refine ⟨?_, fun y hy => h.s1.ct y (hmem y hy), fun y hy => ?_⟩
    · have := h.s1.nd
      rw [List.map_append, List.nodup_append] at this
      exact this.1
    · rcases h.s1.rt y (hmem y hy) with e | ⟨w, hw, e⟩
      · exact .inl e
      · rcases List.mem_append.1 hw with hw | hw
        · exact .inr ⟨w, hw, e⟩
        · rw [List.mem_singleton] at hw; subst hw
          exact absurd e.symm (hcl y hy)
  refine ⟨hs, List.Pairwise.imp_of_mem (fun {a b} ha hb k => ?_) hp.1⟩
  obtain ⟨p, q, k1, k2, k⟩ := k
  obtain ⟨p', hp'⟩ := hs.path ha
  obtain ⟨q', hq'⟩ := hs.path hb
  rw [(hp'.mono hmem).fn h.s1 k1] at hp'
  rw [(hq'.mono hmem).fn h.s1 k2] at hq'
  exact ⟨p, q, hp', hq', k⟩
theorem txt_ord (E : List El) : Txt E → Ord (prs E) ∧ Stk E (stk (prs E)) := by
  refine snoc_ind (P := fun E => Txt E → Ord (prs E) ∧ Stk E (stk (prs E))) (fun _ => ⟨Ord.nil, .inl ⟨rfl, rfl⟩⟩) (fun E x ih hT => ?_) E
  have he : prs (E ++ [x]) = prs E ++ [(x.id, x.af)] := by simp [prs]
  rw [he]
  have hE := hT.pre
  obtain ⟨hO, hS⟩ := ih hE
  have hmem : ∀ y ∈ E, y ∈ E ++ [x] := fun y hy => List.mem_append_left _ hy
  have hxm : x ∈ E ++ [x] := List.mem_append_right _ List.mem_cons_self
  have hpos := hS.pos hE.s1
  have hps := List.pairwise_append.1 hT.pw
  have hnx : x.id ∉ E.map (·.id) := by
    have := hT.s1.nd
    rw [List.map_append, List.nodup_append] at this
    exact fun k => this.2.2 _ k x.id (by simp) rfl
  have key : ∃ m q, stk (prs E) = m ++ q ∧ (∀ t ∈ m, t ≠ x.af) ∧ ((q = [] ∧ x.af = Eid.z) ∨ ∃ t, q = x.af :: t) ∧ (m = [] ∨ x.id.less (m.getLast?.getD Eid.z) = true) ∧ Pth (E ++ [x]) x.id (q.reverse ++ [x.id]) := by
    rcases hT.s1.rt x hxm with e | ⟨w, hw, e⟩
    · refine ⟨stk (prs E), [], by simp, fun t ht => e ▸ hpos t ht, .inl ⟨rfl, e⟩, ?_, .root hxm e⟩
      rcases hS with ⟨rfl, h⟩ | ⟨E', y, rfl, hp⟩
      · exact .inl h
      · right
        obtain ⟨p, q, k1, k2, k⟩ := hps.2.2 y (List.mem_append_right _ List.mem_cons_self) x List.mem_cons_self
        rw [(hp.mono hmem).fn hT.s1 k1 |>.symm, k2.fn hT.s1 (.root hxm e)] at k
        generalize stk (prs (E' ++ [y])) = s at *
        rcases nil_snoc s with rfl | ⟨s', a, rfl⟩
        · obtain ⟨z, hz⟩ := hp.last
          exact absurd hz (by simp)
        · rw [List.reverse_append] at k
          simp only [List.reverse_cons, List.reverse_nil, List.nil_append, List.singleton_append] at k
          rcases k with k | ⟨_, k⟩
          · simpa using k
          · exact absurd k (ahd_nil _)
    · have hwE : w ∈ E := by
        rcases List.mem_append.1 hw with h | h
        · exact h
        · rw [List.mem_singleton] at h; subst h
          have := hT.s1.ct w hxm
          rw [e] at this
          omega
      obtain ⟨pw, hpw⟩ := hT.s1.path hw
      have hpx : Pth (E ++ [x]) x.id (pw ++ [x.id]) := .step hxm (e ▸ hpw)
      rcases hS with ⟨rfl, h⟩ | ⟨E', y, rfl, hp⟩
      · exact absurd hwE (by simp)
      · have hyx := hps.2.2 y (List.mem_append_right _ List.mem_cons_self) x List.mem_cons_self
        obtain ⟨p, q, k1, k2, k⟩ := hyx
        rw [(hp.mono hmem).fn hT.s1 k1 |>.symm, k2.fn hT.s1 hpx] at k
        have hpm := hp.mono hmem
        generalize hsp : stk (prs (E' ++ [y])) = s at *
        have hpre : ∃ r, s.reverse = pw ++ r := by
          rcases List.mem_append.1 hwE with h | h
          · obtain ⟨p', q', j1, j2, j⟩ := (List.pairwise_append.1 hE.pw).2.2 w h y List.mem_cons_self
            rw [(j1.mono hmem).fn hT.s1 hpw, (j2.mono hmem).fn hT.s1 hpm] at j
            rcases ahd_iff j with ⟨b, r, e2⟩ | ⟨c, a, b, s1, t1, e1, e2, hl⟩
            · exact ⟨_, e2⟩
            · rw [e1, e2, List.append_assoc] at k
              have k := ahd_strip k
              rcases k with k | ⟨k, _⟩
              · rw [less_asym hl] at k; cases k
              · rw [k, less_irr] at hl; cases hl
          · rw [List.mem_singleton] at h; subst h
            exact ⟨[], by rw [hpm.fn hT.s1 hpw]; simp⟩
        obtain ⟨r, hr⟩ := hpre
        obtain ⟨p0, hp0⟩ := hpw.last
        rw [e] at hp0
        have hs : s = r.reverse ++ pw.reverse := by rw [← List.reverse_append, ← hr, List.reverse_reverse]
        refine ⟨r.reverse, pw.reverse, hs, fun t ht et => ?_, .inr ⟨p0.reverse, by rw [hp0]; simp⟩, ?_, by rw [List.reverse_reverse]; exact hpx⟩
        · subst et
          obtain ⟨a1, b1, e1⟩ := List.append_of_mem (List.mem_reverse.1 ht)
          have g1 := hpm.pre (q := p0) (y := x.af) (r := r) (by rw [hr, hp0]; simp)
          have g2 := hpm.pre (q := pw ++ a1) (y := x.af) (r := b1) (by rw [hr, e1]; simp)
          have g3 := congrArg List.length (g1.fn hT.s1 g2)
          rw [hp0] at g3
          simp at g3
        · rw [hr] at k
          cases r with
          | nil => exact .inl rfl
          | cons a r =>
            right
            have k := ahd_strip k
            rcases k with k | ⟨_, k⟩
            · simpa using k
            · exact absurd k (ahd_nil _)
  obtain ⟨m, q, hmq, hm, hq, hl, hp⟩ := key
  have hpe := popT_eq (el := Eid.z) (q := q) hm (hq.elim (fun h => .inl h.1) .inr)
  rw [← hmq] at hpe
  refine ⟨hO.snoc ?_, ?_⟩
  · unfold ordS
    rw [hpe, prs_ids]
    simp only [Bool.not_eq_true', Bool.or_eq_false_iff, Bool.and_eq_false_iff, Bool.not_eq_false', decide_eq_false_iff_not, decide_eq_true_eq]
    refine ⟨⟨?_, ?_⟩, hnx⟩
    · rcases hq with ⟨_, h⟩ | ⟨t, rfl⟩
      · exact .inr h
      · exact .inl (by simp)
    · rcases hl with rfl | h
      · exact .inl rfl
      · exact .inr h
  · rw [stk_snoc, hpe]
    exact .inr ⟨E, x, rfl, by simpa using hp⟩
theorem ord_iff {E : List El} (h : ∀ x ∈ E, x.af.c < x.id.c ∧ 0 < x.id.c) : Ord (prs E) ↔ Txt E := ⟨fun k => (ord_txt E h k).1, fun k => (txt_ord E k).1⟩
end Go.Proofs.Ytbomjpdheibmfaa
