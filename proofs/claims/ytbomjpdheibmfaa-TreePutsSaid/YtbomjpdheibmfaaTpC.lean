/-
  Texts, in plain Lean: a row of elements is put behind one.
-/
import Derived.Test.YtbomjpdheibmfaaTpB
set_option linter.unusedSimpArgs false
set_option linter.unusedVariables false
set_option maxRecDepth 100000
namespace Go.Proofs.Ytbomjpdheibmfaa
open Go Go.Ax
def Chn : Eid → List El → Prop
  | _, [] => True
  | a, x :: R => x.af = a ∧ a.c < x.id.c ∧ Chn x.id R
theorem Chn.path {F : List El} : ∀ {R : List El} {a : Eid} {p : List Eid}, Chn a R → (∀ x ∈ R, x ∈ F) → ((a = Eid.z ∧ p = []) ∨ Pth F a p) → ∀ x ∈ R, ∃ q, Pth F x.id (p ++ q) ∧ ∀ y R', R = y :: R' → ∃ q', q = y.id :: q'
  | [], _, _, _, _, _ => fun x hx => absurd hx (by simp)
  | y :: R, a, p, hC, hm, ha => by
    intro x hx
    obtain ⟨h1, h2, h3⟩ := hC
    have hy : Pth F y.id (p ++ [y.id]) := by
      have hym := hm y List.mem_cons_self
      rcases ha with ⟨rfl, rfl⟩ | ha
      · exact .root hym h1
      · exact .step hym (h1 ▸ ha)
    rcases List.mem_cons.1 hx with rfl | hx
    · exact ⟨[x.id], hy, fun y' R' e => by injection e with e1 e2; subst e1; exact ⟨[], rfl⟩⟩
    · obtain ⟨q, hq, _⟩ := Chn.path h3 (fun x hx => hm x (List.mem_cons_of_mem _ hx)) (.inr hy) x hx
      rw [List.append_assoc] at hq
      exact ⟨_, hq, fun y' R' e => by injection e with e1 e2; subst e1; exact ⟨q, rfl⟩⟩
theorem Chn.pw {F : List El} : ∀ {R : List El} {a : Eid} {p : List Eid}, Chn a R → (∀ x ∈ R, x ∈ F) → ((a = Eid.z ∧ p = []) ∨ Pth F a p) → R.Pairwise (Ah F)
  | [], _, _, _, _, _ => .nil
  | y :: R, a, p, hC, hm, ha => by
    obtain ⟨h1, h2, h3⟩ := hC
    have hy : Pth F y.id (p ++ [y.id]) := by
      have hym := hm y List.mem_cons_self
      rcases ha with ⟨rfl, rfl⟩ | ha
      · exact .root hym h1
      · exact .step hym (h1 ▸ ha)
    refine List.pairwise_cons.2 ⟨fun x hx => ?_, Chn.pw h3 (fun x hx => hm x (List.mem_cons_of_mem _ hx)) (.inr hy)⟩
    obtain ⟨q, hq, hh⟩ := Chn.path h3 (fun x hx => hm x (List.mem_cons_of_mem _ hx)) (.inr hy) x hx
    cases R with
    | nil => exact absurd hx (by simp)
    | cons w R =>
      obtain ⟨q', rfl⟩ := hh w R rfl
      exact ⟨_, _, hy, hq, ahd_app _ _ _⟩
theorem Chn.grow : ∀ {R : List El} {a : Eid}, Chn a R → ∀ x ∈ R, a.c < x.id.c
  | [], _, _ => fun x hx => absurd hx (by simp)
  | y :: R, a, hC => fun x hx => by
    obtain ⟨h1, h2, h3⟩ := hC
    rcases List.mem_cons.1 hx with rfl | hx
    · exact h2
    · have := h3.grow x hx
      omega
theorem Chn.ct : ∀ {R : List El} {a : Eid}, Chn a R → 0 ≤ a.c → ∀ x ∈ R, x.af.c < x.id.c ∧ 0 < x.id.c
  | [], _, _, _ => fun x hx => absurd hx (by simp)
  | y :: R, a, hC, ha => fun x hx => by
    obtain ⟨h1, h2, h3⟩ := hC
    rcases List.mem_cons.1 hx with rfl | hx
    · rw [h1]; omega
    · exact h3.ct (by omega) x hx
theorem Chn.rt : ∀ {R : List El} {a : Eid}, Chn a R → ∀ x ∈ R, x.af = a ∨ ∃ y ∈ R, y.id = x.af
  | [], _, _ => fun x hx => absurd hx (by simp)
  | y :: R, a, hC => fun x hx => by
    obtain ⟨h1, h2, h3⟩ := hC
    rcases List.mem_cons.1 hx with rfl | hx
    · exact .inl h1
    · rcases h3.rt x hx with e | ⟨w, hw, e⟩
      · exact .inr ⟨y, List.mem_cons_self, e.symm⟩
      · exact .inr ⟨w, List.mem_cons_of_mem _ hw, e⟩
theorem Chn.nd : ∀ {R : List El} {a : Eid}, Chn a R → (R.map (·.id)).Nodup
  | [], _, _ => List.nodup_nil
  | y :: R, a, hC => by
    obtain ⟨h1, h2, h3⟩ := hC
    rw [List.map_cons, List.nodup_cons]
    refine ⟨fun h => ?_, h3.nd⟩
    obtain ⟨x, hx, e⟩ := List.mem_map.1 h
    have := h3.grow x hx
    rw [e] at this
    omega
theorem Txt.put {A0 A1 B R : List El} {r : El} {R' : List El} (hT : Txt (A0 ++ A1 ++ B)) (hR : R = r :: R') (hC : Chn r.af R)
    (ha : (r.af = Eid.z ∧ A0 = []) ∨ ∃ A00 w, A0 = A00 ++ [w] ∧ w.id = r.af)
    (hf : ∀ x ∈ R, ∀ y ∈ A0 ++ A1 ++ B, x.id ≠ y.id)
    (h1 : ∀ x ∈ A1, r.id.less x.id = true)
    (h2 : ∀ b B', B = b :: B' → r.id.less b.id = false) : Txt (A0 ++ A1 ++ R ++ B) := by
  have hrc : 0 ≤ r.af.c := by
    rcases ha with ⟨h, _⟩ | ⟨A00, w, rfl, h⟩
    · rw [h]; decide
    · have := (hT.s1.ct w (by simp)).2
      rw [h] at this
      omega
  have hrm : r ∈ R := by rw [hR]; exact List.mem_cons_self
  have hm : ∀ x ∈ A0 ++ A1 ++ B, x ∈ A0 ++ A1 ++ R ++ B := fun x hx => by
    rcases List.mem_append.1 hx with h | h
    · exact List.mem_append_left _ (List.mem_append_left _ h)
    · exact List.mem_append_right _ h
  have hmR : ∀ x ∈ R, x ∈ A0 ++ A1 ++ R ++ B := fun x hx => List.mem_append_left _ (List.mem_append_right _ hx)
  have hs : Set1 (A0 ++ A1 ++ R ++ B) := by
    refine ⟨?_, fun x hx => ?_, fun x hx => ?_⟩
    · have hn := hT.s1.nd
      have hd : ∀ x ∈ R, x.id ∉ (A0 ++ A1 ++ B).map (·.id) := fun x hx k => by
        obtain ⟨y, hy, e⟩ := List.mem_map.1 k
        exact hf x hx y hy e.symm
      rw [List.map_append, List.nodup_append] at hn
      rw [List.map_append, List.map_append, List.nodup_append, List.nodup_append]
      refine ⟨⟨hn.1, hC.nd, fun a ha b hb e => ?_⟩, hn.2.1, fun a ha b hb e => ?_⟩
      · obtain ⟨x, hx, rfl⟩ := List.mem_map.1 hb
        subst e
        exact hd x hx (by rw [List.map_append]; exact List.mem_append_left _ ha)
      · rcases List.mem_append.1 ha with ha | ha
        · exact hn.2.2 a ha b hb e
        · obtain ⟨x, hx, rfl⟩ := List.mem_map.1 ha
          subst e
          exact hd x hx (by rw [List.map_append]; exact List.mem_append_right _ hb)
    · rcases List.mem_append.1 hx with h | h
      · rcases List.mem_append.1 h with h | h
        · exact hT.s1.ct x (List.mem_append_left _ h)
        · exact hC.ct hrc x h
      · exact hT.s1.ct x (List.mem_append_right _ h)
    · have old : x ∈ A0 ++ A1 ++ B → x.af = Eid.z ∨ ∃ y ∈ A0 ++ A1 ++ R ++ B, y.id = x.af := fun h => by
        rcases hT.s1.rt x h with e | ⟨y, hy, e⟩
        · exact .inl e
        · exact .inr ⟨y, hm y hy, e⟩
      rcases List.mem_append.1 hx with h | h
      · rcases List.mem_append.1 h with h | h
        · exact old (List.mem_append_left _ h)
        · rcases hC.rt x h with e | ⟨y, hy, e⟩
          · rcases ha with ⟨h7, _⟩ | ⟨A00, w, rfl, h7⟩
            · exact .inl (e.trans h7)
            · exact .inr ⟨w, by simp, h7.trans e.symm⟩
          · exact .inr ⟨y, hmR y hy, e⟩
      · exact old (List.mem_append_right _ h)
  -- the path of the one that it names
  have hpa : ∃ p, ((r.af = Eid.z ∧ p = []) ∨ Pth (A0 ++ A1 ++ R ++ B) r.af p) ∧ (∀ u ∈ p, u.c ≤ r.af.c) ∧ (∀ x ∈ A0, ∀ q, Pth (A0 ++ A1 ++ R ++ B) x.id q → q = p ∨ ahd q p) ∧ (∀ x ∈ A1 ++ B, ∀ q, Pth (A0 ++ A1 ++ R ++ B) x.id q → ahd p q) := by
    rcases ha with ⟨h, rfl⟩ | ⟨A00, w, rfl, h⟩
    · refine ⟨[], .inl ⟨h, rfl⟩, (fun _ h => absurd h (by simp)), (fun _ h => absurd h (by simp)), fun x hx q hq => ?_⟩
      obtain ⟨q0, rfl⟩ := hq.last
      cases q0 <;> trivial
    · have hw : w ∈ A00 ++ [w] ++ A1 ++ B := by simp
      obtain ⟨p, hp⟩ := hT.s1.path hw
      have hpF := hp.mono hm
      have hpw := hT.pw
      have hpw' : (A00 ++ ([w] ++ (A1 ++ B))).Pairwise (Ah (A00 ++ [w] ++ A1 ++ B)) := by simpa using hpw
      have q1 := List.pairwise_append.1 hpw'
      have q2 := List.pairwise_append.1 q1.2.1
      refine ⟨p, .inr (h ▸ hpF), fun u hu => ?_, fun x hx q hq => ?_, fun x hx q hq => ?_⟩
      · have := hp.grow (fun x hx => (hT.s1.ct x hx).1) u hu
        rw [h] at this
        exact this
      · rcases List.mem_append.1 hx with hx | hx
        · obtain ⟨p1, p2, k1, k2, k⟩ := q1.2.2 x hx w (by simp)
          rw [(k1.mono hm).fn hs hq, (k2.mono hm).fn hs hpF] at k
          exact .inr k
        · rw [List.mem_singleton] at hx; subst hx
          exact .inl (hq.fn hs hpF)
      · obtain ⟨p1, p2, k1, k2, k⟩ := q2.2.2 w (by simp) x hx
        rw [(k1.mono hm).fn hs hpF, (k2.mono hm).fn hs hq] at k
        exact k
  obtain ⟨p, hp, hpc, hA0, hAB⟩ := hpa
  have hCp := hC.path hmR hp
  have hpr : ∀ x ∈ R, ∃ q', Pth (A0 ++ A1 ++ R ++ B) x.id (p ++ r.id :: q') := fun x hx => by
    obtain ⟨q, hq, hh⟩ := hCp x hx
    obtain ⟨q', rfl⟩ := hh r R' hR
    exact ⟨q', hq⟩
  have hrl : r.af.c < r.id.c := hC.grow r hrm
  refine hT.ins hs (fun a ha x hx => ?_) (hC.pw hmR hp) (fun x hx b hb => ?_)
  · -- what stands ahead
    obtain ⟨q', hq'⟩ := hpr x hx
    have haE : a ∈ A0 ++ A1 ++ B := List.mem_append_left _ ha
    obtain ⟨pa, hpa⟩ := hs.path (hm a haE)
    refine ⟨_, _, hpa, hq', ?_⟩
    rcases List.mem_append.1 ha with ha | ha
    · rcases hA0 a ha pa hpa with rfl | k
      · exact ahd_app _ _ _
      · exact ahd_trans k (ahd_app _ _ _)
    · -- those behind it that are greater
      have mid : ∀ e : Eid, ∀ pe, Pth (A0 ++ A1 ++ R ++ B) e pe → ahd p pe → (pe = pa ∨ ahd pe pa) → (∃ y ∈ A0 ++ A1 ++ B, y.id = e) → r.id.less e = true := by
        rintro e pe hpe k1 k2 ⟨y, hy, rfl⟩
        rcases List.mem_append.1 hy with hy | hy
        · rcases List.mem_append.1 hy with hy | hy
          · rcases hA0 y hy pe hpe with rfl | k
            · exact absurd k1 (ahd_irr _)
            · exact absurd (ahd_trans k k1) (ahd_irr _)
          · exact h1 y hy
        · have hAh := (List.pairwise_append.1 hT.pw).2.2 a (List.mem_append_right _ ha) y hy
          obtain ⟨p1, p2, j1, j2, j⟩ := hAh
          rw [(j1.mono hm).fn hs hpa, (j2.mono hm).fn hs hpe] at j
          rcases k2 with rfl | k2
          · exact absurd j (ahd_irr _)
          · exact absurd (ahd_trans j k2) (ahd_irr _)
      -- a path of a: over elements of the old ones
      obtain ⟨pa', hpa'⟩ := hT.s1.path haE
      have hpaE : pa' = pa := (hpa'.mono hm).fn hs hpa
      subst hpaE
      have k := hAB a (List.mem_append_left _ ha) _ hpa
      rcases ahd_iff k with ⟨e, t, he⟩ | ⟨c, u, w, s, t, e1, e2, hl⟩
      · have hpe := hpa'.pre he
        have hle : r.id.less e = true := mid e _ (hpe.mono hm) (ahd_app _ _ _) (by
          cases t with
          | nil => exact .inl he.symm
          | cons b t => rw [he]; exact .inr (by have := ahd_app (p ++ [e]) b t; simpa using this)) hpe.mem
        rw [he]
        exact ahd_at _ _ _ hle
      · have hpe := hpa'.pre e2
        have hle : r.id.less w = true := mid w _ (hpe.mono hm) (by rw [e1]; exact ahd_at _ _ _ hl) (by
          cases t with
          | nil => exact .inl e2.symm
          | cons b t => rw [e2]; exact .inr (by have := ahd_app (c ++ [w]) b t; simpa using this)) hpe.mem
        have := less_c hle
        have := less_c hl
        have := hpc u (by rw [e1]; simp)
        omega
  · -- what stands behind
    obtain ⟨q', hq'⟩ := hpr x hx
    cases B with
    | nil => exact absurd hb (by simp)
    | cons b0 B' =>
      have hb0 : Ah (A0 ++ A1 ++ R ++ b0 :: B') x b0 := by
        have hbm : b0 ∈ A0 ++ A1 ++ b0 :: B' := by simp
        obtain ⟨pb, hpb⟩ := hT.s1.path hbm
        refine ⟨_, _, hq', hpb.mono hm, ?_⟩
        have k := hAB b0 (by simp) _ (hpb.mono hm)
        have hlt : b0.id.less r.id = true := by
          rcases less_tot (hf r hrm b0 hbm) with h | h
          · rw [h2 b0 B' rfl] at h; cases h
          · exact h
        rcases ahd_iff k with ⟨e, t, he⟩ | ⟨c, u, w, s, t, e1, e2, hl⟩
        · rw [he]
          refine ahd_at _ _ _ ?_
          rcases nil_snoc t with rfl | ⟨t', z, rfl⟩
          · obtain ⟨q0, e0⟩ := hpb.last
            rw [he] at e0
            have := (List.append_inj' e0 rfl).2
            injection this with this
            rw [this]; exact hlt
          · have hpe := hpb.pre he
            obtain ⟨q0, e0⟩ := hpb.last
            have he2 : pb = (p ++ e :: t') ++ [z] := by rw [he]; simp
            rw [he2] at e0
            have e3 := (List.append_inj' e0 rfl).2
            injection e3 with e3
            subst e3
            -- the one ahead of the last one of a path is lesser
            have hlast : e.c < b0.id.c := by
              rw [he2] at hpb
              generalize hbi : b0.id = i at hpb
              generalize hpp : (p ++ e :: t') ++ [i] = pp at hpb
              cases hpb with
              | root m e4 => exact absurd (congrArg List.length hpp) (by simp; omega)
              | @step x0 p0 m kp =>
                have e5 := (List.append_inj' hpp rfl).1
                have g := kp.grow (fun x hx => (hT.s1.ct x hx).1) e (by rw [← e5]; simp)
                have := (hT.s1.ct x0 m).1
                omega
            have := less_c hlt
            exact less_of_c (by omega)
        · rw [e1, e2, List.append_assoc, List.cons_append]
          exact ahd_at _ _ _ hl
      rcases List.mem_cons.1 hb with rfl | hb
      · exact hb0
      · have := List.pairwise_cons.1 (List.pairwise_append.1 hT.pw).2.1
        exact hb0.trans hs ((this.1 b hb).mono hm)
end Go.Proofs.Ytbomjpdheibmfaa
