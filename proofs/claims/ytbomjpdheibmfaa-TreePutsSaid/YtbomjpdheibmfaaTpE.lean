/-
  Texts, in plain Lean: a run is put; a text up to a label.
-/
import Derived.Test.YtbomjpdheibmfaaTpD
set_option linter.unusedSimpArgs false
set_option linter.unusedVariables false
set_option maxRecDepth 100000
namespace Go.Proofs.Ytbomjpdheibmfaa
open Go Go.Ax
theorem has_iff {s : Spn} {x : Eid} {k : Int} : s.has x = some k ↔ s.may = true ∧ 0 ≤ k ∧ k < s.n ∧ s.at k = x := by
  obtain ⟨hd, c⟩ := x
  unfold Spn.has Spn.at
  simp only
  constructor
  · intro h
    split at h
    · rename_i g
      injection h with h
      refine ⟨g.1, by omega, by omega, ?_⟩
      rw [g.2.1]; congr 1; omega
    · cases h
  · rintro ⟨h1, h2, h3, h4⟩
    injection h4 with h4 h5
    rw [if_pos ⟨h1, h4.symm, by omega, by omega⟩]
    congr 1; omega
theorem has_els {r : Rn} (hr : r.may = true) (x : Eid) : r.sp.has x = none ↔ ∀ e ∈ r.elR, e.id ≠ x := by
  have br := Spn.may_le (Rn.may_sp hr)
  constructor
  · intro h e he k
    obtain ⟨i, hi, rfl⟩ := List.getElem_of_mem he
    rw [elR_len] at hi
    rw [elR_get] at k
    have := (has_iff (k := (i : Int))).2 ⟨Rn.may_sp hr, by omega, by omega, k⟩
    rw [h] at this
    cases this
  · intro h
    cases hh : r.sp.has x with
    | none => rfl
    | some k =>
      obtain ⟨h1, h2, h3, h4⟩ := has_iff.1 hh
      have hl : k.toNat < r.elR.length := by rw [elR_len]; omega
      refine absurd ?_ (h _ (List.getElem_mem hl))
      rw [elR_get]
      have : ((k.toNat : Nat) : Int) = k := by omega
      rw [this]; exact h4
theorem where_iff {l : List Rn} (h : ∀ r ∈ l, r.may = true) (x : Eid) : whereL l x = none ↔ ∀ e ∈ elsR l, e.id ≠ x := by
  induction l with
  | nil => exact ⟨fun _ e he => absurd he (by simp [elsR]), fun _ => rfl⟩
  | cons r l ih =>
    have hr := h r List.mem_cons_self
    have ih := ih fun y hy => h y (List.mem_cons_of_mem _ hy)
    have he : elsR (r :: l) = r.elR ++ elsR l := by simp [elsR]
    rw [he]
    unfold whereL
    have hh := has_els hr x
    cases hc : r.sp.has x with
    | none =>
      rw [hc] at hh
      have hh := hh.1 rfl
      simp only [Option.map_eq_none_iff]
      rw [ih]
      constructor
      · intro h1 e he
        rcases List.mem_append.1 he with he | he
        · exact hh e he
        · exact h1 e he
      · exact fun h1 e he => h1 e (List.mem_append_right _ he)
    | some k =>
      rw [hc] at hh
      simp only [reduceCtorEq, false_iff] at hh ⊢
      exact fun h1 => hh fun e he => h1 e (List.mem_append_left _ he)
theorem where_some : ∀ {l : List Rn} {x : Eid} {n : Nat} {k : Int}, whereL l x = some (n, k) → ∃ L1 q L2, l = L1 ++ q :: L2 ∧ L1.length = n ∧ q.sp.may = true ∧ 0 ≤ k ∧ k < q.sp.n ∧ q.sp.at k = x
  | [], _, _, _, h => by cases h
  | r :: l, x, n, k, h => by
    unfold whereL at h
    cases hc : r.sp.has x with
    | none =>
      rw [hc] at h
      simp only at h
      cases hw : whereL l x with
      | none => rw [hw] at h; cases h
      | some p =>
        rw [hw] at h
        obtain ⟨n', k'⟩ := p
        simp only [Option.map_some, Option.some.injEq, Prod.mk.injEq] at h
        obtain ⟨rfl, rfl⟩ := h
        obtain ⟨L1, q, L2, rfl, rfl, hh⟩ := where_some hw
        exact ⟨r :: L1, q, L2, rfl, rfl, hh⟩
    | some k' =>
      rw [hc] at h
      simp only [Option.some.injEq, Prod.mk.injEq] at h
      obtain ⟨rfl, rfl⟩ := h
      obtain ⟨h1, h2, h3, h4⟩ := has_iff.1 hc
      exact ⟨[], r, l, rfl, rfl, h1, h2, h3, h4⟩
def partL (l : List Rn) (x : Eid) : List Rn × Nat :=
  if x = Eid.z then (l, 0) else
  match whereL l x with
  | none => (l, 0)
  | some (n, k) => if (l.getD n Rn.z).cutE (k + 1) = 0 then (l.take n ++ [(l.getD n Rn.z).fst (k + 1), (l.getD n Rn.z).snd (k + 1)] ++ l.drop (n + 1), n + 1) else (l, n + 1)
def skipL (l : List Rn) (x : Eid) (n : Nat) : Nat := n + ((l.drop n).takeWhile fun r => x.less r.sp.f).length
def insL (l : List Rn) (r : Rn) : List Rn := longL ((partL l r.af).1.take (skipL (partL l r.af).1 r.sp.f (partL l r.af).2) ++ [r] ++ (partL l r.af).1.drop (skipL (partL l r.af).1 r.sp.f (partL l r.af).2))
open Classical in
noncomputable def putE (l : List Rn) (r : Rn) : Int :=
  if TextOk l ∧ r.may = true then
    (if r.af ≠ Eid.z ∧ whereL l r.af = none then 6
     else if ∃ i : Nat, (i : Int) < r.sp.n ∧ whereL l (r.sp.at i) ≠ none then 2
     else if 8192 < countL l + r.sp.n then 4 else 0)
  else 8
theorem part_ok {l : List Rn} {x : Eid} (h : ∀ r ∈ l, r.may = true) (hx : x = Eid.z ∨ whereL l x ≠ none) : (partL l x).2 ≤ (partL l x).1.length ∧ (∀ r ∈ (partL l x).1, r.may = true) ∧ elsR (partL l x).1 = elsR l ∧ ((x = Eid.z ∧ (partL l x).2 = 0) ∨ ∃ A w, elsR ((partL l x).1.take (partL l x).2) = A ++ [w] ∧ w.id = x) := by
  unfold partL
  by_cases hz : x = Eid.z
  · rw [if_pos hz]
    exact ⟨Nat.zero_le _, h, rfl, .inl ⟨hz, rfl⟩⟩
  · rw [if_neg hz]
    rcases hx with hx | hx
    · exact absurd hx hz
    · cases hw : whereL l x with
      | none => exact absurd hw hx
      | some p =>
        obtain ⟨n, k⟩ := p
        obtain ⟨L1, q, L2, rfl, rfl, h1, h2, h3, h4⟩ := where_some hw
        have hq := h q (by simp)
        have hg : (L1 ++ q :: L2).getD L1.length Rn.z = q := by
          rw [List.getD_eq_getElem?_getD, List.getElem?_append_right (Nat.le_refl _)]; simp
        simp only [hg]
        obtain ⟨m, rfl⟩ : ∃ m : Nat, k = m := ⟨k.toNat, by omega⟩
        have hm1 : ((m : Int) + 1) = ((m + 1 : Nat) : Int) := by omega
        have hlast : q.elR.take (m + 1) = q.elR.take m ++ [⟨x, q.afAt m, q.rs.getD m 0⟩] := by
          have hl : m < q.elR.length := by rw [elR_len]; omega
          rw [take_snocT _ _ hl, elR_get, h4]
        by_cases hc : q.cutE ((m : Int) + 1) = 0
        · rw [if_pos hc]
          rw [Rn.cutE_iff] at hc
          have hd : (L1 ++ q :: L2).drop (L1.length + 1) = L2 := by simp
          have ht : (L1 ++ q :: L2).take L1.length = L1 := by simp
          simp only [hd, ht, hm1]
          refine ⟨by simp, fun r hr => ?_, ?_, .inr ⟨elsR L1 ++ q.elR.take m, ⟨x, q.afAt m, q.rs.getD m 0⟩, ?_, rfl⟩⟩
          · rcases List.mem_append.1 hr with hr | hr
            · rcases List.mem_append.1 hr with hr | hr
              · exact h r (by simp [hr])
              · rcases List.mem_cons.1 hr with rfl | hr
                · exact fst_mayR hq (by omega) (by omega)
                · rw [List.mem_singleton] at hr; subst hr
                  exact snd_mayR hq (by omega) (by omega)
            · exact h r (by simp [hr])
          · have e1 : elsR (L1 ++ q :: L2) = elsR L1 ++ q.elR ++ elsR L2 := by simp [elsR]
            have e2 : elsR [q.fst ((m + 1 : Nat) : Int), q.snd ((m + 1 : Nat) : Int)] = q.elR := by
              have : elsR [q.fst ((m + 1 : Nat) : Int), q.snd ((m + 1 : Nat) : Int)] = (q.fst ((m + 1 : Nat) : Int)).elR ++ (q.snd ((m + 1 : Nat) : Int)).elR := by simp [elsR]
              rw [this, fst_elR (by omega), snd_elR (by omega), List.take_append_drop]
            rw [elsR_app, elsR_app, e1, e2]
          · have e1 : (L1 ++ [q.fst ((m + 1 : Nat) : Int), q.snd ((m + 1 : Nat) : Int)] ++ L2).take (L1.length + 1) = L1 ++ [q.fst ((m + 1 : Nat) : Int)] := by
              rw [List.append_assoc, List.take_length_add_append]; rfl
            rw [e1, elsR_snoc, fst_elR (by omega), hlast, List.append_assoc]
        · rw [if_neg hc]
          rw [Rn.cutE_iff] at hc
          have hmn : (m : Int) + 1 = q.sp.n := Classical.byContradiction fun k => hc ⟨hq, by omega, by omega⟩
          refine ⟨by simp, h, rfl, .inr ⟨elsR L1 ++ q.elR.take m, ⟨x, q.afAt m, q.rs.getD m 0⟩, ?_, rfl⟩⟩
          have e1 : (L1 ++ q :: L2).take (L1.length + 1) = L1 ++ [q] := by
            rw [List.take_length_add_append]; rfl
          rw [e1, elsR_snoc, List.append_assoc, ← hlast, List.take_of_length_le (by rw [elR_len]; omega)]
theorem elR_ge {r : Rn} (hr : r.may = true) {x : Eid} (h : x.less r.sp.f = true) : ∀ e ∈ r.elR, x.less e.id = true := by
  intro e he
  obtain ⟨i, hi, rfl⟩ := List.getElem_of_mem he
  rw [elR_get]
  cases i with
  | zero => simpa [Spn.at] using h
  | succ i =>
    refine less_trans h (less_of_c ?_)
    simp only [Spn.at]; omega
structure Put (l : List Rn) (r : Rn) (A0 A1 B : List El) : Prop where
  e : elsR l = A0 ++ A1 ++ B
  a : (r.af = Eid.z ∧ A0 = []) ∨ ∃ A w, A0 = A ++ [w] ∧ w.id = r.af
  g : ∀ x ∈ A1, r.sp.f.less x.id = true
  t : TxtM (A0 ++ A1 ++ r.elR ++ B)
  i : insL l r = chunk (A0 ++ A1 ++ r.elR ++ B)
theorem putE_iff {l : List Rn} {r : Rn} : putE l r = 0 ↔ TextOk l ∧ r.may = true ∧ (r.af = Eid.z ∨ ∃ e ∈ elsR l, e.id = r.af) ∧ (∀ x ∈ r.elR, ∀ e ∈ elsR l, x.id ≠ e.id) ∧ (elsR l).length + r.elR.length ≤ 8192 := by
  unfold putE
  by_cases h : TextOk l ∧ r.may = true
  · rw [if_pos h]
    obtain ⟨ht, hr⟩ := h
    have hw := fun x => where_iff ht.1 x
    have br := Spn.may_le (Rn.may_sp hr)
    have hn : (r.elR.length : Int) = r.sp.n := by rw [elR_len]; omega
    rw [count_els ht.1]
    by_cases h1 : r.af ≠ Eid.z ∧ whereL l r.af = none
    · rw [if_pos h1]
      refine ⟨fun h => (by cases h), ?_⟩
      rintro ⟨_, _, h3, _⟩
      rcases h3 with h3 | ⟨e, he, h3⟩
      · exact absurd h3 h1.1
      · exact absurd h3 ((hw _).1 h1.2 e he)
    · rw [if_neg h1]
      have h1' : r.af = Eid.z ∨ ∃ e ∈ elsR l, e.id = r.af := by
        by_cases hz : r.af = Eid.z
        · exact .inl hz
        · right
          have : ¬∀ e ∈ elsR l, e.id ≠ r.af := fun k => h1 ⟨hz, (hw _).2 k⟩
          exact Classical.byContradiction fun k => this fun e he k2 => k ⟨e, he, k2⟩
      by_cases h2 : ∃ i : Nat, (i : Int) < r.sp.n ∧ whereL l (r.sp.at i) ≠ none
      · rw [if_pos h2]
        refine ⟨fun h => (by cases h), ?_⟩
        rintro ⟨_, _, _, h3, _⟩
        obtain ⟨i, hi, h2⟩ := h2
        refine absurd ((hw _).2 fun e he => ?_) h2
        have hl : i < r.elR.length := by omega
        have := h3 _ (List.getElem_mem hl) e he
        rw [elR_get] at this
        exact fun k => this k.symm
      · rw [if_neg h2]
        have h2' : ∀ x ∈ r.elR, ∀ e ∈ elsR l, x.id ≠ e.id := fun x hx e he k => by
          obtain ⟨i, hi, rfl⟩ := List.getElem_of_mem hx
          rw [elR_get] at k
          refine h2 ⟨i, by omega, fun k2 => ?_⟩
          exact (hw _).1 k2 e he k.symm
        by_cases h3 : 8192 < ((elsR l).length : Int) + r.sp.n
        · rw [if_pos h3]
          refine ⟨fun h => (by cases h), ?_⟩
          rintro ⟨_, _, _, _, h4⟩
          omega
        · rw [if_neg h3]
          exact ⟨fun _ => ⟨ht, hr, h1', h2', by omega⟩, fun _ => rfl⟩
  · rw [if_neg h]
    exact ⟨fun h => (by cases h), fun k => absurd ⟨k.1, k.2.1⟩ h⟩
theorem put_ok {l : List Rn} {r : Rn} (h : putE l r = 0) : ∃ A0 A1 B, Put l r A0 A1 B := by
  obtain ⟨ht, hr, ha, hf, hn⟩ := putE_iff.1 h
  obtain ⟨hE, hl⟩ := textOk_els ht
  have hx : r.af = Eid.z ∨ whereL l r.af ≠ none := by
    rcases ha with ha | ⟨e, he, ha⟩
    · exact .inl ha
    · exact .inr fun k => (where_iff ht.1 _).1 k e he ha
  obtain ⟨p1, p2, p3, p4⟩ := part_ok ht.1 hx
  have hi : insL l r = longL ((partL l r.af).1.take (skipL (partL l r.af).1 r.sp.f (partL l r.af).2) ++ [r] ++ (partL l r.af).1.drop (skipL (partL l r.af).1 r.sp.f (partL l r.af).2)) := rfl
  generalize partL l r.af = P at *
  obtain ⟨l', n⟩ := P
  simp only at p1 p2 p3 p4 hi
  have hsp : l' = l'.take n ++ ((l'.drop n).takeWhile fun q => r.sp.f.less q.sp.f) ++ ((l'.drop n).dropWhile fun q => r.sp.f.less q.sp.f) := by
    rw [List.append_assoc, List.takeWhile_append_dropWhile, List.take_append_drop]
  have hg1 : ∀ q ∈ (l'.drop n).takeWhile fun q => r.sp.f.less q.sp.f, r.sp.f.less q.sp.f = true := fun q hq => by
    have := List.all_takeWhile (l := l'.drop n) (p := fun q => r.sp.f.less q.sp.f)
    exact List.all_eq_true.1 this q hq
  have hg2 : ∀ q D, ((l'.drop n).dropWhile fun q => r.sp.f.less q.sp.f) = q :: D → r.sp.f.less q.sp.f = false := fun q D e => by
    have := List.head?_dropWhile_not (fun q : Rn => r.sp.f.less q.sp.f) (l'.drop n)
    rw [e] at this
    simpa using this
  have hlen : (l'.take n).length = n := by rw [List.length_take]; omega
  unfold skipL at hi
  generalize hD1 : (l'.drop n).takeWhile (fun q => r.sp.f.less q.sp.f) = D1 at *
  generalize (l'.drop n).dropWhile (fun q => r.sp.f.less q.sp.f) = D2 at *
  generalize l'.take n = T at *
  clear hD1
  have htk : l'.take (n + D1.length) = T ++ D1 := by
    rw [hsp, List.take_append_of_le_length (by rw [List.length_append]; omega), List.take_of_length_le (by rw [List.length_append]; omega)]
  have hdr : l'.drop (n + D1.length) = D2 := by
    rw [hsp, List.drop_append_of_le_length (by rw [List.length_append]; omega), List.drop_of_length_le (by rw [List.length_append]; omega), List.nil_append]
  rw [htk, hdr] at hi
  have hE' : elsR l = elsR T ++ elsR D1 ++ elsR D2 := by rw [← p3, hsp, elsR_app, elsR_app]
  have hmT : ∀ q ∈ T, q.may = true := fun q hq => p2 q (by rw [hsp]; simp [hq])
  have hmD1 : ∀ q ∈ D1, q.may = true := fun q hq => p2 q (by rw [hsp]; simp [hq])
  have hmD2 : ∀ q ∈ D2, q.may = true := fun q hq => p2 q (by rw [hsp]; simp [hq])
  have br := Spn.may_le (Rn.may_sp hr)
  have hg : ∀ x ∈ elsR D1, r.sp.f.less x.id = true := fun x hx => by
    obtain ⟨q, hq, hx⟩ := List.mem_flatMap.1 hx
    exact elR_ge (hmD1 q hq) (hg1 q hq) x hx
  have hA : (r.af = Eid.z ∧ elsR T = []) ∨ ∃ A w, elsR T = A ++ [w] ∧ w.id = r.af := by
    rcases p4 with ⟨h1, h2⟩ | h1
    · have : T = [] := List.eq_nil_of_length_eq_zero (by omega)
      subst this
      exact .inl ⟨h1, rfl⟩
    · exact .inr h1
  have hB : ∀ b B', elsR D2 = b :: B' → r.sp.f.less b.id = false := fun b B' e => by
    cases D2 with
    | nil => exact absurd e (by simp [elsR])
    | cons q D =>
      have bq := Spn.may_le (Rn.may_sp (hmD2 q List.mem_cons_self))
      have e2 : elsR (q :: D) = q.elR ++ elsR D := by simp [elsR]
      rw [e2, elR_cons (by omega), List.cons_append] at e
      injection e with e _
      rw [← e]
      exact hg2 q D rfl
  have hcons := elR_cons (r := r) (by omega)
  have hT : Txt (elsR T ++ elsR D1 ++ r.elR ++ elsR D2) := Txt.put (r := ⟨r.sp.f, r.af, r.rs.getD 0 0⟩) (by rw [← hE']; exact hE.t) hcons (elR_chn hr) hA (fun x hx y hy => hf x hx y (by rw [hE']; exact hy)) hg hB
  have hmR := elR_may hr
  refine ⟨elsR T, elsR D1, elsR D2, hE', hA, hg, ⟨hT, fun x hx => ?_, ?_⟩, ?_⟩
  · rcases List.mem_append.1 hx with h | h
    · rcases List.mem_append.1 h with h | h
      · exact hE.m x (by rw [hE']; exact List.mem_append_left _ h)
      · exact hmR x h
    · exact hE.m x (by rw [hE']; exact List.mem_append_right _ h)
  · rw [hE'] at hn
    simp only [List.length_append] at hn ⊢
    omega
  · rw [hi, (long_chunk (fun q hq => ?_)).1]
    · rw [elsR_app, elsR_snoc, elsR_app]
    · rcases List.mem_append.1 hq with hq | hq
      · rcases List.mem_append.1 hq with hq | hq
        · rcases List.mem_append.1 hq with hq | hq
          · exact hmT q hq
          · exact hmD1 q hq
        · rw [List.mem_singleton] at hq; subst hq; exact hr
      · exact hmD2 q hq
theorem Put.mem {l : List Rn} {r : Rn} {A0 A1 B : List El} (h : Put l r A0 A1 B) (x : El) : x ∈ elsR (insL l r) ↔ x ∈ elsR l ∨ x ∈ r.elR := by
  rw [h.i, (chunk_els _).1, h.e]
  simp only [List.mem_append]
  constructor
  · rintro (((h | h) | h) | h)
    · exact .inl (.inl (.inl h))
    · exact .inl (.inl (.inr h))
    · exact .inr h
    · exact .inl (.inr h)
  · rintro (((h | h) | h) | h)
    · exact .inl (.inl (.inl h))
    · exact .inl (.inl (.inr h))
    · exact .inr h
    · exact .inl (.inr h)
theorem ins_ok {l : List Rn} {r : Rn} (h : putE l r = 0) : TextOk (insL l r) := by
  obtain ⟨A0, A1, B, h⟩ := put_ok h
  rw [h.i]
  exact textOk_of h.t
/-! ### Up to a label -/
end Go.Proofs.Ytbomjpdheibmfaa
