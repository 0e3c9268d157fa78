/-
  Texts, in plain Lean: runs put in whatever order make one text.
-/
import Derived.Test.YtfgeckmlgohbjaaTpE
set_option linter.unusedSimpArgs false
set_option linter.unusedVariables false
set_option maxRecDepth 100000
namespace Go.Proofs.Ytfgeckmlgohbjaa
open Go Go.Ax

open Classical in
noncomputable def stepA (s : List Rn × List Rn) (r : Rn) : List Rn × List Rn := if insE s.1 r = 0 then (insL s.1 r, s.2 ++ [r]) else s
noncomputable def phase1 (l : List Rn) : List Rn × List Rn := l.foldl stepA ([], [])
theorem phase1_snoc (l : List Rn) (r : Rn) : phase1 (l ++ [r]) = stepA (phase1 l) r := by simp [phase1]
def Apart (r s : Rn) : Prop := ∀ x ∈ r.elR, ∀ y ∈ s.elR, x.id ≠ y.id
structure Kpt (a K : List Rn) : Prop where
  ok : TextOk a
  mem : ∀ x, x ∈ elsR a ↔ x ∈ elsR K
  len : (elsR a).length = (elsR K).length
  may : ∀ r ∈ K, r.may = true
  af : ∀ (i : Nat) (h : i < K.length), K[i].af = Eid.z ∨ ∃ e ∈ elsR (K.take i), e.id = K[i].af
  apart : K.Pairwise Apart
theorem textOk_nil : TextOk [] := ⟨fun _ h => absurd h (by simp), by simp [countL], by rw [show elsL [] = [] from rfl]; exact Ord.nil, rfl⟩
theorem kpt_nil : Kpt [] [] := ⟨textOk_nil, fun _ => Iff.rfl, rfl, fun _ h => absurd h (by simp), fun i h => absurd h (by simp), .nil⟩
theorem Kpt.add {a K : List Rn} {r : Rn} (h : Kpt a K) (he : insE a r = 0) : Kpt (insL a r) (K ++ [r]) := by
  obtain ⟨h1, h2, h3, h4, h5⟩ := insE_iff.1 he
  refine ⟨ins_ok he, fun x => ?_, ?_, fun q hq => ?_, fun i hi => ?_, ?_⟩
  · rw [ins_mem he, elsR_snoc, List.mem_append, h.mem]
  · rw [ins_len he, elsR_snoc, List.length_append, h.len]
  · rcases List.mem_append.1 hq with hq | hq
    · exact h.may q hq
    · rw [List.mem_singleton] at hq; subst hq; exact h2
  · by_cases hk : i < K.length
    · rw [List.getElem_append_left hk, List.take_append_of_le_length (by omega)]
      exact h.af i hk
    · rw [List.length_append, List.length_singleton] at hi
      have e : i = K.length := by omega
      subst e
      rw [List.getElem_append_right (Nat.le_refl _), List.take_left' rfl]
      simp only [Nat.sub_self, List.getElem_cons_zero]
      rcases h3 with h3 | ⟨e, he, h3⟩
      · exact .inl h3
      · exact .inr ⟨e, (h.mem e).1 he, h3⟩
  · refine List.pairwise_append.2 ⟨h.apart, List.pairwise_singleton _ _, fun q hq s hs => ?_⟩
    rw [List.mem_singleton] at hs; subst hs
    intro x hx y hy e
    exact h4 y hy x ((h.mem x).2 (List.mem_flatMap.2 ⟨q, hq, hx⟩)) e.symm
theorem phase1_kpt (l : List Rn) : Kpt (phase1 l).1 (phase1 l).2 := by
  refine snoc_ind (P := fun l => Kpt (phase1 l).1 (phase1 l).2) kpt_nil (fun l r ih => ?_) l
  rw [phase1_snoc]
  unfold stepA
  by_cases h : insE (phase1 l).1 r = 0
  · rw [if_pos h]; exact ih.add h
  · rw [if_neg h]; exact ih
def elsD (K : List Rn) (D : List Bool) : List El := (K.zip D).flatMap fun p => if p.2 then p.1.elR else []
theorem elsD_mem : ∀ {K : List Rn} {D : List Bool} {x : El}, x ∈ elsD K D ↔ ∃ (i : Nat) (h : i < K.length), D[i]? = some true ∧ x ∈ K[i].elR
  | [], D, x => by simp [elsD]
  | r :: K, [], x => by simp [elsD]
  | r :: K, b :: D, x => by
    have ih := elsD_mem (K := K) (D := D) (x := x)
    have e : elsD (r :: K) (b :: D) = (if b then r.elR else []) ++ elsD K D := by simp [elsD]
    rw [e, List.mem_append, ih]
    constructor
    · rintro (h | ⟨i, h, h1, h2⟩)
      · cases b with
        | true => exact ⟨0, by simp, rfl, h⟩
        | false => simp at h
      · exact ⟨i + 1, by simpa using h, by simpa using h1, by simpa using h2⟩
    · rintro ⟨i, h, h1, h2⟩
      cases i with
      | zero =>
        simp at h1
        subst h1
        exact .inl h2
      | succ i => exact .inr ⟨i, by simpa using h, by simpa using h1, by simpa using h2⟩
theorem elsD_len : ∀ (K : List Rn) (D : List Bool), (elsD K D).length ≤ (elsR K).length
  | [], D => by simp [elsD]
  | r :: K, [] => by simp [elsD]
  | r :: K, b :: D => by
    have ih := elsD_len K D
    have e : elsD (r :: K) (b :: D) = (if b then r.elR else []) ++ elsD K D := by simp [elsD]
    have e2 : elsR (r :: K) = r.elR ++ elsR K := by simp [elsR]
    rw [e, e2, List.length_append, List.length_append]
    cases b <;> simp <;> omega
theorem elsD_set : ∀ {K : List Rn} {D : List Bool} {i : Nat} (h : i < K.length), D[i]? = some false → (elsD K (D.set i true)).length = (elsD K D).length + K[i].elR.length
  | [], _, _, h, _ => absurd h (by simp)
  | r :: K, [], _, _, h => by simp at h
  | r :: K, b :: D, 0, h, hb => by
    simp at hb
    subst hb
    simp [elsD]
    omega
  | r :: K, b :: D, i + 1, h, hb => by
    have ih := elsD_set (K := K) (D := D) (i := i) (by simpa using h) (by simpa using hb)
    have e : ∀ D, elsD (r :: K) (b :: D) = (if b then r.elR else []) ++ elsD K D := fun D => by simp [elsD]
    rw [List.set_cons_succ, e, e, List.length_append, List.length_append, ih]
    simp only [List.getElem_cons_succ]
    omega
structure Agn (K : List Rn) (b : List Rn) (D : List Bool) : Prop where
  ok : TextOk b
  dl : D.length = K.length
  mem : ∀ x, x ∈ elsR b ↔ x ∈ elsD K D
  len : (elsR b).length = (elsD K D).length
theorem agn_nil (K : List Rn) : Agn K [] (List.replicate K.length false) := by
  have e : elsD K (List.replicate K.length false) = [] := by
    cases h : elsD K (List.replicate K.length false) with
    | nil => rfl
    | cons x l =>
      have hx : x ∈ elsD K (List.replicate K.length false) := by rw [h]; exact List.mem_cons_self
      obtain ⟨i, hi, h1, _⟩ := elsD_mem.1 hx
      rw [List.getElem?_replicate] at h1
      split at h1 <;> cases h1
  refine ⟨textOk_nil, by simp, fun x => ?_, ?_⟩
  · rw [e]; exact Iff.rfl
  · rw [e]; rfl
theorem Agn.add {K b : List Rn} {D : List Bool} (h : Agn K b D) {i : Nat} (hi : i < K.length) (hd : D[i]? = some false) (he : insE b K[i] = 0) : Agn K (insL b K[i]) (D.set i true) := by
  refine ⟨ins_ok he, by rw [List.length_set]; exact h.dl, fun x => ?_, ?_⟩
  · rw [ins_mem he, h.mem, elsD_mem, elsD_mem]
    constructor
    · rintro (⟨j, hj, h1, h2⟩ | h1)
      · refine ⟨j, hj, ?_, h2⟩
        rw [List.getElem?_set]
        split
        · rename_i e
          subst e
          rw [hd] at h1; cases h1
        · exact h1
      · exact ⟨i, hi, by rw [List.getElem?_set_self (by rw [h.dl]; exact hi)], h1⟩
    · rintro ⟨j, hj, h1, h2⟩
      rw [List.getElem?_set] at h1
      split at h1
      · rename_i e
        subst e
        exact .inr h2
      · exact .inl ⟨j, hj, h1, h2⟩
  · rw [ins_len he, elsD_set hi hd, h.len]
theorem Agn.fits {a K b : List Rn} {D : List Bool} (hK : Kpt a K) (h : Agn K b D) {i : Nat} (hi : i < K.length) (hd : D[i]? = some false) (hp : ∀ j, j < i → D[j]? = some true) : insE b K[i] = 0 := by
  rw [insE_iff]
  refine ⟨h.ok, hK.may _ (List.getElem_mem hi), ?_, fun x hx e he k => ?_, ?_⟩
  · rcases hK.af i hi with e | ⟨e, he, h1⟩
    · exact .inl e
    · right
      refine ⟨e, ?_, h1⟩
      rw [h.mem, elsD_mem]
      obtain ⟨r, hr, hx⟩ := List.mem_flatMap.1 he
      obtain ⟨j, hj, rfl⟩ := List.getElem_of_mem hr
      rw [List.length_take] at hj
      rw [List.getElem_take] at hx
      exact ⟨j, by omega, hp j (by omega), hx⟩
  · rw [h.mem, elsD_mem] at he
    obtain ⟨j, hj, h1, h2⟩ := he
    have hne : j ≠ i := fun e => by subst e; rw [hd] at h1; cases h1
    have hpw := List.pairwise_iff_getElem.1 hK.apart
    rcases Nat.lt_or_gt_of_ne hne with hlt | hlt
    · exact hpw j i hj hi hlt e h2 x hx k.symm
    · exact hpw i j hi hj hlt x hx e h2 k
  · rw [h.len, ← elsD_set hi hd]
    refine Nat.le_trans (elsD_len _ _) ?_
    rw [← hK.len]
    exact (textOk_els hK.ok).1.n
theorem Agn.all {a K b : List Rn} {D : List Bool} (hK : Kpt a K) (h : Agn K b D) (hp : ∀ j, j < K.length → D[j]? = some true) : a = b := by
  refine text_eq hK.ok h.ok fun x => ?_
  rw [hK.mem, h.mem, elsD_mem]
  constructor
  · intro hx
    obtain ⟨r, hr, hx⟩ := List.mem_flatMap.1 hx
    obtain ⟨j, hj, rfl⟩ := List.getElem_of_mem hr
    exact ⟨j, hj, hp j hj, hx⟩
  · rintro ⟨j, hj, _, hx⟩
    exact List.mem_flatMap.2 ⟨_, List.getElem_mem hj, hx⟩
end Go.Proofs.Ytfgeckmlgohbjaa
