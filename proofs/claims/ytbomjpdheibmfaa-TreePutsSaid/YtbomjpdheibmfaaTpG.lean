/-
  Texts, in plain Lean: where what is put stands.
-/
import Derived.Test.YtbomjpdheibmfaaTpE
set_option linter.unusedSimpArgs false
set_option linter.unusedVariables false
set_option maxRecDepth 100000
namespace Go.Proofs.Ytbomjpdheibmfaa
open Go Go.Ax
def idsE (E : List El) : List Eid := E.map (·.id)
theorem where_pos {l : List Rn} {x : Eid} {n : Nat} {k : Int} (hm : ∀ r ∈ l, r.may = true) (h : whereL l x = some (n, k)) : ∃ p : Nat, countL (l.take n) + k = p ∧ (idsE (elsR l))[p]? = some x := by
  obtain ⟨L1, q, L2, rfl, rfl, h1, h2, h3, h4⟩ := where_some h
  obtain ⟨m, rfl⟩ : ∃ m : Nat, k = m := ⟨k.toNat, by omega⟩
  have hm1 : ∀ r ∈ L1, r.may = true := fun r hr => hm r (List.mem_append_left _ hr)
  refine ⟨(elsR L1).length + m, ?_, ?_⟩
  · rw [List.take_left' rfl, count_els hm1]; omega
  · have e : elsR (L1 ++ q :: L2) = elsR L1 ++ (q.elR ++ elsR L2) := by simp [elsR]
    have hl : m < q.elR.length := by rw [elR_len]; omega
    unfold idsE
    rw [e, List.map_append, List.getElem?_append_right (by simp), List.length_map, Nat.add_sub_cancel_left, List.map_append, List.getElem?_append_left (by simpa using hl), List.getElem?_map, List.getElem?_eq_getElem hl, elR_get]
    simp [h4]
theorem nodup_at {l : List Eid} (h : l.Nodup) {i j : Nat} {x : Eid} (hi : l[i]? = some x) (hj : l[j]? = some x) : i = j := by
  obtain ⟨a1, a2⟩ := List.getElem?_eq_some_iff.1 hi
  obtain ⟨b1, b2⟩ := List.getElem?_eq_some_iff.1 hj
  have hp := List.pairwise_iff_getElem.1 h
  rcases Nat.lt_trichotomy i j with k | k | k
  · exact absurd (a2.trans b2.symm) (hp i j a1 b1 k)
  · exact k
  · exact absurd (b2.trans a2.symm) (hp j i b1 a1 k)
def bhI (W : List Eid) (x : Eid) : Nat → Int
  | 0 => -1
  | i + 1 => if W[i]? = some x then i else bhI W x i
theorem bhI_no {W : List Eid} {x : Eid} (h : x ∉ W) : ∀ n, bhI W x n = -1
  | 0 => rfl
  | n + 1 => by
    rw [bhI, if_neg, bhI_no h n]
    intro k
    exact h (List.mem_of_getElem? k)
theorem bhI_at {W : List Eid} {x : Eid} (hn : W.Nodup) {p : Nat} (hp : W[p]? = some x) : ∀ n, p < n → bhI W x n = p
  | 0, h => absurd h (by omega)
  | n + 1, h => by
    rw [bhI]
    by_cases k : W[n]? = some x
    · rw [if_pos k, nodup_at hn hp k]
    · rw [if_neg k]
      refine bhI_at hn hp n ?_
      rcases Nat.lt_succ_iff_lt_or_eq.1 h with h | rfl
      · exact h
      · exact absurd hp k
theorem puts_law {l : List Rn} {r : Rn} {A0 A1 B : List El} (h : Put l r A0 A1 B) (hr : r.may = true) (hE : TxtM (elsR l)) :
    ∃ at' : Nat, at' = A0.length + A1.length ∧ at' ≤ (idsE (elsR l)).length ∧ bhI (idsE (elsR l)) r.af (idsE (elsR l)).length < at' ∧ ((∀ w ∈ idsE (elsR l), w.less r.sp.f = true) → (at' : Int) = bhI (idsE (elsR l)) r.af (idsE (elsR l)).length + 1) ∧ (0 ≤ bhI (idsE (elsR l)) r.af (idsE (elsR l)).length ∨ r.af = Eid.z) := by
  have hnd : (idsE (elsR l)).Nodup := hE.t.s1.nd
  have hz : Eid.z ∉ idsE (elsR l) := fun k => by
    obtain ⟨x, hx, e⟩ := List.mem_map.1 k
    have := (hE.t.s1.ct x hx).2
    rw [e] at this
    exact absurd this (by decide)
  have hA1 : (∀ w ∈ idsE (elsR l), w.less r.sp.f = true) → A1 = [] := fun k => by
    cases hA : A1 with
    | nil => rfl
    | cons x A =>
      have h1 := h.g x (by rw [hA]; exact List.mem_cons_self)
      have h2 := k x.id (List.mem_map.2 ⟨x, by rw [h.e, hA]; simp, rfl⟩)
      rw [less_asym h1] at h2; cases h2
  have hlen : (idsE (elsR l)).length = A0.length + A1.length + B.length := by
    unfold idsE
    rw [List.length_map, h.e]; simp; omega
  refine ⟨A0.length + A1.length, rfl, by omega, ?_⟩
  rcases h.a with ⟨h1, h2⟩ | ⟨A, w, h1, h2⟩
  · rw [h1, bhI_no hz]
    refine ⟨by omega, fun k => ?_, .inr rfl⟩
    rw [hA1 k, h2]; rfl
  · have hp : (idsE (elsR l))[A.length]? = some r.af := by
      rw [h.e, h1]
      unfold idsE
      rw [List.append_assoc, List.append_assoc, List.map_append, List.getElem?_append_right (by simp)]
      simp [h2]
    have hal : A0.length = A.length + 1 := by rw [h1]; simp
    rw [bhI_at hnd hp _ (by omega)]
    refine ⟨by omega, fun k => ?_, .inl (by omega)⟩
    rw [hA1 k]
    simp only [List.length_nil]
    omega
theorem puts_ids {l : List Rn} {r : Rn} {A0 A1 B : List El} (h : Put l r A0 A1 B) (i : Nat) (hi : i < (idsE (elsR l)).length) : (idsE (elsR (insL l r)))[if A0.length + A1.length ≤ i then i + r.elR.length else i]? = (idsE (elsR l))[i]? := by
  rw [h.i, (chunk_els _).1, h.e]
  unfold idsE
  have e1 : ∀ B : List El, (A0 ++ A1 ++ B).map (·.id) = (A0 ++ A1).map (·.id) ++ B.map (·.id) := fun B => by simp
  have e2 : (A0 ++ A1 ++ r.elR ++ B).map (·.id) = (A0 ++ A1).map (·.id) ++ (r.elR.map (·.id) ++ B.map (·.id)) := by simp
  have hl : ((A0 ++ A1).map (·.id)).length = A0.length + A1.length := by simp
  rw [e1, e2]
  have hlR : (r.elR.map (·.id)).length = r.elR.length := by simp
  generalize (A0 ++ A1).map (·.id) = P at *
  generalize r.elR.map (·.id) = R at *
  generalize B.map (·.id) = S at *
  by_cases hc : A0.length + A1.length ≤ i
  · have h1 : P.length ≤ i + r.elR.length := by omega
    have h2 : P.length ≤ i := by omega
    have h3 : R.length ≤ i + r.elR.length - P.length := by omega
    rw [if_pos hc, List.getElem?_append_right h1, List.getElem?_append_right h2, List.getElem?_append_right h3]
    congr 1
    omega
  · have h2 : i < P.length := by omega
    rw [if_neg hc, List.getElem?_append_left h2, List.getElem?_append_left h2]
theorem puts_new {l : List Rn} {r : Rn} {A0 A1 B : List El} (h : Put l r A0 A1 B) (i : Nat) (hi : i < r.elR.length) : (idsE (elsR (insL l r)))[A0.length + A1.length + i]? = some (r.sp.at i) := by
  rw [h.i, (chunk_els _).1]
  unfold idsE
  have e2 : (A0 ++ A1 ++ r.elR ++ B).map (·.id) = (A0 ++ A1).map (·.id) ++ (r.elR.map (·.id) ++ B.map (·.id)) := by simp
  have hl : ((A0 ++ A1).map (·.id)).length = A0.length + A1.length := by simp
  rw [e2, List.getElem?_append_right (by rw [hl]; omega), hl, Nat.add_sub_cancel_left, List.getElem?_append_left (by rw [List.length_map]; exact hi), List.getElem?_map, List.getElem?_eq_getElem hi, elR_get]
  rfl
theorem puts_len {l : List Rn} {r : Rn} {A0 A1 B : List El} (h : Put l r A0 A1 B) : (idsE (elsR (insL l r))).length = (idsE (elsR l)).length + r.elR.length := by
  rw [h.i, (chunk_els _).1, h.e]
  simp only [idsE, List.length_map, List.length_append]
  omega
end Go.Proofs.Ytbomjpdheibmfaa
