/-
  purge: rows of rows, lent to a call.
-/
import Derived.Test.YtjbninmklbkklaaDoorPvE
set_option linter.unusedSimpArgs false
set_option linter.unusedVariables false
set_option maxRecDepth 100000
namespace Go.Proofs.YtjbninmklbkklaaDoor
open Go Go.Ax
variable {fuel : Nat} {M : Mem} {Q : AV → Mem → Prop} {d : Nat}

/-- A slice that can be read, whether its row may still be written or not. -/
def RdI {α : Type} (M : Mem) (T : List AV → α → Prop) (v : AV) (l : List α) : Prop :=
  (v = NIL ∧ l = []) ∨ ∃ (id : Nat) (rows : List (List AV)) (cap : Option Nat), v = .sl id 0 rows.length cap 1 ∧ M.rd id = some rows.flatten ∧ All2 T rows l ∧ ∀ r ∈ rows, r.length = 1
theorem RdI.of {α : Type} {T : List AV → α → Prop} {v : AV} {l : List α} (h : SlM M 1 T v l) : RdI M T v l := by
  rcases h with h | ⟨id, rows, cap, rfl, _, hg, hA, hr⟩
  · exact .inl h
  · exact .inr ⟨id, rows, cap, rfl, rd_row hg, hA, hr⟩
theorem RdI.keep {α : Type} {T : List AV → α → Prop} {v : AV} {l : List α} {N : Mem} (h : RdI M T v l) (k : ∀ j, N.rd j = M.rd j) : RdI N T v l := by
  rcases h with h | ⟨id, rows, cap, rfl, hg, hA, hr⟩
  · exact .inl h
  · exact .inr ⟨id, rows, cap, rfl, (k id).trans hg, hA, hr⟩
theorem rd_fro {id : Nat} {ds : List AV} {b : Bool} (wf : Wf M) (hg : M.get id = some (.row b ds)) : ∀ j, (M.upd id (.fro ds)).rd j = M.rd j := by
  intro j
  have lid := Mem.get_lt hg
  by_cases e : id = j
  · subst e
    rw [rd_get, rd_get, get_upd_eq wf _ _ lid, hg]; rfl
  · rw [rd_get, rd_get, get_upd_ne wf _ _ _ e]
theorem icy_in {α : Type} {T : List AV → α → Prop} {v : AV} {l : List α} (h : RdI M T v l) (wf : Wf M) (hT : CelI T) {k : Nat} (hk : 1 < k) : ∃ v' M', icy k M v = some (v', M') ∧ Sl 1 T v' l ∧ Wf M' ∧ M'.size = M.size ∧ ∀ j, M'.rd j = M.rd j := by
  obtain ⟨k, rfl⟩ : ∃ j, k = j + 1 := ⟨k - 1, by omega⟩
  rcases h with ⟨rfl, rfl⟩ | ⟨id, rows, cap, rfl, hg, hA, hr⟩
  · exact ⟨NIL, M, rfl, .inl ⟨rfl, rfl⟩, wf, rfl, fun _ => rfl⟩
  · have hfl := flat_len hr
    have hcs : ∀ N, icyL (icy k) N rows.flatten = some (rows.flatten, N) := icyL_same (by omega) fun x hx N => hT.flat hA x hx N k (by omega)
    have hble : Nat.ble (0 + rows.length * 1) rows.flatten.length = true := ble_t (by omega)
    have hsl : slot rows.flatten 0 (rows.length * 1) = rows.flatten := slot_all _ _ hfl.symm
    have hrd := hg
    rw [rd_get] at hrd
    cases ho : M.get id with
    | none => rw [ho] at hrd; cases hrd
    | some x =>
      rw [ho] at hrd
      cases x with
      | row b ds =>
        simp only [rd1, Option.some.injEq] at hrd
        subst hrd
        exact ⟨.pv rows.flatten rows.length cap 1, M.upd id (.fro rows.flatten), by simp only [icy, hg, hble, hcs, ho, put_upd wf (Mem.get_lt ho), hsl], .inr ⟨rows, cap, rfl, hA, hr⟩, wf.upd _ _, rfl, rd_fro wf ho⟩
      | fro ds =>
        exact ⟨.pv rows.flatten rows.length cap 1, M, by simp only [icy, hg, hble, hcs, ho, hsl], .inr ⟨rows, cap, rfl, hA, hr⟩, wf, rfl, fun _ => rfl⟩
      | _ => simp [rd1] at hrd
theorem icyL_app {f : Mem → AV → Option (AV × Mem)} : ∀ {a b a' b' : List AV} {M N K : Mem}, icyL f M a = some (a', N) → icyL f N b = some (b', K) → icyL f M (a ++ b) = some (a' ++ b', K)
  | [], b, a', b', M, N, K, h1, h2 => by
    simp only [icyL, Option.some.injEq, Prod.mk.injEq] at h1
    obtain ⟨rfl, rfl⟩ := h1
    exact h2
  | x :: a, b, a', b', M, N, K, h1, h2 => by
    simp only [icyL] at h1
    split at h1
    · rename_i y M1 hy
      split at h1
      · rename_i r M2 hr
        simp only [Option.some.injEq, Prod.mk.injEq] at h1
        obtain ⟨rfl, rfl⟩ := h1
        simp only [List.cons_append, icyL, hy, icyL_app hr h2]
      · cases h1
    · cases h1
theorem celI_Int : CelI isInt := fun r x h y hy M k hk => by
  rw [h, List.mem_singleton] at hy
  subst hy
  exact icy_sc _ hk
theorem ev_icyR {e : Ev} {da ca : AV} (h1 : RdI M isU8 da e.data) (h2 : RdI M isInt ca e.crash) (wf : Wf M) {k : Nat} (hk : 1 < k) : ∃ da' ca' M', icyL (icy k) M (evRow e da ca) = some (evRow e da' ca', M') ∧ Bs da' e.data ∧ Sl 1 isInt ca' e.crash ∧ Wf M' ∧ M'.size = M.size ∧ ∀ j, M'.rd j = M.rd j := by
  obtain ⟨da', M1, i1, b1, w1, s1, r1⟩ := icy_in h1 wf celI_U8 hk
  obtain ⟨ca', M2, i2, b2, w2, s2, r2⟩ := icy_in (h2.keep r1) w1 celI_Int hk
  refine ⟨da', ca', M2, ?_, b1, b2, w2, s2.trans s1, fun j => (r2 j).trans (r1 j)⟩
  have hs := fun v M => icy_sc (M := M) (k := k) v (by omega)
  simp only [evRow, icyL, hs, i1, i2]
theorem rows_icyR {k : Nat} (hk : 1 < k) : ∀ {rows : List (List AV)} {lr : List EvR} {M : Mem}, All2 isEvR rows lr → Wf M → (∀ x ∈ lr, RdI M isU8 x.da x.e.data ∧ RdI M isInt x.ca x.e.crash) →
    ∃ rows' M', icyL (icy k) M rows.flatten = some (rows'.flatten, M') ∧ All2 isEv rows' (lr.map (·.e)) ∧ (∀ r ∈ rows', r.length = 17) ∧ Wf M' ∧ M'.size = M.size ∧ ∀ j, M'.rd j = M.rd j
  | _, _, M, .nil, wf, _ => ⟨[], M, rfl, .nil, by simp, wf, rfl, fun _ => rfl⟩
  | _, _, M, .cons (y := x) (m := lr) a t, wf, h => by
    obtain ⟨da', ca', M1, i1, b1, b2, w1, s1, r1⟩ := ev_icyR (h x (by simp)).1 (h x (by simp)).2 wf hk
    obtain ⟨rows', M2, i2, hA, hl, w2, s2, r2⟩ := rows_icyR hk t w1 fun y hy => ⟨(h y (by simp [hy])).1.keep r1, (h y (by simp [hy])).2.keep r1⟩
    obtain ⟨rfl, _⟩ := a
    refine ⟨evRow x.e da' ca' :: rows', M2, ?_, .cons ⟨da', ca', rfl, b1, b2⟩ hA, ?_, w2, s2.trans s1, fun j => (r2 j).trans (r1 j)⟩
    · rw [List.flatten_cons, List.flatten_cons]
      exact icyL_app i1 i2
    · intro r hr
      rcases List.mem_cons.1 hr with rfl | hr
      · rfl
      · exact hl r hr
theorem RR.icyk {B : Nat} {o : AV} {l : List Ev} (h : RR M B o l) (wf : Wf M) {k : Nat} (hk : 1 < k) : ∃ o' M', Go.Ax.icy (k + 1) M o = some (o', M') ∧ Sl 17 isEv o' l := by
  obtain ⟨lr, rfl, h2, h3, _, _⟩ := h
  rcases h2 with ⟨rfl, rfl⟩ | ⟨id, rows, cap, rfl, _, hg, hA, hr⟩
  · exact ⟨NIL, M, rfl, .inl ⟨rfl, rfl⟩⟩
  · obtain ⟨rows', M1, i1, hA', hl', w1, s1, r1⟩ := rows_icyR (k := k) hk hA wf fun x hx => ⟨RdI.of (h3 x hx).1, RdI.of (h3 x hx).2.1⟩
    have hfl := flat_len hr
    have hfl' := flat_len hl'
    have hn : rows'.length = rows.length := by rw [hA'.length_eq, List.length_map, hA.length_eq]
    have hrd := (r1 id).trans (rd_row hg)
    have hble : Nat.ble (0 + rows.length * 17) rows.flatten.length = true := ble_t (by omega)
    have hsl : slot rows'.flatten 0 (rows.length * 17) = rows'.flatten := slot_all _ _ (by rw [hfl', hn])
    have hsl' : Sl 17 isEv (.pv rows'.flatten rows.length cap 17) (lr.map (·.e)) := .inr ⟨rows', cap, by rw [hn], hA', hl'⟩
    rw [rd_get] at hrd
    cases ho : M1.get id with
    | none => rw [ho] at hrd; cases hrd
    | some x =>
      rw [ho] at hrd
      cases x with
      | row b ds => exact ⟨_, M1.upd id (.fro ds), by simp only [Go.Ax.icy, rd_row hg, hble, i1, ho, put_upd w1 (Mem.get_lt ho), hsl], hsl'⟩
      | fro ds => exact ⟨_, M1, by simp only [Go.Ax.icy, rd_row hg, hble, i1, ho, hsl], hsl'⟩
      | _ => simp [rd1] at hrd
theorem RR.icy {B : Nat} {o : AV} {l : List Ev} (h : RR M B o l) (wf : Wf M) : ∃ o' M', Go.Ax.icy 12 M o = some (o', M') ∧ Sl 17 isEv o' l := h.icyk wf (k := 11) (by omega)
end Go.Proofs.YtjbninmklbkklaaDoor
