/-
  purge: what is spoilt keeps its shape.
-/
import Derived.Test.YtjbninmklbkklaaDoorPvF
set_option linter.unusedSimpArgs false
set_option linter.unusedVariables false
set_option maxRecDepth 100000
namespace Go.Proofs.YtjbninmklbkklaaDoor
open Go Go.Ax
variable {fuel : Nat} {M : Mem} {Q : AV → Mem → Prop} {d : Nat}

def intRow (cs : List AV) : Prop := ∀ c ∈ cs, ∃ z : Int, c = I64 z
def byteRow (cs : List AV) : Prop := ∀ c ∈ cs, ∃ z : Int, c = U8 z
theorem both_rows {cs : List AV} (h1 : intRow cs) (h2 : byteRow cs) : cs = [] := by
  cases cs with
  | nil => rfl
  | cons c cs =>
    obtain ⟨z, hz⟩ := h1 c (by simp)
    obtain ⟨y, hy⟩ := h2 c (by simp)
    rw [hz] at hy; cases hy
/-- Rows of numbers may hold others, rows of bytes too; all else stays. -/
def Pres (M N : Mem) : Prop := N.size = M.size ∧ ∀ j cs, M.get j = some (.row false cs) → ∃ cs', N.get j = some (.row false cs') ∧ cs'.length = cs.length ∧ (cs' = cs ∨ (intRow cs ∧ intRow cs') ∨ (byteRow cs ∧ byteRow cs'))
theorem Pres.refl (M : Mem) : Pres M M := ⟨rfl, fun j cs h => ⟨cs, h, rfl, .inl rfl⟩⟩
theorem Pres.trans {M N K : Mem} (h : Pres M N) (k : Pres N K) : Pres M K := by
  refine ⟨k.1.trans h.1, fun j cs hj => ?_⟩
  obtain ⟨cs1, h1, l1, c1⟩ := h.2 j cs hj
  obtain ⟨cs2, h2, l2, c2⟩ := k.2 j cs1 h1
  refine ⟨cs2, h2, l2.trans l1, ?_⟩
  have nil : cs1 = [] → cs2 = cs := fun e => by
    subst e
    have e2 : cs2 = [] := List.eq_nil_of_length_eq_zero (by simpa using l2)
    have e1 : cs = [] := List.eq_nil_of_length_eq_zero (by simpa using l1.symm)
    rw [e1, e2]
  rcases c1 with rfl | ⟨a1, a2⟩ | ⟨a1, a2⟩
  · exact c2
  · rcases c2 with rfl | ⟨b1, b2⟩ | ⟨b1, b2⟩
    · exact .inr (.inl ⟨a1, a2⟩)
    · exact .inr (.inl ⟨a1, b2⟩)
    · exact .inl (nil (both_rows a2 b1))
  · rcases c2 with rfl | ⟨b1, b2⟩ | ⟨b1, b2⟩
    · exact .inr (.inr ⟨a1, a2⟩)
    · exact .inl (nil (both_rows b1 a2))
    · exact .inr (.inr ⟨a1, b2⟩)
def ShI (M : Mem) (v : AV) (n : Nat) : Prop := (v = NIL ∧ n = 0) ∨ ∃ id cap cs, v = .sl id 0 n cap 1 ∧ M.get id = some (.row false cs) ∧ cs.length = n ∧ intRow cs
def ShB (M : Mem) (v : AV) (n : Nat) : Prop := (v = NIL ∧ n = 0) ∨ ∃ id cap cs, v = .sl id 0 n cap 1 ∧ M.get id = some (.row false cs) ∧ cs.length = n ∧ byteRow cs
theorem ShI.pres {N : Mem} {v : AV} {n : Nat} (h : ShI M v n) (k : Pres M N) : ShI N v n := by
  rcases h with h | ⟨id, cap, cs, rfl, hg, hl, hi⟩
  · exact .inl h
  · obtain ⟨cs1, h1, l1, c1⟩ := k.2 id cs hg
    refine .inr ⟨id, cap, cs1, rfl, h1, l1.trans hl, ?_⟩
    rcases c1 with rfl | ⟨_, a2⟩ | ⟨a1, _⟩
    · exact hi
    · exact a2
    · have := both_rows hi a1
      subst this
      have e1 : cs1 = [] := List.eq_nil_of_length_eq_zero (by simpa using l1)
      rw [e1]
      exact hi
theorem ShB.pres {N : Mem} {v : AV} {n : Nat} (h : ShB M v n) (k : Pres M N) : ShB N v n := by
  rcases h with h | ⟨id, cap, cs, rfl, hg, hl, hi⟩
  · exact .inl h
  · obtain ⟨cs1, h1, l1, c1⟩ := k.2 id cs hg
    refine .inr ⟨id, cap, cs1, rfl, h1, l1.trans hl, ?_⟩
    rcases c1 with rfl | ⟨a1, _⟩ | ⟨_, a2⟩
    · exact hi
    · have := both_rows a1 hi
      subst this
      have e1 : cs1 = [] := List.eq_nil_of_length_eq_zero (by simpa using l1)
      rw [e1]
      exact hi
    · exact a2
theorem Pres.big {N : Mem} {id : Nat} {rows : List (List AV)} {i : Nat} {e : Ev} {da ca : AV} (k : Pres M N) (hg : M.get id = some (.row false rows.flatten)) (hi : rows[i]? = some (evRow e da ca)) : N.get id = some (.row false rows.flatten) := by
  obtain ⟨cs1, h1, l1, c1⟩ := k.2 id _ hg
  have hm : evRow e da ca ∈ rows := List.mem_of_getElem? hi
  have m1 : U8 e.kind.toNat ∈ rows.flatten := List.mem_flatten.2 ⟨_, hm, by simp [evRow]⟩
  have m2 : I64 e.user ∈ rows.flatten := List.mem_flatten.2 ⟨_, hm, by simp [evRow]⟩
  rcases c1 with e | ⟨a1, _⟩ | ⟨a1, _⟩
  · rw [← e]; exact h1
  · obtain ⟨z, hz⟩ := a1 _ m1
    cases hz
  · obtain ⟨z, hz⟩ := a1 _ m2
    cases hz
/-- A script's shape: so many events, whose lists are no longer than L. -/
def ShX (M : Mem) (o : AV) (n L : Nat) : Prop := (o = NIL ∧ n = 0) ∨ ∃ (id : Nat) (cap : Option Nat) (rows : List (List AV)), o = .sl id 0 n cap 17 ∧ M.get id = some (.row false rows.flatten) ∧ rows.length = n ∧ ∀ r ∈ rows, ∃ e da ca nd nc, r = evRow e da ca ∧ ShB M da nd ∧ ShI M ca nc ∧ nd ≤ L ∧ nc ≤ L
theorem ShX.pres {N : Mem} {o : AV} {n L : Nat} (h : ShX M o n L) (k : Pres M N) : ShX N o n L := by
  rcases h with h | ⟨id, cap, rows, rfl, hg, hl, hr⟩
  · exact .inl h
  · have h1 : N.get id = some (.row false rows.flatten) := by
      cases hrw : rows with
      | nil =>
        rw [hrw] at hg
        obtain ⟨cs1, h1, l1, _⟩ := k.2 id _ hg
        have : cs1 = [] := List.eq_nil_of_length_eq_zero (by simpa using l1)
        rw [this] at h1
        exact h1
      | cons r rest =>
        obtain ⟨e, da, ca, _, _, hre, _⟩ := hr r (by rw [hrw]; simp)
        rw [← hrw]
        exact k.big (i := 0) (e := e) (da := da) (ca := ca) hg (by rw [hrw, hre]; rfl)
    refine .inr ⟨id, cap, rows, rfl, h1, hl, fun r hr' => ?_⟩
    obtain ⟨e, da, ca, nd, nc, h2, h3, h4, h5, h6⟩ := hr r hr'
    exact ⟨e, da, ca, nd, nc, h2, h3.pres k, h4.pres k, h5, h6⟩
theorem RR.shape {B L : Nat} {o : AV} {l : List Ev} (h : RR M B o l) (hL : ∀ e ∈ l, e.data.length ≤ L ∧ e.crash.length ≤ L) : ShX M o l.length L := by
  obtain ⟨lr, rfl, h2, h3, _, _⟩ := h
  rcases h2 with ⟨rfl, rfl⟩ | ⟨id, rows, cap, rfl, _, hg, hA, hr⟩
  · exact .inl ⟨rfl, rfl⟩
  · refine .inr ⟨id, cap, rows, by rw [List.length_map, hA.length_eq], hg, by rw [List.length_map, hA.length_eq], ?_⟩
    have : ∀ {rows : List (List AV)} {lr : List EvR}, All2 isEvR rows lr → (∀ x ∈ lr, InR M B x) → (∀ e ∈ lr.map (·.e), e.data.length ≤ L ∧ e.crash.length ≤ L) → ∀ r ∈ rows, ∃ e da ca nd nc, r = evRow e da ca ∧ ShB M da nd ∧ ShI M ca nc ∧ nd ≤ L ∧ nc ≤ L := by
      intro rows lr hA
      induction hA with
      | nil => intro _ _ r hr; cases hr
      | cons a _ ih =>
        rename_i x' y' l' m' hm'
        intro hin hL r hr
        rcases List.mem_cons.1 hr with rfl | hr
        · obtain ⟨h1, h2, _, _⟩ := hin y' (by simp)
          have hb := hL y'.e (by simp)
          refine ⟨y'.e, y'.da, y'.ca, y'.e.data.length, y'.e.crash.length, a.1, ?_, ?_, hb.1, hb.2⟩
          · rcases h1 with ⟨e1, e2⟩ | ⟨id, rw1, cap, e1, _, hg, hA1, hr1⟩
            · exact .inl ⟨e1, by rw [e2]; rfl⟩
            · refine .inr ⟨id, cap, rw1.flatten, by rw [e1, hA1.length_eq], hg, by rw [flat_len hr1, hA1.length_eq]; omega, ?_⟩
              rw [rows_u8 hA1]
              intro c hc
              obtain ⟨z, _, rfl⟩ := List.mem_map.1 hc
              exact ⟨_, rfl⟩
          · rcases h2 with ⟨e1, e2⟩ | ⟨id, rw1, cap, e1, _, hg, hA1, hr1⟩
            · exact .inl ⟨e1, by rw [e2]; rfl⟩
            · refine .inr ⟨id, cap, rw1.flatten, by rw [e1, hA1.length_eq], hg, by rw [flat_len hr1, hA1.length_eq]; omega, ?_⟩
              clear e1 hg hr1 h1 hb
              rename_i hcap'
              clear hcap'
              generalize y'.e.crash = lc at hA1
              induction hA1 with
              | nil => intro c hc; cases hc
              | cons a' _ ih' =>
                intro c hc
                rw [a', List.flatten_cons, List.mem_append] at hc
                rcases hc with hc | hc
                · simp at hc; exact ⟨_, hc⟩
                · exact ih' c hc
        · exact ih (fun x hx => hin x (by simp [hx])) (fun e he => hL e (by simp only [List.map_cons, List.mem_cons]; exact .inr he)) r hr
    exact this hA h3 hL
theorem Pres.upd {j : Nat} {cs cs' : List AV} (wf : Wf M) (hg : M.get j = some (.row false cs)) (hl : cs'.length = cs.length) (h : (intRow cs ∧ intRow cs') ∨ (byteRow cs ∧ byteRow cs')) : Pres M (M.upd j (.row false cs')) := by
  refine ⟨upd_size _ _ _, fun i ds hi => ?_⟩
  have lj := Mem.get_lt hg
  by_cases e : j = i
  · subst e
    rw [hg] at hi
    cases hi
    exact ⟨cs', get_upd_eq wf _ _ lj, hl, .inr h⟩
  · exact ⟨ds, by rw [get_upd_ne wf _ _ _ e]; exact hi, rfl, .inl rfl⟩
theorem int_lay {cs : List AV} {k : Nat} {z : Int} (h : intRow cs) (hk : k + 1 ≤ cs.length) : intRow (lay cs k [I64 z]) ∧ (lay cs k [I64 z]).length = cs.length := by
  refine ⟨fun c hc => ?_, lay_len _ _ _ (by simpa using hk)⟩
  unfold lay at hc
  simp only [List.mem_append, List.mem_singleton] at hc
  rcases hc with (hc | rfl) | hc
  · exact h c (List.mem_of_mem_take hc)
  · exact ⟨z, rfl⟩
  · exact h c (List.mem_of_mem_drop hc)
theorem byte_lay {cs : List AV} {k : Nat} {z : Int} (h : byteRow cs) (hk : k + 1 ≤ cs.length) : byteRow (lay cs k [U8 z]) ∧ (lay cs k [U8 z]).length = cs.length := by
  refine ⟨fun c hc => ?_, lay_len _ _ _ (by simpa using hk)⟩
  unfold lay at hc
  simp only [List.mem_append, List.mem_singleton] at hc
  rcases hc with (hc | rfl) | hc
  · exact h c (List.mem_of_mem_take hc)
  · exact ⟨z, rfl⟩
  · exact h c (List.mem_of_mem_drop hc)
end Go.Proofs.YtjbninmklbkklaaDoor
