/-
  Texts, in plain Lean: runs and their elements.
-/
import Derived.Test.YtbomjpdheibmfaaTpC
import Derived.Test.YtbomjpdheibmfaaTrD
set_option linter.unusedSimpArgs false
set_option linter.unusedVariables false
set_option maxRecDepth 100000
namespace Go.Proofs.Ytbomjpdheibmfaa
open Go Go.Ax
def Rn.elR (r : Rn) : List El := (List.range r.sp.n.toNat).map fun (i : Nat) => ⟨r.sp.at i, r.afAt i, r.rs.getD i 0⟩
def elsR (l : List Rn) : List El := l.flatMap Rn.elR
theorem elsR_app (l m : List Rn) : elsR (l ++ m) = elsR l ++ elsR m := by simp [elsR]
theorem elsR_snoc (l : List Rn) (r : Rn) : elsR (l ++ [r]) = elsR l ++ r.elR := by simp [elsR]
theorem prs_elR (r : Rn) : prs r.elR = r.els := by simp [prs, Rn.elR, Rn.els, Function.comp_def]
theorem prs_elsR (l : List Rn) : prs (elsR l) = elsL l := by
  induction l with
  | nil => rfl
  | cons r l ih =>
    have : elsR (r :: l) = r.elR ++ elsR l := by simp [elsR]
    rw [this]
    unfold prs at *
    rw [List.map_append, ih]
    have := prs_elR r
    unfold prs at this
    rw [this]
    simp [elsL]
theorem elR_len (r : Rn) : r.elR.length = r.sp.n.toNat := by simp [Rn.elR]
theorem elR_get (r : Rn) (i : Nat) (h : i < r.elR.length) : r.elR[i] = ⟨r.sp.at i, r.afAt i, r.rs.getD i 0⟩ := by simp [Rn.elR]
def goes (q : Rn) (x : El) : Bool := decide (q.sp.n < 64) && decide (x.af = q.sp.at (q.sp.n - 1)) && decide (x.id = q.sp.at q.sp.n)
def one (x : El) : Rn := ⟨⟨x.id, 1⟩, x.af, [x.ch]⟩
def more (q : Rn) (x : El) : Rn := ⟨⟨q.sp.f, q.sp.n + 1⟩, q.af, q.rs ++ [x.ch]⟩
def addX (out : List Rn) (x : El) : List Rn :=
  match out.getLast? with
  | none => out ++ [one x]
  | some q => if goes q x then out.set (out.length - 1) (more q x) else out ++ [one x]
theorem set_last {α : Type} (o : List α) (q x : α) : (o ++ [q]).set ((o ++ [q]).length - 1) x = o ++ [x] := by simp
theorem addX_nil (x : El) : addX [] x = [one x] := rfl
theorem addX_snoc (o : List Rn) (q : Rn) (x : El) : addX (o ++ [q]) x = if goes q x then o ++ [more q x] else o ++ [q] ++ [one x] := by
  unfold addX
  rw [List.getLast?_concat]
  simp only [set_last]
theorem addR_snoc (o : List Rn) (q r : Rn) : addR (o ++ [q]) r = if nextB q r = true then (if r.cutE (room q) = 0 then o ++ [joinR q (r.fst (room q))] ++ [r.snd (room q)] else if joinE q r = 0 then o ++ [joinR q r] else o ++ [q] ++ [r]) else o ++ [q] ++ [r] := by
  unfold addR
  rw [List.getLast?_concat]
  simp only [set_last]
def chunk (E : List El) : List Rn := E.foldl addX []
theorem at_at (s : Spn) (a b n : Int) : (⟨s.at a, n⟩ : Spn).at b = s.at (a + b) := by
  simp only [Spn.at]
  rw [Int.add_assoc]
theorem snd_elR {r : Rn} {k : Nat} (hk : 0 < k) : (r.snd k).elR = r.elR.drop k := by
  apply List.ext_getElem
  · rw [List.length_drop, elR_len, elR_len]
    simp only [Rn.snd]; omega
  · intro i h1 h2
    rw [List.getElem_drop, elR_get, elR_get]
    have e1 : (r.snd k).sp.at i = r.sp.at ((k + i : Nat) : Int) := by
      simp only [Rn.snd, at_at]; congr 1
    have e2 : (r.snd k).afAt i = r.afAt ((k + i : Nat) : Int) := by
      unfold Rn.afAt
      rw [if_pos (show (0 : Int) < ((k + i : Nat) : Int) by omega)]
      by_cases h : (0 : Int) < i
      · rw [if_pos h]
        simp only [Rn.snd, at_at]; congr 1; omega
      · rw [if_neg h]
        simp only [Rn.snd]; congr 1; omega
    have e3 : (r.snd k).rs.getD i 0 = r.rs.getD (k + i) 0 := by
      simp only [Rn.snd, Int.toNat_natCast, List.getD_eq_getElem?_getD, List.getElem?_drop]
    rw [e1, e2, e3]
theorem fst_elR {r : Rn} {k : Nat} (hk : (k : Int) ≤ r.sp.n) : (r.fst k).elR = r.elR.take k := by
  apply List.ext_getElem
  · rw [List.length_take, elR_len, elR_len]
    simp only [Rn.fst]; omega
  · intro i h1 h2
    rw [List.length_take, elR_len] at h2
    rw [List.getElem_take, elR_get, elR_get]
    have e3 : (r.fst k).rs.getD i 0 = r.rs.getD i 0 := by
      simp only [Rn.fst, Int.toNat_natCast, List.getD_eq_getElem?_getD]
      rw [List.getElem?_take_of_lt (by omega)]
    rw [e3]
    rfl
theorem drop_consT {α : Type} (l : List α) (i : Nat) (h : i < l.length) : l.drop i = l[i] :: l.drop (i + 1) := List.drop_eq_getElem_cons h
theorem feed {q r : Rn} (o : List Rn) (n : Nat) (hn : r.sp.n = n) (hl : r.rs.length = n) (k : Nat) : ∀ (j : Nat), j + k ≤ n → q.sp.n + j + k ≤ 64 → 0 ≤ q.sp.n → (∀ i : Nat, j ≤ i → i < j + k → r.sp.at i = q.sp.at (q.sp.n + i) ∧ r.afAt i = q.sp.at (q.sp.n + i - 1)) →
    ((r.elR.drop j).take k).foldl addX (o ++ [⟨⟨q.sp.f, q.sp.n + j⟩, q.af, q.rs ++ r.rs.take j⟩]) = o ++ [⟨⟨q.sp.f, q.sp.n + (j + k : Nat)⟩, q.af, q.rs ++ r.rs.take (j + k)⟩] := by
  induction k with
  | zero => intro j _ _ _ _; simp
  | succ k ih =>
    intro j h1 h2 h3 h4
    have hj : j < r.elR.length := by rw [elR_len]; omega
    have hjr : j < r.rs.length := by omega
    rw [drop_consT _ _ hj, List.take_succ_cons, List.foldl_cons, addX_snoc, elR_get]
    have hg : goes (⟨⟨q.sp.f, q.sp.n + j⟩, q.af, q.rs ++ r.rs.take j⟩ : Rn) ⟨r.sp.at j, r.afAt j, r.rs.getD j 0⟩ = true := by
      unfold goes
      simp only [Bool.and_eq_true, decide_eq_true_eq]
      exact ⟨⟨by omega, (h4 j (by omega) (by omega)).2⟩, (h4 j (by omega) (by omega)).1⟩
    rw [if_pos hg]
    have hm : more (⟨⟨q.sp.f, q.sp.n + j⟩, q.af, q.rs ++ r.rs.take j⟩ : Rn) ⟨r.sp.at j, r.afAt j, r.rs.getD j 0⟩ = ⟨⟨q.sp.f, q.sp.n + (j + 1 : Nat)⟩, q.af, q.rs ++ r.rs.take (j + 1)⟩ := by
      unfold more
      have e : r.rs.getD j 0 = r.rs[j] := by rw [List.getD_eq_getElem?_getD, List.getElem?_eq_getElem hjr]; rfl
      rw [e, take_snocT _ _ hjr, List.append_assoc]
      simp only [Int.natCast_add, Int.natCast_one, Int.add_assoc]
    rw [hm, ih (j + 1) (by omega) (by omega) h3 fun i hj' hi => h4 i (by omega) (by omega)]
    rw [show j + 1 + k = j + (k + 1) by omega]
theorem elR_cons {r : Rn} (h : 1 ≤ r.sp.n) : r.elR = ⟨r.sp.f, r.af, r.rs.getD 0 0⟩ :: r.elR.drop 1 := by
  have h0 : 0 < r.elR.length := by rw [elR_len]; omega
  have := drop_consT r.elR 0 h0
  rw [List.drop_zero] at this
  refine this.trans ?_
  rw [elR_get]
  simp [Spn.at, Rn.afAt]
theorem feed1 {r : Rn} (o : List Rn) (n : Nat) (hn : r.sp.n = n) (hl : r.rs.length = n) (h1 : 1 ≤ n) (h2 : n ≤ 64) : (r.elR.drop 1).foldl addX (o ++ [one ⟨r.sp.f, r.af, r.rs.getD 0 0⟩]) = o ++ [r] := by
  have e : (r.elR.drop 1).take (n - 1) = r.elR.drop 1 := by
    rw [List.take_of_length_le]
    rw [List.length_drop, elR_len]; omega
  rw [← e]
  have := feed (q := ⟨⟨r.sp.f, 0⟩, r.af, []⟩) (r := r) o n hn hl (n - 1) 1 (by omega) (by simp only; omega) (Int.le_refl _) fun i hj hi => ?_
  · have e1 : (⟨⟨r.sp.f, 0 + (1 : Nat)⟩, r.af, [] ++ r.rs.take 1⟩ : Rn) = one ⟨r.sp.f, r.af, r.rs.getD 0 0⟩ := by
      unfold one
      have e0 : r.rs.take 1 = [r.rs.getD 0 0] := by
        rw [take_snocT r.rs 0 (by omega), List.getD_eq_getElem?_getD, List.getElem?_eq_getElem (show 0 < r.rs.length by omega)]
        simp
      rw [e0]; rfl
    have e2 : (⟨⟨r.sp.f, 0 + (1 + (n - 1) : Nat)⟩, r.af, [] ++ r.rs.take (1 + (n - 1))⟩ : Rn) = r := by
      have : 1 + (n - 1) = n := by omega
      rw [this, List.take_of_length_le (by omega), List.nil_append, Int.zero_add, ← hn]
    simp only at this
    rw [e1, e2] at this
    exact this
  · unfold Rn.afAt
    rw [if_pos (show (0 : Int) < i by omega)]
    simp only [Spn.at, Int.zero_add, true_and]
theorem chk_iff {l : List Int} : chkR l = 0 ↔ l.length ≤ 64 ∧ l.all okR = true := by
  unfold chkR
  by_cases h : 64 < l.length
  · rw [if_pos h]; simp; omega
  · rw [if_neg h]
    cases l.all okR <;> simp [err]
    omega
theorem Rn.may_iff {r : Rn} : r.may = true ↔ r.sp.may = true ∧ (r.af = Eid.z ∨ (r.af.may = true ∧ r.af.c < r.sp.f.c)) ∧ (r.rs.length : Int) = r.sp.n ∧ r.rs.length ≤ 64 ∧ r.rs.all okR = true := by
  unfold Rn.may
  simp only [Bool.and_eq_true, Bool.or_eq_true, decide_eq_true_eq, chk_iff, and_assoc]
theorem Spn.may_iff {s : Spn} : s.may = true ↔ s.f.may = true ∧ 1 ≤ s.n ∧ s.n ≤ 64 ∧ s.f.c + s.n ≤ 1099511627777 := by
  unfold Spn.may
  simp only [Bool.and_eq_true, decide_eq_true_eq, and_assoc]
theorem Eid.may_iff {x : Eid} : x.may = true ↔ x.hd.may = true ∧ 1 ≤ x.c ∧ x.c ≤ 1099511627776 := by
  unfold Eid.may
  simp only [Bool.and_eq_true, decide_eq_true_eq, and_assoc]
theorem both_may {q r : Rn} (hq : q.may = true) (hr : r.may = true) (h1 : r.sp.f = q.sp.at q.sp.n) (h2 : q.sp.n + r.sp.n ≤ 64) : (q.both r).may = true := by
  rw [Rn.may_iff] at *
  obtain ⟨a1, a2, a3, a4, a5⟩ := hq
  obtain ⟨b1, b2, b3, b4, b5⟩ := hr
  rw [Spn.may_iff] at *
  rw [h1] at b1
  simp only [Rn.both, Spn.at, List.length_append, List.all_append, a5, b5, Bool.and_self, and_true, Int.natCast_add] at *
  exact ⟨⟨a1.1, by omega, by omega, by omega⟩, a2, by omega, by omega⟩
theorem fst_mayR {r : Rn} {k : Nat} (hr : r.may = true) (h0 : 0 < k) (h1 : (k : Int) ≤ r.sp.n) : (r.fst k).may = true := by
  rw [Rn.may_iff] at *
  obtain ⟨a1, a2, a3, a4, a5⟩ := hr
  rw [Spn.may_iff] at *
  simp only [Rn.fst, Int.toNat_natCast, List.length_take]
  refine ⟨⟨a1.1, by omega, by omega, by omega⟩, a2, by omega, by omega, ?_⟩
  rw [List.all_eq_true] at *
  exact fun x hx => a5 x (List.mem_of_mem_take hx)
theorem snd_mayR {r : Rn} {k : Nat} (hr : r.may = true) (h0 : 0 < k) (h1 : (k : Int) < r.sp.n) : (r.snd k).may = true := by
  rw [Rn.may_iff] at *
  obtain ⟨a1, a2, a3, a4, a5⟩ := hr
  rw [Spn.may_iff, Eid.may_iff] at *
  simp only [Rn.snd, Spn.at, Int.toNat_natCast, List.length_drop, Eid.may_iff]
  refine ⟨⟨⟨a1.1.1, by omega, by omega⟩, by omega, by omega, by omega⟩, .inr ⟨⟨a1.1.1, by omega, by omega⟩, by omega⟩, by omega, by omega, ?_⟩
  rw [List.all_eq_true] at *
  exact fun x hx => a5 x (List.mem_of_mem_drop hx)
theorem Rn.last_at {q : Rn} (h : q.may = true) : q.last = q.sp.at (q.sp.n - 1) := by
  unfold Rn.last
  rw [if_pos (Rn.may_sp h)]
theorem next_iff {q r : Rn} (hq : q.may = true) : nextB q r = true ↔ r.af = q.sp.at (q.sp.n - 1) ∧ r.sp.f = q.sp.at q.sp.n := by
  unfold nextB
  rw [Rn.last_at hq]
  simp only [Bool.and_eq_true, decide_eq_true_eq]
  have hb := Spn.may_le (Rn.may_sp hq)
  constructor
  · rintro ⟨h1, h2⟩
    refine ⟨h1, ?_⟩
    rw [h2, h1]
    simp only [Spn.at]
    rw [wrap_i64 (by omega) (by omega)]
    congr 1; omega
  · rintro ⟨h1, h2⟩
    refine ⟨h1, ?_⟩
    rw [h2, h1]
    simp only [Spn.at]
    rw [wrap_i64 (by omega) (by omega)]
    congr 1; omega
theorem joinE_ok {q r : Rn} (hq : q.may = true) (hr : r.may = true) (h1 : r.af = q.sp.at (q.sp.n - 1)) (h2 : r.sp.f = q.sp.at q.sp.n) (h3 : q.sp.n + r.sp.n ≤ 64) : joinE q r = 0 := by
  have bq := Spn.may_le (Rn.may_sp hq)
  have br := Spn.may_le (Rn.may_sp hr)
  have lq := Rn.may_len hq
  rw [joinE_iff, Rn.cutE_iff]
  refine ⟨hq, hr, ⟨both_may hq hr h2 h3, by omega, by simp only [Rn.both]; omega⟩, ?_, ?_⟩
  · unfold Rn.both Rn.fst
    simp only
    rw [List.take_append_of_le_length (by omega), List.take_of_length_le (by omega)]
  · unfold Rn.both Rn.snd
    simp only
    have e1 : q.sp.n.toNat = q.rs.length := by omega
    rw [e1, List.drop_left]
    have e2 : (⟨q.sp.f, q.sp.n + r.sp.n⟩ : Spn).at q.sp.n = r.sp.f := h2.symm
    have e3 : (⟨q.sp.f, q.sp.n + r.sp.n⟩ : Spn).at (q.sp.n - 1) = r.af := h1.symm
    rw [e2, e3, show q.sp.n + r.sp.n - q.sp.n = r.sp.n by omega]
theorem add_feed {o : List Rn} {q r : Rn} (hq : q.may = true) (hr : r.may = true) : addR (o ++ [q]) r = r.elR.foldl addX (o ++ [q]) ∧ ∃ o' q', addR (o ++ [q]) r = o' ++ [q'] ∧ (∀ x ∈ o', x ∈ o ∨ x.may = true) ∧ q'.may = true := by
  have bq := Spn.may_le (Rn.may_sp hq)
  have br := Spn.may_le (Rn.may_sp hr)
  have lq := Rn.may_len hq
  have lr := Rn.may_len hr
  obtain ⟨n, hn⟩ : ∃ n : Nat, r.sp.n = n := ⟨r.sp.n.toNat, by omega⟩
  have hrm : room q = 64 - q.sp.n := by unfold room; rw [wrap_i64 (by omega) (by omega)]
  have hqo : ∀ x ∈ o ++ [q], x ∈ o ∨ x.may = true := fun x hx => by
    rcases List.mem_append.1 hx with h | h
    · exact .inl h
    · rw [List.mem_singleton] at h; subst h; exact .inr hq
  rw [addR_snoc]
  by_cases h : nextB q r = true
  · rw [if_pos h]
    rw [next_iff hq] at h
    obtain ⟨h1, h2⟩ := h
    have h4 : ∀ i : Nat, i < n → r.sp.at i = q.sp.at (q.sp.n + i) ∧ r.afAt i = q.sp.at (q.sp.n + i - 1) := fun i hi => by
      have e : r.sp.at i = q.sp.at (q.sp.n + i) := by
        simp only [Spn.at] at h2 ⊢
        rw [h2]
        simp only [Int.add_assoc]
      refine ⟨e, ?_⟩
      unfold Rn.afAt
      by_cases h0 : (0 : Int) < i
      · rw [if_pos h0]
        simp only [Spn.at] at h2 ⊢
        rw [h2]
        simp only
        congr 1; omega
      · have : (i : Int) = 0 := by omega
        rw [if_neg h0, this, h1, Int.add_zero]
    have hq0 : o ++ [q] = o ++ [⟨⟨q.sp.f, q.sp.n + (0 : Nat)⟩, q.af, q.rs ++ r.rs.take 0⟩] := by simp
    by_cases h5 : q.sp.n + r.sp.n ≤ 64
    · have hc : ¬r.cutE (room q) = 0 := by rw [Rn.cutE_iff, hrm]; omega
      rw [if_neg hc, if_pos (joinE_ok hq hr h1 h2 h5)]
      have hj : joinR q r = q.both r := by unfold joinR; rw [if_pos (joinE_ok hq hr h1 h2 h5)]
      rw [hj]
      refine ⟨?_, o, _, rfl, fun x hx => .inl hx, both_may hq hr h2 h5⟩
      have := feed (q := q) (r := r) o n hn (by omega) n 0 (by omega) (by omega) (by omega) fun i _ hi => h4 i (by omega)
      rw [← hq0, List.drop_zero, List.take_of_length_le (by rw [elR_len]; omega)] at this
      rw [this]
      unfold Rn.both
      rw [Nat.zero_add, List.take_of_length_le (by omega), hn]
    · by_cases h6 : q.sp.n < 64
      · obtain ⟨k, hk⟩ : ∃ k : Nat, room q = k := ⟨(room q).toNat, by omega⟩
        have hc : r.cutE (room q) = 0 := by rw [Rn.cutE_iff, hrm]; exact ⟨hr, by omega, by omega⟩
        rw [if_pos hc, hk]
        have fm := fst_mayR (k := k) hr (by omega) (by omega)
        have sm := snd_mayR (k := k) hr (by omega) (by omega)
        have je := joinE_ok hq fm h1 h2 (by simp only [Rn.fst]; omega)
        have hj : joinR q (r.fst k) = q.both (r.fst k) := by unfold joinR; rw [if_pos je]
        rw [hj]
        refine ⟨?_, _, _, rfl, fun x hx => ?_, sm⟩
        · have := feed (q := q) (r := r) o n hn (by omega) k 0 (by omega) (by omega) (by omega) fun i _ hi => h4 i (by omega)
          rw [← hq0, List.drop_zero] at this
          rw [← List.take_append_drop k r.elR, List.foldl_append, this]
          have e1 : (⟨⟨q.sp.f, q.sp.n + ((0 + k : Nat) : Int)⟩, q.af, q.rs ++ r.rs.take (0 + k)⟩ : Rn) = q.both (r.fst k) := by
            unfold Rn.both Rn.fst
            rw [Nat.zero_add, Int.toNat_natCast]
          rw [e1, ← snd_elR (by omega), elR_cons (Spn.may_le (Rn.may_sp sm)).2.2.1, List.foldl_cons, addX_snoc, if_neg]
          · have hsn : (r.snd k).sp.n = (n - k : Nat) := by simp only [Rn.snd]; omega
            have hsl : (r.snd k).rs.length = n - k := by have := Rn.may_len sm; omega
            exact (feed1 _ (n - k) hsn hsl (by omega) (by omega)).symm
          · intro hg
            unfold goes at hg
            rw [Bool.and_eq_true, Bool.and_eq_true] at hg
            have := of_decide_eq_true hg.1.1
            simp only [Rn.both, Rn.fst] at this
            omega
        · rcases List.mem_append.1 hx with hx | hx
          · exact .inl hx
          · rw [List.mem_singleton] at hx; subst hx
            exact .inr (both_may hq fm h2 (by simp only [Rn.fst]; omega))
      · have hc : ¬r.cutE (room q) = 0 := by rw [Rn.cutE_iff, hrm]; omega
        have hj : ¬joinE q r = 0 := by
          rw [joinE_iff, Rn.cutE_iff]
          rintro ⟨_, _, ⟨hm, _⟩, _⟩
          have := (Spn.may_le (Rn.may_sp hm)).2.2.2.1
          simp only [Rn.both] at this
          omega
        rw [if_neg hc, if_neg hj]
        refine ⟨?_, _, _, rfl, hqo, hr⟩
        rw [elR_cons (by omega), List.foldl_cons, addX_snoc, if_neg]
        · exact (feed1 _ n hn (by omega) (by omega) (by omega)).symm
        · unfold goes
          simp only [Bool.and_eq_true, decide_eq_true_eq]
          omega
  · rw [if_neg h]
    refine ⟨?_, _, _, rfl, hqo, hr⟩
    rw [elR_cons (by omega), List.foldl_cons, addX_snoc, if_neg]
    · exact (feed1 _ n hn (by omega) (by omega) (by omega)).symm
    · unfold goes
      simp only [Bool.and_eq_true, decide_eq_true_eq]
      rintro ⟨⟨_, h2⟩, h3⟩
      exact h ((next_iff hq).2 ⟨h2, h3⟩)
theorem long_chunk {l : List Rn} (h : ∀ r ∈ l, r.may = true) : longL l = chunk (elsR l) ∧ ∀ r ∈ longL l, r.may = true := by
  revert h
  refine snoc_ind (P := fun l => (∀ r ∈ l, r.may = true) → longL l = chunk (elsR l) ∧ ∀ r ∈ longL l, r.may = true) (fun _ => ⟨rfl, fun r hr => absurd hr (by simp [longL])⟩) (fun l r ih h => ?_) l
  obtain ⟨e, hm⟩ := ih fun x hx => h x (List.mem_append_left _ hx)
  have hr := h r (List.mem_append_right _ List.mem_cons_self)
  have br := Spn.may_le (Rn.may_sp hr)
  have lr := Rn.may_len hr
  have hs : longL (l ++ [r]) = addR (longL l) r := by simp [longL]
  rw [hs, elsR_snoc]
  unfold chunk at *
  rw [List.foldl_append, ← e]
  generalize longL l = out at *
  rcases nil_snoc out with rfl | ⟨o, q, rfl⟩
  · have ha : addR [] r = [r] := rfl
    rw [ha]
    refine ⟨?_, fun x hx => by rw [List.mem_singleton] at hx; subst hx; exact hr⟩
    rw [elR_cons (by omega), List.foldl_cons, addX_nil]
    exact (feed1 [] r.sp.n.toNat (by omega) (by omega) (by omega) (by omega)).symm
  · have hq := hm q (List.mem_append_right _ List.mem_cons_self)
    obtain ⟨h1, o', q', h2, h3, h4⟩ := add_feed (o := o) hq hr
    refine ⟨h1, fun x hx => ?_⟩
    rw [h2] at hx
    rcases List.mem_append.1 hx with hx | hx
    · rcases h3 x hx with k | k
      · exact hm x (List.mem_append_left _ k)
      · exact k
    · rw [List.mem_singleton] at hx; subst hx; exact h4
def El.may (x : El) : Bool := x.id.may && (decide (x.af = Eid.z) || (x.af.may && decide (x.af.c < x.id.c))) && okR x.ch
theorem El.may_iff {x : El} : x.may = true ↔ x.id.may = true ∧ (x.af = Eid.z ∨ (x.af.may = true ∧ x.af.c < x.id.c)) ∧ okR x.ch = true := by
  unfold El.may
  simp only [Bool.and_eq_true, Bool.or_eq_true, decide_eq_true_eq, and_assoc]
theorem El.may_ct {x : El} (h : x.may = true) : x.af.c < x.id.c ∧ 0 < x.id.c := by
  rw [El.may_iff, Eid.may_iff] at h
  obtain ⟨h1, h2, _⟩ := h
  rcases h2 with h2 | h2
  · rw [h2]; exact ⟨by show (0 : Int) < _; omega, by omega⟩
  · exact ⟨h2.2, by omega⟩
theorem elR_may {r : Rn} (hr : r.may = true) : ∀ x ∈ r.elR, x.may = true := by
  intro x hx
  have br := Spn.may_le (Rn.may_sp hr)
  have lr := Rn.may_len hr
  obtain ⟨i, hi, rfl⟩ := List.getElem_of_mem hx
  rw [elR_len] at hi
  rw [elR_get]
  rw [Rn.may_iff, Spn.may_iff, Eid.may_iff] at hr
  obtain ⟨⟨h1, h2⟩, h3, h4, h5, h6⟩ := hr
  rw [El.may_iff, Eid.may_iff]
  simp only [Spn.at]
  refine ⟨⟨h1.1, by omega, by omega⟩, ?_, ?_⟩
  · unfold Rn.afAt
    by_cases h0 : (0 : Int) < i
    · rw [if_pos h0, Eid.may_iff]
      simp only [Spn.at]
      exact .inr ⟨⟨h1.1, by omega, by omega⟩, by omega⟩
    · rw [if_neg h0]
      rcases h3 with h3 | h3
      · exact .inl h3
      · exact .inr ⟨h3.1, by omega⟩
  · rw [List.getD_eq_getElem?_getD, List.getElem?_eq_getElem (by omega)]
    exact List.all_eq_true.1 h6 _ (List.getElem_mem _)
theorem elsR_may {l : List Rn} (h : ∀ r ∈ l, r.may = true) : ∀ x ∈ elsR l, x.may = true := by
  intro x hx
  obtain ⟨r, hr, hx⟩ := List.mem_flatMap.1 hx
  exact elR_may (h r hr) x hx
theorem elR_chn {r : Rn} (hr : r.may = true) : Chn r.af r.elR := by
  have br := Spn.may_le (Rn.may_sp hr)
  have key : ∀ k i : Nat, i + k = r.sp.n.toNat → 0 < i → Chn (r.sp.at ((i : Int) - 1)) (r.elR.drop i) := by
    intro k
    induction k with
    | zero => intro i hi _; rw [List.drop_of_length_le (by rw [elR_len]; omega)]; trivial
    | succ k ih =>
      intro i hi h0
      have hl : i < r.elR.length := by rw [elR_len]; omega
      rw [drop_consT _ _ hl, elR_get]
      have := ih (i + 1) (by omega) (by omega)
      refine ⟨?_, ?_, ?_⟩
      · unfold Rn.afAt
        rw [if_pos (by omega)]
      · simp only [Spn.at]; omega
      · have e : ((i + 1 : Nat) : Int) - 1 = i := by omega
        rw [e] at this
        exact this
  rw [elR_cons (by omega)]
  have := key (r.sp.n.toNat - 1) 1 (by omega) (by omega)
  refine ⟨rfl, ?_, ?_⟩
  · have := (El.may_ct (elR_may hr ⟨r.sp.f, r.af, r.rs.getD 0 0⟩ (by rw [elR_cons (by omega)]; exact List.mem_cons_self))).1
    exact this
  · simpa [Spn.at] using this
theorem chunk_els (E : List El) : elsR (chunk E) = E ∧ ∀ q ∈ chunk E, 1 ≤ q.sp.n ∧ (q.rs.length : Int) = q.sp.n := by
  refine snoc_ind (P := fun E => elsR (chunk E) = E ∧ ∀ q ∈ chunk E, 1 ≤ q.sp.n ∧ (q.rs.length : Int) = q.sp.n) ⟨rfl, fun q hq => absurd hq (by simp [chunk])⟩ (fun E x ih => ?_) E
  obtain ⟨h1, h2⟩ := ih
  have hs : chunk (E ++ [x]) = addX (chunk E) x := by simp [chunk]
  rw [hs]
  have ho : (one x).elR = [x] := by
    rw [elR_cons (by simp only [one]; omega), List.drop_of_length_le (by rw [elR_len]; simp [one])]
    simp [one]
  have h1x : 1 ≤ (one x).sp.n ∧ ((one x).rs.length : Int) = (one x).sp.n := ⟨Int.le_refl _, rfl⟩
  generalize chunk E = out at *
  rcases nil_snoc out with rfl | ⟨o, q, rfl⟩
  · rw [addX_nil]
    have : E = [] := by rw [← h1]; rfl
    subst this
    refine ⟨?_, fun q hq => by rw [List.mem_singleton] at hq; subst hq; exact h1x⟩
    simp [elsR, ho]
  · rw [addX_snoc]
    obtain ⟨hq1, hq2⟩ := h2 q (List.mem_append_right _ List.mem_cons_self)
    by_cases hg : goes q x = true
    · rw [if_pos hg]
      unfold goes at hg
      simp only [Bool.and_eq_true, decide_eq_true_eq] at hg
      obtain ⟨⟨g1, g2⟩, g3⟩ := hg
      refine ⟨?_, fun y hy => ?_⟩
      · rw [elsR_snoc] at h1
        rw [elsR_snoc, ← h1, List.append_assoc]
        congr 1
        apply List.ext_getElem
        · rw [List.length_append, elR_len, elR_len]
          simp only [more, List.length_singleton]; omega
        · intro i i1 i2
          rw [elR_get]
          by_cases hi : i < q.elR.length
          · rw [List.getElem_append_left hi, elR_get]
            rw [elR_len] at hi
            have e3 : (more q x).rs.getD i 0 = q.rs.getD i 0 := by
              simp only [more, List.getD_eq_getElem?_getD]
              rw [List.getElem?_append_left (by omega)]
            rw [e3]; rfl
          · have hi' : i = q.elR.length := by
              rw [elR_len] at i1 hi ⊢
              simp only [more] at i1
              omega
            rw [List.getElem_append_right (Nat.le_of_not_lt hi), List.getElem_singleton]
            rw [elR_len] at hi'
            rw [hi']
            clear hi' i1 i2 hi
            obtain ⟨xi, xa, xc⟩ := x
            simp only at g2 g3
            have e : ((q.sp.n.toNat : Nat) : Int) = q.sp.n := by omega
            have e3 : (more q ⟨xi, xa, xc⟩).rs.getD q.sp.n.toNat 0 = xc := by
              simp only [more, List.getD_eq_getElem?_getD]
              rw [List.getElem?_append_right (by omega), show q.sp.n.toNat - q.rs.length = 0 by omega]
              rfl
            have e2 : (more q ⟨xi, xa, xc⟩).afAt ((q.sp.n.toNat : Nat) : Int) = xa := by
              unfold Rn.afAt
              rw [if_pos (by omega), e, g2]
              rfl
            rw [e2, e3, e, g3]
            rfl
      · rcases List.mem_append.1 hy with hy | hy
        · exact h2 y (List.mem_append_left _ hy)
        · rw [List.mem_singleton] at hy; subst hy
          simp only [more, List.length_append, List.length_singleton]
          omega
    · rw [if_neg hg]
      refine ⟨by rw [elsR_snoc, ho, h1], fun y hy => ?_⟩
      rcases List.mem_append.1 hy with hy | hy
      · exact h2 y hy
      · rw [List.mem_singleton] at hy; subst hy; exact h1x
theorem chunk_may {E : List El} (h : ∀ x ∈ E, x.may = true) : ∀ q ∈ chunk E, q.may = true := by
  revert h
  refine snoc_ind (P := fun E => (∀ x ∈ E, x.may = true) → ∀ q ∈ chunk E, q.may = true) (fun _ q hq => absurd hq (by simp [chunk])) (fun E x ih h => ?_) E
  have h2 := ih fun y hy => h y (List.mem_append_left _ hy)
  have hx := h x (List.mem_append_right _ List.mem_cons_self)
  have hs : chunk (E ++ [x]) = addX (chunk E) x := by simp [chunk]
  rw [hs]
  have h1x : (one x).may = true := by
    rw [El.may_iff, Eid.may_iff] at hx
    rw [Rn.may_iff, Spn.may_iff, Eid.may_iff]
    simp only [one, List.length_singleton, List.all_cons, List.all_nil, Bool.and_true]
    exact ⟨⟨⟨hx.1.1, hx.1.2⟩, by omega, by omega, by omega⟩, hx.2.1, by omega, by omega, hx.2.2⟩
  generalize chunk E = out at *
  rcases nil_snoc out with rfl | ⟨o, q, rfl⟩
  · rw [addX_nil]
    exact fun q hq => by rw [List.mem_singleton] at hq; subst hq; exact h1x
  · rw [addX_snoc]
    have hq := h2 q (List.mem_append_right _ List.mem_cons_self)
    by_cases hg : goes q x = true
    · rw [if_pos hg]
      unfold goes at hg
      simp only [Bool.and_eq_true, decide_eq_true_eq] at hg
      obtain ⟨⟨g1, g2⟩, g3⟩ := hg
      intro y hy
      rcases List.mem_append.1 hy with hy | hy
      · exact h2 y (List.mem_append_left _ hy)
      · rw [List.mem_singleton] at hy; subst hy
        have : more q x = q.both (one x) := rfl
        rw [this]
        exact both_may hq h1x g3 (by simp only [one]; omega)
    · rw [if_neg hg]
      intro y hy
      rcases List.mem_append.1 hy with hy | hy
      · exact h2 y hy
      · rw [List.mem_singleton] at hy; subst hy; exact h1x
theorem count_els {l : List Rn} (h : ∀ r ∈ l, r.may = true) : countL l = (elsR l).length := by
  induction l with
  | nil => rfl
  | cons r l ih =>
    have br := Spn.may_le (Rn.may_sp (h r List.mem_cons_self))
    have : elsR (r :: l) = r.elR ++ elsR l := by simp [elsR]
    rw [this, List.length_append, elR_len]
    simp only [countL]
    rw [ih fun x hx => h x (List.mem_cons_of_mem _ hx)]
    omega
def TextOk (l : List Rn) : Prop := (∀ r ∈ l, r.may = true) ∧ countL l ≤ 8192 ∧ Ord (elsL l) ∧ longL l = l
structure TxtM (E : List El) : Prop where
  t : Txt E
  m : ∀ x ∈ E, x.may = true
  n : E.length ≤ 8192
theorem textOk_of {E : List El} (h : TxtM E) : TextOk (chunk E) := by
  have hm := chunk_may h.m
  obtain ⟨he, _⟩ := chunk_els E
  refine ⟨hm, ?_, ?_, ?_⟩
  · rw [count_els hm, he]; have := h.n; omega
  · rw [← prs_elsR, he]; exact (ord_iff fun x hx => El.may_ct (h.m x hx)).2 h.t
  · rw [(long_chunk hm).1, he]
theorem textOk_els {l : List Rn} (h : TextOk l) : TxtM (elsR l) ∧ l = chunk (elsR l) := by
  obtain ⟨h1, h2, h3, h4⟩ := h
  have hm := elsR_may h1
  refine ⟨⟨?_, hm, ?_⟩, ?_⟩
  · rw [← prs_elsR] at h3; exact (ord_iff fun x hx => El.may_ct (hm x hx)).1 h3
  · rw [count_els h1] at h2; omega
  · rw [← (long_chunk h1).1, h4]
end Go.Proofs.Ytbomjpdheibmfaa
