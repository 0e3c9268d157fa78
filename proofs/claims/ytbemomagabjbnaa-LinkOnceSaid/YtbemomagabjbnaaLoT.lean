/-
  The protocol: a round.
-/
import Derived.Test.YtbemomagabjbnaaLoS
set_option linter.unusedSimpArgs false
set_option linter.unusedVariables false
set_option maxRecDepth 100000
namespace Go.Proofs.Ytbemomagabjbnaa
open Go Go.Ax
variable {ep : Int} {k : Nat} {x : Pair}

/-- All that is under way comes. -/
def Pair.drain : Nat → Bool → Pair → Pair
  | 0, _, x => x
  | n + 1, down, x => if (if down then x.down else x.up).length = 0 then x else Pair.drain n down (x.comes 0 down false)
def Pair.round (x : Pair) : Pair := Pair.drain 500 true ((Pair.drain 500 false (x.sends false false)).sends true false)

def Good (k : Nat) (x : Pair) : Prop := k < x.told.length ∧ x.b.owe = true
theorem Inv.upOne (h : Inv ep k x) (h0 : 0 ≤ ep) (h1 : ep < 2147483648) (hp : x.put.length ≤ 1000) {p : Pk} {l : List Pk} (hu : x.up = p :: l) :
    Inv ep k (x.comes 0 false false) ∧ (x.comes 0 false false).up = l ∧ (x.comes 0 false false).down = x.down ∧ (x.comes 0 false false).put = x.put ∧ (Good k x → Good k (x.comes 0 false false)) ∧ (p.seq = ((k + 1 : Nat) : Int) → Good k (x.comes 0 false false)) := by
  have hm : p ∈ x.up := by rw [hu]; exact List.mem_cons_self
  have hb := h.bmay h0 h1 hp
  have hpm := h.pkmay h0 h1 hp (.inl hm)
  have hkt := h.kt
  have htp := h.tp
  have hok := h.ok
  obtain ⟨e1, e2, s, b, e3, e4, e5⟩ := h.up p hm
  have hs := (List.getElem?_eq_some_iff.1 e3).1
  have hack : x.b.acked p.ack = x.b := by
    unfold End.acked
    rw [if_neg (fun hh => by have := hh.2; rw [h.bout] at this; revert this; simp [gonePos])]
  have hne : ¬ (p.ep ≠ x.b.ep ∨ (p.seq = x.b.want ∧ 16777216 ≤ x.b.want + 1)) := by
    rw [e1, h.bep, h.bwant]
    rintro (hh | ⟨_, hh⟩)
    · exact hh rfl
    · omega
  have hpos : decide (0 < p.seq) = true := decide_eq_true (by rw [e4]; omega)
  have hcut : cutOut x.up 0 = l := by rw [hu]; rfl
  have hc : x.comes 0 false false = { x with up := l, b := (x.b.take p).1, ok := x.ok && decide ((x.b.take p).2.2.2 = 0) && (!(x.b.take p).2.2.1 || decide ((x.b.take p).2.1.length = 1)), told := if (x.b.take p).2.2.1 && (x.ok && decide ((x.b.take p).2.2.2 = 0) && (!(x.b.take p).2.2.1 || decide ((x.b.take p).2.1.length = 1))) then x.told ++ (x.b.take p).2.1.take 1 else x.told } := by
    unfold Pair.comes
    simp only [Bool.false_eq_true, if_false]
    have hg : x.up[Int.toNat 0]? = some p := by rw [hu]; rfl
    rw [hg]
    simp only [show Int.toNat 0 = 0 from rfl, hcut]
    rw [if_neg (by omega)]
  refine ⟨by rw [hc]; exact h.comesU h0 h1 hp hm l (fun q hq => by rw [hu]; exact List.mem_cons_of_mem _ hq), by rw [hc], by rw [hc], by rw [hc], ?_, ?_⟩
  all_goals rw [hc]
  all_goals by_cases hst : s = x.told.length
  · intro hg
    subst hst
    have ht : x.b.take p = (((x.b.acked p.ack).owes (decide (0 < p.seq))).next, p.body, true, 0) := by
      unfold End.take
      rw [hb, hpm, if_pos (show (true && true) = true from rfl), if_neg hne, if_neg (by rw [e4, h.bwant]; simp)]
    rw [ht, hack, hpos, e5]
    simp only [hok]
    refine ⟨?_, ?_⟩
    · show k < (x.told ++ [b]).length
      rw [List.length_append]; have := hg.1; omega
    · show (x.b.owe || true) = true
      simp
  · intro hg
    have ht : x.b.take p = ((x.b.acked p.ack).owes (decide (0 < p.seq)), [], false, 0) := by
      unfold End.take
      rw [hb, hpm, if_pos (show (true && true) = true from rfl), if_neg hne, if_pos (by rw [e4, h.bwant]; omega)]
    rw [ht, hack, hpos]
    simp only [hok]
    refine ⟨hg.1, ?_⟩
    show (x.b.owe || true) = true
    simp
  · intro hq
    subst hst
    have ht : x.b.take p = (((x.b.acked p.ack).owes (decide (0 < p.seq))).next, p.body, true, 0) := by
      unfold End.take
      rw [hb, hpm, if_pos (show (true && true) = true from rfl), if_neg hne, if_neg (by rw [e4, h.bwant]; simp)]
    rw [ht, hack, hpos, e5]
    simp only [hok]
    refine ⟨?_, ?_⟩
    · show k < (x.told ++ [b]).length
      rw [List.length_append]; simp; omega
    · show (x.b.owe || true) = true
      simp
  · intro hq
    have ht : x.b.take p = ((x.b.acked p.ack).owes (decide (0 < p.seq)), [], false, 0) := by
      unfold End.take
      rw [hb, hpm, if_pos (show (true && true) = true from rfl), if_neg hne, if_pos (by rw [e4, h.bwant]; omega)]
    rw [ht, hack, hpos]
    simp only [hok]
    refine ⟨?_, ?_⟩
    · show k < x.told.length
      rw [e4] at hq
      omega
    · show (x.b.owe || true) = true
      simp
theorem Inv.drainU (h0 : 0 ≤ ep) (h1 : ep < 2147483648) : ∀ (n : Nat) {x : Pair}, Inv ep k x → x.put.length ≤ 1000 → x.up.length ≤ n →
    Inv ep k (Pair.drain n false x) ∧ (Pair.drain n false x).up = [] ∧ (Pair.drain n false x).down = x.down ∧ (Pair.drain n false x).put = x.put ∧ ((Good k x ∨ ∃ p ∈ x.up, p.seq = ((k + 1 : Nat) : Int)) → Good k (Pair.drain n false x))
  | 0, x, h, hp, hl => by
    have hu : x.up = [] := List.eq_nil_of_length_eq_zero (by omega)
    refine ⟨h, hu, rfl, rfl, ?_⟩
    rintro (hg | ⟨p, hm, _⟩)
    · exact hg
    · rw [hu] at hm; cases hm
  | n + 1, x, h, hp, hl => by
    unfold Pair.drain
    simp only [Bool.false_eq_true, if_false]
    cases hu : x.up with
    | nil =>
      rw [if_pos (by simp)]
      refine ⟨h, hu, rfl, rfl, ?_⟩
      rintro (hg | ⟨p, hm, _⟩)
      · exact hg
      · cases hm
    | cons p l =>
      rw [if_neg (by simp)]
      obtain ⟨a1, a2, a3, a4, a5, a6⟩ := h.upOne h0 h1 hp hu
      obtain ⟨b1, b2, b3, b4, b5⟩ := Inv.drainU h0 h1 n a1 (by rw [a4]; exact hp) (by rw [a2]; rw [hu] at hl; simpa using hl)
      refine ⟨b1, b2, b3.trans a3, b4.trans a4, ?_⟩
      rintro (hg | ⟨q, hm, hq⟩)
      · exact b5 (.inl (a5 hg))
      · rcases List.mem_cons.1 hm with rfl | hm
        · exact b5 (.inl (a6 hq))
        · exact b5 (.inr ⟨q, by rw [a2]; exact hm, hq⟩)
theorem Inv.downOne (h : Inv ep k x) (h0 : 0 ≤ ep) (h1 : ep < 2147483648) (hp : x.put.length ≤ 1000) {p : Pk} {l : List Pk} (hd : x.down = p :: l) :
    (∃ k', k ≤ k' ∧ p.ack ≤ (k' : Int) ∧ Inv ep k' (x.comes 0 true false)) ∧ (x.comes 0 true false).down = l ∧ (x.comes 0 true false).up = x.up ∧ (x.comes 0 true false).put = x.put := by
  have hm : p ∈ x.down := by rw [hd]; exact List.mem_cons_self
  have hcut : cutOut x.down 0 = l := by rw [hd]; rfl
  have hc : x.comes 0 true false = { x with down := l, a := (x.a.take p).1, ok := x.ok && decide ((x.a.take p).2.2.2 = 0) && !(x.a.take p).2.2.1 } := by
    unfold Pair.comes
    simp only [Bool.false_eq_true, if_false, if_true]
    have hg : x.down[Int.toNat 0]? = some p := by rw [hd]; rfl
    rw [hg]
    simp only [show Int.toNat 0 = 0 from rfl, hcut]
    rw [if_neg (by omega)]
  refine ⟨by rw [hc]; exact h.comesD h0 h1 hp hm l (fun q hq => by rw [hd]; exact List.mem_cons_of_mem _ hq), by rw [hc], by rw [hc], by rw [hc]⟩
theorem Inv.drainD (h0 : 0 ≤ ep) (h1 : ep < 2147483648) : ∀ (n : Nat) {k : Nat} {x : Pair}, Inv ep k x → x.put.length ≤ 1000 → x.down.length ≤ n →
    ∃ k', k ≤ k' ∧ (∀ p ∈ x.down, p.ack ≤ (k' : Int)) ∧ Inv ep k' (Pair.drain n true x) ∧ (Pair.drain n true x).up = x.up ∧ (Pair.drain n true x).down = [] ∧ (Pair.drain n true x).put = x.put
  | 0, k, x, h, hp, hl => by
    have hu : x.down = [] := List.eq_nil_of_length_eq_zero (by omega)
    exact ⟨k, Nat.le_refl _, (fun p hm => by rw [hu] at hm; cases hm), h, rfl, hu, rfl⟩
  | n + 1, k, x, h, hp, hl => by
    unfold Pair.drain
    simp only [if_true]
    cases hu : x.down with
    | nil =>
      rw [if_pos (by simp)]
      exact ⟨k, Nat.le_refl _, (fun p hm => by cases hm), h, rfl, hu, rfl⟩
    | cons p l =>
      rw [if_neg (by simp)]
      obtain ⟨⟨k1, a1, a2, a3⟩, a4, a5, a6⟩ := h.downOne h0 h1 hp hu
      obtain ⟨k2, b1, b2, b3, b4, b5, b6⟩ := Inv.drainD h0 h1 n a3 (by rw [a6]; exact hp) (by rw [a4]; rw [hu] at hl; simpa using hl)
      refine ⟨k2, by omega, fun q hm => ?_, b3, b4.trans a5, b5, b6.trans a6⟩
      rcases List.mem_cons.1 hm with rfl | hm
      · omega
      · exact b2 q (by rw [a4]; exact hm)
theorem sends_put (x : Pair) (s t : Bool) : (x.sends s t).put = x.put := by
  unfold Pair.sends
  cases s <;> rfl
/-- A round. -/
theorem Inv.round (h : Inv ep k x) (h0 : 0 ≤ ep) (h1 : ep < 2147483648) (hp : x.put.length ≤ 1000) (hu : x.up.length ≤ 490) (hd : x.down.length ≤ 490) :
    ∃ k', (k < x.put.length → k < k') ∧ k ≤ k' ∧ Inv ep k' x.round ∧ x.round.up = [] ∧ x.round.down = [] ∧ x.round.put = x.put := by
  have i1 := h.sends h0 h1 hp false false
  have p1 := sends_put x false false
  have l1 := sends_len x false false
  obtain ⟨i2, u2, d2, p2, g2⟩ := Inv.drainU h0 h1 500 i1 (by rw [p1]; exact hp) (by omega)
  have i3 := i2.sends h0 h1 (by rw [p2, p1]; exact hp) true false
  have p3 := sends_put (Pair.drain 500 false (x.sends false false)) true false
  have l3 := sends_len (Pair.drain 500 false (x.sends false false)) true false
  obtain ⟨k', c1, c2, c3, c4, c5, c6⟩ := Inv.drainD h0 h1 500 i3 (by rw [p3, p2, p1]; exact hp) (by rw [d2] at l3; omega)
  have hup : ((Pair.drain 500 false (x.sends false false)).sends true false).up = (Pair.drain 500 false (x.sends false false)).up := by
    unfold Pair.sends; rfl
  refine ⟨k', fun hk => ?_, c1, c3, ?_, c5, ?_⟩
  · have hg : Good k (Pair.drain 500 false (x.sends false false)) := by
      apply g2
      refine .inr ⟨sendOf x.a ⟨((k + 1 : Nat) : Int), [x.put[k]]⟩, ?_, rfl⟩
      have e : (x.sends false false).up = x.up ++ x.a.sendL := by
        have e1 : x.a.sent = (x.a.rest, x.a.sendL, 0) := by unfold End.sent; rw [if_pos (h.amay h0 h1 hp)]
        unfold Pair.sends
        simp only [Bool.false_eq_true, if_false, e1]
      rw [e]
      apply List.mem_append_right
      unfold End.sendL
      apply List.mem_append_left
      apply List.mem_map_of_mem
      have hd : x.put.drop k = x.put[k] :: x.put.drop (k + 1) := List.drop_eq_getElem_cons hk
      rw [h.aout, hd, items, List.take_succ_cons]
      exact List.mem_cons_self
    have hb2 := i2.bmay h0 h1 (by rw [p2, p1]; exact hp)
    generalize hX : Pair.drain 500 false (x.sends false false) = X at *
    have e1 : X.b.sent = (X.b.rest, X.b.sendL, 0) := by unfold End.sent; rw [if_pos hb2]
    have hm : (⟨X.b.ep, 0, X.b.want - 1, []⟩ : Pk) ∈ (X.sends true false).down := by
      unfold Pair.sends
      simp only [if_true, Bool.false_eq_true, if_false, e1]
      apply List.mem_append_right
      unfold End.sendL
      rw [i2.bout, hg.2]
      simp
    have := c2 _ hm
    have hw : X.b.want - 1 = (X.told.length : Int) := by rw [i2.bwant]; omega
    have hgl := hg.1
    have : X.b.want - 1 ≤ (k' : Int) := this
    omega
  · show (Pair.drain 500 true _).up = []
    rw [c4, hup, u2]
  · exact c6.trans (p3.trans (p2.trans p1))
/-- Rounds. -/
def Pair.rounds : Nat → Pair → Pair
  | 0, x => x
  | n + 1, x => Pair.rounds n x.round
theorem Inv.done (h : Inv ep k x) (hk : x.put.length ≤ k) : x.told = x.put ∧ x.a.out = [] := by
  have h1 := h.kt
  have h2 := h.tp
  have h3 := h.told
  refine ⟨?_, ?_⟩
  · rw [h3, List.take_of_length_le (by omega)]
  · rw [h.aout, List.drop_of_length_le hk]; rfl
/-- A deed. -/
def Pair.does (x : Pair) (kind : UInt8) (n : Int) : Pair := match kind.toNat with
  | 0 => x.puts (UInt8.ofNat (n % 256).toNat)
  | 1 => x.sends false false
  | 2 => x.sends true false
  | 3 => x.comes n false false
  | 4 => x.comes n true false
  | 5 => x.lost n false
  | 6 => x.lost n true
  | 7 => x.comes n false true
  | 8 => x.comes n true true
  | 9 => x.sends false true
  | 10 => x.sends true true
  | _ => x
theorem comes_put (x : Pair) (n : Int) (d l : Bool) : (x.comes n d l).put = x.put := by
  unfold Pair.comes
  simp only
  split
  · rfl
  · split
    · rfl
    · cases d <;> rfl
theorem lost_put (x : Pair) (n : Int) (d : Bool) : (x.lost n d).put = x.put := by
  unfold Pair.lost
  cases d <;> simp only [Bool.false_eq_true, if_false, if_true] <;> split <;> rfl
theorem does_len (x : Pair) (kind : UInt8) (n : Int) : (x.does kind n).put.length ≤ x.put.length + 1 ∧ (x.does kind n).up.length ≤ x.up.length + 4 ∧ (x.does kind n).down.length ≤ x.down.length + 4 := by
  have hs := fun s t => And.intro (sends_put x s t) (sends_len x s t)
  have hc := fun d l => And.intro (comes_put x n d l) (comes_len x n d l)
  have hl := fun d => And.intro (lost_put x n d) (lost_len x n d)
  have hp := puts_len x (UInt8.ofNat (n % 256).toNat)
  unfold Pair.does
  split
  · rw [hp.1, hp.2.1]; omega
  · have := hs false false; rw [this.1]; omega
  · have := hs true false; rw [this.1]; omega
  · have := hc false false; rw [this.1]; omega
  · have := hc true false; rw [this.1]; omega
  · have := hl false; rw [this.1]; omega
  · have := hl true; rw [this.1]; omega
  · have := hc false true; rw [this.1]; omega
  · have := hc true true; rw [this.1]; omega
  · have := hs false true; rw [this.1]; omega
  · have := hs true true; rw [this.1]; omega
  · omega
theorem Inv.does (h : Inv ep k x) (h0 : 0 ≤ ep) (h1 : ep < 2147483648) (hp : x.put.length < 1000) (kind : UInt8) (n : Int) : ∃ k', k ≤ k' ∧ Inv ep k' (x.does kind n) := by
  unfold Pair.does
  split
  · exact ⟨k, Nat.le_refl _, h.puts h0 h1 hp _⟩
  · exact ⟨k, Nat.le_refl _, h.sends h0 h1 (by omega) _ _⟩
  · exact ⟨k, Nat.le_refl _, h.sends h0 h1 (by omega) _ _⟩
  · exact h.comes h0 h1 (by omega) _ _ _
  · exact h.comes h0 h1 (by omega) _ _ _
  · exact ⟨k, Nat.le_refl _, h.lost _ _⟩
  · exact ⟨k, Nat.le_refl _, h.lost _ _⟩
  · exact h.comes h0 h1 (by omega) _ _ _
  · exact h.comes h0 h1 (by omega) _ _ _
  · exact ⟨k, Nat.le_refl _, h.sends h0 h1 (by omega) _ _⟩
  · exact ⟨k, Nat.le_refl _, h.sends h0 h1 (by omega) _ _⟩
  · exact ⟨k, Nat.le_refl _, h⟩
end Go.Proofs.Ytbemomagabjbnaa
