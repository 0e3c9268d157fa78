/-
  runes: Text is what the executor takes it for, in a program that has slices.Insert.
-/
import Derived.Test.YtliicocdhkcanaaGreatRzT
import Derived.Test.YtliicocdhkcanaaGreatRzA
import Derived.Test.YtliicocdhkcanaaGreatTcK
import Derived.Test.YtliicocdhkcanaaGreatIn
import Derived.Test.YtliicocdhkcanaaGreatEg
set_option linter.unusedSimpArgs false
set_option linter.unusedVariables false
set_option maxRecDepth 100000
namespace Go.Proofs.YtliicocdhkcanaaGreat.X
open Go Go.Ax Go.RowKit

theorem zIZ : ∀ {cs : List AV} {l : List Int}, i32s cs = some l → cs = l.map I32 ∧ ∀ x ∈ l, -2147483648 ≤ x ∧ x ≤ 2147483647
  | [], l, h => by simp only [i32s, Option.some.injEq] at h; subst h; exact ⟨rfl, by simp⟩
  | c :: cs, l, h => by
    unfold i32s at h
    split at h
    · cases ‹_ = ([] : List AV)›
    · rename_i n tl he
      cases he
      split at h
      · rename_i m hm
        split at h
        · rename_i hb
          simp only [Option.some.injEq] at h
          subst h
          obtain ⟨h1, h2⟩ := zIZ hm
          simp only [Bool.and_eq_true, decide_eq_true_eq] at hb
          refine ⟨by rw [h1]; rfl, ?_⟩
          intro x hx
          rcases List.mem_cons.1 hx with rfl | hx
          · exact hb
          · exact h2 x hx
        · cases h
      · cases h
    · cases h
theorem zaD {a : AV} {l : List Int} (h : row32 a = some l) : Sl 1 K.isI32 a l := by
  unfold row32 at h
  split at h
  · cases h; exact .inl ⟨rfl, rfl⟩
  · rename_i cs len cap st
    split at h
    · rename_i hc
      simp only [Bool.and_eq_true] at hc
      have h1 := Nat.eq_of_beq_eq_true hc.1
      have h2 := Nat.eq_of_beq_eq_true hc.2
      obtain ⟨k1, k2⟩ := zIZ h
      subst h2 h1 k1
      refine .inr ⟨l.map fun x => [I32 x], cap, ?_, ?_, ?_⟩
      · have e : ∀ m : List Int, (m.map fun x => [I32 x]).flatten = m.map I32 := fun m => by
          induction m with
          | nil => rfl
          | cons x m ih => simp [ih]
        rw [e, List.length_map, List.length_map]
      · have : ∀ m : List Int, (∀ x ∈ m, -2147483648 ≤ x ∧ x ≤ 2147483647) → All2 K.isI32 (m.map fun x => [I32 x]) m := by
          intro m
          induction m with
          | nil => intro _; exact .nil
          | cons x m ih => intro hm; exact .cons ⟨rfl, (hm x (by simp)).1, (hm x (by simp)).2⟩ (ih fun y hy => hm y (by simp [hy]))
        exact this l k2
      · intro r hr
        simp only [List.mem_map] at hr
        obtain ⟨x, _, rfl⟩ := hr; rfl
    · cases h
  · cases h
theorem text_ok (Γ : Glob) : zXD Γ Tryz.prog 78 extText := by
  intro args r hg h w vs hh hG hv
  unfold extText at hg
  split at hg
  rotate_left
  · cases hg
  rename_i a m
  split at hg
  rotate_left
  · cases hg
  rename_i hm
  have hm := Nat.le_of_ble_eq_true hm
  split at hg
  rotate_left
  · cases hg
  rename_i l hl
  cases hg
  have hS := zaD hl
  have hv2 := FRels.mono hh hv
  cases hv0 : vs.toList with
  | nil => rw [hv0] at hv; cases hv
  | cons v tl =>
    rw [hv0] at hv hv2
    cases hv with
    | cons ha hb =>
      cases hb with
      | cons hb hc =>
        cases hc
        cases hb
        obtain rfl : vs = #[v, .string m] := by
          apply Array.ext'
          rw [hv0]
        cases hv2 with
        | cons ha2 _ =>
        have ck := zeE insOK K.tabOK (K.check_run (fuel := 1001) (d := 0) hS (by omega) mem0) w (vs := #[v]) (.cons ha2 .nil) trivial
        have fin : ∀ (ao : Option Addr) (cap : Nat), v = .slice ao l.length cap → l.length ≤ cap →
            (∀ k, k < l.length → ∃ b off, ao = some ⟨b, off, none⟩ ∧ b < w.heap.size ∧ w.cell? ⟨b, off + k, none⟩ = some (.int .i32 (l[k]?.getD 0)) ∧ -2147483648 ≤ l[k]?.getD 0 ∧ l[k]?.getD 0 ≤ 2147483647) →
            Calls Tryz.prog 78 #[v, .string m] w fun e w' => ∃ x, e = .returned x ∧ (∀ μ, VRel μ (zeS m.data.toList l) x) ∧ Keeps w w' := by
          rintro ao cap rfl hcp hr
          refine (zX0 ao cap l m w hm hcp hr ck).mono fun e w' ⟨he, hB⟩ => ⟨_, he, fun μ => ?_, ⟨hB.size, fun b hb => hB.block b hb, hB.os, hB.tape, hB.output⟩⟩
          unfold zeS
          split
          · rename_i h0
            rw [if_pos (by rw [h0]; rfl)]
            exact .tup (.cons (.sc _) (.cons (.sc _) .nil))
          · rename_i h0
            have h1 : ¬ chk l = 0 := fun e => h0 e
            rw [if_neg h1]
            exact .tup (.cons (.sc _) (.cons (.sc _) .nil))
        unfold row32 at hl
        split at hl
        · cases hl
          cases ha
          exact fin none 0 rfl (Nat.le_refl _) fun k hk => by simp at hk
        · rename_i cs len cap st
          split at hl
          rotate_left
          · cases hl
          rename_i hc
          simp only [Bool.and_eq_true] at hc
          have h1 := Nat.eq_of_beq_eq_true hc.1
          obtain ⟨k1, k2⟩ := zIZ hl
          have hlen : cs.length = l.length := by rw [k1]; simp
          cases ha with
          | @pv _ c e r _ _ b o c' _ hb hsz hcs _ hlc _ =>
            obtain rfl : len = l.length := by omega
            refine fin (some ⟨b, o, none⟩) c' rfl hlc fun k hk => ⟨b, o, rfl, ?_, ?_, ?_⟩
            · exact (Array.getElem?_eq_some_iff.1 (hh _ _ hb)).1
            · have hw := hh _ _ hb
              rw [k1, show l.map I32 = (l.map fun x => Value.int .i32 x).map .sc by simp] at hcs
              have := FRels.plain hcs
              have hk2 : (c.toList.drop o)[k]? = some (.int .i32 (l[k]?.getD 0)) := by
                have e2 : ((c.toList.drop o).take (((l.map fun x => Value.int .i32 x).map AV.sc).length))[k]? = (c.toList.drop o)[k]? := by
                  rw [List.getElem?_take_of_lt (by simpa using hk)]
                rw [← e2, this, List.getElem?_map, List.getElem?_eq_getElem hk]; rfl
              rw [List.getElem?_drop, Array.getElem?_toList] at hk2
              simp only [World.cell?, hw]
              exact hk2
            · rw [List.getElem?_eq_getElem hk]
              exact k2 _ (List.getElem_mem hk)
          | pv0 _ =>
            have : l.length = 0 := by simpa using hlen.symm
            have hl0 : l = [] := List.eq_nil_of_length_eq_zero this
            subst hl0
            exact fin _ _ rfl (Nat.zero_le _) fun k hk => by simp at hk
        · cases hl
end Go.Proofs.YtliicocdhkcanaaGreat.X
