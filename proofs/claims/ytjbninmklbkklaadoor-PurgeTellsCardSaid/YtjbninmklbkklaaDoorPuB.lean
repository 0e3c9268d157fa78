/-
  purge: what is asked of the package variable; the table is the program's.
-/
import Derived.Test.YtjbninmklbkklaaDoorTc
import Derived.Test.YtjbninmklbkklaaDoorPuA
import Derived.Below
set_option linter.unusedSimpArgs false
set_option linter.unusedVariables false
namespace Go.Proofs.YtjbninmklbkklaaDoor
open Go Go.Ax Go.RowKit

/-- The variable holds a map that has 17 to 20. -/
def ownG : Glob := ⟨fun h => ∃ m e r es clock, h 0 = some (.cells #[.map (some m)] e r) ∧ h m = some (.map es clock) ∧ ∀ wr : World, wr.heap[m]? = some (.map es clock) →
    ∀ k : Int, 0 ≤ k → k ≤ 255 → ∃ v, (Instr.lookup 79 (.map (some m)) (.int .u8 k) true).run Tryd.prog wr = .ok (.tuple #[v, .bool (decide (17 ≤ k) && decide (k ≤ 20))]) wr,
  fun f f' hf ⟨m, e, r, es, clock, h1, h2, h3⟩ => ⟨m, e, r, es, clock, hf _ _ h1, hf _ _ h2, h3⟩⟩

theorem FRels.len {f : Nat → Option Obj} : ∀ {l : List AV} {vs : List Value}, FRels f l vs → vs.length = l.length
  | _, _, .nil => rfl
  | _, _, .cons _ b => by simp [FRels.len b]

theorem handles_ok : ExtOK ownG Tryd.prog 39 extHandles := by
  intro args r hg h w vs hh hG hv
  unfold extHandles at hg
  split at hg
  · rename_i k l
    split at hg
    · rename_i hc
      cases hg
      simp only [Bool.and_eq_true, decide_eq_true_eq] at hc
      obtain ⟨⟨hc1, hc2⟩, hc3⟩ := hc
      have hc1 := Nat.eq_of_beq_eq_true hc1
      obtain ⟨m, e, rr, es, clock, g0, gm, hl⟩ := hG
      have w0 := hh _ _ g0
      have wm := hh _ _ gm
      cases hv0 : vs.toList with
      | nil => rw [hv0] at hv; cases hv
      | cons v tl =>
        rw [hv0] at hv
        cases hv with
        | cons a b =>
          cases b
          cases a with
          | agg hcs =>
            rename_i cs
            obtain rfl : vs = #[.agg cs] := by
              apply Array.ext'
              rw [hv0]
            have hn := FRels.len hcs
            simp only [List.length_cons, hc1, Array.length_toList] at hn
            have hk0 : cs[0]? = some (.int .u8 k) := by
              cases hcl : cs.toList with
              | nil => rw [hcl] at hcs; cases hcs
              | cons x xs =>
                rw [hcl] at hcs
                cases hcs with
                | cons a b =>
                  cases a
                  rw [← Array.getElem?_toList, hcl]; rfl
            have h0' : w.cell? ⟨0, 0, none⟩ = some (.map (some m)) := by simp [World.cell?, w0]
            have hlt : 0 < w.heap.size := (Array.getElem?_eq_some_iff.1 w0).1
            have hm : m < w.heap.size := (Array.getElem?_eq_some_iff.1 wm).1
            refine (handles_walk m cs k (decide (17 ≤ k) && decide (k ≤ 20)) w hn hk0 h0' hlt fun wr hB => hl wr (by rw [hB.block m hm]; exact wm) k hc2 hc3).mono fun e w' ⟨he, hB⟩ => ?_
            exact ⟨_, he, fun μ => .sc _, ⟨hB.size, fun b hb => hB.block b hb, hB.os, hB.tape, hB.output⟩⟩
    · cases hg
  · cases hg
theorem tabOK : TabOK ownG Tryd.prog (fsT tbl) := tab_msk tbl_eq fun f af hl hg => by
  have hf : f = 39 := by
    have key : ∀ i, (tbl.getD i none).any (fun a => Nat.beq a.gc 3) = true → i = 39 := by
      intro i hi
      by_cases h : i < tbl.length
      · have : (List.range tbl.length).all (fun i => !(tbl.getD i none).any (fun a => Nat.beq a.gc 3) || Nat.beq i 39) = true := by kernel_rfl
        rw [List.all_eq_true] at this
        have := this i (List.mem_range.2 h)
        rw [hi] at this
        simpa using Nat.eq_of_beq_eq_true (by simpa using this)
      · rw [List.getD_eq_getElem?_getD, List.getElem?_eq_none (by omega)] at hi
        cases hi
    apply key
    rw [List.getD_eq_getElem?_getD, hl]
    show Nat.beq af.gc 3 = true
    rw [hg]; rfl
  subst hf
  obtain rfl : af = a39 := by
    have h2 : tbl[39]? = some (some a39) := by kernel_rfl
    rw [h2] at hl
    exact (Option.some.inj (Option.some.inj hl)).symm
  exact ⟨Tryd.f39, Tryd.func39, by kernel_rfl, by kernel_rfl, _, rfl, handles_ok⟩
end Go.Proofs.YtjbninmklbkklaaDoor
