/-
  labels: Meet is what the executor has; the table is the program's.
-/
import Derived.Test.YtakaojjlfcmphaaTtE
import Derived.Below
import Derived.Test.YtakaojjlfcmphaaEf
import Derived.Test.YtakaojjlfcmphaaPc
set_option linter.unusedSimpArgs false
set_option linter.unusedVariables false
set_option maxRecDepth 100000
namespace Go.Proofs.Ytakaojjlfcmphaa
open Go Go.Ax Go.RowKit

theorem zMS {f : Nat → Option Obj} {x y : Value} {vs : List Value} (h : FRels f [.sc x, .sc y] vs) : vs = [x, y] := by
  cases h with
  | cons a b =>
    cases a
    cases b with
    | cons a b => cases a; cases b; rfl
theorem zWI {f : Nat → Option Obj} {x1 x2 y1 y2 : Value} {vs : Array Value} (h : FRels f [.agg [.sc x1, .sc x2], .agg [.sc y1, .sc y2]] vs.toList) : vs = #[.agg #[x1, x2], .agg #[y1, y2]] := by
  cases hv : vs.toList with
  | nil => rw [hv] at h; cases h
  | cons v tl =>
    rw [hv] at h
    cases h with
    | cons a b =>
      cases a with
      | agg ha =>
        rename_i c1
        have e1 : c1 = #[x1, x2] := by apply Array.ext'; rw [zMS ha]
        cases b with
        | cons a b =>
          cases b
          cases a with
          | agg hb =>
            rename_i c2
            have e2 : c2 = #[y1, y2] := by apply Array.ext'; rw [zMS hb]
            apply Array.ext'
            rw [hv, e1, e2]
theorem zaR (μ : Inj) (x y z : Value) : VRel μ (.tup [.agg [.sc x, .sc y], .sc z]) (.tuple #[.agg #[x, y], z]) := .tup (.cons (.agg (.cons (.sc _) (.cons (.sc _) .nil))) (.cons (.sc _) .nil))
theorem zSB (c d : Int) : bits .and .u32 c d = andI c d := rfl
theorem zX2 : zRU Glob.any Try.prog 7 zFX := by
  intro args r hg h w vs hh _ hv
  unfold zFX at hg
  split at hg
  · rename_i a c b d
    obtain rfl := zWI hv
    have fin : ∀ (e : Ending) (w' : World) (x y z : Value), e = .returned (.tuple #[.agg #[x, y], z]) ∧ Below w.heap.size w w' → r = .tup [.agg [.sc x, .sc y], .sc z] → ∃ v, e = .returned v ∧ (∀ μ, VRel μ r v) ∧ Keeps w w' := by
      rintro e w' x y z ⟨he, hB⟩ rfl
      exact ⟨_, he, fun μ => zaR μ x y z, ⟨hB.size, fun b hb => hB.block b hb, hB.os, hB.tape, hB.output⟩⟩
    by_cases h1 : 15 < a <;> by_cases h2 : 15 < b
    · simp only [h1, decide_true, Bool.true_or, Option.some.injEq] at hg
      exact (zX0 a c b d _ w h1 h2 rfl).mono fun e w' hw => fin e w' _ _ _ hw hg.symm
    · simp only [h1, decide_true, Bool.true_or, Option.some.injEq] at hg
      exact (zX1 a c b d _ w h1 h2 rfl).mono fun e w' hw => fin e w' _ _ _ hw hg.symm
    · simp only [h2, decide_true, Bool.or_true, Option.some.injEq] at hg
      exact (zX3 a c b d _ w h1 h2 rfl).mono fun e w' hw => fin e w' _ _ _ hw hg.symm
    · simp only [h1, h2, decide_false, Bool.or_self, Option.some.injEq] at hg
      exact (zZL a c b d _ w h1 h2 rfl).mono fun e w' hw => fin e w' _ _ _ (by rw [zSB] at hw; exact hw) hg.symm
  · cases hg
theorem tabOK : zNQ Glob.any Try.prog (fsT tbl) := zXW (xs := [7]) zaO (by kernel_rfl) fun f hf => by
  rw [List.mem_singleton] at hf
  subst hf
  exact ⟨Try.f7, zFX, by kernel_rfl, Try.func7, by kernel_rfl, by kernel_rfl, zX2⟩
end Go.Proofs.Ytakaojjlfcmphaa
