/-
  purge: what the listed variable gives.
-/
import Derived.Test.YtjbninmklbkklaaDoorRows
import Derived.Test.YtjbninmklbkklaaDoorPuB
import Derived.ProofKit
import Derived.LaidMore
import Derived.OpenShut
import Derived.Stop.Joined
import Derived.Maps.OwnSet
set_option linter.unusedSimpArgs false
set_option linter.unusedVariables false
set_option maxRecDepth 100000
namespace Go.Proofs.YtjbninmklbkklaaDoor
open Go.ChangeShapes Go.WideShapes Go.ChangeAt Go.WideMaps Go.WideElems Go.RowKit Go.Maps Go.Ax

abbrev ownD : DataW Unit := Rows.laid_blindstamp_purge_own
abbrev laid1 : List (String × DataW Unit) := [("blindstamp/purge.own", ownD)]
theorem gOwn : Tryd.prog.globalNamed "blindstamp/purge.own" = some 0 := by kernel_rfl
theorem tOwn : (Tryd.prog.globals[0]?).map (·.type) = some 79 := by kernel_rfl
theorem law5 : Keyed Tryd.prog 5 := int_keyed Tryd.underlying5
/-- The door's own heap meets the condition. -/
theorem door_met (os : Os) (args : Array Value) : laidMetH Tryd.prog laid1 ((World.doorLaid Tryd.prog 400 os).forCall (fun _ _ => 0) ⟨#[], args, []⟩).memory :=
  laidMetH_of_parts3 (fuel := 8) (laidMet_of_run' 8 (by kernel_rfl) (by kernel_rfl)) (by kernel_rfl) (by kernel_rfl)
theorem has_own (k : Int) (h0 : 0 ≤ k) (h1 : k ≤ 255) : Maps.has ownD (.int .u8 k) = (decide (17 ≤ k) && decide (k ≤ 20)) := by
  obtain ⟨n, rfl⟩ : ∃ n : Nat, k = n := ⟨k.toNat, by omega⟩
  have hall : (List.range 256).all (fun n => Maps.has ownD (.int .u8 (n : Int)) == (decide (17 ≤ (n : Int)) && decide ((n : Int) ≤ 20))) = true := by kernel_rfl
  rw [List.all_eq_true] at hall
  exact eq_of_beq (hall n (List.mem_range.2 (by omega)))
/-- What the condition gives. -/
theorem of_laid {W : World} (h : laidMetH Tryd.prog laid1 W) : ownG.G fun b => W.heap[b]? := by
  rw [MakeChecks.laidMetH_plain _ _ _ (by kernel_rfl)] at h
  obtain ⟨ps, ⟨g0, t0, cs0, f0, p0, q0, hg0, ht0, hv0, hd0, hrest⟩, _, _⟩ := h
  obtain rfl := Option.some.inj (gOwn.symm.trans hg0)
  obtain rfl := Option.some.inj (tOwn.symm.trans ht0)
  rcases open_map Tryd.underlying79 hd0 with ⟨_, hx⟩ | ⟨bm, es, clock, m, rfl, hcs, hb, _, F, hx⟩
  · simp [ownD, Rows.laid_blindstamp_purge_own] at hx
  simp only [Prod.mk.injEq] at hx
  have hown := World.ownsMap_of_fit (R := plainElem Tryd.prog 4) hb F (fun x _ z hz => by
    obtain ⟨b, e1, e2⟩ := elemAt_bool Tryd.underlying4 hz
    rw [e1, e2]
    exact plainElem_bool Tryd.underlying4 b)
  rw [← hx.1] at hown
  have hcell : ∃ e r, W.heap[0]? = some (.cells #[.map (some bm)] e r) := by
    have hv := hv0
    unfold World.var? at hv
    rw [hg0] at hv
    simp only [Option.bind_some] at hv
    split at hv
    · rename_i c e r hc
      obtain rfl : c = cs0 := by simpa using hv
      exact ⟨e, r, by rw [hc, Array.eq_one_of_toList hcs]⟩
    · cases hv
  obtain ⟨e, r, hc⟩ := hcell
  refine ⟨bm, e, r, es, clock, hc, hb, fun wr hw k h0 h1 => ?_⟩
  obtain ⟨es', clock', hb', F', hle, hDD⟩ := hown
  have e' : es' = es ∧ clock' = clock := by
    rw [hb] at hb'
    injection hb' with hb'
    injection hb' with a b
    exact ⟨a.symm, b.symm⟩
  obtain ⟨rfl, rfl⟩ := e'
  have hown' : wr.ownsMap Tryd.prog 5 (plainElem Tryd.prog 4) bm es'.size ownD := ⟨es', clock', hw, F', hle, hDD⟩
  obtain ⟨v, ps', hrun, _⟩ := hown'.look_ok law5 Tryd.underlying79 (z := .bool false) (by kernel_rfl) (plainElem_bool Tryd.underlying4 false) (key := .int .u8 k) (kl := .int .u8 k) (keyOf_int_mk Tryd.underlying5 (by simp [Lit.wf, IntKind.min, IntKind.max, IntKind.signed, IntKind.bits]; omega))
  rw [has_own k h0 h1] at hrun
  exact ⟨v, hrun⟩
end Go.Proofs.YtjbninmklbkklaaDoor
