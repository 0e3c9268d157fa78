/-
  purge: handles, by itself: it reads a package variable.
-/
import Derived.Test.YtjbninmklbkklaaDoorProg
import Derived.WalkKit
import Derived.WalkSpells
import Derived.WalkLawsBesides
import Derived.Maps.OwnSet
import Derived.BigQuiet
import Derived.Deep.QuietTactic
set_option linter.unusedSimpArgs false
set_option linter.unusedVariables false
namespace Go.Proofs.YtjbninmklbkklaaDoor
open Go.RowKit

set_option maxRecDepth 100000 in
set_option maxHeartbeats 1600000 in
theorem handles_walk (m : Nat) (cs : Array Value) (k : Int) (has : Bool) (w : World) (hs : cs.size = 17) (hk : cs[0]? = some (.int .u8 k)) (h0 : w.cell? ⟨0, 0, none⟩ = some (.map (some m))) (hlt : 0 < w.heap.size)
    (hlook : ∀ wr : World, Below w.heap.size w wr → ∃ v, (Instr.lookup 79 (.map (some m)) (.int .u8 k) true).run Tryd.prog wr = .ok (.tuple #[v, .bool has]) wr) :
    Calls Tryd.prog 39 #[.agg cs] w fun e w' => e = .returned (.bool (!has)) ∧ Below w.heap.size w w' := by
  go_enter Tryd.func39, Tryd.ntmps39
  have hb : Below w.heap.size w (w.alloc (.cells cs 44)) := (Below.refl _ _).alloc (Nat.le_refl _) _
  obtain ⟨v, hv⟩ := hlook _ hb
  have hc0 : cs[0] = .int .u8 k := by
    rw [Array.getElem?_eq_getElem (by omega)] at hk
    exact Option.some.inj hk
  go_wp2
  go_ret
  exact ⟨rfl, hb⟩
end Go.Proofs.YtjbninmklbkklaaDoor
