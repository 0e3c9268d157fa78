/-
  labels: Meet, by itself: where it fails (D).
-/
import Derived.Test.YtakaojjlfcmphaaTtA
import Derived.WalkKit
import Derived.WalkSpells
import Derived.WalkLawsBesides
import Derived.Defers
import Derived.Recover
import Derived.Below
import Derived.Laws.NewBlocks
set_option linter.unusedSimpArgs false
set_option linter.unusedVariables false
namespace Go.Proofs.Ytakaojjlfcmphaa
open Go.RowKit

set_option maxRecDepth 100000
set_option maxHeartbeats 3200000 in
theorem zW1 (a c b d m : Int) (pa pb : Nat) (w : World) (ha : w.heap[pa]? = some (.cells #[.int .u8 a, .int .u32 c] 25 (0, 0))) (hb : w.heap[pb]? = some (.cells #[.int .u8 b, .int .u32 d] 25 (0, 0))) (h1 : ¬ 15 < a) (h2 : 15 < b) (hm : m = if b < a then b else a) : Calls Try.prog 22 #[.agg #[.int .u8 a, .int .u32 c], .agg #[.int .u8 b, .int .u32 d], .func (.func 23) #[] #[.pointer (some ⟨pa, 0, none⟩), .pointer (some ⟨pb, 0, none⟩)]] w fun e w' => e = .returned (.tuple #[.agg #[.int .u8 0, .int .u32 0], .int .i64 8]) ∧ Below w.heap.size w w' := by
  have hmf : ∀ (fn : Fn) (first cap : Array Value) (w : World), (Instr.makeFunc fn first cap).run Try.prog w = .ok (.func fn first cap) w := fun _ _ _ _ => rfl
  have la : pa < w.heap.size := (Array.getElem?_eq_some_iff.1 ha).1
  have lb : pb < w.heap.size := (Array.getElem?_eq_some_iff.1 hb).1
  have a0 := zCT (show w.cell? ⟨pa, 0, none⟩ = some (.int .u8 a) by simp [World.cell?, ha]) la
  have a1 := zCT (show w.cell? ⟨pa, 1, none⟩ = some (.int .u32 c) by simp [World.cell?, ha]) la
  have b0 := zCT (show w.cell? ⟨pb, 0, none⟩ = some (.int .u8 b) by simp [World.cell?, hb]) lb
  have b1 := zCT (show w.cell? ⟨pb, 1, none⟩ = some (.int .u32 d) by simp [World.cell?, hb]) lb
  have hdo := fun w' x0 x1 y0 y1 => zIR a c b d m pa pb w' x0 x1 y0 y1 hm
  clear hm
  go_enter_defers Try.func22, Try.ntmps22
  go_wp2_with (fail)
  go_region_calls
  all_goals go_wp2_with (fail)
  all_goals refine wp_region_any (by kernel_rfl) ?_
  all_goals change wpAny _ _ _ _ _ _ _ (World.drew _)
  all_goals repeat' (first
    | exact AllReady.nil
    | refine wpAny_done (by decide +kernel) ?_ _
    | refine wpAny_ready (rs := [0, 2]) (by decide +kernel) (by simp) ?_
    | refine wpAny_ready (rs := [1, 2]) (by decide +kernel) (by simp) ?_
    | refine wpAny_ready (rs := [0]) (by decide +kernel) (by simp) ?_
    | refine wpAny_ready (rs := [1]) (by decide +kernel) (by simp) ?_
    | refine wpAny_ready (rs := [2]) (by decide +kernel) (by simp) ?_
    | refine wpAny_ready (rs := [2, 3]) (by decide +kernel) (by simp) ?_
    | refine wpAny_ready (rs := [3]) (by decide +kernel) (by simp) ?_
    | refine wpAny_ready (rs := [4]) (by decide +kernel) (by simp) ?_
    | (refine AllReady.cons rfl (fun K hK => ?_) ?_; go_simp; refine hK _ _ ?_; clear hK K)
    | (refine AllReady.cons rfl (fun K hK => ?_) ?_; go_simp; refine (hdo _ (fun o => by simp [go_sem, a0]) (fun o => by simp [go_sem, a1]) (fun o => by simp [go_sem, b0]) (fun o => by simp [go_sem, b1])).mono ?_; rintro e w1 ⟨rfl, rfl⟩; refine hK _ _ ?_; clear hK K))
  all_goals go_wp2
  all_goals refine leaves_cons (f := 42) (args := #[.pointer (some ⟨w.heap.size + 1 + 1 + 1, 0, none⟩), .pointer (some ⟨w.heap.size + 1 + 1, 0, none⟩)]) (by simp) (by simp [go_sem]) ?_
  all_goals refine (zLC ⟨w.heap.size + 1 + 1 + 1, 0, none⟩ (w.heap.size + 1 + 1) 8 (.int .u8 m) (.int .u32 (bits .and .u32 c d)) _ (by simp [go_sem]) (by decide) (by simp [go_sem]) (by simp [go_sem]) (by simp [go_sem]) (by simp [go_sem])).mono ?_
  all_goals rintro e u' w2 ⟨rfl, rfl, rfl⟩
  all_goals simp [Leaves, settle, results, Try.results22, go_sem]
  all_goals repeat' (first | exact Below.refl _ _ | refine Below.drew ?_ | refine Below.alloc ?_ (by simp [go_sem] <;> omega) _ | refine Below.setCell ?_ (by simp [go_sem] <;> omega) _)
end Go.Proofs.Ytakaojjlfcmphaa
