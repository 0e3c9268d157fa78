/-
  labels: Meet, by itself.
-/
import Derived.Test.YtakaojjlfcmphaaTtB
import Derived.Test.YtakaojjlfcmphaaTtC
import Derived.Test.YtakaojjlfcmphaaTtD
set_option linter.unusedSimpArgs false
set_option linter.unusedVariables false
set_option maxRecDepth 100000
namespace Go.Proofs.Ytakaojjlfcmphaa
open Go.RowKit

theorem zIY (w : World) (o1 o2 o3 : Obj) : (((w.alloc o1).alloc o2).alloc o3).heap[w.heap.size]? = some o1 := by
  rw [Below.heap_alloc _ _ _ (by simp [go_sem] <;> omega), Below.heap_alloc _ _ _ (by simp [go_sem])]
  show (w.heap.push o1)[w.heap.size]? = _
  simp
theorem zIZ (w : World) (o1 o2 o3 : Obj) : (((w.alloc o1).alloc o2).alloc o3).heap[w.heap.size + 1]? = some o2 := by
  rw [Below.heap_alloc _ _ _ (by simp [go_sem])]
  show ((w.heap.push o1).push o2)[w.heap.size + 1]? = _
  rw [Array.getElem?_push, if_pos (by simp)]
set_option maxHeartbeats 1600000 in
theorem zZL (a c b d m : Int) (w : World) (h1 : ¬ 15 < a) (h2 : ¬ 15 < b) (hm : m = if b < a then b else a) : Calls Try.prog 7 #[.agg #[.int .u8 a, .int .u32 c], .agg #[.int .u8 b, .int .u32 d]] w fun e w' => e = .returned (.tuple #[.agg #[.int .u8 m, .int .u32 (bits .and .u32 c d)], .int .i64 0]) ∧ Below w.heap.size w w' := by
  have hmf : ∀ (fn : Fn) (first cap : Array Value) (w : World), (Instr.makeFunc fn first cap).run Try.prog w = .ok (.func fn first cap) w := fun _ _ _ _ => rfl
  have hb := fun w' x y => zYM a c b d m w.heap.size (w.heap.size + 1) w' x y h1 h2 hm
  clear hm
  have b3 : ∀ o1 o2 o3, Below w.heap.size w (((w.alloc o1).alloc o2).alloc o3) := fun o1 o2 o3 => (((Below.refl _ _).alloc (Nat.le_refl _) _).alloc (by simp [go_sem]) _).alloc (by simp [go_sem] <;> omega) _
  go_enter Try.func7, Try.ntmps7
  go_wp2_with (
    go_at_call 22
    refine (hb _ (zIY _ _ _ _) (zIZ _ _ _ _)).mono ?_
    rintro e w1 ⟨rfl, hw⟩
    have hb1 := (b3 _ _ _).trans (hw.mono (by simp [go_sem] <;> omega))
    have c0 : w1.cell? ⟨w.heap.size + 1 + 1, 0, none⟩ = some (.int .u8 0) := (hw.cell (by simp [go_sem])).trans (by simp [go_sem])
    have c1 : w1.cell? ⟨w.heap.size + 1 + 1, 1, none⟩ = some (.int .u32 0) := (hw.cell (by simp [go_sem])).trans (by simp [go_sem])
    have f0 : w1.frozen? ⟨w.heap.size + 1 + 1, 0, none⟩ = false := (hw.frozen (by simp [go_sem])).trans (by simp [go_sem])
    have f1 : w1.frozen? ⟨w.heap.size + 1 + 1, 1, none⟩ = false := (hw.frozen (by simp [go_sem])).trans (by simp [go_sem]))
  all_goals
    refine bodyPost_ret (v := .tuple #[.agg #[.int .u8 m, .int .u32 (bits .and .u32 c d)], .int .i64 0]) ?_ rfl ⟨rfl, (hb1.setCell (by simp <;> omega) _).setCell (by simp <;> omega) _⟩
    have d0 : ∀ x y, ((w1.setCell ⟨w.heap.size + 1 + 1, 0, none⟩ x).setCell ⟨w.heap.size + 1 + 1, 1, none⟩ y).cell? ⟨w.heap.size + 1 + 1, 0, none⟩ = some x := fun x y => by
      rw [World.cell?_setCell_other _ _ _ _ (by simp)]
      exact World.cell?_setCell_same _ _ _ c0
    have d1 : ∀ x y, ((w1.setCell ⟨w.heap.size + 1 + 1, 0, none⟩ x).setCell ⟨w.heap.size + 1 + 1, 1, none⟩ y).cell? ⟨w.heap.size + 1 + 1, 1, none⟩ = some y := fun x y => World.cell?_setCell_same _ _ _ ((World.cell?_setCell_other _ _ _ _ (by simp)).trans c1)
    simp [results, Try.results7, go_sem, d0, d1]
set_option maxHeartbeats 1600000 in
theorem zX0 (a c b d m : Int) (w : World) (h1 : 15 < a) (h2 : 15 < b) (hm : m = if b < a then b else a) : Calls Try.prog 7 #[.agg #[.int .u8 a, .int .u32 c], .agg #[.int .u8 b, .int .u32 d]] w fun e w' => e = .returned (.tuple #[.agg #[.int .u8 0, .int .u32 0], .int .i64 8]) ∧ Below w.heap.size w w' := by
  have hmf : ∀ (fn : Fn) (first cap : Array Value) (w : World), (Instr.makeFunc fn first cap).run Try.prog w = .ok (.func fn first cap) w := fun _ _ _ _ => rfl
  have hb := fun w' x y => zVZ a c b d m w.heap.size (w.heap.size + 1) w' x y h1 h2 hm
  clear hm
  have b3 : ∀ o1 o2 o3, Below w.heap.size w (((w.alloc o1).alloc o2).alloc o3) := fun o1 o2 o3 => (((Below.refl _ _).alloc (Nat.le_refl _) _).alloc (by simp [go_sem]) _).alloc (by simp [go_sem] <;> omega) _
  go_enter Try.func7, Try.ntmps7
  go_wp2_with (
    go_at_call 22
    refine (hb _ (zIY _ _ _ _) (zIZ _ _ _ _)).mono ?_
    rintro e w1 ⟨rfl, hw⟩
    have hb1 := (b3 _ _ _).trans (hw.mono (by simp [go_sem] <;> omega))
    have c0 : w1.cell? ⟨w.heap.size + 1 + 1, 0, none⟩ = some (.int .u8 0) := (hw.cell (by simp [go_sem])).trans (by simp [go_sem])
    have c1 : w1.cell? ⟨w.heap.size + 1 + 1, 1, none⟩ = some (.int .u32 0) := (hw.cell (by simp [go_sem])).trans (by simp [go_sem])
    have f0 : w1.frozen? ⟨w.heap.size + 1 + 1, 0, none⟩ = false := (hw.frozen (by simp [go_sem])).trans (by simp [go_sem])
    have f1 : w1.frozen? ⟨w.heap.size + 1 + 1, 1, none⟩ = false := (hw.frozen (by simp [go_sem])).trans (by simp [go_sem]))
  all_goals
    refine bodyPost_ret (v := .tuple #[.agg #[.int .u8 0, .int .u32 0], .int .i64 8]) ?_ rfl ⟨rfl, (hb1.setCell (by simp <;> omega) _).setCell (by simp <;> omega) _⟩
    have d0 : ∀ x y, ((w1.setCell ⟨w.heap.size + 1 + 1, 0, none⟩ x).setCell ⟨w.heap.size + 1 + 1, 1, none⟩ y).cell? ⟨w.heap.size + 1 + 1, 0, none⟩ = some x := fun x y => by
      rw [World.cell?_setCell_other _ _ _ _ (by simp)]
      exact World.cell?_setCell_same _ _ _ c0
    have d1 : ∀ x y, ((w1.setCell ⟨w.heap.size + 1 + 1, 0, none⟩ x).setCell ⟨w.heap.size + 1 + 1, 1, none⟩ y).cell? ⟨w.heap.size + 1 + 1, 1, none⟩ = some y := fun x y => World.cell?_setCell_same _ _ _ ((World.cell?_setCell_other _ _ _ _ (by simp)).trans c1)
    simp [results, Try.results7, go_sem, d0, d1]
set_option maxHeartbeats 1600000 in
theorem zX1 (a c b d m : Int) (w : World) (h1 : 15 < a) (h2 : ¬ 15 < b) (hm : m = if b < a then b else a) : Calls Try.prog 7 #[.agg #[.int .u8 a, .int .u32 c], .agg #[.int .u8 b, .int .u32 d]] w fun e w' => e = .returned (.tuple #[.agg #[.int .u8 0, .int .u32 0], .int .i64 8]) ∧ Below w.heap.size w w' := by
  have hmf : ∀ (fn : Fn) (first cap : Array Value) (w : World), (Instr.makeFunc fn first cap).run Try.prog w = .ok (.func fn first cap) w := fun _ _ _ _ => rfl
  have hb := fun w' x y => zW0 a c b d m w.heap.size (w.heap.size + 1) w' x y h1 h2 hm
  clear hm
  have b3 : ∀ o1 o2 o3, Below w.heap.size w (((w.alloc o1).alloc o2).alloc o3) := fun o1 o2 o3 => (((Below.refl _ _).alloc (Nat.le_refl _) _).alloc (by simp [go_sem]) _).alloc (by simp [go_sem] <;> omega) _
  go_enter Try.func7, Try.ntmps7
  go_wp2_with (
    go_at_call 22
    refine (hb _ (zIY _ _ _ _) (zIZ _ _ _ _)).mono ?_
    rintro e w1 ⟨rfl, hw⟩
    have hb1 := (b3 _ _ _).trans (hw.mono (by simp [go_sem] <;> omega))
    have c0 : w1.cell? ⟨w.heap.size + 1 + 1, 0, none⟩ = some (.int .u8 0) := (hw.cell (by simp [go_sem])).trans (by simp [go_sem])
    have c1 : w1.cell? ⟨w.heap.size + 1 + 1, 1, none⟩ = some (.int .u32 0) := (hw.cell (by simp [go_sem])).trans (by simp [go_sem])
    have f0 : w1.frozen? ⟨w.heap.size + 1 + 1, 0, none⟩ = false := (hw.frozen (by simp [go_sem])).trans (by simp [go_sem])
    have f1 : w1.frozen? ⟨w.heap.size + 1 + 1, 1, none⟩ = false := (hw.frozen (by simp [go_sem])).trans (by simp [go_sem]))
  all_goals
    refine bodyPost_ret (v := .tuple #[.agg #[.int .u8 0, .int .u32 0], .int .i64 8]) ?_ rfl ⟨rfl, (hb1.setCell (by simp <;> omega) _).setCell (by simp <;> omega) _⟩
    have d0 : ∀ x y, ((w1.setCell ⟨w.heap.size + 1 + 1, 0, none⟩ x).setCell ⟨w.heap.size + 1 + 1, 1, none⟩ y).cell? ⟨w.heap.size + 1 + 1, 0, none⟩ = some x := fun x y => by
      rw [World.cell?_setCell_other _ _ _ _ (by simp)]
      exact World.cell?_setCell_same _ _ _ c0
    have d1 : ∀ x y, ((w1.setCell ⟨w.heap.size + 1 + 1, 0, none⟩ x).setCell ⟨w.heap.size + 1 + 1, 1, none⟩ y).cell? ⟨w.heap.size + 1 + 1, 1, none⟩ = some y := fun x y => World.cell?_setCell_same _ _ _ ((World.cell?_setCell_other _ _ _ _ (by simp)).trans c1)
    simp [results, Try.results7, go_sem, d0, d1]
set_option maxHeartbeats 1600000 in
theorem zX3 (a c b d m : Int) (w : World) (h1 : ¬ 15 < a) (h2 : 15 < b) (hm : m = if b < a then b else a) : Calls Try.prog 7 #[.agg #[.int .u8 a, .int .u32 c], .agg #[.int .u8 b, .int .u32 d]] w fun e w' => e = .returned (.tuple #[.agg #[.int .u8 0, .int .u32 0], .int .i64 8]) ∧ Below w.heap.size w w' := by
  have hmf : ∀ (fn : Fn) (first cap : Array Value) (w : World), (Instr.makeFunc fn first cap).run Try.prog w = .ok (.func fn first cap) w := fun _ _ _ _ => rfl
  have hb := fun w' x y => zW1 a c b d m w.heap.size (w.heap.size + 1) w' x y h1 h2 hm
  clear hm
  have b3 : ∀ o1 o2 o3, Below w.heap.size w (((w.alloc o1).alloc o2).alloc o3) := fun o1 o2 o3 => (((Below.refl _ _).alloc (Nat.le_refl _) _).alloc (by simp [go_sem]) _).alloc (by simp [go_sem] <;> omega) _
  go_enter Try.func7, Try.ntmps7
  go_wp2_with (
    go_at_call 22
    refine (hb _ (zIY _ _ _ _) (zIZ _ _ _ _)).mono ?_
    rintro e w1 ⟨rfl, hw⟩
    have hb1 := (b3 _ _ _).trans (hw.mono (by simp [go_sem] <;> omega))
    have c0 : w1.cell? ⟨w.heap.size + 1 + 1, 0, none⟩ = some (.int .u8 0) := (hw.cell (by simp [go_sem])).trans (by simp [go_sem])
    have c1 : w1.cell? ⟨w.heap.size + 1 + 1, 1, none⟩ = some (.int .u32 0) := (hw.cell (by simp [go_sem])).trans (by simp [go_sem])
    have f0 : w1.frozen? ⟨w.heap.size + 1 + 1, 0, none⟩ = false := (hw.frozen (by simp [go_sem])).trans (by simp [go_sem])
    have f1 : w1.frozen? ⟨w.heap.size + 1 + 1, 1, none⟩ = false := (hw.frozen (by simp [go_sem])).trans (by simp [go_sem]))
  all_goals
    refine bodyPost_ret (v := .tuple #[.agg #[.int .u8 0, .int .u32 0], .int .i64 8]) ?_ rfl ⟨rfl, (hb1.setCell (by simp <;> omega) _).setCell (by simp <;> omega) _⟩
    have d0 : ∀ x y, ((w1.setCell ⟨w.heap.size + 1 + 1, 0, none⟩ x).setCell ⟨w.heap.size + 1 + 1, 1, none⟩ y).cell? ⟨w.heap.size + 1 + 1, 0, none⟩ = some x := fun x y => by
      rw [World.cell?_setCell_other _ _ _ _ (by simp)]
      exact World.cell?_setCell_same _ _ _ c0
    have d1 : ∀ x y, ((w1.setCell ⟨w.heap.size + 1 + 1, 0, none⟩ x).setCell ⟨w.heap.size + 1 + 1, 1, none⟩ y).cell? ⟨w.heap.size + 1 + 1, 1, none⟩ = some y := fun x y => World.cell?_setCell_same _ _ _ ((World.cell?_setCell_other _ _ _ _ (by simp)).trans c1)
    simp [results, Try.results7, go_sem, d0, d1]
end Go.Proofs.Ytakaojjlfcmphaa
