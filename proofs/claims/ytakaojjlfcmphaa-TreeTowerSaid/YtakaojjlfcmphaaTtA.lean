/-
  labels: Meet, by itself: it defers.
-/
import Derived.Test.YtakaojjlfcmphaaProg
import Derived.WalkKit
import Derived.WalkSpells
import Derived.WalkLawsBesides
import Derived.Defers
import Derived.Recover
import Derived.Below
import Derived.Laws.NewBlocks
set_option linter.unusedSimpArgs false
set_option linter.unusedVariables false
namespace Go.Proofs.Ytakaojjlfcmphaa
open Go.RowKit

set_option maxRecDepth 100000 in
set_option maxHeartbeats 1600000 in
theorem zVY (pe px : Addr) (w : World) (h1 : w.cell? pe = some (.int .i64 0)) :
    CallsD Try.prog 42 #[.pointer (some pe), .pointer (some px)] .returning w fun e' u' w' => u' = .returning ∧ (e' = .returned (.tuple #[]) ∧ w' = w) := by
  go_enter_d Try.func42, Try.ntmps42
  go_wp2
  go_end0
  exact ⟨rfl, rfl⟩
set_option maxRecDepth 100000 in
set_option maxHeartbeats 1600000 in
theorem zLC (pe : Addr) (bx : Nat) (e : Int) (v0 v1 : Value) (w : World) (h1 : w.cell? pe = some (.int .i64 e)) (he : (e != 0) = true) (c0 : w.cell? ⟨bx, 0, none⟩ = some v0) (f0 : w.frozen? ⟨bx, 0, none⟩ = false)
    (c1 : (w.setCell ⟨bx, 0, none⟩ (.int .u8 0)).cell? ⟨bx, 1, none⟩ = some v1) (f1 : (w.setCell ⟨bx, 0, none⟩ (.int .u8 0)).frozen? ⟨bx, 1, none⟩ = false) :
    CallsD Try.prog 42 #[.pointer (some pe), .pointer (some ⟨bx, 0, none⟩)] .returning w fun e' u' w' => u' = .returning ∧ (e' = .returned (.tuple #[]) ∧ w' = (w.setCell ⟨bx, 0, none⟩ (.int .u8 0)).setCell ⟨bx, 1, none⟩ (.int .u32 0)) := by
  go_enter_d Try.func42, Try.ntmps42
  go_wp2
  go_end0
  exact ⟨rfl, rfl⟩
theorem zCZ {w : World} {p o : Nat} {x : Value} (o2 : Obj) (h : w.cell? ⟨p, o, none⟩ = some x) (hp : p < w.heap.size) : (w.alloc o2).cell? ⟨p, o, none⟩ = some x := by
  rw [World.cell?_alloc_past _ _ _ hp]
  exact h
theorem zIR (a c b d m : Int) (pa pb : Nat) (w : World) (a0 : ∀ o, (w.alloc o).cell? ⟨pa, 0, none⟩ = some (.int .u8 a)) (a1 : ∀ o, (w.alloc o).cell? ⟨pa, 1, none⟩ = some (.int .u32 c)) (b0 : ∀ o, (w.alloc o).cell? ⟨pb, 0, none⟩ = some (.int .u8 b)) (b1 : ∀ o, (w.alloc o).cell? ⟨pb, 1, none⟩ = some (.int .u32 d)) (hm : m = if b < a then b else a) :
    Calls Try.prog 23 #[.pointer (some ⟨pa, 0, none⟩), .pointer (some ⟨pb, 0, none⟩)] w fun e w' => e = .returned (.agg #[.int .u8 m, .int .u32 (bits .and .u32 c d)]) ∧ w' = w.alloc (.cells #[.int .u8 m, .int .u32 (bits .and .u32 c d)] 25) := by
  by_cases h : b < a
  · rw [if_pos h] at hm
    subst hm
    go_enter Try.func23, Try.ntmps23
    go_wp2
    refine bodyPost_ret (v := .agg #[.int .u8 m, .int .u32 (bits .and .u32 c d)]) (by simp [results, Try.results23, go_sem]) rfl ⟨rfl, rfl⟩
  · rw [if_neg h] at hm
    subst hm
    go_enter Try.func23, Try.ntmps23
    go_wp2
    refine bodyPost_ret (v := .agg #[.int .u8 m, .int .u32 (bits .and .u32 c d)]) (by simp [results, Try.results23, go_sem]) rfl ⟨rfl, rfl⟩
theorem zCT {w : World} {p o : Nat} {x : Value} (h : w.cell? ⟨p, o, none⟩ = some x) (hp : p < w.heap.size) (o1 o2 o3 o4 o5 o6 o7 : Obj) : (((((((w.alloc o1).alloc o2).alloc o3).alloc o4).alloc o5).alloc o6).alloc o7).cell? ⟨p, o, none⟩ = some x :=
  zCZ _ (zCZ _ (zCZ _ (zCZ _ (zCZ _ (zCZ _ (zCZ _ h hp) (by simp [go_sem]; omega)) (by simp [go_sem]; omega)) (by simp [go_sem]; omega)) (by simp [go_sem]; omega)) (by simp [go_sem]; omega)) (by simp [go_sem]; omega)
set_option maxHeartbeats 3200000 in
theorem zYM (a c b d m : Int) (pa pb : Nat) (w : World) (ha : w.heap[pa]? = some (.cells #[.int .u8 a, .int .u32 c] 25 (0, 0))) (hb : w.heap[pb]? = some (.cells #[.int .u8 b, .int .u32 d] 25 (0, 0))) (h1 : ¬ 15 < a) (h2 : ¬ 15 < b) (hm : m = if b < a then b else a) : Calls Try.prog 22 #[.agg #[.int .u8 a, .int .u32 c], .agg #[.int .u8 b, .int .u32 d], .func (.func 23) #[] #[.pointer (some ⟨pa, 0, none⟩), .pointer (some ⟨pb, 0, none⟩)]] w fun e w' => e = .returned (.tuple #[.agg #[.int .u8 m, .int .u32 (bits .and .u32 c d)], .int .i64 0]) ∧ Below w.heap.size w w' := by
  have hmf : ∀ (fn : Fn) (first cap : Array Value) (w : World), (Instr.makeFunc fn first cap).run Try.prog w = .ok (.func fn first cap) w := fun _ _ _ _ => rfl
  have la : pa < w.heap.size := (Array.getElem?_eq_some_iff.1 ha).1
  have lb : pb < w.heap.size := (Array.getElem?_eq_some_iff.1 hb).1
  have a0 := zCT (show w.cell? ⟨pa, 0, none⟩ = some (.int .u8 a) by simp [World.cell?, ha]) la
  have a1 := zCT (show w.cell? ⟨pa, 1, none⟩ = some (.int .u32 c) by simp [World.cell?, ha]) la
  have b0 := zCT (show w.cell? ⟨pb, 0, none⟩ = some (.int .u8 b) by simp [World.cell?, hb]) lb
  have b1 := zCT (show w.cell? ⟨pb, 1, none⟩ = some (.int .u32 d) by simp [World.cell?, hb]) lb
  have hdo := fun w' x0 x1 y0 y1 => zIR a c b d m pa pb w' x0 x1 y0 y1 hm
  clear hm
  go_enter_defers Try.func22, Try.ntmps22
  go_wp2_with (fail)
  go_region_calls
  all_goals go_wp2_with (fail)
  all_goals refine wp_region_any (by kernel_rfl) ?_
  all_goals change wpAny _ _ _ _ _ _ _ (World.drew _)
  all_goals repeat' (first
    | exact AllReady.nil
    | refine wpAny_done (by decide +kernel) ?_ _
    | refine wpAny_ready (rs := [0, 2]) (by decide +kernel) (by simp) ?_
    | refine wpAny_ready (rs := [1, 2]) (by decide +kernel) (by simp) ?_
    | refine wpAny_ready (rs := [0]) (by decide +kernel) (by simp) ?_
    | refine wpAny_ready (rs := [1]) (by decide +kernel) (by simp) ?_
    | refine wpAny_ready (rs := [2]) (by decide +kernel) (by simp) ?_
    | refine wpAny_ready (rs := [2, 3]) (by decide +kernel) (by simp) ?_
    | refine wpAny_ready (rs := [3]) (by decide +kernel) (by simp) ?_
    | refine wpAny_ready (rs := [4]) (by decide +kernel) (by simp) ?_
    | (refine AllReady.cons rfl (fun K hK => ?_) ?_; go_simp; refine hK _ _ ?_; clear hK K)
    | (refine AllReady.cons rfl (fun K hK => ?_) ?_; go_simp; refine (hdo _ (fun o => by simp [go_sem, a0]) (fun o => by simp [go_sem, a1]) (fun o => by simp [go_sem, b0]) (fun o => by simp [go_sem, b1])).mono ?_; rintro e w1 ⟨rfl, rfl⟩; refine hK _ _ ?_; clear hK K))
  all_goals go_wp2
  all_goals refine leaves_cons (f := 42) (args := #[.pointer (some ⟨w.heap.size + 1 + 1 + 1, 0, none⟩), .pointer (some ⟨w.heap.size + 1 + 1, 0, none⟩)]) (by simp) (by simp [go_sem]) ?_
  all_goals refine (zVY ⟨w.heap.size + 1 + 1 + 1, 0, none⟩ ⟨w.heap.size + 1 + 1, 0, none⟩ _ (by simp [go_sem])).mono ?_
  all_goals rintro e u' w2 ⟨rfl, rfl, rfl⟩
  all_goals simp [Leaves, settle, results, Try.results22, go_sem]
  all_goals repeat' (first | exact Below.refl _ _ | refine Below.drew ?_ | refine Below.alloc ?_ (by simp [go_sem] <;> omega) _)
end Go.Proofs.Ytakaojjlfcmphaa
