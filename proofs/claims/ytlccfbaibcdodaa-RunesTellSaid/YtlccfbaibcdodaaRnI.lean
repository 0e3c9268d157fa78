/-
  runes: Get, the run.
-/
import Derived.Test.YtlccfbaibcdodaaRnH
set_option linter.unusedSimpArgs false
set_option linter.unusedVariables false
set_option maxRecDepth 100000
namespace Go.Proofs.Ytlccfbaibcdodaa
open Go Go.Ax
variable {fuel : Nat} {M : Mem} {Q : AV → Mem → Prop} {d : Nat}

def cGT : ACode := (.seq (.seq (.region [⟨some 44, .load 1 false (.tmp 2), none, []⟩, ⟨some 45, .call (.func 8) [(.tmp 44)], none, []⟩, ⟨some 5, .mov (.tmp 45), none, []⟩] false) (.seq (.region [⟨some 46, .mov (.tmp 5), none, []⟩, ⟨some 47, .pur (mkO (.binOp .neq 25 (.tmp 46) (.const (.int .i64 0)) 25) 4), none, []⟩] false) (.cond (.tmp 47) (.seq (.region [⟨some 48, .mov (.tmp 5), none, [1]⟩, ⟨none, .store 1 (.tmp 2) (.const (.slice none 0 0)), none, [0]⟩, ⟨some 3, .mov (.tmp 48), none, []⟩] false) .ret) .skip))) (.seq (.region [⟨some 49, .load 1 false (.tmp 2), none, []⟩, ⟨none, .store 1 (.tmp 2) (.tmp 49), none, []⟩, ⟨some 3, .mov (.const (.int .i64 0)), none, []⟩] false) .ret))
def cG1 : ACode := (.region [⟨some 4, .mov (.tmp 17), none, []⟩] false)
def cG2 : ACode := (.block 2 (.region [⟨some 18, .load 1 false (.tmp 2), none, [1, 2, 3, 4, 5, 6, 7, 8, 9, 10, 11, 12, 13, 14, 15, 16, 17, 18, 19, 20, 21, 22, 23, 24]⟩, ⟨some 19, .mov (.tmp 4), none, [0, 6, 7, 8, 9, 10, 12, 13, 14, 15, 16, 18, 19, 20, 21]⟩, ⟨some 20, .iad 1 (.tmp 19) (.const (.int .i64 0)), none, [0, 6, 7, 8, 9, 10, 12, 13, 14, 15, 16, 18, 19, 20, 21]⟩, ⟨some 21, .load 1 false (.tmp 20), none, [0, 6, 7, 8, 9, 10, 12, 13, 14, 15, 16, 18, 19, 20, 21]⟩, ⟨some 22, .pur (mkO (.convert 5 57 (.tmp 21)) 57), none, [0, 6, 7, 8, 9, 10, 12, 13, 14, 15, 16, 18, 19, 20, 21]⟩, ⟨some 23, .pur (mkO (.binOp .shl 57 (.tmp 22) (.const (.int .u64 24)) 53) 57), none, [0, 6, 7, 8, 9, 10, 12, 13, 14, 15, 16, 18, 19, 20, 21]⟩, ⟨some 24, .mov (.tmp 4), none, [0, 1, 2, 3, 4, 5, 12, 13, 14, 15, 16, 18, 19, 20, 21]⟩, ⟨some 25, .iad 1 (.tmp 24) (.const (.int .i64 1)), none, [0, 1, 2, 3, 4, 5, 12, 13, 14, 15, 16, 18, 19, 20, 21]⟩, ⟨some 26, .load 1 false (.tmp 25), none, [0, 1, 2, 3, 4, 5, 12, 13, 14, 15, 16, 18, 19, 20, 21]⟩, ⟨some 27, .pur (mkO (.convert 5 57 (.tmp 26)) 57), none, [0, 1, 2, 3, 4, 5, 12, 13, 14, 15, 16, 18, 19, 20, 21]⟩, ⟨some 28, .pur (mkO (.binOp .shl 57 (.tmp 27) (.const (.int .u64 16)) 53) 57), none, [0, 1, 2, 3, 4, 5, 12, 13, 14, 15, 16, 18, 19, 20, 21]⟩, ⟨some 29, .pur (mkO (.binOp .or 57 (.tmp 23) (.tmp 28) 57) 57), none, [0, 12, 13, 14, 15, 16, 18, 19, 20, 21]⟩, ⟨some 30, .mov (.tmp 4), none, [0, 1, 2, 3, 4, 5, 6, 7, 8, 9, 10, 11, 18, 19, 20, 21]⟩, ⟨some 31, .iad 1 (.tmp 30) (.const (.int .i64 2)), none, [0, 1, 2, 3, 4, 5, 6, 7, 8, 9, 10, 11, 18, 19, 20, 21]⟩, ⟨some 32, .load 1 false (.tmp 31), none, [0, 1, 2, 3, 4, 5, 6, 7, 8, 9, 10, 11, 18, 19, 20, 21]⟩, ⟨some 33, .pur (mkO (.convert 5 57 (.tmp 32)) 57), none, [0, 1, 2, 3, 4, 5, 6, 7, 8, 9, 10, 11, 18, 19, 20, 21]⟩, ⟨some 34, .pur (mkO (.binOp .shl 57 (.tmp 33) (.const (.int .u64 8)) 53) 57), none, [0, 1, 2, 3, 4, 5, 6, 7, 8, 9, 10, 11, 18, 19, 20, 21]⟩, ⟨some 35, .pur (mkO (.binOp .or 57 (.tmp 29) (.tmp 34) 57) 57), none, [0, 18, 19, 20, 21]⟩, ⟨some 36, .mov (.tmp 4), none, [0, 1, 2, 3, 4, 5, 6, 7, 8, 9, 10, 11, 12, 13, 14, 15, 16, 17]⟩, ⟨some 37, .iad 1 (.tmp 36) (.const (.int .i64 3)), none, [0, 1, 2, 3, 4, 5, 6, 7, 8, 9, 10, 11, 12, 13, 14, 15, 16, 17]⟩, ⟨some 38, .load 1 false (.tmp 37), none, [0, 1, 2, 3, 4, 5, 6, 7, 8, 9, 10, 11, 12, 13, 14, 15, 16, 17]⟩, ⟨some 39, .pur (mkO (.convert 5 57 (.tmp 38)) 57), none, [0, 1, 2, 3, 4, 5, 6, 7, 8, 9, 10, 11, 12, 13, 14, 15, 16, 17]⟩, ⟨some 40, .pur (mkO (.binOp .or 57 (.tmp 35) (.tmp 39) 57) 57), none, [0]⟩, ⟨some 41, .pur (mkO (.convert 57 21 (.tmp 40)) 21), none, [0]⟩, ⟨some 42, .bsl 21 1 (.int .i32 0) 1 [(0, 1, (.tmp 41))], none, [0]⟩, ⟨some 43, .app 21 1 4 (.int .i32 0) (.tmp 18) (.tmp 42), none, []⟩, ⟨none, .store 1 (.tmp 2) (.tmp 43), none, []⟩] true))

set_option maxHeartbeats 8000000 in
/-- What comes of four bytes that are handed on: their number stands behind the others. -/
theorem gyield_run {id df : Nat} {tm : List AV} {o y : AV} {acc : List Int} {b0 b1 b2 b3 : UInt8} (wf : Wf M) (hg : M.get id = some (.loop .ready none tm [17] cG1 cG2 df)) (h2 : nth undefA tm 2 = .ptr 0 0) (hlen : tm.length = 50) (hy : Bs y [b0, b1, b2, b3]) (h1 : M.get 0 = some (.row false [o])) (hid : id ≠ 0) (hm : SlM M 1 isI32 o acc) (ho1 : rowOf o ≠ some 0) (hoi : rowOf o ≠ some id) (hn : acc.length ≤ 100000)
    (k : ∀ o' N, Wf N → M.size ≤ N.size → N.get 0 = some (.row false [o']) → SlM N 1 isI32 o' (acc ++ [IntKind.i32.wrap (num4 b0 b1 b2 b3 : Nat)]) → N.get id = some (.loop .ready none tm [17] cG1 cG2 df) → (∀ j, j < M.size → j ≠ 0 → j ≠ id → rowOf o ≠ some j → N.get j = M.get j) → (∀ j, rowOf o' = some j → rowOf o = some j ∨ M.size ≤ j) → Q (BL true) N) :
    W3 (callN Try.prog (fsT tbl) fuel (d + 1) (.yl id) [y] M) Q := by
  have l1 := Mem.get_lt h1
  have li := Mem.get_lt hg
  have yo := hy.one
  have yr := hy.rows mem0
  have oo := hm.one
  have oco := hm.cells
  have rlo := rows_lt hm.rl (show M.size ≤ M.size + 1 by omega)
  have n0 : natOf (I64 0) = some 0 := rfl
  have n1 : natOf (I64 1) = some 1 := rfl
  have n2 : natOf (I64 2) = some 2 := rfl
  have n3 : natOf (I64 3) = some 3 := rfl
  obtain ⟨r0, i0, e0, _⟩ := hy.iad 0 (by simp)
  obtain ⟨r1, i1, e1, _⟩ := hy.iad 1 (by simp)
  obtain ⟨r2, i2, e2, _⟩ := hy.iad 2 (by simp)
  obtain ⟨r3, i3, e3, _⟩ := hy.iad 3 (by simp)
  simp only [List.getElem_cons_zero, List.getElem_cons_succ, isU8] at e0 e1 e2 e3
  subst e0 e1 e2 e3
  have u0 := u32_wrap b0.toNat (by have := b0.toNat_lt; omega)
  have u1 := u32_wrap b1.toNat (by have := b1.toNat_lt; omega)
  have u2 := u32_wrap b2.toNat (by have := b2.toNat_lt; omega)
  have u3 := u32_wrap b3.toNat (by have := b3.toNat_lt; omega)
  have t0 := b0.toNat_lt
  have t1 := b1.toNat_lt
  have t2 := b2.toNat_lt
  have t3 := b3.toNat_lt
  have s24 := shl32 (z := 24) Try.prog 57 b0.toNat 24 16777216 rfl (by omega) (by decide) (by omega)
  have s16 := shl32 (z := 16) Try.prog 57 b1.toNat 16 65536 rfl (by omega) (by decide) (by omega)
  have s08 := shl32 (z := 8) Try.prog 57 b2.toNat 8 256 rfl (by omega) (by decide) (by omega)
  have o1 := or32 Try.prog 57 24 b0.toNat (b1.toNat * 65536) (b0.toNat * 16777216) (by omega) (by omega) (by omega)
  have o2 := or32 Try.prog 57 16 (b0.toNat * 256 + b1.toNat) (b2.toNat * 256) (b0.toNat * 16777216 + b1.toNat * 65536) (by omega) (by omega) (by omega)
  have o3 := or32 Try.prog 57 8 (b0.toNat * 65536 + b1.toNat * 256 + b2.toNat) b3.toNat (b0.toNat * 16777216 + b1.toNat * 65536 + b2.toNat * 256) (by omega) (by omega) (by omega)
  have cv := fun t r x => pConv2 (P := Try.prog) (t := t) Try.underlying5 Try.underlying57 r x
  have cw := fun t r x => pConv2 (P := Try.prog) (t := t) Try.underlying57 Try.underlying21 r x
  refine call_yl hg rfl ?_
  have e1 : setAll tm [17] [y] = St tm [(17, y)] := rfl
  rw [e1]
  unfold cG1 cG2 at *
  have zid : id ≠ M.size := by omega
  have hz : (0 : Nat) ≠ id := fun e => hid e.symm
  simp (maxSteps := 2000000) (disch := first | omega | assumption | (simp only [DS, Nat.reduceAdd, *]; done) | (simp only [DZ]; omega)) only [RUN, RU, footA, feetIn, resultsA, tupOf, frzL, slot, lay, icyL, fillA, repCells, kR, reduceIte, Nat.reduceEqDiff, Nat.reduceBEq, Nat.reduceLT, Nat.reduceAdd, Nat.reduceLeDiff, Nat.reduceSub, Nat.reduceMul, Int.reduceLT, Int.reduceLE, Int.reduceEq, Int.reduceAdd, Int.reduceSub, Int.reduceMul, h2, yo, yr]
  refine ⟨wf, tm, [17], _, _, df, hg, ?_⟩
  simp (maxSteps := 2000000) (disch := first | omega | assumption | (simp only [DS, Nat.reduceAdd, *]; done) | (simp only [DZ]; omega)) only [RUN, RU, footA, feetIn, resultsA, tupOf, frzL, slot, lay, icyL, fillA, repCells, kR, reduceIte, Nat.reduceEqDiff, Nat.reduceBEq, Nat.reduceLT, Nat.reduceAdd, Nat.reduceLeDiff, Nat.reduceSub, Nat.reduceMul, Int.reduceLT, Int.reduceLE, Int.reduceEq, Int.reduceAdd, Int.reduceSub, Int.reduceMul, h2, yo, yr, h1, oo, oco, rlo, n0, n1, n2, n3, i0, i1, i2, i3, cv, cw, pc1_int, u0, u1, u2, u3, s24, s16, s08, o1, o2, o3, wf]
  have hw := i32_wrap ((num4 b0 b1 b2 b3 : Nat) : Int)
  unfold num4 at hw k
  refine w3_appc (by simp (maxSteps := 2000000) (disch := first | omega | assumption | (simp only [DS, Nat.reduceAdd, *]; done) | (simp only [DZ]; omega)) only [RUN, RU, footA, feetIn, resultsA, tupOf, frzL, slot, lay, icyL, fillA, repCells, kR, reduceIte, Nat.reduceEqDiff, Nat.reduceBEq, Nat.reduceLT, Nat.reduceAdd, Nat.reduceLeDiff, Nat.reduceSub, Nat.reduceMul, Int.reduceLT, Int.reduceLE, Int.reduceEq, Int.reduceAdd, Int.reduceSub, Int.reduceMul, wf]) (hm.keep fun j hj => ?kp) cel_I32 (l' := [IntKind.i32.wrap ((b0.toNat * 16777216 + b1.toNat * 65536 + b2.toNat * 256 + b3.toNat : Nat) : Int)]) (new := [[I32 (IntKind.i32.wrap ((b0.toNat * 16777216 + b1.toNat * 65536 + b2.toNat * 256 + b3.toNat : Nat) : Int))]]) (cells_lit (cs := [I32 (IntKind.i32.wrap ((b0.toNat * 16777216 + b1.toNat * 65536 + b2.toNat * 256 + b3.toNat : Nat) : Int))]) (n := 1) (st := 1) (get_add_new ?wfx _ _ (Nat.le_refl _) (Nat.lt_succ_self _)) rfl) rfl (.cons ⟨rfl, hw.1, hw.2⟩ .nil) (by simp) (by omega) (by simp; omega) (by simp; omega) fun o4 M4 m4 wf4 le4 sz4 kp4 nw4 wm4 rl4 on4 oc4 => ?_
  case wfx => simp (maxSteps := 2000000) (disch := first | omega | assumption | (simp only [DS, Nat.reduceAdd, *]; done) | (simp only [DZ]; omega)) only [RUN, RU, footA, feetIn, resultsA, tupOf, frzL, slot, lay, icyL, fillA, repCells, kR, reduceIte, Nat.reduceEqDiff, Nat.reduceBEq, Nat.reduceLT, Nat.reduceAdd, Nat.reduceLeDiff, Nat.reduceSub, Nat.reduceMul, Int.reduceLT, Int.reduceLE, Int.reduceEq, Int.reduceAdd, Int.reduceSub, Int.reduceMul, wf]
  case kp =>
    have := hm.lt j hj
    have : id ≠ j := fun e => hoi (by rw [e]; exact hj)
    simp (maxSteps := 2000000) (disch := first | omega | assumption | (simp only [DS, Nat.reduceAdd, *]; done) | (simp only [DZ]; omega)) only [RUN, RU, footA, feetIn, resultsA, tupOf, frzL, slot, lay, icyL, fillA, repCells, kR, reduceIte, Nat.reduceEqDiff, Nat.reduceBEq, Nat.reduceLT, Nat.reduceAdd, Nat.reduceLeDiff, Nat.reduceSub, Nat.reduceMul, Int.reduceLT, Int.reduceLE, Int.reduceEq, Int.reduceAdd, Int.reduceSub, Int.reduceMul, wf]
  simp only [add_size, upd_size] at le4 sz4
  have g1 := kp4 0 (by simp only [add_size, upd_size]; omega) ho1
  have gi := kp4 id (by simp only [add_size, upd_size]; omega) hoi
  have kk : ∀ j, j < M.size → j ≠ 0 → j ≠ id → rowOf o ≠ some j → M4.get j = M.get j := fun j a1 a2 a3 a4 => by
    rw [kp4 j (by simp only [add_size, upd_size]; omega) a4]
    have b1 : id ≠ j := fun e => a3 e.symm
    simp (maxSteps := 2000000) (disch := first | omega | assumption | (simp only [DS, Nat.reduceAdd, *]; done) | (simp only [DZ]; omega)) only [RUN, RU, footA, feetIn, resultsA, tupOf, frzL, slot, lay, icyL, fillA, repCells, kR, reduceIte, Nat.reduceEqDiff, Nat.reduceBEq, Nat.reduceLT, Nat.reduceAdd, Nat.reduceLeDiff, Nat.reduceSub, Nat.reduceMul, Int.reduceLT, Int.reduceLE, Int.reduceEq, Int.reduceAdd, Int.reduceSub, Int.reduceMul, wf]
  simp (maxSteps := 2000000) (disch := first | omega | assumption | (simp only [DS, Nat.reduceAdd, *]; done) | (simp only [DZ]; omega)) only [RUN, RU, footA, feetIn, resultsA, tupOf, frzL, slot, lay, icyL, fillA, repCells, kR, reduceIte, Nat.reduceEqDiff, Nat.reduceBEq, Nat.reduceLT, Nat.reduceAdd, Nat.reduceLeDiff, Nat.reduceSub, Nat.reduceMul, Int.reduceLT, Int.reduceLE, Int.reduceEq, Int.reduceAdd, Int.reduceSub, Int.reduceMul, h1, wf] at g1 gi
  clear kp4
  have s4 : 0 < M4.size := by omega
  have si : id < M4.size := by omega
  simp (maxSteps := 2000000) (disch := first | omega | assumption | (simp only [DS, Nat.reduceAdd, *]; done) | (simp only [DZ]; omega)) only [RUN, RU, footA, feetIn, resultsA, tupOf, frzL, slot, lay, icyL, fillA, repCells, kR, reduceIte, Nat.reduceEqDiff, Nat.reduceBEq, Nat.reduceLT, Nat.reduceAdd, Nat.reduceLeDiff, Nat.reduceSub, Nat.reduceMul, Int.reduceLT, Int.reduceLE, Int.reduceEq, Int.reduceAdd, Int.reduceSub, Int.reduceMul, h2, g1, gi, on4, oc4, rl4, wf4]
  refine ⟨_, _, _, _, _, _, _, rfl, ?_⟩
  have nr4 : ∀ j, rowOf o4 = some j → rowOf o = some j ∨ M.size ≤ j := fun j hj => (nw4 j hj).imp (fun h => h) (fun h => by simp only [add_size, upd_size] at h; omega)
  have n1 : rowOf o4 ≠ some 0 := fun h => (nr4 0 h).elim (fun h => ho1 h) (fun h => by omega)
  have ni : rowOf o4 ≠ some id := fun h => (nr4 id h).elim (fun h => hoi h) (fun h => by omega)
  refine k o4 _ ((wf4.upd _ _).upd _ _) (by rw [upd_size, upd_size]; omega) (by simp (maxSteps := 2000000) (disch := first | omega | assumption | (simp only [DS, Nat.reduceAdd, *]; done) | (simp only [DZ]; omega)) only [RUN, RU, footA, feetIn, resultsA, tupOf, frzL, slot, lay, icyL, fillA, repCells, kR, reduceIte, Nat.reduceEqDiff, Nat.reduceBEq, Nat.reduceLT, Nat.reduceAdd, Nat.reduceLeDiff, Nat.reduceSub, Nat.reduceMul, Int.reduceLT, Int.reduceLE, Int.reduceEq, Int.reduceAdd, Int.reduceSub, Int.reduceMul, wf4]) (m4.keep fun j hj => ?_) (by simp (maxSteps := 2000000) (disch := first | omega | assumption | (simp only [DS, Nat.reduceAdd, *]; done) | (simp only [DZ]; omega)) only [RUN, RU, footA, feetIn, resultsA, tupOf, frzL, slot, lay, icyL, fillA, repCells, kR, reduceIte, Nat.reduceEqDiff, Nat.reduceBEq, Nat.reduceLT, Nat.reduceAdd, Nat.reduceLeDiff, Nat.reduceSub, Nat.reduceMul, Int.reduceLT, Int.reduceLE, Int.reduceEq, Int.reduceAdd, Int.reduceSub, Int.reduceMul, wf4]) (fun j a1 a2 a3 a4 => ?_) nr4
  · have b1 : (0 : Nat) ≠ j := fun e => n1 (by rw [e]; exact hj)
    have b2 : id ≠ j := fun e => ni (by rw [e]; exact hj)
    simp (maxSteps := 2000000) (disch := first | omega | assumption | (simp only [DS, Nat.reduceAdd, *]; done) | (simp only [DZ]; omega)) only [RUN, RU, footA, feetIn, resultsA, tupOf, frzL, slot, lay, icyL, fillA, repCells, kR, reduceIte, Nat.reduceEqDiff, Nat.reduceBEq, Nat.reduceLT, Nat.reduceAdd, Nat.reduceLeDiff, Nat.reduceSub, Nat.reduceMul, Int.reduceLT, Int.reduceLE, Int.reduceEq, Int.reduceAdd, Int.reduceSub, Int.reduceMul, wf4]
  · have b1 : (0 : Nat) ≠ j := fun e => a2 e.symm
    have b2 : id ≠ j := fun e => a3 e.symm
    have := kk j a1 a2 a3 a4
    simp (maxSteps := 2000000) (disch := first | omega | assumption | (simp only [DS, Nat.reduceAdd, *]; done) | (simp only [DZ]; omega)) only [RUN, RU, footA, feetIn, resultsA, tupOf, frzL, slot, lay, icyL, fillA, repCells, kR, reduceIte, Nat.reduceEqDiff, Nat.reduceBEq, Nat.reduceLT, Nat.reduceAdd, Nat.reduceLeDiff, Nat.reduceSub, Nat.reduceMul, Int.reduceLT, Int.reduceLE, Int.reduceEq, Int.reduceAdd, Int.reduceSub, Int.reduceMul, wf4, this]
end Go.Proofs.Ytlccfbaibcdodaa
