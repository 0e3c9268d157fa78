/-
  Texts: Grow, Concat, parted.
-/
import Derived.Test.YtbomjpdheibmfaaTrI
import Derived.Test.YtbomjpdheibmfaaEf
set_option linter.unusedSimpArgs false
set_option linter.unusedVariables false
set_option maxRecDepth 100000
namespace Go.Proofs.Ytbomjpdheibmfaa
open Go Go.Ax
variable {fuel : Nat} {M : Mem} {Q : AV → Mem → Prop} {d : Nat}
abbrev zRn : Value := .agg #[.int .u8 0, .int .u32 0, .int .u8 0, .int .i64 0, .int .i64 0, .int .u8 0, .int .u32 0, .int .u8 0, .int .i64 0, .slice none 0 0]
theorem grow_0 {n : Nat} (wf : Wf M) (hn : 0 < n) (hb : n ≤ 1000000) (k : Q (.sl M.size 0 0 none 10) (M.add (.row false (zA zRn n)))) :
    W3 (callN Try.prog (fsT tbl) fuel (d + 1) (.fn 53) [NIL, I64 n] M) Q := by
  have hz := appz_nil (X := M) (st := 10) (bytes := 80) (z := zRn) wf rfl rfl hn (by omega) (by omega) (by omega)
  have e0 : decide ((n : Int) < 0) = false := decide_eq_false (by omega)
  have e1 : decide ((0 : Int) < n) = true := decide_eq_true (by omega)
  have w0 : IntKind.i64.wrap 0 = 0 := by decide
  have w1 : IntKind.i64.wrap ((n : Int) - 0) = n := by rw [wrap_i64] <;> omega
  refine call_0 tf53 rfl (by simp [a53]) fun b' ht hx => ?_
  have h0 := hx 0 _ rfl
  have h1 := hx 1 _ rfl
  clear hx
  simp only [a53, c53] at ht ⊢
  have hs := slc_to0 (M := M.add (.row false (zA zRn n))) (st := 10) (n := n) (get_add_new wf (.row false (zA zRn n)) M.size (Nat.le_refl _) (Nat.lt_succ_self _))
  simp (maxSteps := 2000000) (disch := first | omega | assumption | (simp only [DS, Nat.reduceAdd, *]; done) | (simp only [DZ]; omega)) only [RUN, RU, zD, zC, zB, zE, zG, slot, lay, zH, zF, zA, kR, reduceIte, Nat.reduceEqDiff, Nat.reduceBEq, Nat.reduceLT, Nat.reduceAdd, Nat.reduceLeDiff, Nat.reduceSub, Nat.reduceMul, Int.reduceLT, Int.reduceLE, Int.reduceEq, Int.reduceAdd, Int.reduceSub, Int.reduceMul, h0, h1, e0, e1, w0, w1, x_appz, x_cap, cap_nil, slc_nil0, hz, hs]
  exact k
set_option maxHeartbeats 8000000 in
/-- One list of three. -/
theorem concat3_0 {id : Nat} {a0 a1 a2 : AV} {l0 l1 l2 : List Rn} (wf : Wf M) (hg : M.get id = some (.row false [a0, a1, a2])) (h0' : Sl 10 isRn a0 l0) (h1' : SlM M 10 isRn a1 l1) (h2' : Sl 10 isRn a2 l2) (hn : 0 < l1.length) (hb0 : l0.length ≤ 10000) (hb1 : l1.length ≤ 10000) (hb2 : l2.length ≤ 10000) (hf : 100 < fuel) (hw : M.wm ≤ M.size)
    (k : ∀ o N, SlM N 10 isRn o (l0 ++ l1 ++ l2) → Kept M N → (∀ j, rowOf o = some j → M.size ≤ j) → oneA o = true → cellsA o = [o] → ((rowsOf o).all fun i => Nat.blt i N.size) = true → Q o N) :
    W3 (callN Try.prog (fsT tbl) fuel (d + 2) (.fn 36) [.sl id 0 3 (some 3) 1] M) Q := by
  have x0 := h0'.len
  have x1 := h1'.len
  have x2 := h2'.len
  have o0 := h0'.one
  have o1 := h1'.one
  have o2 := h2'.one
  have li := Mem.get_lt hg
  have c3 : ((3 : Nat) : Int) = 3 := rfl
  have t0 : natOf (I64 0) = some 0 := rfl
  have t1 : natOf (I64 1) = some 1 := rfl
  have t2 : natOf (I64 2) = some 2 := rfl
  have q03 : decide ((0 : Int) < 3) = true := rfl
  have q13 : decide ((1 : Int) < 3) = true := rfl
  have q23 : decide ((2 : Int) < 3) = true := rfl
  have q33 : decide ((3 : Int) < 3) = false := rfl
  have v1 : IntKind.i64.wrap 1 = 1 := by decide
  have v2 : IntKind.i64.wrap 2 = 2 := by decide
  have v3 : IntKind.i64.wrap 3 = 3 := by decide
  have w0 : IntKind.i64.wrap (0 + (l0.length : Int)) = (l0.length : Nat) := by rw [wrap_i64] <;> omega
  have w1 : IntKind.i64.wrap ((l0.length : Int) + (l1.length : Int)) = ((l0.length + l1.length : Nat) : Int) := by rw [wrap_i64] <;> omega
  have w2 : IntKind.i64.wrap (((l0.length + l1.length : Nat) : Int) + (l2.length : Int)) = ((l0.length + l1.length + l2.length : Nat) : Int) := by rw [wrap_i64] <;> omega
  have n0 : decide (((l0.length : Nat) : Int) < 0) = false := decide_eq_false (by omega)
  have n1 : decide (((l0.length + l1.length : Nat) : Int) < 0) = false := decide_eq_false (by omega)
  have n2 : decide (((l0.length + l1.length + l2.length : Nat) : Int) < 0) = false := decide_eq_false (by omega)
  refine call_0 tf36 rfl (by simp [a36]) fun b' ht hx => ?_
  have h0 := hx 0 _ rfl
  clear hx
  simp only [a36, c36] at ht ⊢
  simp (maxSteps := 2000000) (disch := first | omega | assumption | (simp only [DS, Nat.reduceAdd, *]; done) | (simp only [DZ]; omega)) only [RUN, RU, zD, zC, zB, zE, zG, slot, lay, zH, zF, zA, kR, reduceIte, Nat.reduceEqDiff, Nat.reduceBEq, Nat.reduceLT, Nat.reduceAdd, Nat.reduceLeDiff, Nat.reduceSub, Nat.reduceMul, Int.reduceLT, Int.reduceLE, Int.reduceEq, Int.reduceAdd, Int.reduceSub, Int.reduceMul, h0]
  refine w_un (by omega) ?_
  simp (maxSteps := 2000000) (disch := first | omega | assumption | (simp only [DS, Nat.reduceAdd, *]; done) | (simp only [DZ]; omega)) only [RUN, RU, zD, zC, zB, zE, zG, slot, lay, zH, zF, zA, kR, reduceIte, Nat.reduceEqDiff, Nat.reduceBEq, Nat.reduceLT, Nat.reduceAdd, Nat.reduceLeDiff, Nat.reduceSub, Nat.reduceMul, Int.reduceLT, Int.reduceLE, Int.reduceEq, Int.reduceAdd, Int.reduceSub, Int.reduceMul, h0, hg, c3, t0, q03, x0, w0, n0, v1, o0, lq_normal, lq_exit, lq_ret]
  refine w_un (by omega) ?_
  simp (maxSteps := 2000000) (disch := first | omega | assumption | (simp only [DS, Nat.reduceAdd, *]; done) | (simp only [DZ]; omega)) only [RUN, RU, zD, zC, zB, zE, zG, slot, lay, zH, zF, zA, kR, reduceIte, Nat.reduceEqDiff, Nat.reduceBEq, Nat.reduceLT, Nat.reduceAdd, Nat.reduceLeDiff, Nat.reduceSub, Nat.reduceMul, Int.reduceLT, Int.reduceLE, Int.reduceEq, Int.reduceAdd, Int.reduceSub, Int.reduceMul, h0, hg, t1, q13, x1, w1, n1, v2, o1, lq_normal, lq_exit, lq_ret]
  refine w_un (by omega) ?_
  simp (maxSteps := 2000000) (disch := first | omega | assumption | (simp only [DS, Nat.reduceAdd, *]; done) | (simp only [DZ]; omega)) only [RUN, RU, zD, zC, zB, zE, zG, slot, lay, zH, zF, zA, kR, reduceIte, Nat.reduceEqDiff, Nat.reduceBEq, Nat.reduceLT, Nat.reduceAdd, Nat.reduceLeDiff, Nat.reduceSub, Nat.reduceMul, Int.reduceLT, Int.reduceLE, Int.reduceEq, Int.reduceAdd, Int.reduceSub, Int.reduceMul, h0, hg, t2, q23, x2, w2, n2, v3, o2, lq_normal, lq_exit, lq_ret]
  refine w_un (by omega) ?_
  simp (maxSteps := 2000000) (disch := first | omega | assumption | (simp only [DS, Nat.reduceAdd, *]; done) | (simp only [DZ]; omega)) only [RUN, RU, zD, zC, zB, zE, zG, slot, lay, zH, zF, zA, kR, reduceIte, Nat.reduceEqDiff, Nat.reduceBEq, Nat.reduceLT, Nat.reduceAdd, Nat.reduceLeDiff, Nat.reduceSub, Nat.reduceMul, Int.reduceLT, Int.reduceLE, Int.reduceEq, Int.reduceAdd, Int.reduceSub, Int.reduceMul, h0, q33, lq_normal, lq_exit, lq_ret]
  refine grow_0 (d := d) (n := l0.length + l1.length + l2.length) wf (by omega) (by omega) ?_
  have sq0 := SlQ.fresh (X := M) (st := 10) (T := isRn) (n := l0.length + l1.length + l2.length) (z := zRn) wf rfl
  have wX := wf.add (.row false (zA zRn (l0.length + l1.length + l2.length)))
  have kX : ∀ j, j < M.size → (M.add (.row false (zA zRn (l0.length + l1.length + l2.length)))).get j = M.get j := fun j hj => get_add wf _ _ hj
  have sX : (M.add (.row false (zA zRn (l0.length + l1.length + l2.length)))).size = M.size + 1 := rfl
  have dX : (M.add (.row false (zA zRn (l0.length + l1.length + l2.length)))).dirty = M.dirty := rfl
  have vX : (M.add (.row false (zA zRn (l0.length + l1.length + l2.length)))).wm = M.wm := rfl
  generalize (M.add (.row false (zA zRn (l0.length + l1.length + l2.length)))) = X at *
  have gX := (kX id li).trans hg
  simp (maxSteps := 2000000) (disch := first | omega | assumption | (simp only [DS, Nat.reduceAdd, *]; done) | (simp only [DZ]; omega)) only [RUN, RU, zD, zC, zB, zE, zG, slot, lay, zH, zF, zA, kR, reduceIte, Nat.reduceEqDiff, Nat.reduceBEq, Nat.reduceLT, Nat.reduceAdd, Nat.reduceLeDiff, Nat.reduceSub, Nat.reduceMul, Int.reduceLT, Int.reduceLE, Int.reduceEq, Int.reduceAdd, Int.reduceSub, Int.reduceMul, h0, gX, wX, c3]
  refine w_un (by omega) ?_
  simp (maxSteps := 2000000) (disch := first | omega | assumption | (simp only [DS, Nat.reduceAdd, *]; done) | (simp only [DZ]; omega)) only [RUN, RU, zD, zC, zB, zE, zG, slot, lay, zH, zF, zA, kR, reduceIte, Nat.reduceEqDiff, Nat.reduceBEq, Nat.reduceLT, Nat.reduceAdd, Nat.reduceLeDiff, Nat.reduceSub, Nat.reduceMul, Int.reduceLT, Int.reduceLE, Int.reduceEq, Int.reduceAdd, Int.reduceSub, Int.reduceMul, h0, gX, c3, t0, q03, v1, h0'.fz.rows, h0'.fz.one, h0'.fz.cells, h0'.fz.icy, h0'.fz.frz, lq_normal, lq_exit, lq_ret]
  obtain ⟨r0, y0, z0, A0, R0⟩ := h0'.cells2 X
  refine SlQ.app (bytes := 80) wX sq0 y0 z0 A0 R0 fz_Rn.cel (by omega) (by simp; omega) (by simp; omega) fun o' Y sq1 wY sY kY rY wmY diY => ?_
  have on1 := sq1.one
  have oc1 := sq1.cells
  have rl1 := sq1.rl (Nat.le_refl _)
  have ro1 : ∀ j, rowOf o' = some j → j = M.size := fun j hj => by rw [rY] at hj; cases hj; rfl
  have gY : Y.get id = some (.row false [a0, a1, a2]) := (kY id (fun e => by cases e; omega)).trans gX
  have mY : ∀ j, j < M.size → Y.get j = M.get j := fun j hj => (kY j (fun e => by cases e; omega)).trans (kX j hj)
  simp (maxSteps := 2000000) (disch := first | omega | assumption | (simp only [DS, Nat.reduceAdd, *]; done) | (simp only [DZ]; omega)) only [RUN, RU, zD, zC, zB, zE, zG, slot, lay, zH, zF, zA, kR, reduceIte, Nat.reduceEqDiff, Nat.reduceBEq, Nat.reduceLT, Nat.reduceAdd, Nat.reduceLeDiff, Nat.reduceSub, Nat.reduceMul, Int.reduceLT, Int.reduceLE, Int.reduceEq, Int.reduceAdd, Int.reduceSub, Int.reduceMul, h0, wY, on1, oc1, rl1, v1, lq_normal, lq_exit, lq_ret]
  refine w_un (by omega) ?_
  have sm1 : SlM Y 10 isRn a1 l1 := h1'.keep fun j hj => mY j (h1'.lt j hj)
  have rla := rows_lt sm1.rl (Nat.le_refl _)
  simp (maxSteps := 2000000) (disch := first | omega | assumption | (simp only [DS, Nat.reduceAdd, *]; done) | (simp only [DZ]; omega)) only [RUN, RU, zD, zC, zB, zE, zG, slot, lay, zH, zF, zA, kR, reduceIte, Nat.reduceEqDiff, Nat.reduceBEq, Nat.reduceLT, Nat.reduceAdd, Nat.reduceLeDiff, Nat.reduceSub, Nat.reduceMul, Int.reduceLT, Int.reduceLE, Int.reduceEq, Int.reduceAdd, Int.reduceSub, Int.reduceMul, h0, gY, c3, t1, q13, v2, on1, o1, rl1, rla, lq_normal, lq_exit, lq_ret]
  obtain ⟨r1, y1, z1, A1, R1⟩ := sm1.cells2
  refine SlQ.app (bytes := 80) wY sq1 y1 z1 A1 R1 fz_Rn.cel (by omega) (by simp; omega) (by simp; omega) fun o2' Z sq2 wZ sZ kZ rZ wmZ diZ => ?_
  have on2 := sq2.one
  have oc2 := sq2.cells
  have rl2 := sq2.rl (Nat.le_refl _)
  have ro2 : ∀ j, rowOf o2' = some j → j = M.size := fun j hj => ro1 j (rZ ▸ hj)
  have gZ : Z.get id = some (.row false [a0, a1, a2]) := (kZ id (fun e => by have := ro1 _ e; omega)).trans gY
  have mZ : ∀ j, j < M.size → Z.get j = M.get j := fun j hj => (kZ j (fun e => by have := ro1 _ e; omega)).trans (mY j hj)
  simp (maxSteps := 2000000) (disch := first | omega | assumption | (simp only [DS, Nat.reduceAdd, *]; done) | (simp only [DZ]; omega)) only [RUN, RU, zD, zC, zB, zE, zG, slot, lay, zH, zF, zA, kR, reduceIte, Nat.reduceEqDiff, Nat.reduceBEq, Nat.reduceLT, Nat.reduceAdd, Nat.reduceLeDiff, Nat.reduceSub, Nat.reduceMul, Int.reduceLT, Int.reduceLE, Int.reduceEq, Int.reduceAdd, Int.reduceSub, Int.reduceMul, h0, wZ, on2, oc2, rl2, v2, lq_normal, lq_exit, lq_ret]
  refine w_un (by omega) ?_
  simp (maxSteps := 2000000) (disch := first | omega | assumption | (simp only [DS, Nat.reduceAdd, *]; done) | (simp only [DZ]; omega)) only [RUN, RU, zD, zC, zB, zE, zG, slot, lay, zH, zF, zA, kR, reduceIte, Nat.reduceEqDiff, Nat.reduceBEq, Nat.reduceLT, Nat.reduceAdd, Nat.reduceLeDiff, Nat.reduceSub, Nat.reduceMul, Int.reduceLT, Int.reduceLE, Int.reduceEq, Int.reduceAdd, Int.reduceSub, Int.reduceMul, h0, gZ, c3, t2, q23, v3, on2, rl2, h2'.fz.rows, h2'.fz.one, h2'.fz.cells, h2'.fz.icy, h2'.fz.frz, lq_normal, lq_exit, lq_ret]
  obtain ⟨r2, y2, z2, A2, R2⟩ := h2'.cells2 Z
  refine SlQ.app (bytes := 80) wZ sq2 y2 z2 A2 R2 fz_Rn.cel (by omega) (by simp; omega) (by simp; omega) fun o3' U sq3 wU sU kU rU wmU diU => ?_
  have on3 := sq3.one
  have oc3 := sq3.cells
  have rl3 := sq3.rl (Nat.le_refl _)
  have ro3 : ∀ j, rowOf o3' = some j → j = M.size := fun j hj => ro2 j (rU ▸ hj)
  have mU : ∀ j, j < M.size → U.get j = M.get j := fun j hj => (kU j (fun e => by have := ro2 _ e; omega)).trans (mZ j hj)
  simp (maxSteps := 2000000) (disch := first | omega | assumption | (simp only [DS, Nat.reduceAdd, *]; done) | (simp only [DZ]; omega)) only [RUN, RU, zD, zC, zB, zE, zG, slot, lay, zH, zF, zA, kR, reduceIte, Nat.reduceEqDiff, Nat.reduceBEq, Nat.reduceLT, Nat.reduceAdd, Nat.reduceLeDiff, Nat.reduceSub, Nat.reduceMul, Int.reduceLT, Int.reduceLE, Int.reduceEq, Int.reduceAdd, Int.reduceSub, Int.reduceMul, h0, wU, on3, oc3, rl3, v3, lq_normal, lq_exit, lq_ret]
  refine w_un (by omega) ?_
  simp (maxSteps := 2000000) (disch := first | omega | assumption | (simp only [DS, Nat.reduceAdd, *]; done) | (simp only [DZ]; omega)) only [RUN, RU, zD, zC, zB, zE, zG, slot, lay, zH, zF, zA, kR, reduceIte, Nat.reduceEqDiff, Nat.reduceBEq, Nat.reduceLT, Nat.reduceAdd, Nat.reduceLeDiff, Nat.reduceSub, Nat.reduceMul, Int.reduceLT, Int.reduceLE, Int.reduceEq, Int.reduceAdd, Int.reduceSub, Int.reduceMul, h0, q33, on3, oc3, rl3, lq_normal, lq_exit, lq_ret]
  have e0 : l0.length + l1.length + l2.length - l0.length - l1.length - l2.length = 0 := by omega
  rw [e0] at sq3
  have d1 := diY (fun j hj => by cases hj; omega)
  have d2 := diZ (fun j hj => by have := ro1 j hj; omega)
  have d3 := diU (fun j hj => by have := ro2 j hj; omega)
  exact k o3' U (by have := sq3.slm; simpa using this) ⟨wU, by omega, mU, by omega, d3.trans (d2.trans (d1.trans dX))⟩ (fun j hj => by have := ro3 j hj; omega) on3 oc3 rl3
end Go.Proofs.Ytbomjpdheibmfaa
