/-
  Histories: Check, Only.
-/
import Derived.Test.YtimimdjpmcmpnaaSaU
import Derived.Test.YtimimdjpmcmpnaaEf
set_option linter.unusedSimpArgs false
set_option linter.unusedVariables false
set_option maxRecDepth 100000
namespace Go.Proofs.Ytimimdjpmcmpnaa
open Go Go.Ax
variable {fuel : Nat} {M : Mem} {Q : AV → Mem → Prop} {d : Nat} {x : Eid} {l : List Op} {o : Op} {ra ops a : AV} {B id m : Nat} {v : Lb}

abbrev opH (o : Op) : List AV := [U8 o.kd, U8 o.hd.lb.lv, U32 o.hd.lb.cats, U8 o.hd.num, I64 o.sr, U8 o.sp.f.hd.lb.lv, U32 o.sp.f.hd.lb.cats, U8 o.sp.f.hd.num, I64 o.sp.f.c, I64 o.sp.n, U8 o.af.hd.lb.lv, U32 o.af.hd.lb.cats, U8 o.af.hd.num, I64 o.af.c, U8 o.to.lv, U32 o.to.cats]
def opK : NK Op Int where
  st := 17
  H := opH
  f := Op.rs
  T := isI32
  ok := Op.ok
  hl := fun _ => rfl
  hz := fun o y hy => by
    simp only [opH, List.mem_cons, List.not_mem_nil, or_false] at hy
    rcases hy with rfl | rfl | rfl | rfl | rfl | rfl | rfl | rfl | rfl | rfl | rfl | rfl | rfl | rfl | rfl | rfl
    all_goals exact fz_sc_int _ _
  ft := fz_I32
theorem opK_sl (h : Sl opK.st opK.is a l) : Sl 17 isOp a l := h
theorem doccheck_run (hS : Sl 17 isOp a l) (hl : l.length ≤ 10000) (hf : l.length + 400 < fuel) (M : Mem) : callN Try.prog (fsT tbl) fuel (d + 14) (.fn 7) [a] M = some (I64 (err (histF [] l)), M) := by
  apply w3_eq
  refine call_gc tf7 rfl (by simp only [icyL, fun M => hS.icy M 12 (by omega)]) (by simp [a7]) fun b' ht hx => ?_
  have h0 := hx 0 _ rfl
  clear hx
  simp only [a7, c7] at ht ⊢
  simp (maxSteps := 2000000) (disch := first | omega | assumption | (simp only [DS, Nat.reduceAdd, *]; done) | (simp only [DZ]; omega)) only [RUN, RU, footA, feetIn, resultsA, tupOf, frzL, slot, lay, icyL, fillA, repCells, kR, reduceIte, Nat.reduceEqDiff, Nat.reduceBEq, Nat.reduceLT, Nat.reduceAdd, Nat.reduceLeDiff, Nat.reduceSub, Nat.reduceMul, Int.reduceLT, Int.reduceLE, Int.reduceEq, Int.reduceAdd, Int.reduceSub, Int.reduceMul, h0, hS.fz.rows, hS.fz.one, hS.fz.cells, hS.fz.icy, hS.fz.frz]
  refine of_0 (d := d) hS hl hf Wf.mem0 (Nat.le_refl _) (fun N w s k hh => ?_) (fun N ops w s wm k hh _ _ => ?_)
  · rw [hh]
    simp (maxSteps := 2000000) (disch := first | omega | assumption | (simp only [DS, Nat.reduceAdd, *]; done) | (simp only [DZ]; omega)) only [RUN, RU, footA, feetIn, resultsA, tupOf, frzL, slot, lay, icyL, fillA, repCells, kR, reduceIte, Nat.reduceEqDiff, Nat.reduceBEq, Nat.reduceLT, Nat.reduceAdd, Nat.reduceLeDiff, Nat.reduceSub, Nat.reduceMul, Int.reduceLT, Int.reduceLE, Int.reduceEq, Int.reduceAdd, Int.reduceSub, Int.reduceMul, h0, err_f]
  · rw [hh]
    simp (maxSteps := 2000000) (disch := first | omega | assumption | (simp only [DS, Nat.reduceAdd, *]; done) | (simp only [DZ]; omega)) only [RUN, RU, footA, feetIn, resultsA, tupOf, frzL, slot, lay, icyL, fillA, repCells, kR, reduceIte, Nat.reduceEqDiff, Nat.reduceBEq, Nat.reduceLT, Nat.reduceAdd, Nat.reduceLeDiff, Nat.reduceSub, Nat.reduceMul, Int.reduceLT, Int.reduceLE, Int.reduceEq, Int.reduceAdd, Int.reduceSub, Int.reduceMul, h0, err_t]
def onlyE (l : List Op) (v : Lb) : Int := err (histF [] l && v.may)
def lowL (l : List Op) (v : Lb) : List Op := l.filter fun o => o.hd.lb.leq v
theorem low_snoc (l : List Op) (o : Op) (v : Lb) : lowL (l ++ [o]) v = lowL l v ++ (if o.hd.lb.leq v then [o] else []) := by
  unfold lowL
  rw [List.filter_append]
  cases h : o.hd.lb.leq v <;> simp [List.filter_cons, h]
theorem low_len (l : List Op) (v : Lb) : (lowL l v).length ≤ l.length := List.length_filter_le _ _
def onlyK (l : List Op) (v : Lb) (r : AV) : Prop := ∃ r1, r = .tup [r1, I64 (onlyE l v)] ∧ Sl 17 isOp r1 (if onlyE l v = 0 then lowL l v else [])
theorem im88 : imax 8 8 = 8 := by decide
theorem im80 : imax 8 0 = 8 := by decide
theorem im08 : imax 0 8 = 8 := by decide
theorem im00 : imax 0 0 = 0 := by decide
theorem IMX : type_of% (And.intro im88 (And.intro im80 (And.intro im08 im00))) := And.intro im88 (And.intro im80 (And.intro im08 im00))
set_option maxHeartbeats 8000000 in
theorem only_run (hS : Sl 17 isOp a l) (hl : l.length ≤ 10000) (hf : l.length + 400 < fuel) (hd : ∀ o ∈ l, o.rs.length ≤ 1000000000) : ∃ r, onlyK l v r ∧ ∀ M, callN Try.prog (fsT tbl) fuel (d + 15) (.fn 6) [a, lbA v] M = some (r, M) := by
  have ll := hS.len
  have hck := fun M => doccheck_run (fuel := fuel) (d := d) hS hl hf M
  have hlc := fun M => @lcheck_run fuel (d + 13) v M
  refine gc_ex tf6 rfl (fun M => by simp only [icyL, fun M => hS.icy M 12 (by omega), fz_icyA (fz_lbR v) (show 1 < 12 by omega)]) ?_
  refine call_gc tf6 rfl (by simp only [icyL, fun M => hS.icy M 12 (by omega), fz_icyA (fz_lbR v) (show 1 < 12 by omega)]) (by simp [a6]) fun b' ht hx => ?_
  have h0 := hx 0 _ rfl
  have h1 := hx 1 _ rfl
  clear hx
  simp only [a6, c6] at ht ⊢
  unfold onlyK onlyE
  cases q1 : histF [] l with
  | false =>
    rw [q1] at hck
    cases q2 : v.may <;> rw [q2] at hlc
    all_goals
      simp (maxSteps := 2000000) (disch := first | omega | assumption | (simp only [DS, Nat.reduceAdd, *]; done) | (simp only [DZ]; omega)) only [RUN, RU, footA, feetIn, resultsA, tupOf, frzL, slot, lay, icyL, fillA, repCells, kR, reduceIte, Nat.reduceEqDiff, Nat.reduceBEq, Nat.reduceLT, Nat.reduceAdd, Nat.reduceLeDiff, Nat.reduceSub, Nat.reduceMul, Int.reduceLT, Int.reduceLE, Int.reduceEq, Int.reduceAdd, Int.reduceSub, Int.reduceMul, h0, h1, hS.fz.rows, hS.fz.one, hS.fz.cells, hS.fz.icy, hS.fz.frz, hck, hlc, err_t, err_f, z00, z80, pB_max2, pB_min2, pB_max3, BMM, IMX, Bool.false_and]
      exact ⟨_, ⟨NIL, rfl, .inl ⟨rfl, rfl⟩⟩, rfl⟩
  | true =>
    rw [q1] at hck
    cases q2 : v.may <;> rw [q2] at hlc
    · simp (maxSteps := 2000000) (disch := first | omega | assumption | (simp only [DS, Nat.reduceAdd, *]; done) | (simp only [DZ]; omega)) only [RUN, RU, footA, feetIn, resultsA, tupOf, frzL, slot, lay, icyL, fillA, repCells, kR, reduceIte, Nat.reduceEqDiff, Nat.reduceBEq, Nat.reduceLT, Nat.reduceAdd, Nat.reduceLeDiff, Nat.reduceSub, Nat.reduceMul, Int.reduceLT, Int.reduceLE, Int.reduceEq, Int.reduceAdd, Int.reduceSub, Int.reduceMul, h0, h1, hS.fz.rows, hS.fz.one, hS.fz.cells, hS.fz.icy, hS.fz.frz, hck, hlc, err_t, err_f, z00, z80, pB_max2, pB_min2, pB_max3, BMM, IMX, Bool.false_and]
      exact ⟨_, ⟨NIL, rfl, .inl ⟨rfl, rfl⟩⟩, rfl⟩
    · simp (maxSteps := 2000000) (disch := first | omega | assumption | (simp only [DS, Nat.reduceAdd, *]; done) | (simp only [DZ]; omega)) only [RUN, RU, footA, feetIn, resultsA, tupOf, frzL, slot, lay, icyL, fillA, repCells, kR, reduceIte, Nat.reduceEqDiff, Nat.reduceBEq, Nat.reduceLT, Nat.reduceAdd, Nat.reduceLeDiff, Nat.reduceSub, Nat.reduceMul, Int.reduceLT, Int.reduceLE, Int.reduceEq, Int.reduceAdd, Int.reduceSub, Int.reduceMul, h0, h1, hS.fz.rows, hS.fz.one, hS.fz.cells, hS.fz.icy, hS.fz.frz, hck, hlc, err_t, err_f, z00, z80, pB_max2, pB_min2, pB_max3, BMM, IMX, ll]
      refine w_loop (I := fun n t N => ∃ (i : Nat) (out : AV), n = l.length - i ∧ i ≤ l.length ∧ nth undefA t 3 = .ptr 0 0 ∧ nth undefA t 4 = out ∧ nth undefA t 17 = a ∧ nth undefA t 18 = I64 l.length ∧ nth undefA t 19 = I64 i ∧ Wf N ∧ N.get 0 = some (.row false (lbR v)) ∧ N.wm = 0 ∧ opK.NN N 1 out (lowL (l.take i) v)) (n := l.length) (by omega) ?_ ?_
      · refine ⟨0, NIL, rfl, Nat.zero_le _, ?_, ?_, ?_, ?_, ?_, Wf.mem0.add _, by simp (maxSteps := 2000000) (disch := first | omega | assumption | (simp only [DS, Nat.reduceAdd, *]; done) | (simp only [DZ]; omega)) only [RUN, RU, footA, feetIn, resultsA, tupOf, frzL, slot, lay, icyL, fillA, repCells, kR, reduceIte, Nat.reduceEqDiff, Nat.reduceBEq, Nat.reduceLT, Nat.reduceAdd, Nat.reduceLeDiff, Nat.reduceSub, Nat.reduceMul, Int.reduceLT, Int.reduceLE, Int.reduceEq, Int.reduceAdd, Int.reduceSub, Int.reduceMul], rfl, NK.NN.nil _ _⟩ <;> simp (maxSteps := 2000000) (disch := first | omega | assumption | (simp only [DS, Nat.reduceAdd, *]; done) | (simp only [DZ]; omega)) only [RUN, RU, footA, feetIn, resultsA, tupOf, frzL, slot, lay, icyL, fillA, repCells, kR, reduceIte, Nat.reduceEqDiff, Nat.reduceBEq, Nat.reduceLT, Nat.reduceAdd, Nat.reduceLeDiff, Nat.reduceSub, Nat.reduceMul, Int.reduceLT, Int.reduceLE, Int.reduceEq, Int.reduceAdd, Int.reduceSub, Int.reduceMul, h0, ll]
        all_goals first | rfl | assumption | done
      · rintro n t N hlt ⟨i, out, rfl, hi, g3, g4, g17, g18, g19, w, g, wm, hN⟩
        simp only [ht] at hlt ⊢
        by_cases hc : i < l.length
        · have q3 : decide ((i : Int) < l.length) = true := decide_eq_true (by omega)
          have w1 : IntKind.i64.wrap ((i : Int) + 1) = ((i + 1 : Nat) : Int) := by rw [wrap_i64] <;> omega
          obtain ⟨r, hiad, hr, hrl⟩ := hS.iad i hc
          have hls := low_snoc (l.take i) l[i] v
          rw [← take_snoc l i hc] at hls
          have hlo := hd l[i] (List.getElem_mem hc)
          have hll := low_len (l.take i) v
          rw [List.length_take] at hll
          generalize l[i] = e at *
          obtain ⟨ra, rfl, hra, hok⟩ := hr
          have ora := hra.one
          have lN := Mem.get_lt g
          have hle := fun M => @leq_run fuel (d + 13) e.hd.lb v M
          have kX := ((Kept.refl w).add (.row false (opR ⟨0, Hd.z, 0, ⟨Eid.z, 0⟩, Eid.z, Lb.z, []⟩ NIL))).upd (by omega) (Nat.le_refl _) (.row false (opR e ra))
          cases q4 : e.hd.lb.leq v with
          | false =>
            rw [q4] at hle
            rw [q4, if_neg (by decide), List.append_nil] at hls
            simp (maxSteps := 2000000) (disch := first | omega | assumption | (simp only [DS, Nat.reduceAdd, *]; done) | (simp only [DZ]; omega)) only [RUN, RU, footA, feetIn, resultsA, tupOf, frzL, slot, lay, icyL, fillA, repCells, kR, reduceIte, Nat.reduceEqDiff, Nat.reduceBEq, Nat.reduceLT, Nat.reduceAdd, Nat.reduceLeDiff, Nat.reduceSub, Nat.reduceMul, Int.reduceLT, Int.reduceLE, Int.reduceEq, Int.reduceAdd, Int.reduceSub, Int.reduceMul, g3, g4, g17, g18, g19, hS.fz.rows, hS.fz.one, hS.fz.cells, hS.fz.icy, hS.fz.frz, q3, hiad, hra.fz.rows, hra.fz.one, hra.fz.cells, hra.fz.icy, hra.fz.frz, w, g, hle, w1]
            exact ⟨hlt, l.length - (i + 1), by omega, i + 1, out, rfl, by omega, rfl, rfl, wm, by rw [hls]; exact hN.keep fun j a b => kX.get j b⟩
          | true =>
            rw [q4] at hle
            rw [q4, if_pos rfl] at hls
            have oo := hN.one
            have oc := hN.cells
            simp (maxSteps := 2000000) (disch := first | omega | assumption | (simp only [DS, Nat.reduceAdd, *]; done) | (simp only [DZ]; omega)) only [RUN, RU, footA, feetIn, resultsA, tupOf, frzL, slot, lay, icyL, fillA, repCells, kR, reduceIte, Nat.reduceEqDiff, Nat.reduceBEq, Nat.reduceLT, Nat.reduceAdd, Nat.reduceLeDiff, Nat.reduceSub, Nat.reduceMul, Int.reduceLT, Int.reduceLE, Int.reduceEq, Int.reduceAdd, Int.reduceSub, Int.reduceMul, g3, g4, g17, g18, g19, hS.fz.rows, hS.fz.one, hS.fz.cells, hS.fz.icy, hS.fz.frz, q3, hiad, hra.fz.rows, hra.fz.one, hra.fz.cells, hra.fz.icy, hra.fz.frz, w, g, hle, oo, oc]
            refine optwin_0 (d := d + 12) hra hlo kX.wf (by rw [kX.wm]; omega) fun a' N2 hN2 sm2 nw2 => ?_
            have k2 := kX.trans hN2
            have w2 := k2.wf
            have oa := sm2.one
            have ca := sm2.cells
            have rl2 := rows_lt sm2.rl (Nat.le_refl N2.size)
            have rr2 := hN.rows (show N.size ≤ N2.size + 1 by have := k2.le; omega)
            simp (maxSteps := 2000000) (disch := first | omega | assumption | (simp only [DS, Nat.reduceAdd, *]; done) | (simp only [DZ]; omega)) only [RUN, RU, footA, feetIn, resultsA, tupOf, frzL, slot, lay, icyL, fillA, repCells, kR, reduceIte, Nat.reduceEqDiff, Nat.reduceBEq, Nat.reduceLT, Nat.reduceAdd, Nat.reduceLeDiff, Nat.reduceSub, Nat.reduceMul, Int.reduceLT, Int.reduceLE, Int.reduceEq, Int.reduceAdd, Int.reduceSub, Int.reduceMul, g3, g4, g17, g18, g19, w2, oa, ca, oo, oc, rl2, rr2]
            have hsz : N.size + 1 ≤ N2.size := hN2.le
            refine NK.NN.app (K := opK) (B := 1) (l := lowL (l.take i) v) (x := e) (ra := a') w2 (hN.keep fun j a b => k2.get j b) ⟨rfl, oa, ca⟩ ⟨sm2, fun j hj => by have := nw2 j hj; simp only [upd_size, add_size] at this; omega, hok⟩ (fun j hj hj2 => by have h1 := hN.lt j hj; have h2 := nw2 j hj2; simp only [upd_size, add_size] at h2; omega) (by omega) (by omega) (by omega) fun o' M' hN' w' le' kp' nw' wm' => ?_
            simp (maxSteps := 2000000) (disch := first | omega | assumption | (simp only [DS, Nat.reduceAdd, *]; done) | (simp only [DZ]; omega)) only [RUN, RU, footA, feetIn, resultsA, tupOf, frzL, slot, lay, icyL, fillA, repCells, kR, reduceIte, Nat.reduceEqDiff, Nat.reduceBEq, Nat.reduceLT, Nat.reduceAdd, Nat.reduceLeDiff, Nat.reduceSub, Nat.reduceMul, Int.reduceLT, Int.reduceLE, Int.reduceEq, Int.reduceAdd, Int.reduceSub, Int.reduceMul, g3, g4, g17, g18, g19, w1]
            refine ⟨hlt, l.length - (i + 1), by omega, i + 1, o', rfl, by omega, rfl, rfl, w', ?_, ?_, by rw [hls]; exact hN'⟩
            · rw [kp' 0 (by omega) (fun h => by have := hN.lt 0 h; omega), k2.get 0 lN]; exact g
            · rw [wm', k2.wm]; exact wm
        · obtain rfl : i = l.length := by omega
          have q3 : decide ((l.length : Int) < l.length) = false := decide_eq_false (by omega)
          rw [List.take_length] at hN
          obtain ⟨o', hz, hs⟩ := hN.frz (k := 11) (by omega)
          have hz := hz N (fun _ _ => rfl)
          simp (maxSteps := 2000000) (disch := first | omega | assumption | (simp only [DS, Nat.reduceAdd, *]; done) | (simp only [DZ]; omega)) only [RUN, RU, footA, feetIn, resultsA, tupOf, frzL, slot, lay, icyL, fillA, repCells, kR, reduceIte, Nat.reduceEqDiff, Nat.reduceBEq, Nat.reduceLT, Nat.reduceAdd, Nat.reduceLeDiff, Nat.reduceSub, Nat.reduceMul, Int.reduceLT, Int.reduceLE, Int.reduceEq, Int.reduceAdd, Int.reduceSub, Int.reduceMul, g4, g18, g19, q3, hz]
          exact ⟨_, ⟨o', rfl, opK_sl hs⟩, rfl⟩
end Go.Proofs.Ytimimdjpmcmpnaa
