/-
  tree: the chapter's first examples are so.
-/
import Derived.Test.YtbomjpdheibmfaaToA
import Derived.Test.YtbomjpdheibmfaaEf
set_option linter.unusedSimpArgs false
set_option linter.unusedVariables false
set_option maxRecDepth 100000
namespace Go.Proofs.Ytbomjpdheibmfaa
open Go Go.Ax
theorem lit_cells {st n : Nat} {cap : Option Nat} {M : Mem} {id : Nat} {cs : List AV} (hn : 0 < st) (hg : M.get id = some (.row false cs)) (hl : cs.length = n * st) (hz : ∀ y ∈ cs, Fz y) {f m : Nat} {af : AFunc} {us vs : List AV} {v : AV} (wf : Wf M) (h : fsT tbl f = some af) (hgc : af.gc = 1)
    (ha : ∀ M, zH (icy 12) M us = some (us, M)) (hb : ∀ M, zH (icy 12) M vs = some (vs, M))
    (hc : ∀ M, callN Try.prog (fsT tbl) 4000000 (m + 1) (.fn f) (us ++ [.pv cs n cap st] ++ vs) M = some (v, M)) {Q : AV → Mem → Prop}
    (k : ∀ M', Wf M' → M'.size = M.size → (∀ j, j ≠ id → M'.get j = M.get j) → Q v M') : W3 (callN Try.prog (fsT tbl) 4000000 (m + 1) (.fn f) (us ++ [.sl id 0 n cap st] ++ vs) M) Q := by
  have lid := Mem.get_lt hg
  have hcs : ∀ N, zH (icy 11) N cs = some (cs, N) := fun N => fz_icyL (by omega) N hz
  have hble : Nat.ble (0 + n * st) cs.length = true := ble_t (by omega)
  have hsl : slot cs 0 (n * st) = cs := slot_all _ _ hl.symm
  have i0 : ∀ k, (∀ N, zH (icy k) N cs = some (cs, N)) → icy (k + 1) M (.sl id 0 n cap st) = some (.pv cs n cap st, M.upd id (.fro cs)) := fun k hk => by
    simp only [icy, rd_row hg, hble, hk, hg, put_upd wf lid, hsl]
  have i1 : icy 12 M (.sl id 0 n cap st) = some (.pv cs n cap st, M.upd id (.fro cs)) := i0 11 hcs
  refine ⟨v, M.upd id (.fro cs), call_own (bs := us ++ [.pv cs n cap st] ++ vs) h hgc (hc mem0) (M3 := mem0) ?_ ?_, k _ (wf.upd _ _) rfl fun j hj => get_upd_ne wf _ _ _ (fun e => hj e.symm)⟩
  · have h2 : zH (icy 12) mem0 ([.pv cs n cap st] ++ vs) = some ([.pv cs n cap st] ++ vs, mem0) := by
      have : icy 12 mem0 (.pv cs n cap st) = some (.pv cs n cap st, mem0) := rfl
      simp only [List.singleton_append, zH, this, hb]
    rw [List.append_assoc]
    exact icyL_app (ha mem0) h2
  · have h2 : zH (icy 12) M ([.sl id 0 n cap st] ++ vs) = some ([.pv cs n cap st] ++ vs, M.upd id (.fro cs)) := by
      simp only [List.singleton_append, zH, i1, hb]
    rw [List.append_assoc, List.append_assoc]
    exact icyL_app (ha M) h2
set_option maxHeartbeats 4000000 in
theorem alive_run (M : Mem) : callN Try.prog (fsT tbl) 4000000 60 (.fn 4) [] M = some (BL true, M) := by
  apply w3_eq
  refine call_gc tf4 rfl (by simp (maxSteps := 2000000) (disch := first | omega | assumption | (simp only [DS, Nat.reduceAdd, *]; done) | (simp only [DZ]; omega)) only [RUN, RU, zD, zC, zB, zE, zG, slot, lay, zH, zF, zA, kR, reduceIte, Nat.reduceEqDiff, Nat.reduceBEq, Nat.reduceLT, Nat.reduceAdd, Nat.reduceLeDiff, Nat.reduceSub, Nat.reduceMul, Int.reduceLT, Int.reduceLE, Int.reduceEq, Int.reduceAdd, Int.reduceSub, Int.reduceMul]) (by simp [a4]) fun b' ht hx => ?_
  clear hx
  simp only [a4, c4] at ht ⊢
  have a1 := r130
  have a2 := r411
  have a3 := r511
  have a4 := r623
  have a5 := r120
  have a6 := r312
  simp only [vR130] at a1
  simp only [vR411] at a2
  simp only [vR511] at a3
  simp only [vR623] at a4
  simp only [vR120] at a5
  simp only [vR312] at a6
  have oa : oneA vTa = true := rfl
  have ob : oneA vTb = true := rfl
  have oc : oneA vTc = true := rfl
  have ra : rowsOf vTa = [] := rfl
  have rb : rowsOf vTb = [] := rfl
  have rc : rowsOf vTc = [] := rfl
  have ic : ∀ {n : Int}, Fz (I64 n) := fz_sc_int _ _
  have fzl : ∀ (l : List AV), l.all (fun x => match x with | .sc (.int _ _) => true | .pv cs _ _ _ => cs.all (fun y => match y with | .sc (.int _ _) => true | _ => false) | _ => false) = true → ∀ y ∈ l, Fz y := fun l h y hy => by
    have h1 := List.all_eq_true.1 h y hy
    match y, h1 with
    | .sc (.int _ _), _ => exact fz_sc_int _ _
    | .pv cs n c s, h1 =>
      refine ⟨rfl, rfl, rfl, fun M k hk => ?_, fun M m k hk => ?_⟩
      · obtain ⟨k, rfl⟩ : ∃ j, k = j + 1 := ⟨k - 1, by omega⟩
        rfl
      · obtain ⟨k, rfl⟩ : ∃ j, k = j + 1 := ⟨k - 1, by omega⟩
        rfl
  simp (maxSteps := 2000000) (disch := first | omega | assumption | (simp only [DS, Nat.reduceAdd, *]; done) | (simp only [DZ]; omega)) only [RUN, RU, zD, zC, zB, zE, zG, slot, lay, zH, zF, zA, kR, reduceIte, Nat.reduceEqDiff, Nat.reduceBEq, Nat.reduceLT, Nat.reduceAdd, Nat.reduceLeDiff, Nat.reduceSub, Nat.reduceMul, Int.reduceLT, Int.reduceLE, Int.reduceEq, Int.reduceAdd, Int.reduceSub, Int.reduceMul, a1, a2, a3, a4, a5, a6]
  refine lit_cells (st := 10) (n := 2) (cap := some 2) (id := 0) (us := []) (vs := []) (by omega) (by simp (maxSteps := 2000000) (disch := first | omega | assumption | (simp only [DS, Nat.reduceAdd, *]; done) | (simp only [DZ]; omega)) only [RUN, RU, zD, zC, zB, zE, zG, slot, lay, zH, zF, zA, kR, reduceIte, Nat.reduceEqDiff, Nat.reduceBEq, Nat.reduceLT, Nat.reduceAdd, Nat.reduceLeDiff, Nat.reduceSub, Nat.reduceMul, Int.reduceLT, Int.reduceLE, Int.reduceEq, Int.reduceAdd, Int.reduceSub, Int.reduceMul]; rfl) rfl (fzl _ rfl) (by simp (maxSteps := 2000000) (disch := first | omega | assumption | (simp only [DS, Nat.reduceAdd, *]; done) | (simp only [DZ]; omega)) only [RUN, RU, zD, zC, zB, zE, zG, slot, lay, zH, zF, zA, kR, reduceIte, Nat.reduceEqDiff, Nat.reduceBEq, Nat.reduceLT, Nat.reduceAdd, Nat.reduceLeDiff, Nat.reduceSub, Nat.reduceMul, Int.reduceLT, Int.reduceLE, Int.reduceEq, Int.reduceAdd, Int.reduceSub, Int.reduceMul]) tf11 rfl (fun _ => rfl) (fun _ => rfl) made_a fun M1 w1 s1 k1 => ?_
  have z1 : M1.size = 1 := s1
  simp (maxSteps := 2000000) (disch := first | omega | assumption | (simp only [DS, Nat.reduceAdd, *]; done) | (simp only [DZ]; omega)) only [RUN, RU, zD, zC, zB, zE, zG, slot, lay, zH, zF, zA, kR, reduceIte, Nat.reduceEqDiff, Nat.reduceBEq, Nat.reduceLT, Nat.reduceAdd, Nat.reduceLeDiff, Nat.reduceSub, Nat.reduceMul, Int.reduceLT, Int.reduceLE, Int.reduceEq, Int.reduceAdd, Int.reduceSub, Int.reduceMul, a1, a2, a3, a4, a5, a6, w1, z1]
  refine lit_cells (st := 10) (n := 4) (cap := some 4) (id := 1) (us := []) (vs := []) (by omega) (by simp (maxSteps := 2000000) (disch := first | omega | assumption | (simp only [DS, Nat.reduceAdd, *]; done) | (simp only [DZ]; omega)) only [RUN, RU, zD, zC, zB, zE, zG, slot, lay, zH, zF, zA, kR, reduceIte, Nat.reduceEqDiff, Nat.reduceBEq, Nat.reduceLT, Nat.reduceAdd, Nat.reduceLeDiff, Nat.reduceSub, Nat.reduceMul, Int.reduceLT, Int.reduceLE, Int.reduceEq, Int.reduceAdd, Int.reduceSub, Int.reduceMul, w1, z1]; rfl) rfl (fzl _ rfl) (by simp (maxSteps := 2000000) (disch := first | omega | assumption | (simp only [DS, Nat.reduceAdd, *]; done) | (simp only [DZ]; omega)) only [RUN, RU, zD, zC, zB, zE, zG, slot, lay, zH, zF, zA, kR, reduceIte, Nat.reduceEqDiff, Nat.reduceBEq, Nat.reduceLT, Nat.reduceAdd, Nat.reduceLeDiff, Nat.reduceSub, Nat.reduceMul, Int.reduceLT, Int.reduceLE, Int.reduceEq, Int.reduceAdd, Int.reduceSub, Int.reduceMul, w1]) tf11 rfl (fun _ => rfl) (fun _ => rfl) made_b fun M2 w2 s2 k2 => ?_
  have z2 : M2.size = 2 := by rw [s2, add_size, z1]
  simp (maxSteps := 2000000) (disch := first | omega | assumption | (simp only [DS, Nat.reduceAdd, *]; done) | (simp only [DZ]; omega)) only [RUN, RU, zD, zC, zB, zE, zG, slot, lay, zH, zF, zA, kR, reduceIte, Nat.reduceEqDiff, Nat.reduceBEq, Nat.reduceLT, Nat.reduceAdd, Nat.reduceLeDiff, Nat.reduceSub, Nat.reduceMul, Int.reduceLT, Int.reduceLE, Int.reduceEq, Int.reduceAdd, Int.reduceSub, Int.reduceMul, a1, a2, a3, a4, a5, a6, w2, z2]
  refine lit_cells (st := 10) (n := 2) (cap := some 2) (id := 2) (us := []) (vs := []) (by omega) (by simp (maxSteps := 2000000) (disch := first | omega | assumption | (simp only [DS, Nat.reduceAdd, *]; done) | (simp only [DZ]; omega)) only [RUN, RU, zD, zC, zB, zE, zG, slot, lay, zH, zF, zA, kR, reduceIte, Nat.reduceEqDiff, Nat.reduceBEq, Nat.reduceLT, Nat.reduceAdd, Nat.reduceLeDiff, Nat.reduceSub, Nat.reduceMul, Int.reduceLT, Int.reduceLE, Int.reduceEq, Int.reduceAdd, Int.reduceSub, Int.reduceMul, w2, z2]; rfl) rfl (fzl _ rfl) (by simp (maxSteps := 2000000) (disch := first | omega | assumption | (simp only [DS, Nat.reduceAdd, *]; done) | (simp only [DZ]; omega)) only [RUN, RU, zD, zC, zB, zE, zG, slot, lay, zH, zF, zA, kR, reduceIte, Nat.reduceEqDiff, Nat.reduceBEq, Nat.reduceLT, Nat.reduceAdd, Nat.reduceLeDiff, Nat.reduceSub, Nat.reduceMul, Int.reduceLT, Int.reduceLE, Int.reduceEq, Int.reduceAdd, Int.reduceSub, Int.reduceMul, w2]) tf11 rfl (fun _ => rfl) (fun _ => rfl) made_c fun M3 w3 s3 k3 => ?_
  have z3 : M3.size = 3 := by rw [s3, add_size, z2]
  simp (maxSteps := 2000000) (disch := first | omega | assumption | (simp only [DS, Nat.reduceAdd, *]; done) | (simp only [DZ]; omega)) only [RUN, RU, zD, zC, zB, zE, zG, slot, lay, zH, zF, zA, kR, reduceIte, Nat.reduceEqDiff, Nat.reduceBEq, Nat.reduceLT, Nat.reduceAdd, Nat.reduceLeDiff, Nat.reduceSub, Nat.reduceMul, Int.reduceLT, Int.reduceLE, Int.reduceEq, Int.reduceAdd, Int.reduceSub, Int.reduceMul, w3, z3, oa, ob, oc, ra, rb, rc]
  have ia : ∀ M, icy 12 M vTa = some (vTa, M) := fun _ => rfl
  have ib : ∀ M, icy 12 M vTb = some (vTb, M) := fun _ => rfl
  have ic' : ∀ M, icy 12 M vTc = some (vTc, M) := fun _ => rfl
  have it : ∀ M, icy 12 M (BL true) = some (BL true, M) := fun _ => rfl
  have la : ∀ M, lenO M vTa = some (I64 3, M) := fun _ => rfl
  have lc : ∀ M, lenO M vTc = some (I64 1, M) := fun _ => rfl
  have e3 : decide ((3 : Int) = 3) = true := rfl
  have e1 : decide ((1 : Int) = 1) = true := rfl
  refine lit_cells (st := 1) (n := 4) (cap := some 4) (id := 3) (us := [vTa, BL true]) (vs := []) (by omega) (by simp (maxSteps := 2000000) (disch := first | omega | assumption | (simp only [DS, Nat.reduceAdd, *]; done) | (simp only [DZ]; omega)) only [RUN, RU, zD, zC, zB, zE, zG, slot, lay, zH, zF, zA, kR, reduceIte, Nat.reduceEqDiff, Nat.reduceBEq, Nat.reduceLT, Nat.reduceAdd, Nat.reduceLeDiff, Nat.reduceSub, Nat.reduceMul, Int.reduceLT, Int.reduceLE, Int.reduceEq, Int.reduceAdd, Int.reduceSub, Int.reduceMul, w3, z3]) rfl (fzl _ rfl) (by simp (maxSteps := 2000000) (disch := first | omega | assumption | (simp only [DS, Nat.reduceAdd, *]; done) | (simp only [DZ]; omega)) only [RUN, RU, zD, zC, zB, zE, zG, slot, lay, zH, zF, zA, kR, reduceIte, Nat.reduceEqDiff, Nat.reduceBEq, Nat.reduceLT, Nat.reduceAdd, Nat.reduceLeDiff, Nat.reduceSub, Nat.reduceMul, Int.reduceLT, Int.reduceLE, Int.reduceEq, Int.reduceAdd, Int.reduceSub, Int.reduceMul, w3]) tf13 rfl (fun M => by simp only [zH, ia, it]) (fun _ => rfl) are_a fun M4 w4 s4 k4 => ?_
  have z4 : M4.size = 4 := by rw [s4, add_size, z3]
  simp (maxSteps := 2000000) (disch := first | omega | assumption | (simp only [DS, Nat.reduceAdd, *]; done) | (simp only [DZ]; omega)) only [RUN, RU, zD, zC, zB, zE, zG, slot, lay, zH, zF, zA, kR, reduceIte, Nat.reduceEqDiff, Nat.reduceBEq, Nat.reduceLT, Nat.reduceAdd, Nat.reduceLeDiff, Nat.reduceSub, Nat.reduceMul, Int.reduceLT, Int.reduceLE, Int.reduceEq, Int.reduceAdd, Int.reduceSub, Int.reduceMul, w4, z4, oa, ob, oc, ra, rb, rc, la, e3]
  refine lit_cells (st := 1) (n := 7) (cap := some 7) (id := 4) (us := [vTb, BL true]) (vs := []) (by omega) (by simp (maxSteps := 2000000) (disch := first | omega | assumption | (simp only [DS, Nat.reduceAdd, *]; done) | (simp only [DZ]; omega)) only [RUN, RU, zD, zC, zB, zE, zG, slot, lay, zH, zF, zA, kR, reduceIte, Nat.reduceEqDiff, Nat.reduceBEq, Nat.reduceLT, Nat.reduceAdd, Nat.reduceLeDiff, Nat.reduceSub, Nat.reduceMul, Int.reduceLT, Int.reduceLE, Int.reduceEq, Int.reduceAdd, Int.reduceSub, Int.reduceMul, w4, z4]) rfl (fzl _ rfl) (by simp (maxSteps := 2000000) (disch := first | omega | assumption | (simp only [DS, Nat.reduceAdd, *]; done) | (simp only [DZ]; omega)) only [RUN, RU, zD, zC, zB, zE, zG, slot, lay, zH, zF, zA, kR, reduceIte, Nat.reduceEqDiff, Nat.reduceBEq, Nat.reduceLT, Nat.reduceAdd, Nat.reduceLeDiff, Nat.reduceSub, Nat.reduceMul, Int.reduceLT, Int.reduceLE, Int.reduceEq, Int.reduceAdd, Int.reduceSub, Int.reduceMul, w4]) tf13 rfl (fun M => by simp only [zH, ib, it]) (fun _ => rfl) are_b fun M5 w5 s5 k5 => ?_
  have z5 : M5.size = 5 := by rw [s5, add_size, z4]
  simp (maxSteps := 2000000) (disch := first | omega | assumption | (simp only [DS, Nat.reduceAdd, *]; done) | (simp only [DZ]; omega)) only [RUN, RU, zD, zC, zB, zE, zG, slot, lay, zH, zF, zA, kR, reduceIte, Nat.reduceEqDiff, Nat.reduceBEq, Nat.reduceLT, Nat.reduceAdd, Nat.reduceLeDiff, Nat.reduceSub, Nat.reduceMul, Int.reduceLT, Int.reduceLE, Int.reduceEq, Int.reduceAdd, Int.reduceSub, Int.reduceMul, w5, z5, oa, ob, oc, ra, rb, rc]
  refine lit_cells (st := 1) (n := 3) (cap := some 3) (id := 5) (us := [vTc, BL true]) (vs := []) (by omega) (by simp (maxSteps := 2000000) (disch := first | omega | assumption | (simp only [DS, Nat.reduceAdd, *]; done) | (simp only [DZ]; omega)) only [RUN, RU, zD, zC, zB, zE, zG, slot, lay, zH, zF, zA, kR, reduceIte, Nat.reduceEqDiff, Nat.reduceBEq, Nat.reduceLT, Nat.reduceAdd, Nat.reduceLeDiff, Nat.reduceSub, Nat.reduceMul, Int.reduceLT, Int.reduceLE, Int.reduceEq, Int.reduceAdd, Int.reduceSub, Int.reduceMul, w5, z5]) rfl (fzl _ rfl) (by simp (maxSteps := 2000000) (disch := first | omega | assumption | (simp only [DS, Nat.reduceAdd, *]; done) | (simp only [DZ]; omega)) only [RUN, RU, zD, zC, zB, zE, zG, slot, lay, zH, zF, zA, kR, reduceIte, Nat.reduceEqDiff, Nat.reduceBEq, Nat.reduceLT, Nat.reduceAdd, Nat.reduceLeDiff, Nat.reduceSub, Nat.reduceMul, Int.reduceLT, Int.reduceLE, Int.reduceEq, Int.reduceAdd, Int.reduceSub, Int.reduceMul, w5]) tf13 rfl (fun M => by simp only [zH, ic', it]) (fun _ => rfl) are_c fun M6 w6 s6 k6 => ?_
  simp (maxSteps := 2000000) (disch := first | omega | assumption | (simp only [DS, Nat.reduceAdd, *]; done) | (simp only [DZ]; omega)) only [RUN, RU, zD, zC, zB, zE, zG, slot, lay, zH, zF, zA, kR, reduceIte, Nat.reduceEqDiff, Nat.reduceBEq, Nat.reduceLT, Nat.reduceAdd, Nat.reduceLeDiff, Nat.reduceSub, Nat.reduceMul, Int.reduceLT, Int.reduceLE, Int.reduceEq, Int.reduceAdd, Int.reduceSub, Int.reduceMul, w6, oa, ob, oc, ra, rb, rc, lc, e1]
end Go.Proofs.Ytbomjpdheibmfaa
