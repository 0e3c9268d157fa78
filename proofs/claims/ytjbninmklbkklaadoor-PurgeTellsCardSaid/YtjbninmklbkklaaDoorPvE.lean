/-
  purge: Purge in the caller's memory.
-/
import Derived.Test.YtjbninmklbkklaaDoorPvC
set_option linter.unusedSimpArgs false
set_option linter.unusedVariables false
set_option maxRecDepth 100000
namespace Go.Proofs.YtjbninmklbkklaaDoor
open Go Go.Ax
variable {fuel : Nat} {M : Mem} {Q : AV → Mem → Prop} {d : Nat}

theorem fin0_mark {rs : List ARes} {K : AV → Mem → Prop} {t : List AV} {M : Mem} {d : Nat} (wf : Wf M) (h : M.get d = some (.dfr false)) (k : fin0 rs K .ret ⟨t, []⟩ (M.upd d (.dfr true))) : fin0 rs K .ret ⟨t, [d]⟩ M := by
  unfold fin0 at k ⊢
  simp only [spend, h, put_upd wf (Mem.get_lt h)] at k ⊢
  exact k
theorem RR.mono {B B' : Nat} {o : AV} {l : List Ev} (h : RR M B o l) (hb : B' ≤ B) : RR M B' o l := by
  obtain ⟨lr, h1, h2, h3, h4, h5⟩ := h
  exact ⟨lr, h1, h2, fun x hx => (h3 x hx).mono hb, fun j hj => Nat.le_trans hb (h4 j hj), h5⟩
def purgeF (v : Lb) (l : List Ev) : List Ev × Int := if chk l ≠ 0 then ([], chk l) else if v.may then (leftF v l, 0) else ([], 8)
theorem chk_may {l : List Ev} (h : chk l = 0) : l.length ≤ 2048 ∧ ∀ e ∈ l, e.may = true := by
  unfold chk at h
  split at h
  · cases h
  · split at h
    · cases h
    · rename_i h1 h2
      refine ⟨by omega, fun e he => ?_⟩
      cases hm : e.may with
      | true => rfl
      | false => exact absurd (List.any_eq_true.2 ⟨e, he, by rw [hm]; rfl⟩) h2
theorem may_len {e : Ev} (h : e.may = true) : e.data.length ≤ 1100 ∧ e.crash.length ≤ 3 := by
  simp only [Ev.may, Bool.and_eq_true, decide_eq_true_eq] at h
  omega
set_option maxHeartbeats 8000000 in
theorem tail0 {l : List Ev} {t : List AV} {o : AV} {N : Mem} {c dd B : Nat} {call : Tg → List AV → Mem → Option (AV × Mem)} (h8 : nth undefA t 8 = .ptr c 0) (hlen : t.length = 29) (wN : Wf N) (n1 : N.get c = some (.row false [o])) (hR : RR N B o l) (n4 : N.get dd = some (.dfr false)) (hdd : dd < B)
    (k : ∀ N', Wf N' → N'.size = N.size → (∀ j, j ≠ dd → N'.get j = N.get j) → RR N' B o l → Q (.tup [o, I64 0]) N') :
    W (execCode Tryd.prog fuel call none cYT ⟨t, [dd]⟩ N) (fin0 [.tmp 4, .tmp 5] Q) := by
  show W (execCode Tryd.prog fuel call none cYT ⟨St t [], [dd]⟩ N) _
  have s1 := Mem.get_lt n1
  unfold cYT
  simp (maxSteps := 2000000) (disch := first | omega | assumption | (simp only [DS, Nat.reduceAdd, *]; done) | (simp only [DZ]; omega)) only [RUN, RU, footA, feetIn, resultsA, tupOf, frzL, slot, lay, icyL, fillA, repCells, kR, reduceIte, Nat.reduceEqDiff, Nat.reduceBEq, Nat.reduceLT, Nat.reduceAdd, Nat.reduceLeDiff, Nat.reduceSub, Nat.reduceMul, Int.reduceLT, Int.reduceLE, Int.reduceEq, Int.reduceAdd, Int.reduceSub, Int.reduceMul, h8, n1, wN]
  refine fin0_mark wN n4 ?_
  simp (maxSteps := 2000000) (disch := first | omega | assumption | (simp only [DS, Nat.reduceAdd, *]; done) | (simp only [DZ]; omega)) only [RUN, RU, footA, feetIn, resultsA, tupOf, frzL, slot, lay, icyL, fillA, repCells, kR, reduceIte, Nat.reduceEqDiff, Nat.reduceBEq, Nat.reduceLT, Nat.reduceAdd, Nat.reduceLeDiff, Nat.reduceSub, Nat.reduceMul, Int.reduceLT, Int.reduceLE, Int.reduceEq, Int.reduceAdd, Int.reduceSub, Int.reduceMul]
  exact k _ (wN.upd _ _) rfl (fun j hj => get_upd_ne wN _ _ _ (fun e => hj e.symm)) (hR.keep fun j a b => get_upd_ne wN _ _ _ (by omega))
set_option maxHeartbeats 8000000 in
theorem left1_at {a : AV} {v : Lb} {l : List Ev} {L tm : List AV} (hS : Sl 17 isEv a l) (hl : l.length ≤ 100000) (hd : ∀ e ∈ l, e.data.length ≤ 140737488355328 ∧ e.crash.length ≤ 17592186044416) (hf : l.length + 100 < fuel) (wf : Wf M) (h8 : nth undefA tm 8 = .ptr (M.size + 1) 0) (hlen : tm.length = 29)
    (k : ∀ u o N, Wf N → M.size + 6 ≤ N.size → N.get (M.size + 1) = some (.row false [o]) → RR N (M.size + 6) o (leftF v l) → N.get (M.size + 1 + 1 + 1 + 1) = some (.dfr false) → N.get (M.size + 1 + 1 + 1 + 1 + 1) = some (.loop .ready none tm [23] cY1 cY2 (M.size + 1 + 1 + 1 + 1)) → (∀ j, j < M.size → N.get j = M.get j) → Q u N) :
    W3 (callN Tryd.prog (fsT tbl) fuel (d + 5) (.fn 38) [.yl (M.size + 1 + 1 + 1 + 1 + 1), .ptr (M.size + 1 + 1) 0, .ptr (M.size + 1 + 1 + 1) 0] ((((((M.add (.row false L)).add (.row false [NIL])).add (.row false [a])).add (.row false [U8 v.lv, U32 v.cats])).add (.dfr false)).add (.loop .ready none tm [23] cY1 cY2 (M.size + 1 + 1 + 1 + 1)))) Q := by
  have w1 := wf.add (.row false L)
  have w2 := w1.add (.row false [NIL])
  have w3 := w2.add (.row false [a])
  have w4 := w3.add (.row false [U8 v.lv, U32 v.cats])
  have w5 := w4.add (.dfr false)
  have n4 : ((((((M.add (.row false L)).add (.row false [NIL])).add (.row false [a])).add (.row false [U8 v.lv, U32 v.cats])).add (.dfr false)).add (.loop .ready none tm [23] cY1 cY2 (M.size + 1 + 1 + 1 + 1))).get (M.size + 1 + 1 + 1 + 1) = some (.dfr false) := by
    rw [get_add w5 _ _ (by simp only [add_size]; omega), get_add_new w4 _ _ (by simp only [add_size]; omega) (by simp only [add_size]; omega)]
  have low : ∀ j, j < M.size → ((((((M.add (.row false L)).add (.row false [NIL])).add (.row false [a])).add (.row false [U8 v.lv, U32 v.cats])).add (.dfr false)).add (.loop .ready none tm [23] cY1 cY2 (M.size + 1 + 1 + 1 + 1))).get j = M.get j := fun j hj => by
    rw [get_add w5 _ _ (by simp only [add_size]; omega), get_add w4 _ _ (by simp only [add_size]; omega), get_add w3 _ _ (by simp only [add_size]; omega), get_add w2 _ _ (by simp only [add_size]; omega), get_add w1 _ _ (by simp only [add_size]; omega), get_add wf _ _ hj]
  refine left1_0 (v := v) (d := d) (id := M.size + 1 + 1 + 1 + 1 + 1) (df := M.size + 1 + 1 + 1 + 1) (c := M.size + 1) (p := M.size + 1 + 1) (q := M.size + 1 + 1 + 1) (B := M.size + 6) hS hl hd hf (w5.add _) ?_ h8 hlen ?_ ?_ ?_ (by omega) (by omega) (by omega) (by omega) (by omega) (by simp only [add_size]) (fun u o N wN lN n1 nR ni nk => ?_)
  · exact get_add_new w5 _ _ (by simp only [add_size]; omega) (by simp only [add_size]; omega)
  · rw [get_add w5 _ _ (by simp only [add_size]; omega), get_add w4 _ _ (by simp only [add_size]; omega), get_add w3 _ _ (by simp only [add_size]; omega), get_add w2 _ _ (by simp only [add_size]; omega), get_add_new w1 _ _ (by simp only [add_size]; omega) (by simp only [add_size]; omega)]
  · rw [get_add w5 _ _ (by simp only [add_size]; omega), get_add w4 _ _ (by simp only [add_size]; omega), get_add w3 _ _ (by simp only [add_size]; omega), get_add_new w2 _ _ (by simp only [add_size]; omega) (by simp only [add_size]; omega)]
  · rw [get_add w5 _ _ (by simp only [add_size]; omega), get_add w4 _ _ (by simp only [add_size]; omega), get_add_new w3 _ _ (by simp only [add_size]; omega) (by simp only [add_size]; omega)]
  · exact k u o N wN lN n1 nR ((nk _ (by omega) (by omega) (by omega)).trans n4) ni (fun j hj => (nk j (by omega) (by omega) (by omega)).trans (low j hj))
set_option maxHeartbeats 16000000 in
theorem purge0 {a : AV} {l : List Ev} (v : Lb) (hS : Sl 17 isEv a l) (hl : l.length ≤ 100000) (hf : l.length + 3000 < fuel) (wf : Wf M)
    (k : ∀ o N, Wf N → M.size ≤ N.size → (∀ j, j < M.size → N.get j = M.get j) → RR N M.size o (purgeF v l).1 → Q (.tup [o, I64 (purgeF v l).2]) N) :
    W3 (callN Tryd.prog (fsT tbl) fuel (d + 12) (.fn 9) [a, lbA v] M) Q := by
  have ll := hS.len
  have lr := hS.rows mem0
  have lo := hS.one
  have lc := hS.cells
  have hck := fun M => check_run (fuel := fuel) (d := d + 3) hS (by omega) (by omega) M
  have hlc := fun M => @lcheck_run fuel (d + 10) v M
  have hlf := fun M wf => @left_run fuel M (d + 10) a v wf lo lc lr
  have z0 : decide ((0 : Int) = 0) = true := rfl
  have z8 : decide ((8 : Int) = 0) = false := rfl
  refine call_0 tf9 rfl (by simp [a9]) fun b' ht hx => ?_
  have h0 := hx 0 _ rfl
  have h1 := hx 1 _ rfl
  clear hx
  simp only [a9, c9] at ht ⊢
  have k0 : ∀ (o : AV) (N : Mem), Wf N → M.size ≤ N.size → (∀ j, j < M.size → N.get j = M.get j) → True := fun _ _ _ _ _ => trivial
  clear k0
  by_cases hc : chk l = 0
  · rw [hc] at hck
    cases hm : v.may with
    | false =>
      simp only [hm, Bool.false_eq_true, if_false] at hlc
      have hp : purgeF v l = ([], 8) := by unfold purgeF; rw [if_neg (by simpa using hc), hm]; rfl
      rw [hp] at k
      simp (maxSteps := 2000000) (disch := first | omega | assumption | (simp only [DS, Nat.reduceAdd, *]; done) | (simp only [DZ]; omega)) only [RUN, RU, footA, feetIn, resultsA, tupOf, frzL, slot, lay, icyL, fillA, repCells, kR, reduceIte, Nat.reduceEqDiff, Nat.reduceBEq, Nat.reduceLT, Nat.reduceAdd, Nat.reduceLeDiff, Nat.reduceSub, Nat.reduceMul, Int.reduceLT, Int.reduceLE, Int.reduceEq, Int.reduceAdd, Int.reduceSub, Int.reduceMul, h0, h1, lr, hck, hlc, z0, z8, wf]
      exact k NIL _ (wf.add _) (by rw [add_size]; omega) (fun j hj => get_add wf _ _ hj) (RR.nil _ _)
    | true =>
      simp only [hm, if_true] at hlc
      have hp : purgeF v l = (leftF v l, 0) := by unfold purgeF; rw [if_neg (by simpa using hc), hm]; rfl
      rw [hp] at k
      simp (maxSteps := 2000000) (disch := first | omega | assumption | (simp only [DS, Nat.reduceAdd, *]; done) | (simp only [DZ]; omega)) only [RUN, RU, footA, feetIn, resultsA, tupOf, frzL, slot, lay, icyL, fillA, repCells, kR, reduceIte, Nat.reduceEqDiff, Nat.reduceBEq, Nat.reduceLT, Nat.reduceAdd, Nat.reduceLeDiff, Nat.reduceSub, Nat.reduceMul, Int.reduceLT, Int.reduceLE, Int.reduceEq, Int.reduceAdd, Int.reduceSub, Int.reduceMul, h0, h1, lr, hck, hlc, z0, hlf, wf]
      refine w_range (g := 38) (first := []) (cap := [.ptr (M.size + 1 + 1) 0, .ptr (M.size + 1 + 1 + 1) 0]) (by simp (maxSteps := 2000000) (disch := first | omega | assumption | (simp only [DS, Nat.reduceAdd, *]; done) | (simp only [DZ]; omega)) only [RUN, RU, footA, feetIn, resultsA, tupOf, frzL, slot, lay, icyL, fillA, repCells, kR, reduceIte, Nat.reduceEqDiff, Nat.reduceBEq, Nat.reduceLT, Nat.reduceAdd, Nat.reduceLeDiff, Nat.reduceSub, Nat.reduceMul, Int.reduceLT, Int.reduceLE, Int.reduceEq, Int.reduceAdd, Int.reduceSub, Int.reduceMul, wf]) (by simp (maxSteps := 2000000) (disch := first | omega | assumption | (simp only [DS, Nat.reduceAdd, *]; done) | (simp only [DZ]; omega)) only [RUN, RU, footA, feetIn, resultsA, tupOf, frzL, slot, lay, icyL, fillA, repCells, kR, reduceIte, Nat.reduceEqDiff, Nat.reduceBEq, Nat.reduceLT, Nat.reduceAdd, Nat.reduceLeDiff, Nat.reduceSub, Nat.reduceMul, Int.reduceLT, Int.reduceLE, Int.reduceEq, Int.reduceAdd, Int.reduceSub, Int.reduceMul]) ?_
      have hb := fun e he => may_len ((chk_may hc).2 e he)
      refine left1_at (d := d + 6) (a := a) (v := v) hS (by omega) (fun e he => by have := hb e he; omega) (by omega) wf (by simp (maxSteps := 2000000) (disch := first | omega | assumption | (simp only [DS, Nat.reduceAdd, *]; done) | (simp only [DZ]; omega)) only [RUN, RU, footA, feetIn, resultsA, tupOf, frzL, slot, lay, icyL, fillA, repCells, kR, reduceIte, Nat.reduceEqDiff, Nat.reduceBEq, Nat.reduceLT, Nat.reduceAdd, Nat.reduceLeDiff, Nat.reduceSub, Nat.reduceMul, Int.reduceLT, Int.reduceLE, Int.reduceEq, Int.reduceAdd, Int.reduceSub, Int.reduceMul]) (by rw [St_len]; exact ht) (fun u o N wN lN n1 nR n4 n5 nk => ?_)
      refine ⟨wN, by simp only [add_size]; omega, _, _, _, _, _, n5, ?_⟩
      refine tail0 (B := M.size + 6) (c := M.size + 1) (by simp (maxSteps := 2000000) (disch := first | omega | assumption | (simp only [DS, Nat.reduceAdd, *]; done) | (simp only [DZ]; omega)) only [RUN, RU, footA, feetIn, resultsA, tupOf, frzL, slot, lay, icyL, fillA, repCells, kR, reduceIte, Nat.reduceEqDiff, Nat.reduceBEq, Nat.reduceLT, Nat.reduceAdd, Nat.reduceLeDiff, Nat.reduceSub, Nat.reduceMul, Int.reduceLT, Int.reduceLE, Int.reduceEq, Int.reduceAdd, Int.reduceSub, Int.reduceMul]) (by rw [St_len]; exact ht) (wN.upd _ _) ?_ (nR.keep fun j a b => ?_) ?_ (by simp only [add_size]; omega) (fun N' w' s' k' R' => ?_)
      · rw [get_upd_ne wN _ _ _ (by simp only [add_size]; omega)]; exact n1
      · rw [get_upd_ne wN _ _ _ (by simp only [add_size]; omega)]
      · rw [get_upd_ne wN _ _ _ (by simp only [add_size]; omega)]; exact n4
      · refine k o N' w' (by rw [s', upd_size]; omega) (fun j hj => ?_) (R'.mono (by omega))
        rw [k' j (by simp only [add_size]; omega), get_upd_ne wN _ _ _ (by simp only [add_size]; omega)]
        exact nk j hj
  · have q : decide (chk l = 0) = false := decide_eq_false hc
    have hp : purgeF v l = ([], chk l) := by unfold purgeF; rw [if_pos hc]
    rw [hp] at k
    simp (maxSteps := 2000000) (disch := first | omega | assumption | (simp only [DS, Nat.reduceAdd, *]; done) | (simp only [DZ]; omega)) only [RUN, RU, footA, feetIn, resultsA, tupOf, frzL, slot, lay, icyL, fillA, repCells, kR, reduceIte, Nat.reduceEqDiff, Nat.reduceBEq, Nat.reduceLT, Nat.reduceAdd, Nat.reduceLeDiff, Nat.reduceSub, Nat.reduceMul, Int.reduceLT, Int.reduceLE, Int.reduceEq, Int.reduceAdd, Int.reduceSub, Int.reduceMul, h0, h1, lr, hck, q, wf]
    exact k NIL _ (wf.add _) (by rw [add_size]; omega) (fun j hj => get_add wf _ _ hj) (RR.nil _ _)
end Go.Proofs.YtjbninmklbkklaaDoor
