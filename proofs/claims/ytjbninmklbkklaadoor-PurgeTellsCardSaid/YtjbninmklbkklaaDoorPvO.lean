/-
  purge: the reference's Left and Purge.
-/
import Derived.Test.YtjbninmklbkklaaDoorPvN
set_option linter.unusedSimpArgs false
set_option linter.unusedVariables false
set_option maxRecDepth 100000
namespace Go.Proofs.YtjbninmklbkklaaDoor
open Go Go.Ax
variable {fuel : Nat} {M : Mem} {Q : AV → Mem → Prop} {d : Nat}

theorem may_kind {e : Ev} (h : e.may = true) : 1 ≤ e.kind.toNat ∧ e.kind.toNat ≤ 20 := by
  unfold Ev.may at h
  simp only [Bool.and_eq_true, decide_eq_true_eq] at h
  omega
set_option maxHeartbeats 8000000 in
theorem rleft_run {a : AV} {l : List Ev} {v : Lb} (hS : Sl 17 isEv a l) (hv : v.ok) (hm : ∀ e ∈ l, e.may = true ∧ e.lb.ok) (hl : l.length ≤ 100000) (hf : l.length + 200 < fuel) :
    ∃ ro, Sl 17 isEv ro (leftF v l) ∧ ∀ M, callN Tryd.prog (fsT tbl) fuel (d + 3) (.fn 31) [a, lbA v] M = some (ro, M) := by
  have ll := hS.len
  refine gc_ex tf31 rfl (fun M => by simp (maxSteps := 2000000) (disch := first | omega | assumption | (simp only [DS, Nat.reduceAdd, *]; done) | (simp only [DZ]; omega)) only [RUN, RU, footA, feetIn, resultsA, tupOf, frzL, slot, lay, icyL, fillA, repCells, kR, reduceIte, Nat.reduceEqDiff, Nat.reduceBEq, Nat.reduceLT, Nat.reduceAdd, Nat.reduceLeDiff, Nat.reduceSub, Nat.reduceMul, Int.reduceLT, Int.reduceLE, Int.reduceEq, Int.reduceAdd, Int.reduceSub, Int.reduceMul, hS.fz.rows, hS.fz.one, hS.fz.cells, hS.fz.icy, hS.fz.frz]) ?_
  refine call_gc tf31 rfl (by simp (maxSteps := 2000000) (disch := first | omega | assumption | (simp only [DS, Nat.reduceAdd, *]; done) | (simp only [DZ]; omega)) only [RUN, RU, footA, feetIn, resultsA, tupOf, frzL, slot, lay, icyL, fillA, repCells, kR, reduceIte, Nat.reduceEqDiff, Nat.reduceBEq, Nat.reduceLT, Nat.reduceAdd, Nat.reduceLeDiff, Nat.reduceSub, Nat.reduceMul, Int.reduceLT, Int.reduceLE, Int.reduceEq, Int.reduceAdd, Int.reduceSub, Int.reduceMul, hS.fz.rows, hS.fz.one, hS.fz.cells, hS.fz.icy, hS.fz.frz]) (by simp [a31]) fun b' ht hx => ?_
  have h0 := hx 0 _ rfl
  have h1 := hx 1 _ rfl
  clear hx
  simp only [a31, c31] at ht ⊢
  simp (maxSteps := 2000000) (disch := first | omega | assumption | (simp only [DS, Nat.reduceAdd, *]; done) | (simp only [DZ]; omega)) only [RUN, RU, footA, feetIn, resultsA, tupOf, frzL, slot, lay, icyL, fillA, repCells, kR, reduceIte, Nat.reduceEqDiff, Nat.reduceBEq, Nat.reduceLT, Nat.reduceAdd, Nat.reduceLeDiff, Nat.reduceSub, Nat.reduceMul, Int.reduceLT, Int.reduceLE, Int.reduceEq, Int.reduceAdd, Int.reduceSub, Int.reduceMul, h0, h1, ll, hS.fz.rows, hS.fz.one, hS.fz.cells, hS.fz.icy, hS.fz.frz]
  refine w_loop (I := fun n t N => ∃ (i : Nat) (o : AV), n = l.length - i ∧ i ≤ l.length ∧ nth undefA t 0 = a ∧ nth undefA t 3 = .ptr 0 0 ∧ nth undefA t 5 = o ∧ nth undefA t 6 = I64 i ∧ Wf N ∧ N.get 0 = some (.row false [U8 v.lv, U32 v.cats]) ∧ SlM N 17 isEv o (leftF v (l.take i)) ∧ rowOf o ≠ some 0) (n := l.length) (by omega) ?_ ?_
  · refine ⟨0, NIL, rfl, Nat.zero_le _, ?_, ?_, ?_, ?_, Wf.mem0.add _, rfl, SlM.nil, (fun h => by cases h)⟩ <;> simp (maxSteps := 2000000) (disch := first | omega | assumption | (simp only [DS, Nat.reduceAdd, *]; done) | (simp only [DZ]; omega)) only [RUN, RU, footA, feetIn, resultsA, tupOf, frzL, slot, lay, icyL, fillA, repCells, kR, reduceIte, Nat.reduceEqDiff, Nat.reduceBEq, Nat.reduceLT, Nat.reduceAdd, Nat.reduceLeDiff, Nat.reduceSub, Nat.reduceMul, Int.reduceLT, Int.reduceLE, Int.reduceEq, Int.reduceAdd, Int.reduceSub, Int.reduceMul, h0]
    all_goals first | rfl | assumption | done
  · rintro n t N hlt ⟨i, o, rfl, hi, g0, g3, g5, g6, wN, n0, hN, ho⟩
    simp only [ht] at hlt ⊢
    clear h0 h1 ht
    by_cases hc : i < l.length
    · have q1 : decide ((i : Int) < l.length) = true := decide_eq_true (by omega)
      have w1 : IntKind.i64.wrap ((i : Int) + 1) = ((i + 1 : Nat) : Int) := by rw [wrap_i64] <;> omega
      obtain ⟨r, hr, hev, _⟩ := hS.iad i hc
      have htk : l.take (i + 1) = l.take i ++ [l[i]] := take_snoc l i hc
      have hle : (leftF v (l.take i)).length ≤ 100000 := by
        have := leftF_len v (l.take i)
        rw [List.length_take] at this
        omega
      have hmm := hm l[i] (List.getElem_mem hc)
      have hsn := leftF_snoc v (l.take i) l[i]
      rw [← htk] at hsn
      generalize l[i] = e at *
      obtain ⟨da, ca, hrow, k1, k2⟩ := id hev
      have od := k1.one
      have oc := k2.one
      have lc := k2.len
      have hk := may_kind hmm.1
      have hi1 := fun M => @its1_run fuel (d + 1) e da ca k1 k2 hk.1 hk.2 M
      have hq := fun M => @leq1_run fuel d e.lb v hmm.2 hv (by omega) M
      have lN := Mem.get_lt n0
      have rl := rows_lt hN.rl (Nat.le_refl N.size)
      have rl1 := rows_lt hN.rl (show N.size ≤ N.size + 1 by omega)
      have oo := hN.one
      have oco := hN.cells
      subst hrow
      have go : ∀ {Q' : AV → Mem → Prop} (x : Ev) (dx cx : AV), isEv (evRow x dx cx) x → (∀ o' N', SlM N' 17 isEv o' (leftF v (l.take i) ++ [x]) → Wf N' → N'.get 0 = some (.row false [U8 v.lv, U32 v.cats]) → rowOf o' ≠ some 0 → Q' o' N') → W3 (appO (N.add (.row false (evRow x dx cx))) 17 144 o (.sl N.size 0 1 (some 1) 17)) Q' := fun x dx cx hx kk => by
        refine w3_lit wN hN cel_Ev (l' := [x]) (rows := [evRow x dx cx]) (by simp) rfl (.cons hx .nil) (by simp [evRow]) (by omega) (by simp; omega) (by simp; omega) fun o' N' m' w' le kp nw _ _ _ _ => kk o' N' m' w' ?_ ?_
        · rw [kp 0 lN ho]; exact n0
        · intro h; rcases nw 0 h with h | h
          · exact ho h
          · omega
      cases b1 : itsK e.kind.toNat with
      | false =>
        have hl1 : e.left v = some e := by unfold Ev.left; rw [b1]; rfl
        rw [hl1] at hsn
        rw [b1] at hi1
        unfold evRow at hr hi1
        simp (maxSteps := 2000000) (disch := first | omega | assumption | (simp only [DS, Nat.reduceAdd, *]; done) | (simp only [DZ]; omega)) only [RUN, RU, footA, feetIn, resultsA, tupOf, frzL, slot, lay, icyL, fillA, repCells, kR, reduceIte, Nat.reduceEqDiff, Nat.reduceBEq, Nat.reduceLT, Nat.reduceAdd, Nat.reduceLeDiff, Nat.reduceSub, Nat.reduceMul, Int.reduceLT, Int.reduceLE, Int.reduceEq, Int.reduceAdd, Int.reduceSub, Int.reduceMul, g0, g3, g5, g6, ll, hS.fz.rows, hS.fz.one, hS.fz.cells, hS.fz.icy, hS.fz.frz, q1, hr, k1.fz.rows, k1.fz.one, k1.fz.cells, k1.fz.icy, k1.fz.frz, k2.fz.rows, k2.fz.one, k2.fz.cells, k2.fz.icy, k2.fz.frz, od, oc, hi1, wN, rl, rl1]
        refine go e da ca hev fun o' N' m' w' n' r' => ?_
        simp (maxSteps := 2000000) (disch := first | omega | assumption | (simp only [DS, Nat.reduceAdd, *]; done) | (simp only [DZ]; omega)) only [RUN, RU, footA, feetIn, resultsA, tupOf, frzL, slot, lay, icyL, fillA, repCells, kR, reduceIte, Nat.reduceEqDiff, Nat.reduceBEq, Nat.reduceLT, Nat.reduceAdd, Nat.reduceLeDiff, Nat.reduceSub, Nat.reduceMul, Int.reduceLT, Int.reduceLE, Int.reduceEq, Int.reduceAdd, Int.reduceSub, Int.reduceMul, g0, g3, g5, g6, w1]
        exact ⟨hlt, l.length - (i + 1), by omega, i + 1, o', rfl, by omega, rfl, rfl, w', n', by rw [hsn]; exact m', r'⟩
      | true =>
        rw [b1] at hi1
        cases b2 : e.lb.leq v with
        | true =>
          have hl1 : e.left v = some e := by unfold Ev.left; rw [b1, b2]; rfl
          rw [hl1] at hsn
          rw [b2] at hq
          unfold evRow at hr hi1
          simp (maxSteps := 2000000) (disch := first | omega | assumption | (simp only [DS, Nat.reduceAdd, *]; done) | (simp only [DZ]; omega)) only [RUN, RU, footA, feetIn, resultsA, tupOf, frzL, slot, lay, icyL, fillA, repCells, kR, reduceIte, Nat.reduceEqDiff, Nat.reduceBEq, Nat.reduceLT, Nat.reduceAdd, Nat.reduceLeDiff, Nat.reduceSub, Nat.reduceMul, Int.reduceLT, Int.reduceLE, Int.reduceEq, Int.reduceAdd, Int.reduceSub, Int.reduceMul, g0, g3, g5, g6, ll, hS.fz.rows, hS.fz.one, hS.fz.cells, hS.fz.icy, hS.fz.frz, q1, hr, k1.fz.rows, k1.fz.one, k1.fz.cells, k1.fz.icy, k1.fz.frz, k2.fz.rows, k2.fz.one, k2.fz.cells, k2.fz.icy, k2.fz.frz, od, oc, hi1, hq, wN, rl, rl1, n0]
          refine go e da ca hev fun o' N' m' w' n' r' => ?_
          simp (maxSteps := 2000000) (disch := first | omega | assumption | (simp only [DS, Nat.reduceAdd, *]; done) | (simp only [DZ]; omega)) only [RUN, RU, footA, feetIn, resultsA, tupOf, frzL, slot, lay, icyL, fillA, repCells, kR, reduceIte, Nat.reduceEqDiff, Nat.reduceBEq, Nat.reduceLT, Nat.reduceAdd, Nat.reduceLeDiff, Nat.reduceSub, Nat.reduceMul, Int.reduceLT, Int.reduceLE, Int.reduceEq, Int.reduceAdd, Int.reduceSub, Int.reduceMul, g0, g3, g5, g6, w1]
          exact ⟨hlt, l.length - (i + 1), by omega, i + 1, o', rfl, by omega, rfl, rfl, w', n', by rw [hsn]; exact m', r'⟩
        | false =>
          rw [b2] at hq
          by_cases hz : e.crash.length = 0
          · have hl1 : e.left v = none := by unfold Ev.left; rw [b1, b2]; simp [hz]
            rw [hl1] at hsn
            have q2 : decide ((0 : Int) < e.crash.length) = false := decide_eq_false (by omega)
            unfold evRow at hr hi1
            simp (maxSteps := 2000000) (disch := first | omega | assumption | (simp only [DS, Nat.reduceAdd, *]; done) | (simp only [DZ]; omega)) only [RUN, RU, footA, feetIn, resultsA, tupOf, frzL, slot, lay, icyL, fillA, repCells, kR, reduceIte, Nat.reduceEqDiff, Nat.reduceBEq, Nat.reduceLT, Nat.reduceAdd, Nat.reduceLeDiff, Nat.reduceSub, Nat.reduceMul, Int.reduceLT, Int.reduceLE, Int.reduceEq, Int.reduceAdd, Int.reduceSub, Int.reduceMul, g0, g3, g5, g6, ll, hS.fz.rows, hS.fz.one, hS.fz.cells, hS.fz.icy, hS.fz.frz, q1, hr, k1.fz.rows, k1.fz.one, k1.fz.cells, k1.fz.icy, k1.fz.frz, k2.fz.rows, k2.fz.one, k2.fz.cells, k2.fz.icy, k2.fz.frz, od, oc, hi1, hq, wN, rl, rl1, n0, lc, q2, w1]
            exact ⟨hlt, l.length - (i + 1), by omega, i + 1, o, rfl, by omega, rfl, rfl, by rw [hsn]; simpa using hN, ho⟩
          · have hl1 : e.left v = some { zeroEv with kind := 20, crash := e.crash } := by unfold Ev.left; rw [b1, b2]; simp [hz]
            rw [hl1] at hsn
            have q2 : decide ((0 : Int) < e.crash.length) = true := decide_eq_true (by omega)
            unfold evRow at hr hi1
            simp (maxSteps := 2000000) (disch := first | omega | assumption | (simp only [DS, Nat.reduceAdd, *]; done) | (simp only [DZ]; omega)) only [RUN, RU, footA, feetIn, resultsA, tupOf, frzL, slot, lay, icyL, fillA, repCells, kR, reduceIte, Nat.reduceEqDiff, Nat.reduceBEq, Nat.reduceLT, Nat.reduceAdd, Nat.reduceLeDiff, Nat.reduceSub, Nat.reduceMul, Int.reduceLT, Int.reduceLE, Int.reduceEq, Int.reduceAdd, Int.reduceSub, Int.reduceMul, g0, g3, g5, g6, ll, hS.fz.rows, hS.fz.one, hS.fz.cells, hS.fz.icy, hS.fz.frz, q1, hr, k1.fz.rows, k1.fz.one, k1.fz.cells, k1.fz.icy, k1.fz.frz, k2.fz.rows, k2.fz.one, k2.fz.cells, k2.fz.icy, k2.fz.frz, od, oc, hi1, hq, wN, rl, rl1, n0, lc, q2]
            refine go { zeroEv with kind := 20, crash := e.crash } NIL ca ⟨NIL, ca, rfl, .inl ⟨rfl, rfl⟩, k2⟩ fun o' N' m' w' n' r' => ?_
            simp (maxSteps := 2000000) (disch := first | omega | assumption | (simp only [DS, Nat.reduceAdd, *]; done) | (simp only [DZ]; omega)) only [RUN, RU, footA, feetIn, resultsA, tupOf, frzL, slot, lay, icyL, fillA, repCells, kR, reduceIte, Nat.reduceEqDiff, Nat.reduceBEq, Nat.reduceLT, Nat.reduceAdd, Nat.reduceLeDiff, Nat.reduceSub, Nat.reduceMul, Int.reduceLT, Int.reduceLE, Int.reduceEq, Int.reduceAdd, Int.reduceSub, Int.reduceMul, g0, g3, g5, g6, w1]
            exact ⟨hlt, l.length - (i + 1), by omega, i + 1, o', rfl, by omega, rfl, rfl, w', n', by rw [hsn]; exact m', r'⟩
    · obtain rfl : i = l.length := by omega
      have q1 : decide ((l.length : Int) < l.length) = false := decide_eq_false (by omega)
      rw [List.take_length] at hN
      obtain ⟨o2, N2, e2, s2, w2, z2, k2, y2⟩ := hN.hand wN celI_Ev (k := 12) (by omega)
      have hb : ∀ e ∈ leftF v l, e.may = true ∨ e.data.length = 0 ∧ e.crash.length ≤ 3 := by
        intro x hx
        obtain ⟨e, he, hx⟩ := List.mem_filterMap.1 hx
        have := hm e he
        unfold Ev.left at hx
        split at hx
        · split at hx
          · cases hx
          · cases hx; exact .inr ⟨rfl, (may_len this.1).2⟩
        · cases hx; exact .inl this.1
      have hb2 : ∀ e ∈ leftF v l, e.data.length ≤ 140737488355328 ∧ e.crash.length ≤ 17592186044416 := fun e he => by
        rcases hb e he with h | h
        · have := may_len h; omega
        · omega
      have hlen := leftF_len v l
      obtain ⟨ro, sro, cro⟩ := twin1_run (fuel := fuel) (d := d + 1) s2 (by omega) hb2 (by omega)
      have cc : callN Tryd.prog (fsT tbl) fuel (d + 2) (.fn 16) [o] N = some (ro, N2) :=
        call_own tf16 rfl (cro N) (bs := [o2]) (M3 := N) (h0 := by simp only [icyL, s2.icy N 12 (by omega)]) (by simp only [icyL, e2])
      have rl := rows_lt hN.rl (Nat.le_refl N.size)
      have oo := hN.one
      have oco := hN.cells
      have zr := sro.rows mem0
      simp (maxSteps := 2000000) (disch := first | omega | assumption | (simp only [DS, Nat.reduceAdd, *]; done) | (simp only [DZ]; omega)) only [RUN, RU, footA, feetIn, resultsA, tupOf, frzL, slot, lay, icyL, fillA, repCells, kR, reduceIte, Nat.reduceEqDiff, Nat.reduceBEq, Nat.reduceLT, Nat.reduceAdd, Nat.reduceLeDiff, Nat.reduceSub, Nat.reduceMul, Int.reduceLT, Int.reduceLE, Int.reduceEq, Int.reduceAdd, Int.reduceSub, Int.reduceMul, g0, g3, g5, g6, ll, hS.fz.rows, hS.fz.one, hS.fz.cells, hS.fz.icy, hS.fz.frz, q1, cc, rl, sro.fz.rows, sro.fz.one, sro.fz.cells, sro.fz.icy, sro.fz.frz]
      exact ⟨ro, sro, rfl⟩
theorem rpurge_run {a : AV} {l : List Ev} {v : Lb} (hS : Sl 17 isEv a l) (hv : v.ok) (hm : ∀ e ∈ l, e.lb.ok) (hl : l.length ≤ 100000) (hf : l.length + 200 < fuel) :
    ∃ ro, Sl 17 isEv ro (purgeF v l).1 ∧ ∀ M, callN Tryd.prog (fsT tbl) fuel (d + 5) (.fn 17) [a, lbA v] M = some (.tup [ro, I64 (purgeF v l).2], M) := by
  have ll := hS.len
  have hck := fun M => check1_run (fuel := fuel) (d := d) hS (by omega) (by omega) M
  have hlc := fun M => @may1_run fuel (d + 3) v M
  have z0 : decide ((0 : Int) = 0) = true := rfl
  refine gc_ex tf17 rfl (fun M => by simp (maxSteps := 2000000) (disch := first | omega | assumption | (simp only [DS, Nat.reduceAdd, *]; done) | (simp only [DZ]; omega)) only [RUN, RU, footA, feetIn, resultsA, tupOf, frzL, slot, lay, icyL, fillA, repCells, kR, reduceIte, Nat.reduceEqDiff, Nat.reduceBEq, Nat.reduceLT, Nat.reduceAdd, Nat.reduceLeDiff, Nat.reduceSub, Nat.reduceMul, Int.reduceLT, Int.reduceLE, Int.reduceEq, Int.reduceAdd, Int.reduceSub, Int.reduceMul, hS.fz.rows, hS.fz.one, hS.fz.cells, hS.fz.icy, hS.fz.frz]) ?_
  refine call_gc tf17 rfl (by simp (maxSteps := 2000000) (disch := first | omega | assumption | (simp only [DS, Nat.reduceAdd, *]; done) | (simp only [DZ]; omega)) only [RUN, RU, footA, feetIn, resultsA, tupOf, frzL, slot, lay, icyL, fillA, repCells, kR, reduceIte, Nat.reduceEqDiff, Nat.reduceBEq, Nat.reduceLT, Nat.reduceAdd, Nat.reduceLeDiff, Nat.reduceSub, Nat.reduceMul, Int.reduceLT, Int.reduceLE, Int.reduceEq, Int.reduceAdd, Int.reduceSub, Int.reduceMul, hS.fz.rows, hS.fz.one, hS.fz.cells, hS.fz.icy, hS.fz.frz]) (by simp [a17]) fun b' ht hx => ?_
  have h0 := hx 0 _ rfl
  have h1 := hx 1 _ rfl
  clear hx
  simp only [a17, c17] at ht ⊢
  by_cases hc : chk l = 0
  · rw [hc] at hck
    cases hmm : v.may with
    | false =>
      have hp : purgeF v l = ([], 8) := by unfold purgeF; rw [if_neg (by simpa using hc), hmm]; rfl
      rw [hmm] at hlc
      rw [hp]
      simp (maxSteps := 2000000) (disch := first | omega | assumption | (simp only [DS, Nat.reduceAdd, *]; done) | (simp only [DZ]; omega)) only [RUN, RU, footA, feetIn, resultsA, tupOf, frzL, slot, lay, icyL, fillA, repCells, kR, reduceIte, Nat.reduceEqDiff, Nat.reduceBEq, Nat.reduceLT, Nat.reduceAdd, Nat.reduceLeDiff, Nat.reduceSub, Nat.reduceMul, Int.reduceLT, Int.reduceLE, Int.reduceEq, Int.reduceAdd, Int.reduceSub, Int.reduceMul, h0, h1, hS.fz.rows, hS.fz.one, hS.fz.cells, hS.fz.icy, hS.fz.frz, hck, hlc, z0]
      exact ⟨NIL, .inl ⟨rfl, rfl⟩, rfl⟩
    | true =>
      have hp : purgeF v l = (leftF v l, 0) := by unfold purgeF; rw [if_neg (by simpa using hc), hmm]; rfl
      rw [hmm] at hlc
      rw [hp]
      have hcm := chk_may hc
      obtain ⟨ro, sro, cro⟩ := rleft_run (fuel := fuel) (d := d + 1) hS hv (fun e he => ⟨hcm.2 e he, hm e he⟩) hl hf
      simp (maxSteps := 2000000) (disch := first | omega | assumption | (simp only [DS, Nat.reduceAdd, *]; done) | (simp only [DZ]; omega)) only [RUN, RU, footA, feetIn, resultsA, tupOf, frzL, slot, lay, icyL, fillA, repCells, kR, reduceIte, Nat.reduceEqDiff, Nat.reduceBEq, Nat.reduceLT, Nat.reduceAdd, Nat.reduceLeDiff, Nat.reduceSub, Nat.reduceMul, Int.reduceLT, Int.reduceLE, Int.reduceEq, Int.reduceAdd, Int.reduceSub, Int.reduceMul, h0, h1, hS.fz.rows, hS.fz.one, hS.fz.cells, hS.fz.icy, hS.fz.frz, hck, hlc, z0, cro, sro.fz.rows, sro.fz.one, sro.fz.cells, sro.fz.icy, sro.fz.frz]
      exact ⟨ro, sro, rfl⟩
  · have q : decide (chk l = 0) = false := decide_eq_false hc
    have hp : purgeF v l = ([], chk l) := by unfold purgeF; rw [if_pos hc]
    rw [hp]
    simp (maxSteps := 2000000) (disch := first | omega | assumption | (simp only [DS, Nat.reduceAdd, *]; done) | (simp only [DZ]; omega)) only [RUN, RU, footA, feetIn, resultsA, tupOf, frzL, slot, lay, icyL, fillA, repCells, kR, reduceIte, Nat.reduceEqDiff, Nat.reduceBEq, Nat.reduceLT, Nat.reduceAdd, Nat.reduceLeDiff, Nat.reduceSub, Nat.reduceMul, Int.reduceLT, Int.reduceLE, Int.reduceEq, Int.reduceAdd, Int.reduceSub, Int.reduceMul, h0, h1, hS.fz.rows, hS.fz.one, hS.fz.cells, hS.fz.icy, hS.fz.frz, hck, q]
    exact ⟨NIL, .inl ⟨rfl, rfl⟩, rfl⟩
end Go.Proofs.YtjbninmklbkklaaDoor
