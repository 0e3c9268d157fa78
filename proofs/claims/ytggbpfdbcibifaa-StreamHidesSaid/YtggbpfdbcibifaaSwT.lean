/-
  StreamHides: what is written.
-/
import Derived.Test.YtggbpfdbcibifaaSwS
import Derived.Test.YtggbpfdbcibifaaSaX
import Derived.Test.YtggbpfdbcibifaaSwA
import Derived.Test.YtggbpfdbcibifaaSwU
import Derived.Test.YtggbpfdbcibifaaEe
set_option linter.unusedSimpArgs false
set_option linter.unusedVariables false
set_option maxRecDepth 100000
namespace Go.Proofs.Ytggbpfdbcibifaa
open Go Go.Ax
variable {fuel : Nat} {M : Mem} {Q : AV → Mem → Prop} {d : Nat} {l : List Op} {a : AV} {v : Lb}

/-- A rune that is not shown may be another one. -/
def mod1 (l : List Op) (v : Lb) (other : List Int) (o : Op) (k : Nat) (c : Int) : Int :=
  if k < other.length ∧ askE l ⟨o.hd, IntKind.i64.wrap (o.sp.f.c + k)⟩ v = 0 ∧ shownB l ⟨o.hd, IntKind.i64.wrap (o.sp.f.c + k)⟩ v = false then other.getD k 0 else c
def modR (l : List Op) (v : Lb) (other : List Int) (o : Op) : List Int := o.rs.mapIdx fun k c => mod1 l v other o k c
def modO (l : List Op) (v : Lb) (other : List Int) (o : Op) : Op := { o with rs := modR l v other o }
def modC (l : List Op) (v : Lb) (other : List Int) (o : Op) (k : Nat) : Op := { o with rs := (modR l v other o).take k ++ o.rs.drop k }
def modX (l : List Op) (v : Lb) (other : List Int) (i : Nat) : List Op := (l.take i).map (modO l v other) ++ l.drop i
theorem wrap_rng (x : Int) : i64R (IntKind.i64.wrap x) := by
  unfold i64R
  simp [IntKind.wrap, IntKind.bits, IntKind.signed]
  first | omega | (split <;> omega)
theorem modX_len (l : List Op) (v : Lb) (other : List Int) (i : Nat) (h : i ≤ l.length) : (modX l v other i).length = l.length := by
  unfold modX
  rw [List.length_append, List.length_map, List.length_take, List.length_drop]
  omega
theorem modX_zero (l : List Op) (v : Lb) (other : List Int) : modX l v other 0 = l := by unfold modX; simp
theorem modX_end (l : List Op) (v : Lb) (other : List Int) : modX l v other l.length = l.map (modO l v other) := by unfold modX; simp
theorem modX_get (l : List Op) (v : Lb) (other : List Int) (i : Nat) (h : i < l.length) : (modX l v other i)[i]'(by rw [modX_len _ _ _ _ (by omega)]; exact h) = l[i] := by
  unfold modX
  rw [List.getElem_append_right (by simp; omega)]
  simp [List.length_take, Nat.min_eq_left (show i ≤ l.length by omega)]
theorem modX_step (l : List Op) (v : Lb) (other : List Int) (i : Nat) (h : i < l.length) : (modX l v other i).set i (modO l v other l[i]) = modX l v other (i + 1) := by
  unfold modX
  have hl : ((l.take i).map (modO l v other)).length = i := by simp; omega
  rw [List.set_append_right _ _ (by omega), hl, Nat.sub_self, List.drop_eq_getElem_cons h, List.set_cons_zero, take_snoc l i h, List.map_append, List.append_assoc]
  rfl
theorem modR_len (l : List Op) (v : Lb) (other : List Int) (o : Op) : (modR l v other o).length = o.rs.length := by unfold modR; exact List.length_mapIdx
theorem modR_get (l : List Op) (v : Lb) (other : List Int) (o : Op) (i : Nat) (h : i < (modR l v other o).length) : (modR l v other o)[i] = mod1 l v other o i (o.rs[i]'(by rw [modR_len] at h; exact h)) := by
  simp only [modR, List.getElem_mapIdx]
theorem modC_zero (l : List Op) (v : Lb) (other : List Int) (o : Op) : modC l v other o 0 = o := by unfold modC; simp
theorem modC_len (l : List Op) (v : Lb) (other : List Int) (o : Op) (k : Nat) (h : k ≤ o.rs.length) : (modC l v other o k).rs.length = o.rs.length := by
  unfold modC
  simp only [List.length_append, List.length_take, List.length_drop, modR_len]
  omega
theorem modC_end (l : List Op) (v : Lb) (other : List Int) (o : Op) (k : Nat) (h : o.rs.length ≤ k ∨ other.length ≤ k) : modC l v other o k = modO l v other o := by
  unfold modC modO
  congr 1
  rcases h with h | h
  · rw [List.drop_eq_nil_of_le h, List.append_nil, List.take_of_length_le (by rw [modR_len]; exact h)]
  · apply List.ext_getElem
    · rw [List.length_append, List.length_take, List.length_drop, modR_len]; omega
    · intro i h1 h2
      rw [modR_len] at h2
      by_cases hi : i < k
      · rw [List.getElem_append_left (by rw [List.length_take, modR_len]; omega), List.getElem_take]
      · have e : k + (i - ((modR l v other o).take k).length) = i := by rw [List.length_take, modR_len]; omega
        rw [List.getElem_append_right (by rw [List.length_take, modR_len]; omega), List.getElem_drop, modR_get]
        unfold mod1
        rw [if_neg (by omega)]
        simp only [e]
theorem modC_get (l : List Op) (v : Lb) (other : List Int) (o : Op) (k : Nat) (h : k < o.rs.length) : (modC l v other o k).rs[k]'(by rw [modC_len _ _ _ _ _ (by omega)]; exact h) = o.rs[k] := by
  have hl : ((modR l v other o).take k).length = k := by rw [List.length_take, modR_len]; omega
  unfold modC
  simp only
  rw [List.getElem_append_right (by omega), List.getElem_drop]
  congr 1
  omega
theorem modC_step (l : List Op) (v : Lb) (other : List Int) (o : Op) (k : Nat) (h : k < o.rs.length) : (modC l v other o k).rs.set k (mod1 l v other o k o.rs[k]) = (modC l v other o (k + 1)).rs := by
  have hl : ((modR l v other o).take k).length = k := by rw [List.length_take, modR_len]; omega
  unfold modC
  simp only
  rw [List.set_append_right _ _ (by omega), hl, Nat.sub_self, List.drop_eq_getElem_cons h, List.set_cons_zero, take_snoc _ k (by rw [modR_len]; exact h), List.append_assoc]
  rw [modR_get]
  rfl
theorem modC_keep (l : List Op) (v : Lb) (other : List Int) (o : Op) (k : Nat) (h : k < o.rs.length) (e : mod1 l v other o k o.rs[k] = o.rs[k]) : modC l v other o (k + 1) = modC l v other o k := by
  have h1 := modC_step l v other o k h
  rw [e, ← modC_get l v other o k h, List.set_getElem_self] at h1
  unfold modC at h1 ⊢
  simp only at h1
  rw [h1]
theorem modR_rng {l : List Op} {v : Lb} {other : List Int} {o : Op} (h1 : i32s o.rs) (h2 : i32s other) : i32s (modR l v other o) := by
  intro x hx
  obtain ⟨i, hi, rfl⟩ := List.getElem_of_mem hx
  rw [modR_get]
  unfold mod1
  split
  · rename_i h
    rw [List.getD_eq_getElem?_getD, List.getElem?_eq_getElem h.1]
    exact h2 _ (List.getElem_mem h.1)
  · exact h1 _ (List.getElem_mem _)
theorem modC_ok {l : List Op} {v : Lb} {other : List Int} {o : Op} (h : o.ok) (h2 : i32s other) (k : Nat) : (modC l v other o k).ok := by
  obtain ⟨a1, a2, a3, a4, a5, a6, a7⟩ := h
  refine ⟨a1, a2, a3, a4, a5, a6, fun x hx => ?_⟩
  rcases List.mem_append.1 hx with hx | hx
  · exact modR_rng a7 h2 x (List.mem_of_mem_take hx)
  · exact a7 x (List.mem_of_mem_drop hx)
/-! ### What is not shown may be anything -/
theorem raises_mod (l : List Op) (v : Lb) (other : List Int) (x : Eid) (u : Lb) : raisesL (l.map (modO l v other)) x u = raisesL l x u := by
  unfold raisesL
  rw [List.filter_map, List.map_map]
  rfl
theorem shown_mod {l : List Op} {v : Lb} {other : List Int} (h : histF [] l = true) (hx : histF [] (l.map (modO l v other)) = true) (x : Eid) : shownB (l.map (modO l v other)) x v = shownB l x v := by
  unfold shownB askE made
  rw [hist_chain h, hist_chain hx, raises_mod]
theorem low_mod (l : List Op) (v : Lb) (other : List Int) : lowL (l.map (modO l v other)) v = (lowL l v).map (modO l v other) := by
  unfold lowL
  rw [List.filter_map]
  rfl
theorem hide_mod {l : List Op} {v : Lb} {other : List Int} (h : histF [] l = true) (hx : histF [] (l.map (modO l v other)) = true) {o : Op} (ho : o ∈ l) : hideO (l.map (modO l v other)) v (modO l v other o) = hideO l v o := by
  have hm := hist_may h o ho
  have hb := Spn.may_le (may_sp hm)
  unfold hideO
  have e : hideL (l.map (modO l v other)) (modO l v other o) v = hideL l o v := by
    unfold hideL
    apply List.ext_getElem
    · simp only [List.length_mapIdx, modO, modR_len]
    · intro i h1 h2
      rw [List.length_mapIdx] at h2
      rw [List.getElem_mapIdx, List.getElem_mapIdx]
      have e1 : (modO l v other o).rs[i]'(by simp only [modO, modR_len]; exact h2) = mod1 l v other o i o.rs[i] := modR_get l v other o i (by rw [modR_len]; exact h2)
      rw [e1]
      have hk : o.kd = 1 := by
        by_cases hk : o.kd = 1
        · exact hk
        · rw [may_bare hm hk] at h2; exact absurd h2 (by simp)
      have hid := (may_ins hm hk).1
      have hl := may_len hm
      have w : IntKind.i64.wrap (o.sp.f.c + i) = o.sp.f.c + i := wrap_i64 (by omega) (by omega)
      have e2 : (Eid.mk o.hd (IntKind.i64.wrap (o.sp.f.c + i))) = o.sp.at i := by rw [w, ← hid]; rfl
      unfold hid1 mod1
      rw [e2, shown_mod h hx]
      have e3 : (modO l v other o).sp.at i = o.sp.at i := rfl
      rw [e3]
      cases hs : shownB l (o.sp.at i) v <;> simp
  rw [e]
  rfl
theorem page_mod {l : List Op} {v : Lb} {other : List Int} {fr : Int} (h : pageE l v fr = 0) (hx : histF [] (l.map (modO l v other)) = true) : pageE (l.map (modO l v other)) v fr = 0 ∧ pageT (l.map (modO l v other)) v fr = pageT l v fr ∧ pageL (l.map (modO l v other)) v fr = pageL l v fr := by
  have h0 : onlyE l v = 0 := by
    unfold pageE at h
    split at h
    · assumption
    · exact h
  have hh := only_ok h0
  have hxo : onlyE (l.map (modO l v other)) v = 0 := by
    have h2 : v.may = true := by
      unfold onlyE err at h0
      rw [hh] at h0
      cases hv : v.may <;> simp [hv] at h0 ⊢
    unfold onlyE
    rw [hx, h2]
    rfl
  have h1 : pageE (l.map (modO l v other)) v fr = 0 := by
    unfold pageE at h ⊢
    rw [if_pos h0] at h
    rw [if_pos hxo, low_mod, List.length_map]
    exact h
  refine ⟨h1, ?_, ?_⟩
  · unfold pageT
    rw [if_pos h1, if_pos h, low_mod, List.length_map]
  · unfold pageL
    rw [if_pos h1, if_pos h, low_mod, ← List.map_drop, ← List.map_take, List.map_map]
    apply List.map_congr_left
    intro o ho
    exact hide_mod hh hx (List.mem_filter.1 (List.mem_of_mem_drop (List.mem_of_mem_take ho))).1
set_option maxHeartbeats 16000000 in
theorem hidelaw_run {b : AV} {other : List Int} {from_ : Int} (hS : Sl 17 isOp a l) (hb : Sl 1 isI32 b other) (hor : i32s other) (M : Mem) : callN Try.prog (fsT tbl) 100000 41 (.fn 4) [a, lbA v, I64 from_, b] M = some (BL true, M) := by
  have ll := hS.len
  have lb := hb.len
  have hal := alive_run
  have hgr := fun M => great_run (fuel := 100000) (d := 39) (many := 20) hS (by omega) M
  apply w3_eq
  refine call_gc tf4 rfl (by simp only [icyL, fun M => hS.icy M 12 (by omega), fun M => hb.icy M 12 (by omega), fz_icyA (fz_lbR v) (show 1 < 12 by omega), icy12]) (by simp [a4]) fun b' ht hx => ?_
  have h0 := hx 0 _ rfl
  have h1 := hx 1 _ rfl
  have h2 := hx 2 _ rfl
  have h3 := hx 3 _ rfl
  clear hx
  simp only [a4, c4] at ht ⊢
  cases q1 : greatB l 20 with
  | true =>
    rw [q1] at hgr
    simp (maxSteps := 2000000) (disch := first | omega | assumption | (simp only [DS, Nat.reduceAdd, *]; done) | (simp only [DZ]; omega)) only [RUN, RU, footA, feetIn, resultsA, tupOf, frzL, slot, lay, icyL, fillA, repCells, kR, reduceIte, Nat.reduceEqDiff, Nat.reduceBEq, Nat.reduceLT, Nat.reduceAdd, Nat.reduceLeDiff, Nat.reduceSub, Nat.reduceMul, Int.reduceLT, Int.reduceLE, Int.reduceEq, Int.reduceAdd, Int.reduceSub, Int.reduceMul, h0, h1, h2, h3, hS.fz.rows, hS.fz.one, hS.fz.cells, hS.fz.icy, hS.fz.frz, hb.fz.rows, hb.fz.one, hb.fz.cells, hb.fz.icy, hb.fz.frz, hal, hgr]
  | false =>
    rw [q1] at hgr
    obtain ⟨hl20, hrs⟩ := great_small (by omega) q1
    by_cases q2 : other.length < 64
    · have q2' : decide ((other.length : Int) < 64) = true := decide_eq_true (by omega)
      simp (maxSteps := 2000000) (disch := first | omega | assumption | (simp only [DS, Nat.reduceAdd, *]; done) | (simp only [DZ]; omega)) only [RUN, RU, footA, feetIn, resultsA, tupOf, frzL, slot, lay, icyL, fillA, repCells, kR, reduceIte, Nat.reduceEqDiff, Nat.reduceBEq, Nat.reduceLT, Nat.reduceAdd, Nat.reduceLeDiff, Nat.reduceSub, Nat.reduceMul, Int.reduceLT, Int.reduceLE, Int.reduceEq, Int.reduceAdd, Int.reduceSub, Int.reduceMul, h0, h1, h2, h3, hS.fz.rows, hS.fz.one, hS.fz.cells, hS.fz.icy, hS.fz.frz, hb.fz.rows, hb.fz.one, hb.fz.cells, hb.fz.icy, hb.fz.frz, hal, hgr, lb, q2']
    · have q2' : decide ((other.length : Int) < 64) = false := decide_eq_false (by omega)
      have hrs2 : ∀ o ∈ l, o.rs.length ≤ 1000000000 := fun o ho => by have := hrs o ho; omega
      obtain ⟨rp, ⟨r1, rfl, hr1⟩, hpg⟩ := page_run (fuel := 100000) (d := 24) (v := v) (from_ := from_) hS (by omega) (by omega) hrs2
      obtain ⟨ro, ⟨r2, rfl, hr2⟩, hon⟩ := only_run (fuel := 100000) (d := 25) (v := v) hS (by omega) (by omega) hrs2
      have lr1 := hr1.len
      by_cases q3 : pageE l v from_ = 0
      · have q3' := decide_eq_true q3
        have q4 : onlyE l v = 0 := by
          unfold pageE at q3
          split at q3
          · assumption
          · exact q3
        have q4' := decide_eq_true q4
        rw [q4] at hr2
        simp only [if_true] at hr2
        have hlow := low_len l v
        obtain ⟨rq, ⟨r3, rfl, hr3⟩, hpg3⟩ := page_run (fuel := 100000) (d := 24) (v := v) (from_ := from_) hr2 (by omega) (by omega) (fun o ho => hrs2 o (List.mem_filter.1 ho).1)
        obtain ⟨p1, p2, p3⟩ := pageE_low q3
        rw [p2, p1] at hpg3
        rw [p3] at hr3
        have tt : decide (pageT l v from_ = pageT l v from_) = true := decide_eq_true rfl
        have prs := page_rs (v := v) (fr := from_) hrs
        have pln := page_len l v from_
        have hso := fun M => sameops_run (fuel := 100000) (d := 37) hr1 hr3 (by omega) (fun o ho => by have := prs o ho; omega) (by omega) M
        rw [opsEq_iff.2 rfl] at hso
        simp (maxSteps := 2000000) (disch := first | omega | assumption | (simp only [DS, Nat.reduceAdd, *]; done) | (simp only [DZ]; omega)) only [RUN, RU, footA, feetIn, resultsA, tupOf, frzL, slot, lay, icyL, fillA, repCells, kR, reduceIte, Nat.reduceEqDiff, Nat.reduceBEq, Nat.reduceLT, Nat.reduceAdd, Nat.reduceLeDiff, Nat.reduceSub, Nat.reduceMul, Int.reduceLT, Int.reduceLE, Int.reduceEq, Int.reduceAdd, Int.reduceSub, Int.reduceMul, h0, h1, h2, h3, hS.fz.rows, hS.fz.one, hS.fz.cells, hS.fz.icy, hS.fz.frz, hb.fz.rows, hb.fz.one, hb.fz.cells, hb.fz.icy, hb.fz.frz, hr1.fz.rows, hr1.fz.one, hr1.fz.cells, hr1.fz.icy, hr1.fz.frz, hr2.fz.rows, hr2.fz.one, hr2.fz.cells, hr2.fz.icy, hr2.fz.frz, hr3.fz.rows, hr3.fz.one, hr3.fz.cells, hr3.fz.icy, hr3.fz.frz, hal, hgr, lb, q2', hpg, hon, q3', q4', hpg3, z00, tt, hso]
        refine twinops_0 (d := 38) hS (by omega) hrs2 (by omega) (by simp (maxSteps := 2000000) (disch := first | omega | assumption | (simp only [DS, Nat.reduceAdd, *]; done) | (simp only [DZ]; omega)) only [RUN, RU, footA, feetIn, resultsA, tupOf, frzL, slot, lay, icyL, fillA, repCells, kR, reduceIte, Nat.reduceEqDiff, Nat.reduceBEq, Nat.reduceLT, Nat.reduceAdd, Nat.reduceLeDiff, Nat.reduceSub, Nat.reduceMul, Int.reduceLT, Int.reduceLE, Int.reduceEq, Int.reduceAdd, Int.reduceSub, Int.reduceMul]) (by simp only [add_size, mem0_size]; exact Nat.zero_le _) fun out N w sz kp hN wm => ?_
        have g0' : N.get 0 = some (.row false (lbR v)) := by rw [kp 0 (by simp (maxSteps := 2000000) (disch := first | omega | assumption | (simp only [DS, Nat.reduceAdd, *]; done) | (simp only [DZ]; omega)) only [RUN, RU, footA, feetIn, resultsA, tupOf, frzL, slot, lay, icyL, fillA, repCells, kR, reduceIte, Nat.reduceEqDiff, Nat.reduceBEq, Nat.reduceLT, Nat.reduceAdd, Nat.reduceLeDiff, Nat.reduceSub, Nat.reduceMul, Int.reduceLT, Int.reduceLE, Int.reduceEq, Int.reduceAdd, Int.reduceSub, Int.reduceMul])]; simp (maxSteps := 2000000) (disch := first | omega | assumption | (simp only [DS, Nat.reduceAdd, *]; done) | (simp only [DZ]; omega)) only [RUN, RU, footA, feetIn, resultsA, tupOf, frzL, slot, lay, icyL, fillA, repCells, kR, reduceIte, Nat.reduceEqDiff, Nat.reduceBEq, Nat.reduceLT, Nat.reduceAdd, Nat.reduceLeDiff, Nat.reduceSub, Nat.reduceMul, Int.reduceLT, Int.reduceLE, Int.reduceEq, Int.reduceAdd, Int.reduceSub, Int.reduceMul]
        have hn : out = out := rfl
        simp (maxSteps := 2000000) (disch := first | omega | assumption | (simp only [DS, Nat.reduceAdd, *]; done) | (simp only [DZ]; omega)) only [RUN, RU, footA, feetIn, resultsA, tupOf, frzL, slot, lay, icyL, fillA, repCells, kR, reduceIte, Nat.reduceEqDiff, Nat.reduceBEq, Nat.reduceLT, Nat.reduceAdd, Nat.reduceLeDiff, Nat.reduceSub, Nat.reduceMul, Int.reduceLT, Int.reduceLE, Int.reduceEq, Int.reduceAdd, Int.reduceSub, Int.reduceMul, h0, h1, h2, h3, hN.nn.len]
        replace hN : opK.ND N 1 out l := hN
        have wm0 : N.wm = 0 := wm
        clear wm kp sz hn
        refine w_loop (I := fun nq tq Nq => ∃ (iq : Nat), nq = l.length - iq ∧ iq ≤ l.length ∧ nth undefA tq 0 = a ∧ nth undefA tq 2 = I64 from_ ∧ nth undefA tq 3 = b ∧ nth undefA tq 5 = .ptr 0 0 ∧ nth undefA tq 9 = BL true ∧ nth undefA tq 10 = r1 ∧ nth undefA tq 11 = I64 (pageT l v from_) ∧ nth undefA tq 18 = out ∧ nth undefA tq 19 = I64 iq ∧ Wf Nq ∧ Nq.get 0 = some (.row false (lbR v)) ∧ opK.ND Nq 1 out (modX l v other iq)) (n := l.length) (by omega) ?_ ?_
        · refine ⟨0, rfl, Nat.zero_le _, ?_, ?_, ?_, ?_, ?_, ?_, ?_, ?_, ?_, w, g0', (by rw [modX_zero]; exact hN)⟩ <;> simp (maxSteps := 2000000) (disch := first | omega | assumption | (simp only [DS, Nat.reduceAdd, *]; done) | (simp only [DZ]; omega)) only [RUN, RU, footA, feetIn, resultsA, tupOf, frzL, slot, lay, icyL, fillA, repCells, kR, reduceIte, Nat.reduceEqDiff, Nat.reduceBEq, Nat.reduceLT, Nat.reduceAdd, Nat.reduceLeDiff, Nat.reduceSub, Nat.reduceMul, Int.reduceLT, Int.reduceLE, Int.reduceEq, Int.reduceAdd, Int.reduceSub, Int.reduceMul, h0, h1, h2, h3]
          all_goals first | rfl | assumption | done
        · rintro nq tq Nq hltq ⟨iq, rfl, hiq, gq0, gq2, gq3, gq5, gq9, gq10, gq11, gq18, gq19, wq, gq, hq⟩
          simp only [ht] at hltq ⊢
          have hln := modX_len l v other iq (by omega)
          have lnq := hq.nn.len
          rw [hln] at lnq
          by_cases hc : iq < l.length
          · have c1 : decide ((iq : Int) < l.length) = true := decide_eq_true (by omega)
            have hget := modX_get l v other iq hc
            have hst := modX_step l v other iq hc
            have hei := List.getElem_mem hc
            obtain ⟨_, _, ⟨_, _, _, hok⟩, _⟩ := hS.iad iq hc
            have he300 := hrs _ hei
            have w1 : IntKind.i64.wrap ((iq : Int) + 1) = ((iq + 1 : Nat) : Int) := by rw [wrap_i64] <;> omega
            simp (maxSteps := 2000000) (disch := first | omega | assumption | (simp only [DS, Nat.reduceAdd, *]; done) | (simp only [DZ]; omega)) only [RUN, RU, footA, feetIn, resultsA, tupOf, frzL, slot, lay, icyL, fillA, repCells, kR, reduceIte, Nat.reduceEqDiff, Nat.reduceBEq, Nat.reduceLT, Nat.reduceAdd, Nat.reduceLeDiff, Nat.reduceSub, Nat.reduceMul, Int.reduceLT, Int.reduceLE, Int.reduceEq, Int.reduceAdd, Int.reduceSub, Int.reduceMul, gq0, gq2, gq3, gq5, gq9, gq10, gq11, gq18, gq19, lnq, c1]
            refine w_loop (I := fun nk tk Nk => ∃ (ik : Nat), nk = l[iq].rs.length - ik ∧ ik ≤ l[iq].rs.length ∧ nth undefA tk 0 = a ∧ nth undefA tk 2 = I64 from_ ∧ nth undefA tk 3 = b ∧ nth undefA tk 5 = .ptr 0 0 ∧ nth undefA tk 9 = BL true ∧ nth undefA tk 10 = r1 ∧ nth undefA tk 11 = I64 (pageT l v from_) ∧ nth undefA tk 18 = out ∧ nth undefA tk 19 = I64 iq ∧ nth undefA tk 20 = I64 ik ∧ Wf Nk ∧ Nk.get 0 = some (.row false (lbR v)) ∧ opK.ND Nk 1 out ((modX l v other iq).set iq (modC l v other l[iq] ik))) (n := l[iq].rs.length) (by omega) ?_ ?_
            · refine ⟨0, rfl, Nat.zero_le _, ?_, ?_, ?_, ?_, ?_, ?_, ?_, ?_, ?_, ?_, wq, gq, (by rw [modC_zero, ← hget, List.set_getElem_self]; exact hq)⟩ <;> simp (maxSteps := 2000000) (disch := first | omega | assumption | (simp only [DS, Nat.reduceAdd, *]; done) | (simp only [DZ]; omega)) only [RUN, RU, footA, feetIn, resultsA, tupOf, frzL, slot, lay, icyL, fillA, repCells, kR, reduceIte, Nat.reduceEqDiff, Nat.reduceBEq, Nat.reduceLT, Nat.reduceAdd, Nat.reduceLeDiff, Nat.reduceSub, Nat.reduceMul, Int.reduceLT, Int.reduceLE, Int.reduceEq, Int.reduceAdd, Int.reduceSub, Int.reduceMul, gq0, gq2, gq3, gq5, gq9, gq10, gq11, gq18, gq19]
              all_goals first | rfl | assumption | done
            · rintro nk tk Nk hltk ⟨ik, rfl, hik, gk0, gk2, gk3, gk5, gk9, gk10, gk11, gk18, gk19, gk20, wk, gk, hk⟩
              simp only [hltq] at hltk ⊢
              have hil : iq < ((modX l v other iq).set iq (modC l v other l[iq] ik)).length := by rw [List.length_set, hln]; exact hc
              obtain ⟨id, cs, ra, hrow, hB, hg, hiad, hsl, hcl, hin, hne, hset⟩ := hk.at hil
              have eget : ((modX l v other iq).set iq (modC l v other l[iq] ik))[iq] = modC l v other l[iq] ik := List.getElem_set_self ..
              rw [eget] at hsl hin hset
              have sm : SlM Nk 1 isI32 ra (modC l v other l[iq] ik).rs := hin.1
              have lra := sm.len
              rw [modC_len _ _ _ _ _ (by omega)] at lra
              have lid := Mem.get_lt hg
              have hsl : slot cs (iq * 17) 17 = opR (modC l v other l[iq] ik) ra := hsl
              have hcl : (iq + 1) * 17 ≤ cs.length := hcl
              have p16 : cs[iq * 17 + 16]? = some ra := (get_slot (off := 16) hsl (by decide)).trans rfl
              have p1 : List.take 3 (List.drop (iq * 17 + 1) cs) = hdR l[iq].hd := (slot_slot (off := 1) (n := 3) hsl (by decide)).trans rfl
              have p8 : cs[iq * 17 + 8]? = some (I64 l[iq].sp.f.c) := (get_slot (off := 8) hsl (by decide)).trans rfl
              have hiad : ∀ N, iadO N 17 out (some iq) = some (.ptr id (iq * 17), N) := hiad
              have rl : (rowsOf out).all (fun x => Nat.blt x Nk.size) = true := hk.nn.rows (Nat.le_refl _)
              have ora := sm.one
              have w2 : IntKind.i64.wrap ((ik : Int) + 1) = ((ik + 1 : Nat) : Int) := by rw [wrap_i64] <;> omega
              by_cases hc5 : ik < l[iq].rs.length
              · have c5 : decide ((ik : Int) < l[iq].rs.length) = true := decide_eq_true (by omega)
                by_cases hc6 : ik < other.length
                · have c6 : decide ((ik : Int) < other.length) = true := decide_eq_true (by omega)
                  have hx : (Eid.mk l[iq].hd (IntKind.i64.wrap (l[iq].sp.f.c + ik))).ok := ⟨hok.2.1, wrap_rng _⟩
                  have hsh : ∀ M, callN Try.prog (fsT tbl) 100000 40 (.fn 14) [a, .agg [U8 l[iq].hd.lb.lv, U32 l[iq].hd.lb.cats, U8 l[iq].hd.num, I64 (IntKind.i64.wrap (l[iq].sp.f.c + ik))], lbA v] M = some (.tup [BL (shownB l ⟨l[iq].hd, IntKind.i64.wrap (l[iq].sp.f.c + ik)⟩ v), I64 (askE l ⟨l[iq].hd, IntKind.i64.wrap (l[iq].sp.f.c + ik)⟩ v)], M) := fun M => shown_run (fuel := 100000) (d := 29) (v := v) hS (by omega) (by omega) hx M
                  have g0k := Mem.get_lt gk
                  obtain ⟨rc, hiadb, hrc, hrcl⟩ := hb.iad ik hc6
                  have hrc : rc = [I32 other[ik]] := hrc
                  subst hrc
                  have hcl' := modC_len l v other l[iq] ik (by omega)
                  obtain ⟨id2, cs2, hrow2, lid2, hg2, hcs2, hiad2, hset2⟩ := sm.at1 (i := ik) (by omega)
                  have hgd : other.getD ik 0 = other[ik] := by rw [List.getD_eq_getElem?_getD, List.getElem?_eq_getElem hc6]; rfl
                  have cget := modC_get l v other l[iq] ik hc5
                  have cst := modC_step l v other l[iq] ik hc5
                  cases s1 : decide (askE l ⟨l[iq].hd, IntKind.i64.wrap (l[iq].sp.f.c + ik)⟩ v = 0) with
                  | false =>
                    have hk1 := modC_keep l v other l[iq] ik hc5 (by unfold mod1; rw [if_neg (fun h => absurd h.2.1 (of_decide_eq_false s1))])
                    simp (maxSteps := 2000000) (disch := first | omega | assumption | (simp only [DS, Nat.reduceAdd, *]; done) | (simp only [DZ]; omega)) only [RUN, RU, footA, feetIn, resultsA, tupOf, frzL, slot, lay, icyL, fillA, repCells, kR, reduceIte, Nat.reduceEqDiff, Nat.reduceBEq, Nat.reduceLT, Nat.reduceAdd, Nat.reduceLeDiff, Nat.reduceSub, Nat.reduceMul, Int.reduceLT, Int.reduceLE, Int.reduceEq, Int.reduceAdd, Int.reduceSub, Int.reduceMul, gk0, gk2, gk3, gk5, gk9, gk10, gk11, gk18, gk19, gk20, hiad, hg, rl, p16, p1, p8, lra, lb, c5, c6, gk, hsh, s1, w2, hS.fz.rows, hS.fz.one, hS.fz.cells, hS.fz.icy, hS.fz.frz, hb.fz.rows, hb.fz.one, hb.fz.cells, hb.fz.icy, hb.fz.frz]
                    exact ⟨hltk, l[iq].rs.length - (ik + 1), by omega, ik + 1, rfl, by omega, rfl, wk, by rw [hk1]; exact hk⟩
                  | true =>
                    cases s2 : shownB l ⟨l[iq].hd, IntKind.i64.wrap (l[iq].sp.f.c + ik)⟩ v with
                    | true =>
                      have hk1 := modC_keep l v other l[iq] ik hc5 (by unfold mod1; rw [if_neg (fun h => by rw [s2] at h; exact absurd h.2.2 (by decide))])
                      rw [s2] at hsh
                      simp (maxSteps := 2000000) (disch := first | omega | assumption | (simp only [DS, Nat.reduceAdd, *]; done) | (simp only [DZ]; omega)) only [RUN, RU, footA, feetIn, resultsA, tupOf, frzL, slot, lay, icyL, fillA, repCells, kR, reduceIte, Nat.reduceEqDiff, Nat.reduceBEq, Nat.reduceLT, Nat.reduceAdd, Nat.reduceLeDiff, Nat.reduceSub, Nat.reduceMul, Int.reduceLT, Int.reduceLE, Int.reduceEq, Int.reduceAdd, Int.reduceSub, Int.reduceMul, gk0, gk2, gk3, gk5, gk9, gk10, gk11, gk18, gk19, gk20, hiad, hg, rl, p16, p1, p8, lra, lb, c5, c6, gk, hsh, s1, w2, hS.fz.rows, hS.fz.one, hS.fz.cells, hS.fz.icy, hS.fz.frz, hb.fz.rows, hb.fz.one, hb.fz.cells, hb.fz.icy, hb.fz.frz]
                      exact ⟨hltk, l[iq].rs.length - (ik + 1), by omega, ik + 1, rfl, by omega, rfl, wk, by rw [hk1]; exact hk⟩
                    | false =>
                      rw [s2] at hsh
                      simp (maxSteps := 2000000) (disch := first | omega | assumption | (simp only [DS, Nat.reduceAdd, *]; done) | (simp only [DZ]; omega)) only [RUN, RU, footA, feetIn, resultsA, tupOf, frzL, slot, lay, icyL, fillA, repCells, kR, reduceIte, Nat.reduceEqDiff, Nat.reduceBEq, Nat.reduceLT, Nat.reduceAdd, Nat.reduceLeDiff, Nat.reduceSub, Nat.reduceMul, Int.reduceLT, Int.reduceLE, Int.reduceEq, Int.reduceAdd, Int.reduceSub, Int.reduceMul, gk0, gk2, gk3, gk5, gk9, gk10, gk11, gk18, gk19, gk20, hiad, hg, rl, p16, p1, p8, lra, lb, c5, c6, gk, hsh, s1, w2, hS.fz.rows, hS.fz.one, hS.fz.cells, hS.fz.icy, hS.fz.frz, hb.fz.rows, hb.fz.one, hb.fz.cells, hb.fz.icy, hb.fz.frz, hiadb, hiad2, hg2]
                      have em : mod1 l v other l[iq] ik l[iq].rs[ik] = other[ik] := by
                        unfold mod1
                        rw [if_pos ⟨hc6, of_decide_eq_true s1, s2⟩, hgd]
                      rw [em] at cst
                      have hid2 := hin.2.1 id2 hrow2
                      refine ⟨hltk, l[iq].rs.length - (ik + 1), by omega, ik + 1, rfl, by omega, rfl, wk, ?_, ?_⟩
                      · rw [get_upd_ne wk _ _ _ (by omega)]; exact gk
                      · have hnew := hset (Nk.upd id2 (.row false (lay cs2 ik [I32 other[ik]]))) (modC l v other l[iq] (ik + 1)) rfl (modC_ok hok hor _) (fun j h1 h2 h3 => get_upd_ne wk _ _ _ (fun e => h3 (by rw [hrow2, e]))) (by
                          have := hset2 (I32 other[ik]) other[ik] rfl (Nk.upd id2 (.row false (lay cs2 ik [I32 other[ik]]))) (get_upd_eq wk _ _ lid2)
                          rw [cst] at this
                          exact this)
                        rw [List.set_set] at hnew
                        exact hnew
                · have c6 : decide ((ik : Int) < other.length) = false := decide_eq_false (by omega)
                  rw [modC_end _ _ _ _ _ (.inr (by omega)), hst] at hk
                  simp (maxSteps := 2000000) (disch := first | omega | assumption | (simp only [DS, Nat.reduceAdd, *]; done) | (simp only [DZ]; omega)) only [RUN, RU, footA, feetIn, resultsA, tupOf, frzL, slot, lay, icyL, fillA, repCells, kR, reduceIte, Nat.reduceEqDiff, Nat.reduceBEq, Nat.reduceLT, Nat.reduceAdd, Nat.reduceLeDiff, Nat.reduceSub, Nat.reduceMul, Int.reduceLT, Int.reduceLE, Int.reduceEq, Int.reduceAdd, Int.reduceSub, Int.reduceMul, gk0, gk2, gk3, gk5, gk9, gk10, gk11, gk18, gk19, gk20, hiad, hg, rl, p16, lra, lb, c5, c6, w1]
                  exact ⟨hltk, l.length - (iq + 1), by omega, iq + 1, rfl, by omega, rfl, wk, gk, hk⟩
              · have c5 : decide ((ik : Int) < l[iq].rs.length) = false := decide_eq_false (by omega)
                rw [modC_end _ _ _ _ _ (.inl (by omega)), hst] at hk
                simp (maxSteps := 2000000) (disch := first | omega | assumption | (simp only [DS, Nat.reduceAdd, *]; done) | (simp only [DZ]; omega)) only [RUN, RU, footA, feetIn, resultsA, tupOf, frzL, slot, lay, icyL, fillA, repCells, kR, reduceIte, Nat.reduceEqDiff, Nat.reduceBEq, Nat.reduceLT, Nat.reduceAdd, Nat.reduceLeDiff, Nat.reduceSub, Nat.reduceMul, Int.reduceLT, Int.reduceLE, Int.reduceEq, Int.reduceAdd, Int.reduceSub, Int.reduceMul, gk0, gk2, gk3, gk5, gk9, gk10, gk11, gk18, gk19, gk20, hiad, hg, rl, p16, lra, lb, c5, w1]
                exact ⟨hltk, l.length - (iq + 1), by omega, iq + 1, rfl, by omega, rfl, wk, gk, hk⟩
          · obtain rfl : iq = l.length := by omega
            have c1 : decide ((l.length : Int) < l.length) = false := decide_eq_false (by omega)
            rw [modX_end] at hq
            simp (maxSteps := 2000000) (disch := first | omega | assumption | (simp only [DS, Nat.reduceAdd, *]; done) | (simp only [DZ]; omega)) only [RUN, RU, footA, feetIn, resultsA, tupOf, frzL, slot, lay, icyL, fillA, repCells, kR, reduceIte, Nat.reduceEqDiff, Nat.reduceBEq, Nat.reduceLT, Nat.reduceAdd, Nat.reduceLeDiff, Nat.reduceSub, Nat.reduceMul, Int.reduceLT, Int.reduceLE, Int.reduceEq, Int.reduceAdd, Int.reduceSub, Int.reduceMul, gq0, gq2, gq3, gq5, gq9, gq10, gq11, gq18, gq19, lnq, c1]
            have hrsx : ∀ o ∈ l.map (modO l v other), o.rs.length ≤ 1000000000 := fun o ho => by
              obtain ⟨p, hp, rfl⟩ := List.mem_map.1 ho
              have := hrs2 p hp
              simp only [modO, modR_len]
              exact this
            have hlx : (l.map (modO l v other)).length = l.length := List.length_map _
            have l0 := Mem.get_lt gq
            refine NK.NR.hand (K := opK) (B := 1) (l := l.map (modO l v other)) (rest := []) (R := fun r => r = I64 (err (histF [] (l.map (modO l v other))))) tf15 rfl hq.nn.nr wq (fun _ => rfl) (fun o' ho' => ⟨_, rfl, fun M => doccheck_run (d := 26) (opK_sl ho') (by omega) (by omega) M⟩) fun r M1 hr w1 s1 n1 k1 => ?_
            subst hr
            have g1 := (k1 0 (by omega)).trans gq
            have l1 := Mem.get_lt g1
            cases q8 : histF [] (l.map (modO l v other)) with
            | false =>
              simp (maxSteps := 2000000) (disch := first | omega | assumption | (simp only [DS, Nat.reduceAdd, *]; done) | (simp only [DZ]; omega)) only [RUN, RU, footA, feetIn, resultsA, tupOf, frzL, slot, lay, icyL, fillA, repCells, kR, reduceIte, Nat.reduceEqDiff, Nat.reduceBEq, Nat.reduceLT, Nat.reduceAdd, Nat.reduceLeDiff, Nat.reduceSub, Nat.reduceMul, Int.reduceLT, Int.reduceLE, Int.reduceEq, Int.reduceAdd, Int.reduceSub, Int.reduceMul, gq0, gq2, gq3, gq5, gq9, gq10, gq11, gq18, gq19, err_f, z80]
            | true =>
              simp (maxSteps := 2000000) (disch := first | omega | assumption | (simp only [DS, Nat.reduceAdd, *]; done) | (simp only [DZ]; omega)) only [RUN, RU, footA, feetIn, resultsA, tupOf, frzL, slot, lay, icyL, fillA, repCells, kR, reduceIte, Nat.reduceEqDiff, Nat.reduceBEq, Nat.reduceLT, Nat.reduceAdd, Nat.reduceLeDiff, Nat.reduceSub, Nat.reduceMul, Int.reduceLT, Int.reduceLE, Int.reduceEq, Int.reduceAdd, Int.reduceSub, Int.reduceMul, gq0, gq2, gq3, gq5, gq9, gq10, gq11, gq18, gq19, err_t, z00, g1]
              have q4o := q4
              obtain ⟨x1, x2, x3⟩ := page_mod (other := other) q3 q8
              refine NK.NR.hand (K := opK) (B := 1) (l := l.map (modO l v other)) (rest := [lbA v, I64 from_]) (R := fun r => pageK (l.map (modO l v other)) v from_ r) tf5 rfl n1 w1 (fun M => by simp only [icyL, fz_icyA (fz_lbR v) (show 1 < 12 by omega), icy12]) (fun o' ho' => page_run (d := 24) (opK_sl ho') (by omega) (by omega) hrsx) fun r M2 hr w2 s2 n2 k2 => ?_
              obtain ⟨r4, rfl, hr4⟩ := hr
              rw [x1, x2]
              rw [x3] at hr4
              have hso2 := fun M => sameops_run (fuel := 100000) (d := 37) hr1 hr4 (by omega) (fun o ho => by have := prs o ho; omega) (by omega) M
              rw [opsEq_iff.2 rfl] at hso2
              simp (maxSteps := 2000000) (disch := first | omega | assumption | (simp only [DS, Nat.reduceAdd, *]; done) | (simp only [DZ]; omega)) only [RUN, RU, footA, feetIn, resultsA, tupOf, frzL, slot, lay, icyL, fillA, repCells, kR, reduceIte, Nat.reduceEqDiff, Nat.reduceBEq, Nat.reduceLT, Nat.reduceAdd, Nat.reduceLeDiff, Nat.reduceSub, Nat.reduceMul, Int.reduceLT, Int.reduceLE, Int.reduceEq, Int.reduceAdd, Int.reduceSub, Int.reduceMul, gq0, gq2, gq3, gq5, gq9, gq10, gq11, gq18, gq19, z00, hr4.fz.rows, hr4.fz.one, hr4.fz.cells, hr4.fz.icy, hr4.fz.frz, hr1.fz.rows, hr1.fz.one, hr1.fz.cells, hr1.fz.icy, hr1.fz.frz, tt, hso2]
      · have q3' := decide_eq_false q3
        have e1 : pageL l v from_ = [] := by unfold pageL; rw [if_neg q3]
        rw [e1] at hr1 lr1
        simp (maxSteps := 2000000) (disch := first | omega | assumption | (simp only [DS, Nat.reduceAdd, *]; done) | (simp only [DZ]; omega)) only [RUN, RU, footA, feetIn, resultsA, tupOf, frzL, slot, lay, icyL, fillA, repCells, kR, reduceIte, Nat.reduceEqDiff, Nat.reduceBEq, Nat.reduceLT, Nat.reduceAdd, Nat.reduceLeDiff, Nat.reduceSub, Nat.reduceMul, Int.reduceLT, Int.reduceLE, Int.reduceEq, Int.reduceAdd, Int.reduceSub, Int.reduceMul, h0, h1, h2, h3, hS.fz.rows, hS.fz.one, hS.fz.cells, hS.fz.icy, hS.fz.frz, hb.fz.rows, hb.fz.one, hb.fz.cells, hb.fz.icy, hb.fz.frz, hr1.fz.rows, hr1.fz.one, hr1.fz.cells, hr1.fz.icy, hr1.fz.frz, hr2.fz.rows, hr2.fz.one, hr2.fz.cells, hr2.fz.icy, hr2.fz.frz, hal, hgr, lb, q2', hpg, hon, q3', lr1, List.length_nil]
        rfl
end Go.Proofs.Ytggbpfdbcibifaa
