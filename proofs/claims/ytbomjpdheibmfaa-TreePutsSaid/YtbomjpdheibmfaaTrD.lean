/-
  Texts: long.
-/
import Derived.Test.YtbomjpdheibmfaaTrC
import Derived.Test.YtbomjpdheibmfaaEf
set_option linter.unusedSimpArgs false
set_option linter.unusedVariables false
set_option maxRecDepth 100000
namespace Go.Proofs.Ytbomjpdheibmfaa
open Go Go.Ax
variable {fuel : Nat} {M : Mem} {Q : AV → Mem → Prop} {d : Nat}
def nextB (q r : Rn) : Bool := decide (r.af = q.last) && decide (r.sp.f = (⟨r.af.hd, IntKind.i64.wrap (r.af.c + 1)⟩ : Eid))
def room (q : Rn) : Int := IntKind.i64.wrap (64 - q.sp.n)
def addR (out : List Rn) (r : Rn) : List Rn :=
  match out.getLast? with
  | none => out ++ [r]
  | some q => if nextB q r = true then
      (if r.cutE (room q) = 0 then out.set (out.length - 1) (joinR q (r.fst (room q))) ++ [r.snd (room q)]
       else if joinE q r = 0 then out.set (out.length - 1) (joinR q r)
       else out ++ [r])
    else out ++ [r]
def longL (l : List Rn) : List Rn := l.foldl addR []
theorem long_snoc (l : List Rn) (r : Rn) : longL (l ++ [r]) = addR (longL l) r := by simp [longL]
theorem addR_len (out : List Rn) (r : Rn) : (addR out r).length ≤ out.length + 1 := by
  unfold addR
  split
  · simp
  · split
    · split
      · simp
      · split <;> simp
    · simp
theorem Rn.z_ok : Rn.z.ok := ⟨⟨Eid.z_ok, by decide, by decide⟩, Eid.z_ok, fun _ h => by cases h⟩
theorem joinE_iff {a b : Rn} : joinE a b = 0 ↔ a.may = true ∧ b.may = true ∧ (a.both b).cutE a.sp.n = 0 ∧ (a.both b).fst a.sp.n = a ∧ (a.both b).snd a.sp.n = b := by
  unfold joinE
  by_cases h : a.may = true ∧ b.may = true
  · rw [if_pos h]
    by_cases k : (a.both b).cutE a.sp.n = 0 ∧ (a.both b).fst a.sp.n = a ∧ (a.both b).snd a.sp.n = b
    · rw [if_pos k]; exact ⟨fun _ => ⟨h.1, h.2, k⟩, fun _ => rfl⟩
    · rw [if_neg k]; exact ⟨fun e => (by cases e), fun e => absurd e.2.2 k⟩
  · rw [if_neg h]; exact ⟨fun e => (by cases e), fun e => absurd ⟨e.1, e.2.1⟩ h⟩
theorem joinR_ok {a b : Rn} (ha : a.ok) (hb : b.ok) : (joinR a b).ok := by
  unfold joinR
  split
  · rename_i h
    obtain ⟨ma, mb, _⟩ := joinE_iff.1 h
    have ba := Spn.may_le (Rn.may_sp ma)
    have bb := Spn.may_le (Rn.may_sp mb)
    refine ⟨⟨ha.1.1, ?_⟩, ha.2.1, fun x hx => ?_⟩
    · show i64R (a.sp.n + b.sp.n)
      unfold i64R; omega
    · rcases List.mem_append.1 hx with h | h
      · exact ha.2.2 x h
      · exact hb.2.2 x h
  · exact Rn.z_ok
theorem joinR_len (a b : Rn) : (joinR a b).rs.length ≤ 1000 := by
  unfold joinR
  split
  · rename_i h
    obtain ⟨ma, mb, _⟩ := joinE_iff.1 h
    have ba := Spn.may_le (Rn.may_sp ma)
    have bb := Spn.may_le (Rn.may_sp mb)
    have la := Rn.may_len ma
    have lb := Rn.may_len mb
    show (a.rs ++ b.rs).length ≤ _
    rw [List.length_append]; omega
  · exact Nat.zero_le _
theorem fst_ok {r : Rn} {n : Int} (h : r.ok) (hc : r.cutE n = 0) : (r.fst n).ok := by
  obtain ⟨hm, h0, h1⟩ := Rn.cutE_iff.1 hc
  have hb := Spn.may_le (Rn.may_sp hm)
  exact ⟨⟨h.1.1, by show i64R n; unfold i64R; omega⟩, h.2.1, fun x hx => h.2.2 x (List.mem_of_mem_take hx)⟩
theorem snd_ok {r : Rn} {n : Int} (h : r.ok) (hc : r.cutE n = 0) : (r.snd n).ok := by
  obtain ⟨hm, h0, h1⟩ := Rn.cutE_iff.1 hc
  have hb := Spn.may_le (Rn.may_sp hm)
  exact ⟨⟨⟨h.1.1.1, by show i64R (r.sp.f.c + n); unfold i64R; omega⟩, by show i64R (r.sp.n - n); unfold i64R; omega⟩, ⟨h.1.1.1, by show i64R (r.sp.f.c + (n - 1)); unfold i64R; omega⟩, fun x hx => h.2.2 x (List.mem_of_mem_drop hx)⟩
set_option maxHeartbeats 32000000 in
theorem long_run {a : AV} {l : List Rn} (hS : Sl 10 isRn a l) (hl : l.length ≤ 100000) (hd : ∀ r ∈ l, r.rs.length ≤ 1000000) (hf : l.length + 3000000 < fuel) : ∃ r, Sl 10 isRn r (longL l) ∧ ∀ M, callN Try.prog (fsT tbl) fuel (d + 9) (.fn 20) [a] M = some (r, M) := by
  have ll := hS.len
  refine gc_ex tf20 rfl (fun M => by simp only [zH, fun M => hS.icy M 12 (by omega)]) ?_
  refine call_gc tf20 rfl (by simp only [zH, fun M => hS.icy M 12 (by omega)]) (by simp [a20]) fun b' ht hx => ?_
  have h0 := hx 0 _ rfl
  clear hx
  simp only [a20, c20] at ht ⊢
  simp (maxSteps := 2000000) (disch := first | omega | assumption | (simp only [DS, Nat.reduceAdd, *]; done) | (simp only [DZ]; omega)) only [RUN, RU, zD, zC, zB, zE, zG, slot, lay, zH, zF, zA, kR, reduceIte, Nat.reduceEqDiff, Nat.reduceBEq, Nat.reduceLT, Nat.reduceAdd, Nat.reduceLeDiff, Nat.reduceSub, Nat.reduceMul, Int.reduceLT, Int.reduceLE, Int.reduceEq, Int.reduceAdd, Int.reduceSub, Int.reduceMul, h0, ll, hS.fz.rows, hS.fz.one, hS.fz.cells, hS.fz.icy, hS.fz.frz]
  refine w_loop (I := fun n t N => ∃ (i : Nat) (o : AV), n = l.length - i ∧ i ≤ l.length ∧ nth undefA t 2 = o ∧ nth undefA t 13 = a ∧ nth undefA t 14 = I64 l.length ∧ nth undefA t 15 = I64 i ∧ Wf N ∧ SlM N 10 isRn o (longL (l.take i)) ∧ (longL (l.take i)).length ≤ i ∧ (∀ q ∈ longL (l.take i), q.rs.length ≤ 1000000)) (n := l.length) (by omega) ?_ ?_
  · refine ⟨0, NIL, rfl, Nat.zero_le _, ?_, ?_, ?_, ?_, Wf.mem0, SlM.nil, Nat.le_refl 0, (fun _ h => by cases h)⟩ <;> simp (maxSteps := 2000000) (disch := first | omega | assumption | (simp only [DS, Nat.reduceAdd, *]; done) | (simp only [DZ]; omega)) only [RUN, RU, zD, zC, zB, zE, zG, slot, lay, zH, zF, zA, kR, reduceIte, Nat.reduceEqDiff, Nat.reduceBEq, Nat.reduceLT, Nat.reduceAdd, Nat.reduceLeDiff, Nat.reduceSub, Nat.reduceMul, Int.reduceLT, Int.reduceLE, Int.reduceEq, Int.reduceAdd, Int.reduceSub, Int.reduceMul, h0, ll]
    all_goals first | rfl | assumption | done
  · rintro n t N hlt ⟨i, o, rfl, hi, g2, g13, g14, g15, w, sm, bl, bd⟩
    simp only [ht] at hlt ⊢
    have oo := sm.one
    have oc := sm.cells
    by_cases hc : i < l.length
    · have q1 : decide ((i : Int) < l.length) = true := decide_eq_true (by omega)
      have w1 : IntKind.i64.wrap ((i : Int) + 1) = ((i + 1 : Nat) : Int) := by rw [wrap_i64] <;> omega
      obtain ⟨r, hiad, hr, hrl⟩ := hS.iad i hc
      have hts := long_snoc (l.take i) l[i]
      rw [← take_snocT l i hc] at hts
      have hal := addR_len (longL (l.take i)) l[i]
      have hde := hd l[i] (List.getElem_mem hc)
      generalize l[i] = e at *
      generalize longL (l.take i) = out at *
      obtain ⟨ra, rfl, hra, hok⟩ := hr
      have ora := hra.one
      have olen := sm.len
      have rlo : ∀ m, N.size ≤ m → ((rowsOf o).all fun i => Nat.blt i m) = true := fun m h => rows_lt sm.rl h
      obtain ⟨rt, hrt, htw⟩ := runtwin_run (fuel := fuel) (d := d + 6) hra (by omega)
      have ort := hrt.one
      by_cases hz : out.length = 0
      · have ho : out = [] := List.eq_nil_of_length_eq_zero hz
        subst ho
        have olen' : ∀ N, lenO N o = some (I64 0, N) := olen
        have w2 : IntKind.i64.wrap (-1) = -1 := by decide
        have q2 : decide ((0 : Int) ≤ -1) = false := by decide
        have eA : addR [] e = [] ++ [e] := rfl
        rw [eA] at hts hal
        simp (maxSteps := 2000000) (disch := first | omega | assumption | (simp only [DS, Nat.reduceAdd, *]; done) | (simp only [DZ]; omega)) only [RUN, RU, zD, zC, zB, zE, zG, slot, lay, zH, zF, zA, kR, reduceIte, Nat.reduceEqDiff, Nat.reduceBEq, Nat.reduceLT, Nat.reduceAdd, Nat.reduceLeDiff, Nat.reduceSub, Nat.reduceMul, Int.reduceLT, Int.reduceLE, Int.reduceEq, Int.reduceAdd, Int.reduceSub, Int.reduceMul, g2, g13, g14, g15, q1, hiad, hra.fz.rows, hra.fz.one, hra.fz.cells, hra.fz.icy, hra.fz.frz, hrt.fz.rows, hrt.fz.one, hrt.fz.cells, hrt.fz.icy, hrt.fz.frz, w, oo, oc, rlo, olen', w2, q2, htw]
        refine app1 (bytes := 80) (x := e) ((w.add _).upd _ _) (sm.keep fun j hj => ?_) fz_Rn ⟨rt, rfl, hrt, hok⟩ rfl (by omega) (by simp) (by simp) fun o' M' sm' w' le' kp nw wm' rl on oc' => ?_
        · have := sm.lt j hj
          rw [get_upd_ne (w.add _) _ _ _ (by omega), get_add w _ _ this]
        simp (maxSteps := 2000000) (disch := first | omega | assumption | (simp only [DS, Nat.reduceAdd, *]; done) | (simp only [DZ]; omega)) only [RUN, RU, zD, zC, zB, zE, zG, slot, lay, zH, zF, zA, kR, reduceIte, Nat.reduceEqDiff, Nat.reduceBEq, Nat.reduceLT, Nat.reduceAdd, Nat.reduceLeDiff, Nat.reduceSub, Nat.reduceMul, Int.reduceLT, Int.reduceLE, Int.reduceEq, Int.reduceAdd, Int.reduceSub, Int.reduceMul, g2, g13, g14, g15, w1]
        refine ⟨hlt, l.length - (i + 1), by omega, i + 1, o', rfl, by omega, rfl, rfl, w', by rw [hts]; exact sm', by rw [hts]; simp, fun q hq => ?_⟩
        rw [hts] at hq
        simp at hq
        subst hq
        exact hde
      · obtain ⟨n, hn⟩ : ∃ n : Nat, out.length = n + 1 := ⟨out.length - 1, by omega⟩
        have hnl : n < out.length := by omega
        have w2 : IntKind.i64.wrap ((out.length : Int) - 1) = (n : Int) := by rw [wrap_i64] <;> omega
        have q2 : decide ((0 : Int) ≤ (n : Int)) = true := decide_eq_true (by omega)
        obtain ⟨id, cs, r, hrow, lid, hg, hcs, hoad, hr2, hrl2, hpt, hgt, hpp, hset⟩ := sm.atS hnl
        have hgl : out.getLast? = some out[n] := by rw [List.getLast?_eq_getElem?, hn, Nat.add_sub_cancel, List.getElem?_eq_getElem hnl]
        have hqd := bd out[n] (List.getElem_mem hnl)
        have hon1 : out.length - 1 = n := by omega
        unfold addR at hts hal
        rw [hgl] at hts hal
        simp only [hon1] at hts hal
        generalize out[n] = q at *
        obtain ⟨rq, rfl, hrq, hqok⟩ := hr2
        have orq := hrq.one
        have hla := fun M => @last_run fuel (d + 2) q rq hrq hqok M
        have idN : id ≠ N.size := by omega
        have hn10 : (n : Nat) * 10 + 10 ≤ cs.length := by omega
        have fin : ∀ (x : Rn) (o' : AV) (M' : Mem), longL (l.take (i + 1)) = out ++ [x] → x = e → SlM M' 10 isRn o' (out ++ [x]) → Wf M' → Wf M' ∧ SlM M' 10 isRn o' (longL (l.take (i + 1))) ∧ (longL (l.take (i + 1))).length ≤ i + 1 ∧ ∀ q ∈ longL (l.take (i + 1)), q.rs.length ≤ 1000000 := by
          intro x o' M' h1 h2 h3 h4
          subst h2
          rw [h1]
          refine ⟨h4, h3, by simp; omega, fun q hq => ?_⟩
          rcases List.mem_append.1 hq with h | h
          · exact bd q h
          · rw [List.mem_singleton] at h; subst h; exact hde
        cases c1 : nextB q e with
        | false =>
          rw [c1] at hts hal
          simp only [Bool.false_eq_true, if_false] at hts hal
          unfold nextB at c1
          cases c2 : decide (e.af = q.last) with
          | false =>
            simp (maxSteps := 2000000) (disch := first | omega | assumption | (simp only [DS, Nat.reduceAdd, *]; done) | (simp only [DZ]; omega)) only [RUN, RU, zD, zC, zB, zE, zG, slot, lay, zH, zF, zA, kR, reduceIte, Nat.reduceEqDiff, Nat.reduceBEq, Nat.reduceLT, Nat.reduceAdd, Nat.reduceLeDiff, Nat.reduceSub, Nat.reduceMul, Int.reduceLT, Int.reduceLE, Int.reduceEq, Int.reduceAdd, Int.reduceSub, Int.reduceMul, g2, g13, g14, g15, q1, hiad, hra.fz.rows, hra.fz.one, hra.fz.cells, hra.fz.icy, hra.fz.frz, hrt.fz.rows, hrt.fz.one, hrt.fz.cells, hrt.fz.icy, hrt.fz.frz, hrq.fz.rows, hrq.fz.one, hrq.fz.cells, hrq.fz.icy, hrq.fz.frz, w, oo, oc, rlo, olen, w2, q2, htw, hoad, hg, hpt, hla, ↓pIdE, peIdE_val, ↓pIdN, peIdN_val, ↓pHdE, peHdE_val, ↓pHdN, peHdN_val, ↓pLbE, peLbE_val, ↓pLbN, peLbN_val, ↓pSpE, peSpE_val, ↓pSpN, peSpN_val, ETA, c2]
            refine app1 (bytes := 80) (x := e) ((w.add _).upd _ _) (sm.keep fun j hj => ?_) fz_Rn ⟨rt, rfl, hrt, hok⟩ rfl (by omega) (by omega) (by omega) fun o' M' sm' w' le' kp nw wm' rl on oc' => ?_
            · have := sm.lt j hj
              rw [get_upd_ne (w.add _) _ _ _ (by omega), get_add w _ _ this]
            simp (maxSteps := 2000000) (disch := first | omega | assumption | (simp only [DS, Nat.reduceAdd, *]; done) | (simp only [DZ]; omega)) only [RUN, RU, zD, zC, zB, zE, zG, slot, lay, zH, zF, zA, kR, reduceIte, Nat.reduceEqDiff, Nat.reduceBEq, Nat.reduceLT, Nat.reduceAdd, Nat.reduceLeDiff, Nat.reduceSub, Nat.reduceMul, Int.reduceLT, Int.reduceLE, Int.reduceEq, Int.reduceAdd, Int.reduceSub, Int.reduceMul, g2, g13, g14, g15, w1]
            exact ⟨hlt, l.length - (i + 1), by omega, i + 1, o', rfl, by omega, rfl, rfl, fin e o' M' hts rfl sm' w'⟩
          | true =>
            rw [c2, Bool.true_and] at c1
            simp (maxSteps := 2000000) (disch := first | omega | assumption | (simp only [DS, Nat.reduceAdd, *]; done) | (simp only [DZ]; omega)) only [RUN, RU, zD, zC, zB, zE, zG, slot, lay, zH, zF, zA, kR, reduceIte, Nat.reduceEqDiff, Nat.reduceBEq, Nat.reduceLT, Nat.reduceAdd, Nat.reduceLeDiff, Nat.reduceSub, Nat.reduceMul, Int.reduceLT, Int.reduceLE, Int.reduceEq, Int.reduceAdd, Int.reduceSub, Int.reduceMul, g2, g13, g14, g15, q1, hiad, hra.fz.rows, hra.fz.one, hra.fz.cells, hra.fz.icy, hra.fz.frz, hrt.fz.rows, hrt.fz.one, hrt.fz.cells, hrt.fz.icy, hrt.fz.frz, hrq.fz.rows, hrq.fz.one, hrq.fz.cells, hrq.fz.icy, hrq.fz.frz, w, oo, oc, rlo, olen, w2, q2, htw, hoad, hg, hpt, hla, ↓pIdE, peIdE_val, ↓pIdN, peIdN_val, ↓pHdE, peHdE_val, ↓pHdN, peHdN_val, ↓pLbE, peLbE_val, ↓pLbN, peLbN_val, ↓pSpE, peSpE_val, ↓pSpN, peSpN_val, ETA, c2, c1]
            refine app1 (bytes := 80) (x := e) ((w.add _).upd _ _) (sm.keep fun j hj => ?_) fz_Rn ⟨rt, rfl, hrt, hok⟩ rfl (by omega) (by omega) (by omega) fun o' M' sm' w' le' kp nw wm' rl on oc' => ?_
            · have := sm.lt j hj
              rw [get_upd_ne (w.add _) _ _ _ (by omega), get_add w _ _ this]
            simp (maxSteps := 2000000) (disch := first | omega | assumption | (simp only [DS, Nat.reduceAdd, *]; done) | (simp only [DZ]; omega)) only [RUN, RU, zD, zC, zB, zE, zG, slot, lay, zH, zF, zA, kR, reduceIte, Nat.reduceEqDiff, Nat.reduceBEq, Nat.reduceLT, Nat.reduceAdd, Nat.reduceLeDiff, Nat.reduceSub, Nat.reduceMul, Int.reduceLT, Int.reduceLE, Int.reduceEq, Int.reduceAdd, Int.reduceSub, Int.reduceMul, g2, g13, g14, g15, w1]
            exact ⟨hlt, l.length - (i + 1), by omega, i + 1, o', rfl, by omega, rfl, rfl, fin e o' M' hts rfl sm' w'⟩
        | true =>
          rw [c1] at hts hal
          simp only [if_true] at hts hal
          unfold nextB at c1
          simp only [Bool.and_eq_true] at c1
          obtain ⟨c1, c2⟩ := c1
          obtain ⟨v, ⟨ca, cb, rfl, hca, hcb⟩, hcut⟩ := runcut_run (fuel := fuel) (d := d + 1) (n := room q) hra (by omega)
          have oca := hca.one
          have ocb := hcb.one
          have hpn := hgt 4 (by omega)
          have hnx : decide (e.sp.f = (⟨e.af.hd, IntKind.i64.wrap (e.af.c + 1)⟩ : Eid)) = true := c2
          have wA : ∀ (M : Mem) p q, Wf M → Wf ((M.add p).upd M.size q) := fun M p q h => (h.add p).upd _ _
          have hzR : (rnR (⟨⟨Eid.z, 0⟩, Eid.z, []⟩ : Rn) NIL).length = 10 := rfl
          by_cases q3 : e.cutE (room q) = 0
          · have q3' : decide (e.cutE (room q) = 0) = true := decide_eq_true q3
            have eA : e.cutA (room q) = e.fst (room q) := by unfold Rn.cutA; rw [if_pos q3]
            have eB : e.cutB (room q) = e.snd (room q) := by unfold Rn.cutB; rw [if_pos q3]
            simp only [q3, if_true] at hts hal
            rw [eA] at hca hcut
            rw [eB] at hcb hcut
            have okA := fst_ok hok q3
            have okB := snd_ok hok q3
            have lA : (e.fst (room q)).rs.length ≤ 1000000 := by simp only [Rn.fst, List.length_take]; omega
            have lB : (e.snd (room q)).rs.length ≤ 1000000 := by simp only [Rn.snd, List.length_drop]; omega
            have hjl := joinR_len q (e.fst (room q))
            have hjok := joinR_ok hqok okA
            obtain ⟨v2, ⟨jr, rfl, hjr⟩, hjoin⟩ := runjoin_run (fuel := fuel) (d := d) hrq hca hqok okA hqd lA (by omega)
            obtain ⟨bt, hbt, hbw⟩ := runtwin_run (fuel := fuel) (d := d + 6) hcb (by omega)
            have ojr := hjr.one
            have obt := hbt.one
            generalize e.fst (room q) = eF at *
            generalize e.snd (room q) = eS at *
            generalize joinR q eF = jj at *
            unfold room at hcut q3 q3'
            clear hpp
            simp (maxSteps := 2000000) (disch := first | omega | assumption | (simp only [DS, Nat.reduceAdd, *]; done) | (simp only [DZ]; omega)) only [RUN, RU, zD, zC, zB, zE, zG, slot, lay, zH, zF, zA, kR, reduceIte, Nat.reduceEqDiff, Nat.reduceBEq, Nat.reduceLT, Nat.reduceAdd, Nat.reduceLeDiff, Nat.reduceSub, Nat.reduceMul, Int.reduceLT, Int.reduceLE, Int.reduceEq, Int.reduceAdd, Int.reduceSub, Int.reduceMul, g2, g13, g14, g15, q1, hiad, hra.fz.rows, hra.fz.one, hra.fz.cells, hra.fz.icy, hra.fz.frz, hrt.fz.rows, hrt.fz.one, hrt.fz.cells, hrt.fz.icy, hrt.fz.frz, hrq.fz.rows, hrq.fz.one, hrq.fz.cells, hrq.fz.icy, hrq.fz.frz, w, oo, oc, rlo, olen, w2, q2, htw, hoad, hg, hpt, hla, ↓pIdE, peIdE_val, ↓pIdN, peIdN_val, ↓pHdE, peHdE_val, ↓pHdN, peHdN_val, ↓pLbE, peLbE_val, ↓pLbN, peLbN_val, ↓pSpE, peSpE_val, ↓pSpN, peSpN_val, ETA, c1, hnx, hpn, hcut, q3', hca.fz.rows, hca.fz.one, hca.fz.cells, hca.fz.icy, hca.fz.frz, hcb.fz.rows, hcb.fz.one, hcb.fz.cells, hcb.fz.icy, hcb.fz.frz, hjoin, hjr.fz.rows, hjr.fz.one, hjr.fz.cells, hjr.fz.icy, hjr.fz.frz, hbw, hbt.fz.rows, hbt.fz.one, hbt.fz.cells, hbt.fz.icy, hbt.fz.frz]
            have hidn1 : id ≠ N.size + 1 := by omega
            have hidn2 : id ≠ N.size + 1 + 1 := by omega
            refine app1 (bytes := 80) (x := eS) (by simp (maxSteps := 2000000) (disch := first | omega | assumption | (simp only [DS, Nat.reduceAdd, *]; done) | (simp only [DZ]; omega)) only [RUN, RU, zD, zC, zB, zE, zG, slot, lay, zH, zF, zA, kR, reduceIte, Nat.reduceEqDiff, Nat.reduceBEq, Nat.reduceLT, Nat.reduceAdd, Nat.reduceLeDiff, Nat.reduceSub, Nat.reduceMul, Int.reduceLT, Int.reduceLE, Int.reduceEq, Int.reduceAdd, Int.reduceSub, Int.reduceMul, w]) (hset (rnR jj jr) jj ⟨jr, rfl, hjr, hjok⟩ rfl _ ?hgX) fz_Rn ⟨bt, rfl, hbt, okB⟩ rfl (by omega) (by rw [List.length_set]; omega) (by rw [List.length_set]; omega) fun o' M' sm' w' le' kp nw wm' rl on oc' => ?mainX
            case hgX => simp (maxSteps := 2000000) (disch := first | omega | assumption | (simp only [DS, Nat.reduceAdd, *]; done) | (simp only [DZ]; omega)) only [RUN, RU, zD, zC, zB, zE, zG, slot, lay, zH, zF, zA, kR, reduceIte, Nat.reduceEqDiff, Nat.reduceBEq, Nat.reduceLT, Nat.reduceAdd, Nat.reduceLeDiff, Nat.reduceSub, Nat.reduceMul, Int.reduceLT, Int.reduceLE, Int.reduceEq, Int.reduceAdd, Int.reduceSub, Int.reduceMul, w]
            case mainX =>
              simp (maxSteps := 2000000) (disch := first | omega | assumption | (simp only [DS, Nat.reduceAdd, *]; done) | (simp only [DZ]; omega)) only [RUN, RU, zD, zC, zB, zE, zG, slot, lay, zH, zF, zA, kR, reduceIte, Nat.reduceEqDiff, Nat.reduceBEq, Nat.reduceLT, Nat.reduceAdd, Nat.reduceLeDiff, Nat.reduceSub, Nat.reduceMul, Int.reduceLT, Int.reduceLE, Int.reduceEq, Int.reduceAdd, Int.reduceSub, Int.reduceMul, g2, g13, g14, g15, w1]
              refine ⟨hlt, l.length - (i + 1), by omega, i + 1, o', rfl, by omega, rfl, rfl, w', by rw [hts]; exact sm', by rw [hts]; simp; omega, fun q' hq => ?_⟩
              rw [hts] at hq
              rcases List.mem_append.1 hq with h | h
              · rcases List.mem_or_eq_of_mem_set h with h | rfl
                · exact bd q' h
                · omega
              · rw [List.mem_singleton] at h; subst h; exact lB
          · have q3' : decide (e.cutE (room q) = 0) = false := decide_eq_false q3
            simp only [q3, if_false] at hts hal
            have hjl := joinR_len q e
            have hjok := joinR_ok hqok hok
            obtain ⟨v2, ⟨jr, rfl, hjr⟩, hjoin⟩ := runjoin_run (fuel := fuel) (d := d) hrq hra hqok hok hqd hde (by omega)
            have ojr := hjr.one
            have hidn1 : id ≠ N.size + 1 := by omega
            have hidn2 : id ≠ N.size + 1 + 1 := by omega
            have hidn3 : id ≠ N.size + 1 + 1 + 1 := by omega
            generalize joinR q e = jj at *
            unfold room at q3 q3'
            generalize e.cutA (room q) = eF at *
            generalize e.cutB (room q) = eS at *
            unfold room at hcut
            clear hpp
            by_cases q4 : joinE q e = 0
            · have q4' : decide (joinE q e = 0) = true := decide_eq_true q4
              simp only [q4, if_true] at hts hal
              simp (maxSteps := 2000000) (disch := first | omega | assumption | (simp only [DS, Nat.reduceAdd, *]; done) | (simp only [DZ]; omega)) only [RUN, RU, zD, zC, zB, zE, zG, slot, lay, zH, zF, zA, kR, reduceIte, Nat.reduceEqDiff, Nat.reduceBEq, Nat.reduceLT, Nat.reduceAdd, Nat.reduceLeDiff, Nat.reduceSub, Nat.reduceMul, Int.reduceLT, Int.reduceLE, Int.reduceEq, Int.reduceAdd, Int.reduceSub, Int.reduceMul, g2, g13, g14, g15, q1, hiad, hra.fz.rows, hra.fz.one, hra.fz.cells, hra.fz.icy, hra.fz.frz, hrt.fz.rows, hrt.fz.one, hrt.fz.cells, hrt.fz.icy, hrt.fz.frz, hrq.fz.rows, hrq.fz.one, hrq.fz.cells, hrq.fz.icy, hrq.fz.frz, w, oo, oc, rlo, olen, w2, q2, htw, hoad, hg, hpt, hla, ↓pIdE, peIdE_val, ↓pIdN, peIdN_val, ↓pHdE, peHdE_val, ↓pHdN, peHdN_val, ↓pLbE, peLbE_val, ↓pLbN, peLbN_val, ↓pSpE, peSpE_val, ↓pSpN, peSpN_val, ETA, c1, hnx, hpn, hcut, q3', hca.fz.rows, hca.fz.one, hca.fz.cells, hca.fz.icy, hca.fz.frz, hcb.fz.rows, hcb.fz.one, hcb.fz.cells, hcb.fz.icy, hcb.fz.frz, hjoin, hjr.fz.rows, hjr.fz.one, hjr.fz.cells, hjr.fz.icy, hjr.fz.frz, q4', w1]
              refine ⟨hlt, l.length - (i + 1), by omega, i + 1, o, rfl, by omega, rfl, by simp (maxSteps := 2000000) (disch := first | omega | assumption | (simp only [DS, Nat.reduceAdd, *]; done) | (simp only [DZ]; omega)) only [RUN, RU, zD, zC, zB, zE, zG, slot, lay, zH, zF, zA, kR, reduceIte, Nat.reduceEqDiff, Nat.reduceBEq, Nat.reduceLT, Nat.reduceAdd, Nat.reduceLeDiff, Nat.reduceSub, Nat.reduceMul, Int.reduceLT, Int.reduceLE, Int.reduceEq, Int.reduceAdd, Int.reduceSub, Int.reduceMul, w], ?_, by rw [hts]; simp; omega, fun q' hq => ?_⟩
              · rw [hts]
                refine hset (rnR jj jr) jj ⟨jr, rfl, hjr, hjok⟩ rfl _ ?_
                simp (maxSteps := 2000000) (disch := first | omega | assumption | (simp only [DS, Nat.reduceAdd, *]; done) | (simp only [DZ]; omega)) only [RUN, RU, zD, zC, zB, zE, zG, slot, lay, zH, zF, zA, kR, reduceIte, Nat.reduceEqDiff, Nat.reduceBEq, Nat.reduceLT, Nat.reduceAdd, Nat.reduceLeDiff, Nat.reduceSub, Nat.reduceMul, Int.reduceLT, Int.reduceLE, Int.reduceEq, Int.reduceAdd, Int.reduceSub, Int.reduceMul, w]
              · rw [hts] at hq
                rcases List.mem_or_eq_of_mem_set hq with h | rfl
                · exact bd q' h
                · omega
            · have q4' : decide (joinE q e = 0) = false := decide_eq_false q4
              simp only [q4, if_false] at hts hal
              simp (maxSteps := 2000000) (disch := first | omega | assumption | (simp only [DS, Nat.reduceAdd, *]; done) | (simp only [DZ]; omega)) only [RUN, RU, zD, zC, zB, zE, zG, slot, lay, zH, zF, zA, kR, reduceIte, Nat.reduceEqDiff, Nat.reduceBEq, Nat.reduceLT, Nat.reduceAdd, Nat.reduceLeDiff, Nat.reduceSub, Nat.reduceMul, Int.reduceLT, Int.reduceLE, Int.reduceEq, Int.reduceAdd, Int.reduceSub, Int.reduceMul, g2, g13, g14, g15, q1, hiad, hra.fz.rows, hra.fz.one, hra.fz.cells, hra.fz.icy, hra.fz.frz, hrt.fz.rows, hrt.fz.one, hrt.fz.cells, hrt.fz.icy, hrt.fz.frz, hrq.fz.rows, hrq.fz.one, hrq.fz.cells, hrq.fz.icy, hrq.fz.frz, w, oo, oc, rlo, olen, w2, q2, htw, hoad, hg, hpt, hla, ↓pIdE, peIdE_val, ↓pIdN, peIdN_val, ↓pHdE, peHdE_val, ↓pHdN, peHdN_val, ↓pLbE, peLbE_val, ↓pLbN, peLbN_val, ↓pSpE, peSpE_val, ↓pSpN, peSpN_val, ETA, c1, hnx, hpn, hcut, q3', hca.fz.rows, hca.fz.one, hca.fz.cells, hca.fz.icy, hca.fz.frz, hcb.fz.rows, hcb.fz.one, hcb.fz.cells, hcb.fz.icy, hcb.fz.frz, hjoin, hjr.fz.rows, hjr.fz.one, hjr.fz.cells, hjr.fz.icy, hjr.fz.frz, q4']
              refine app1 (bytes := 80) (x := e) (by simp (maxSteps := 2000000) (disch := first | omega | assumption | (simp only [DS, Nat.reduceAdd, *]; done) | (simp only [DZ]; omega)) only [RUN, RU, zD, zC, zB, zE, zG, slot, lay, zH, zF, zA, kR, reduceIte, Nat.reduceEqDiff, Nat.reduceBEq, Nat.reduceLT, Nat.reduceAdd, Nat.reduceLeDiff, Nat.reduceSub, Nat.reduceMul, Int.reduceLT, Int.reduceLE, Int.reduceEq, Int.reduceAdd, Int.reduceSub, Int.reduceMul, w]) (sm.keep fun j hj => ?_) fz_Rn ⟨rt, rfl, hrt, hok⟩ rfl (by omega) (by omega) (by omega) fun o' M' sm' w' le' kp nw wm' rl on oc' => ?_
              · have := sm.lt j hj
                simp (maxSteps := 2000000) (disch := first | omega | assumption | (simp only [DS, Nat.reduceAdd, *]; done) | (simp only [DZ]; omega)) only [RUN, RU, zD, zC, zB, zE, zG, slot, lay, zH, zF, zA, kR, reduceIte, Nat.reduceEqDiff, Nat.reduceBEq, Nat.reduceLT, Nat.reduceAdd, Nat.reduceLeDiff, Nat.reduceSub, Nat.reduceMul, Int.reduceLT, Int.reduceLE, Int.reduceEq, Int.reduceAdd, Int.reduceSub, Int.reduceMul, w]
              simp (maxSteps := 2000000) (disch := first | omega | assumption | (simp only [DS, Nat.reduceAdd, *]; done) | (simp only [DZ]; omega)) only [RUN, RU, zD, zC, zB, zE, zG, slot, lay, zH, zF, zA, kR, reduceIte, Nat.reduceEqDiff, Nat.reduceBEq, Nat.reduceLT, Nat.reduceAdd, Nat.reduceLeDiff, Nat.reduceSub, Nat.reduceMul, Int.reduceLT, Int.reduceLE, Int.reduceEq, Int.reduceAdd, Int.reduceSub, Int.reduceMul, g2, g13, g14, g15, w1]
              exact ⟨hlt, l.length - (i + 1), by omega, i + 1, o', rfl, by omega, rfl, rfl, fin e o' M' hts rfl sm' w'⟩
    · obtain rfl : i = l.length := by omega
      have q1 : decide ((l.length : Int) < l.length) = false := decide_eq_false (by omega)
      rw [List.take_length] at sm
      obtain ⟨ro, hro, hfr⟩ := slm_frz2 sm fz_Rn.cel 12 (by omega)
      have hfr := hfr N (fun _ _ => rfl)
      simp (maxSteps := 2000000) (disch := first | omega | assumption | (simp only [DS, Nat.reduceAdd, *]; done) | (simp only [DZ]; omega)) only [RUN, RU, zD, zC, zB, zE, zG, slot, lay, zH, zF, zA, kR, reduceIte, Nat.reduceEqDiff, Nat.reduceBEq, Nat.reduceLT, Nat.reduceAdd, Nat.reduceLeDiff, Nat.reduceSub, Nat.reduceMul, Int.reduceLT, Int.reduceLE, Int.reduceEq, Int.reduceAdd, Int.reduceSub, Int.reduceMul, g2, g13, g14, g15, q1, hfr, oo, oc]
      exact ⟨_, hro, rfl⟩
end Go.Proofs.Ytbomjpdheibmfaa
