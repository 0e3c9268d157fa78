/-
  Texts: what goes through the elements.
-/
import Derived.Test.YtbomjpdheibmfaaTrE
import Derived.Test.YtbomjpdheibmfaaEf
set_option linter.unusedSimpArgs false
set_option linter.unusedVariables false
set_option maxRecDepth 100000
namespace Go.Proofs.Ytbomjpdheibmfaa
open Go Go.Ax
variable {fuel : Nat} {M : Mem} {Q : AV → Mem → Prop} {d : Nat}
def Rn.els (r : Rn) : List (Eid × Eid) := (List.range r.sp.n.toNat).map fun (i : Nat) => (r.sp.at i, r.afAt i)
def elsL (l : List Rn) : List (Eid × Eid) := l.flatMap Rn.els
theorem els_snoc (l : List Rn) (r : Rn) : elsL (l ++ [r]) = elsL l ++ r.els := by simp [elsL]
theorem els_split {l : List Rn} {i k : Nat} (hi : i < l.length) (hk : k < l[i].sp.n.toNat) : ∃ post, elsL l = (elsL (l.take i) ++ l[i].els.take k) ++ (l[i].sp.at k, l[i].afAt k) :: post := by
  refine ⟨l[i].els.drop (k + 1) ++ elsL (l.drop (i + 1)), ?_⟩
  have h1 : l = l.take i ++ l[i] :: l.drop (i + 1) := by rw [← List.drop_eq_getElem_cons hi, List.take_append_drop]
  have hkl : k < l[i].els.length := by unfold Rn.els; simpa using hk
  have h2 : l[i].els = l[i].els.take k ++ l[i].els[k] :: l[i].els.drop (k + 1) := by rw [← List.drop_eq_getElem_cons hkl, List.take_append_drop]
  have h3 : l[i].els[k] = (l[i].sp.at k, l[i].afAt k) := by simp [Rn.els]
  rw [h3] at h2
  refine (congrArg elsL h1).trans ?_
  have h4 : elsL (l.take i ++ l[i] :: l.drop (i + 1)) = elsL (l.take i) ++ (l[i].els ++ elsL (l.drop (i + 1))) := by
    unfold elsL
    rw [List.flatMap_append, List.flatMap_cons]
  rw [h4, List.append_assoc, ← List.cons_append, ← List.append_assoc (l[i].els.take k), ← h2]
theorem els_len (r : Rn) : r.els.length = r.sp.n.toNat := by simp [Rn.els]
theorem els_snoc2 (r : Rn) (k : Nat) (hk : k < r.sp.n.toNat) : r.els.take (k + 1) = r.els.take k ++ [(r.sp.at k, r.afAt k)] := by
  rw [take_snocT _ _ (by rw [els_len]; exact hk)]
  simp [Rn.els]
structure Yl (J : List (Eid × Eid) → (Nat → Prop) → Mem → Prop) (pre : List (Eid × Eid)) (O : Nat → Prop) (B : Nat) (N N' : Mem) : Prop where
  ok : ∃ O', J pre O' N' ∧ (∀ j, O' j → O j ∨ N.size ≤ j)
  wf : Wf N'
  le : N.size ≤ N'.size
  kp : ∀ j, j < N.size → ¬O j → N'.get j = N.get j
set_option maxHeartbeats 16000000 in
theorem els1_run {J : List (Eid × Eid) → (Nat → Prop) → Mem → Prop} {S : Mem → Prop} {O : Nat → Prop} {a : AV} {l : List Rn} {p id : Nat} (hS : Sl 10 isRn a l) (hl : l.length ≤ 100000) (hm : ∀ r ∈ l, r.may = true) (hf : l.length + 100 < fuel) (wf : Wf M) (hg : M.get p = some (.row false [a]))
    (hJ0 : J [] O M)
    (hJ : ∀ pre O N N', J pre O N → Wf N' → N.size ≤ N'.size → (∀ j, j < N.size → N'.get j = N.get j) → J pre O N')
    (hJl : ∀ pre O N, J pre O N → ∀ j, O j → j < N.size)
    (hy : ∀ pre x post O N, elsL l = pre ++ x :: post → J pre O N → Wf N → M.size ≤ N.size → W3 (callN Try.prog (fsT tbl) fuel (d + 7) (.yl id) [idA x.1, idA x.2] N) (fun v N' => (v = BL true ∧ Yl J (pre ++ [x]) O M.size N N') ∨ (v = BL false ∧ S N')))
    (kk : ∀ u N O, J (elsL l) O N → Wf N → M.size ≤ N.size → Q u N) (ks : ∀ u N, S N → Q u N) :
    W3 (callN Try.prog (fsT tbl) fuel (d + 8) (.fn 42) [.yl id, .ptr p 0] M) Q := by
  have ll := hS.len
  have lp := Mem.get_lt hg
  refine call_0 tf42 rfl (by simp [a42]) fun b' ht hx => ?_
  have h0 := hx 0 _ rfl
  have h1 := hx 1 _ rfl
  clear hx
  simp only [a42, c42] at ht ⊢
  simp (maxSteps := 2000000) (disch := first | omega | assumption | (simp only [DS, Nat.reduceAdd, *]; done) | (simp only [DZ]; omega)) only [RUN, RU, zD, zC, zB, zE, zG, slot, lay, zH, zF, zA, kR, reduceIte, Nat.reduceEqDiff, Nat.reduceBEq, Nat.reduceLT, Nat.reduceAdd, Nat.reduceLeDiff, Nat.reduceSub, Nat.reduceMul, Int.reduceLT, Int.reduceLE, Int.reduceEq, Int.reduceAdd, Int.reduceSub, Int.reduceMul, h0, h1, ll, hS.fz.rows, hS.fz.one, hS.fz.cells, hS.fz.icy, hS.fz.frz, hg]
  refine w_loop (I := fun n t N => ∃ (i : Nat) (O' : Nat → Prop), n = l.length - i ∧ i ≤ l.length ∧ nth undefA t 0 = .yl id ∧ nth undefA t 10 = a ∧ nth undefA t 11 = I64 l.length ∧ nth undefA t 12 = I64 i ∧ Wf N ∧ M.size ≤ N.size ∧ J (elsL (l.take i)) O' N) (n := l.length) (by omega) ?_ ?_
  · refine ⟨0, O, rfl, Nat.zero_le _, ?_, ?_, ?_, ?_, wf, Nat.le_refl _, hJ0⟩ <;> simp (maxSteps := 2000000) (disch := first | omega | assumption | (simp only [DS, Nat.reduceAdd, *]; done) | (simp only [DZ]; omega)) only [RUN, RU, zD, zC, zB, zE, zG, slot, lay, zH, zF, zA, kR, reduceIte, Nat.reduceEqDiff, Nat.reduceBEq, Nat.reduceLT, Nat.reduceAdd, Nat.reduceLeDiff, Nat.reduceSub, Nat.reduceMul, Int.reduceLT, Int.reduceLE, Int.reduceEq, Int.reduceAdd, Int.reduceSub, Int.reduceMul, h0, h1, ll]
    all_goals first | rfl | assumption | done
  · rintro n t N hlt ⟨i, O', rfl, hi, g0, g10, g11, g12, w, le, hj⟩
    simp only [ht] at hlt ⊢
    by_cases hc : i < l.length
    · have q1 : decide ((i : Int) < l.length) = true := decide_eq_true (by omega)
      have w1 : IntKind.i64.wrap ((i : Int) + 1) = ((i + 1 : Nat) : Int) := by rw [wrap_i64] <;> omega
      obtain ⟨r, hiad, hr, hrl⟩ := hS.iad i hc
      have hts := els_snoc (l.take i) l[i]
      rw [← take_snocT l i hc] at hts
      have hsp := fun k => @els_split l i k hc
      have hme := hm l[i] (List.getElem_mem hc)
      generalize l[i] = e at *
      obtain ⟨ra, rfl, hra, hok⟩ := hr
      have ora := hra.one
      have hb := Spn.may_le (Rn.may_sp hme)
      obtain ⟨m, hmn⟩ : ∃ m : Nat, e.sp.n = m := ⟨e.sp.n.toNat, by omega⟩
      have hmt : e.sp.n.toNat = m := by omega
      have hes := els_snoc2 e
      have hel := els_len e
      have wX : Wf ((N.add (.row false (rnR Rn.z NIL))).upd N.size (.row false (rnR e ra))) := (w.add _).upd _ _
      have jX := hJ _ _ _ _ hj wX (by rw [upd_size, add_size]; omega) (fun j hj' => by rw [get_upd_ne (w.add _) _ _ _ (by omega), get_add w _ _ hj'])
      have gX : ((N.add (.row false (rnR Rn.z NIL))).upd N.size (.row false (rnR e ra))).get N.size = some (.row false (rnR e ra)) := get_upd_eq (w.add _) _ _ (by rw [add_size]; omega)
      have nX : N.size < ((N.add (.row false (rnR Rn.z NIL))).upd N.size (.row false (rnR e ra))).size := by rw [upd_size, add_size]; omega
      have nO : ¬O' N.size := fun h => by have := hJl _ _ _ hj _ h; omega
      simp (maxSteps := 2000000) (disch := first | omega | assumption | (simp only [DS, Nat.reduceAdd, *]; done) | (simp only [DZ]; omega)) only [RUN, RU, zD, zC, zB, zE, zG, slot, lay, zH, zF, zA, kR, reduceIte, Nat.reduceEqDiff, Nat.reduceBEq, Nat.reduceLT, Nat.reduceAdd, Nat.reduceLeDiff, Nat.reduceSub, Nat.reduceMul, Int.reduceLT, Int.reduceLE, Int.reduceEq, Int.reduceAdd, Int.reduceSub, Int.reduceMul, g0, g10, g11, g12, hS.fz.rows, hS.fz.one, hS.fz.cells, hS.fz.icy, hS.fz.frz, q1, hiad, hra.fz.rows, hra.fz.one, hra.fz.cells, hra.fz.icy, hra.fz.frz, w]
      refine w_loop (I := fun nk tk Nk => ∃ (ik : Nat) (O2 : Nat → Prop), nk = m - ik ∧ ik ≤ m ∧ nth undefA tk 0 = .yl id ∧ nth undefA tk 4 = .ptr N.size 0 ∧ nth undefA tk 10 = a ∧ nth undefA tk 11 = I64 l.length ∧ nth undefA tk 12 = I64 i ∧ nth undefA tk 18 = I64 e.sp.n ∧ nth undefA tk 19 = I64 ik ∧ Wf Nk ∧ N.size < Nk.size ∧ J (elsL (l.take i) ++ e.els.take ik) O2 Nk ∧ Nk.get N.size = some (.row false (rnR e ra)) ∧ ¬O2 N.size) (n := m) (by omega) ?_ ?_
      · refine ⟨0, O', rfl, Nat.zero_le _, ?_, ?_, ?_, ?_, ?_, ?_, ?_, wX, nX, (by rw [List.take_zero, List.append_nil]; exact jX), gX, nO⟩ <;> simp (maxSteps := 2000000) (disch := first | omega | assumption | (simp only [DS, Nat.reduceAdd, *]; done) | (simp only [DZ]; omega)) only [RUN, RU, zD, zC, zB, zE, zG, slot, lay, zH, zF, zA, kR, reduceIte, Nat.reduceEqDiff, Nat.reduceBEq, Nat.reduceLT, Nat.reduceAdd, Nat.reduceLeDiff, Nat.reduceSub, Nat.reduceMul, Int.reduceLT, Int.reduceLE, Int.reduceEq, Int.reduceAdd, Int.reduceSub, Int.reduceMul, g0, g10, g11, g12]
        all_goals first | rfl | assumption | done
      · rintro nk tk Nk hltk ⟨ik, O2, rfl, hik, gk0, gk4, gk10, gk11, gk12, gk18, gk19, wk, lk, jk, gk, nk⟩
        simp only [hlt] at hltk ⊢
        have kX : ∀ p q, Wf ((((Nk.add p).add q).upd Nk.size (.row false (idR (e.sp.at ik)))).upd (Nk.size + 1) (.row false (idR (e.afAt ik)))) := fun p q => (((wk.add _).add _).upd _ _).upd _ _
        by_cases hck : ik < m
        · have q2 : decide ((ik : Int) < e.sp.n) = true := decide_eq_true (by omega)
          have w2 : IntKind.i64.wrap ((ik : Int) + 1) = ((ik + 1 : Nat) : Int) := by rw [wrap_i64] <;> omega
          have hatE : atE e ik = 0 := by
            unfold atE
            rw [if_pos hme, if_neg (by omega)]
          have hat := fun M => @runat_run fuel d e ra (ik : Int) hra (by omega) M
          simp only [hatE, if_true] at hat
          obtain ⟨post, hsp⟩ := hsp ik (by omega)
          have hes := hes ik (by omega)
          rw [hmt] at hel
          simp (maxSteps := 2000000) (disch := first | omega | assumption | (simp only [DS, Nat.reduceAdd, *]; done) | (simp only [DZ]; omega)) only [RUN, RU, zD, zC, zB, zE, zG, slot, lay, zH, zF, zA, kR, reduceIte, Nat.reduceEqDiff, Nat.reduceBEq, Nat.reduceLT, Nat.reduceAdd, Nat.reduceLeDiff, Nat.reduceSub, Nat.reduceMul, Int.reduceLT, Int.reduceLE, Int.reduceEq, Int.reduceAdd, Int.reduceSub, Int.reduceMul, gk0, gk4, gk10, gk11, gk12, gk18, gk19, hS.fz.rows, hS.fz.one, hS.fz.cells, hS.fz.icy, hS.fz.frz, q2, gk, hra.fz.rows, hra.fz.one, hra.fz.cells, hra.fz.icy, hra.fz.frz, wk, hat]
          have jY := hJ _ _ _ _ jk (kX (.row false (idR Eid.z)) (.row false (idR Eid.z))) (by simp only [upd_size, add_size]; omega) (fun j hj' => by
            rw [get_upd_ne (((wk.add _).add _).upd _ _) _ _ _ (by omega), get_upd_ne ((wk.add _).add _) _ _ _ (by omega), get_add (wk.add _) _ _ (by rw [add_size]; omega), get_add wk _ _ hj'])
          obtain ⟨v, N', hcall, hv⟩ := hy _ _ _ _ _ hsp jY (kX _ _) (by simp only [upd_size, add_size]; omega)
          refine ⟨v, N', hcall, ?_⟩
          rcases hv with ⟨rfl, ⟨O3, jO, hO3⟩, wY, lY, kY⟩ | ⟨rfl, hst⟩
          · simp only [upd_size, add_size] at lY kY hO3
            have g3 : N'.get N.size = some (.row false (rnR e ra)) := by
              rw [kY _ (by omega) nk, get_upd_ne (((wk.add _).add _).upd _ _) _ _ _ (by omega), get_upd_ne ((wk.add _).add _) _ _ _ (by omega), get_add (wk.add _) _ _ (by rw [add_size]; omega), get_add wk _ _ (by omega)]
              exact gk
            rw [List.append_assoc, ← hes] at jO
            simp (maxSteps := 2000000) (disch := first | omega | assumption | (simp only [DS, Nat.reduceAdd, *]; done) | (simp only [DZ]; omega)) only [RUN, RU, zD, zC, zB, zE, zG, slot, lay, zH, zF, zA, kR, reduceIte, Nat.reduceEqDiff, Nat.reduceBEq, Nat.reduceLT, Nat.reduceAdd, Nat.reduceLeDiff, Nat.reduceSub, Nat.reduceMul, Int.reduceLT, Int.reduceLE, Int.reduceEq, Int.reduceAdd, Int.reduceSub, Int.reduceMul, gk0, gk4, gk10, gk11, gk12, gk18, gk19, w2]
            exact ⟨hltk, m - (ik + 1), by omega, ik + 1, O3, rfl, by omega, rfl, wY, by omega, jO, g3, fun h => (hO3 _ h).elim nk (fun h => by omega)⟩
          · simp (maxSteps := 2000000) (disch := first | omega | assumption | (simp only [DS, Nat.reduceAdd, *]; done) | (simp only [DZ]; omega)) only [RUN, RU, zD, zC, zB, zE, zG, slot, lay, zH, zF, zA, kR, reduceIte, Nat.reduceEqDiff, Nat.reduceBEq, Nat.reduceLT, Nat.reduceAdd, Nat.reduceLeDiff, Nat.reduceSub, Nat.reduceMul, Int.reduceLT, Int.reduceLE, Int.reduceEq, Int.reduceAdd, Int.reduceSub, Int.reduceMul, gk0, gk4, gk10, gk11, gk12, gk18, gk19]
            exact ks _ _ hst
        · obtain rfl : ik = m := by omega
          have q2 : decide ((ik : Int) < e.sp.n) = false := decide_eq_false (by omega)
          rw [List.take_of_length_le (l := e.els) (by omega)] at jk
          simp (maxSteps := 2000000) (disch := first | omega | assumption | (simp only [DS, Nat.reduceAdd, *]; done) | (simp only [DZ]; omega)) only [RUN, RU, zD, zC, zB, zE, zG, slot, lay, zH, zF, zA, kR, reduceIte, Nat.reduceEqDiff, Nat.reduceBEq, Nat.reduceLT, Nat.reduceAdd, Nat.reduceLeDiff, Nat.reduceSub, Nat.reduceMul, Int.reduceLT, Int.reduceLE, Int.reduceEq, Int.reduceAdd, Int.reduceSub, Int.reduceMul, gk0, gk4, gk10, gk11, gk12, gk18, gk19, q2, w1]
          exact ⟨hltk, l.length - (i + 1), by omega, i + 1, O2, rfl, by omega, rfl, wk, by omega, by rw [hts]; exact jk⟩
    · obtain rfl : i = l.length := by omega
      have q1 : decide ((l.length : Int) < l.length) = false := decide_eq_false (by omega)
      rw [List.take_length] at hj
      simp (maxSteps := 2000000) (disch := first | omega | assumption | (simp only [DS, Nat.reduceAdd, *]; done) | (simp only [DZ]; omega)) only [RUN, RU, zD, zC, zB, zE, zG, slot, lay, zH, zF, zA, kR, reduceIte, Nat.reduceEqDiff, Nat.reduceBEq, Nat.reduceLT, Nat.reduceAdd, Nat.reduceLeDiff, Nat.reduceSub, Nat.reduceMul, Int.reduceLT, Int.reduceLE, Int.reduceEq, Int.reduceAdd, Int.reduceSub, Int.reduceMul, g0, g10, g11, g12, q1]
      exact kk _ _ _ hj w le
end Go.Proofs.Ytbomjpdheibmfaa
