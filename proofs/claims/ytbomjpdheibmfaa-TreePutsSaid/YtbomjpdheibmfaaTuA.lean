/-
  tree: where what is put stands: the law's run.
-/
import Derived.Test.YtbomjpdheibmfaaToD
import Derived.Test.YtbomjpdheibmfaaToB
import Derived.Test.YtbomjpdheibmfaaTrL
import Derived.Test.YtbomjpdheibmfaaTrM
import Derived.Test.YtbomjpdheibmfaaTrN
import Derived.Test.YtbomjpdheibmfaaTpG
import Derived.Test.YtbomjpdheibmfaaEf
set_option linter.unusedSimpArgs false
set_option linter.unusedVariables false
set_option maxRecDepth 100000
namespace Go.Proofs.Ytbomjpdheibmfaa
open Go Go.Ax
variable {M : Mem} {Q : AV → Mem → Prop}
theorem idsR_els {l : List Rn} (h : TextOk l) : idsR l = idsE (elsR l) := by
  unfold idsR
  rw [if_pos (textB_t h), ← prs_elsR, prs_ids]
  rfl
theorem find_at {l : List Rn} {x : Eid} {p : Nat} (h : TextOk l) (hp : (idsE (elsR l))[p]? = some x) : findE l x = 0 ∧ findN l x = p := by
  have hE := (textOk_els h).1
  have hnd : (idsE (elsR l)).Nodup := hE.t.s1.nd
  have hne : whereL l x ≠ none := fun k => by
    obtain ⟨e, he, h2⟩ := List.mem_map.1 (List.mem_of_getElem? hp)
    exact (where_iff h.1 x).1 k e he h2
  have h0 : findE l x = 0 := by
    unfold findE
    rw [if_pos (textB_t h), if_neg hne]
  refine ⟨h0, ?_⟩
  unfold findN
  rw [if_pos h0]
  cases hw : whereL l x with
  | none => exact absurd hw hne
  | some q =>
    obtain ⟨n, k⟩ := q
    obtain ⟨p', h1, h2⟩ := where_pos h.1 hw
    simp only
    rw [h1, nodup_at hnd h2 hp]
def grI (W : List Eid) (x : Eid) (i : Nat) : Bool := (W.take i).all fun w => w.less x
theorem grI_succ {W : List Eid} {x : Eid} {i : Nat} (h : i < W.length) : grI W x (i + 1) = (grI W x i && W[i].less x) := by
  unfold grI
  rw [take_snocT _ _ h, List.all_append]
  simp
theorem bhI_le (W : List Eid) (x : Eid) : ∀ n : Nat, -1 ≤ bhI W x n ∧ bhI W x n ≤ n
  | 0 => ⟨by simp [bhI], by simp [bhI]⟩
  | n + 1 => by
    have := bhI_le W x n
    rw [bhI]
    split <;> omega
set_option maxHeartbeats 32000000 in
theorem puts_run {a ra : AV} {l : List Rn} {x : Rn} (hS : Sl 10 isRn a l) (hR : Sl 1 isI32 ra x.rs) (hx : x.ok) (M : Mem) : callN Try.prog (fsT tbl) 4000000 61 (.fn 3) [a, .agg (rnR x ra)] M = some (BL true, M) := by
  have oa := hS.one
  have ora := hR.one
  have lra := hR.len
  have hal := alive_run
  have hgr := fun M => @greatT_run 4000000 59 l a hS (by omega) M
  apply w3_eq
  refine call_gc tf3 rfl (by simp only [zH, fun M => hS.icy M 12 (by omega), rn_icy hR.fz]) (by simp [a3]) fun b' ht hx => ?_
  have h0 := hx 0 _ rfl
  have h1 := hx 1 _ rfl
  clear hx
  simp only [a3, c3] at ht ⊢
  cases hg : greatT l with
  | true =>
    rw [hg] at hgr
    simp (maxSteps := 2000000) (disch := first | omega | assumption | (simp only [DS, Nat.reduceAdd, *]; done) | (simp only [DZ]; omega)) only [RUN, RU, zD, zC, zB, zE, zG, slot, lay, zH, zF, zA, kR, reduceIte, Nat.reduceEqDiff, Nat.reduceBEq, Nat.reduceLT, Nat.reduceAdd, Nat.reduceLeDiff, Nat.reduceSub, Nat.reduceMul, Int.reduceLT, Int.reduceLE, Int.reduceEq, Int.reduceAdd, Int.reduceSub, Int.reduceMul, h0, h1, hS.fz.rows, hS.fz.one, hS.fz.cells, hS.fz.icy, hS.fz.frz, hR.fz.rows, hR.fz.one, hR.fz.cells, hR.fz.icy, hR.fz.frz, hal, hgr]
  | false =>
    rw [hg] at hgr
    have hl := greatT_small hg
    by_cases h100 : 100 < x.rs.length
    · have q1 : decide ((100 : Int) < x.rs.length) = true := decide_eq_true (by omega)
      simp (maxSteps := 2000000) (disch := first | omega | assumption | (simp only [DS, Nat.reduceAdd, *]; done) | (simp only [DZ]; omega)) only [RUN, RU, zD, zC, zB, zE, zG, slot, lay, zH, zF, zA, kR, reduceIte, Nat.reduceEqDiff, Nat.reduceBEq, Nat.reduceLT, Nat.reduceAdd, Nat.reduceLeDiff, Nat.reduceSub, Nat.reduceMul, Int.reduceLT, Int.reduceLE, Int.reduceEq, Int.reduceAdd, Int.reduceSub, Int.reduceMul, h0, h1, hS.fz.rows, hS.fz.one, hS.fz.cells, hS.fz.icy, hS.fz.frz, hR.fz.rows, hR.fz.one, hR.fz.cells, hR.fz.icy, hR.fz.frz, hal, hgr, lra, q1]
    · have q1 : decide ((100 : Int) < x.rs.length) = false := decide_eq_false (by omega)
      obtain ⟨ry, hy, hins⟩ := insert_run (fuel := 4000000) (d := 49) hS hR hx (by omega) (by omega)
      have ory := hy.one
      have lry := hy.len
      unfold insR at hy lry
      by_cases he : putE l x = 0
      · have q2 : decide (putE l x = 0) = true := decide_eq_true he
        rw [if_pos he] at hy lry
        obtain ⟨hok, hxm, _, _, _⟩ := putE_iff.1 he
        have hoky := ins_ok he
        obtain ⟨A0, A1, B, hput⟩ := put_ok he
        have hE := (textOk_els hok).1
        obtain ⟨at', hat0, hat1, hat2, hat3, hat4⟩ := puts_law hput hxm hE
        have hpi := fun i hi => puts_ids hput i hi
        have hpn := fun i hi => puts_new hput i hi
        have hpl := puts_len hput
        rw [← hat0] at hpi hpn
        have hb := Spn.may_le (Rn.may_sp hxm)
        obtain ⟨m, hmn⟩ : ∃ m : Nat, x.sp.n = m := ⟨x.sp.n.toNat, by omega⟩
        have hrl : x.elR.length = m := by rw [elR_len]; omega
        rw [hrl] at hpi hpn hpl
        have hn8 := hE.n
        have hyl : (insL l x).length ≤ 63 := by have := insL_len l x; omega
        obtain ⟨rw', hw', hidw⟩ := ids_run (fuel := 4000000) (d := 49) hS (by omega) (by omega)
        obtain ⟨rn', hn', hidn⟩ := ids_run (fuel := 4000000) (d := 49) hy (by omega) (by omega)
        rw [idsR_els hok] at hw'
        rw [idsR_els hoky] at hn'
        rw [textB_t hok] at hidw
        rw [textB_t hoky] at hidn
        have hp0 := hpn 0 (by omega)
        have hf0 : x.sp.at (0 : Nat) = x.sp.f := by simp [Spn.at]
        rw [Nat.add_zero, hf0] at hp0
        obtain ⟨hfe, hfn⟩ := find_at hoky hp0
        have hfind := fun M => @find_run 4000000 49 ry (insL l x) x.sp.f hy (by omega) (by omega) M
        rw [hfe, hfn] at hfind
        have hwl : (idsE (elsR l)).length ≤ 8192 := by unfold idsE; rw [List.length_map]; exact hE.n
        generalize idsE (elsR l) = W at *
        generalize idsE (elsR (insL l x)) = V at *
        have orw := hw'.one
        have orn := hn'.one
        have lrw := hw'.len
        have lrn := hn'.len
        have w1 : IntKind.i64.wrap ((W.length : Int) + x.sp.n) = ((W.length + m : Nat) : Int) := by rw [wrap_i64] <;> omega
        have q3 : decide ((V.length : Int) = ((W.length + m : Nat) : Int)) = true := decide_eq_true (by omega)
        have q4 : decide ((W.length : Int) < at') = false := decide_eq_false (by omega)
        simp (maxSteps := 2000000) (disch := first | omega | assumption | (simp only [DS, Nat.reduceAdd, *]; done) | (simp only [DZ]; omega)) only [RUN, RU, zD, zC, zB, zE, zG, slot, lay, zH, zF, zA, kR, reduceIte, Nat.reduceEqDiff, Nat.reduceBEq, Nat.reduceLT, Nat.reduceAdd, Nat.reduceLeDiff, Nat.reduceSub, Nat.reduceMul, Int.reduceLT, Int.reduceLE, Int.reduceEq, Int.reduceAdd, Int.reduceSub, Int.reduceMul, h0, h1, hS.fz.rows, hS.fz.one, hS.fz.cells, hS.fz.icy, hS.fz.frz, hR.fz.rows, hR.fz.one, hR.fz.cells, hR.fz.icy, hR.fz.frz, hal, hgr, lra, q1, hins, hy.fz.rows, hy.fz.one, hy.fz.cells, hy.fz.icy, hy.fz.frz, q2, hidw, hidn, hw'.fz.rows, hw'.fz.one, hw'.fz.cells, hw'.fz.icy, hw'.fz.frz, hn'.fz.rows, hn'.fz.one, hn'.fz.cells, hn'.fz.icy, hn'.fz.frz, err_t, z00, hfind, lrw, lrn, w1, q3, q4]
        refine w_loop (I := fun n t N => ∃ (i : Nat), n = W.length - i ∧ i ≤ W.length ∧ nth undefA t 3 = .ptr 0 0 ∧ nth undefA t 5 = BL true ∧ nth undefA t 8 = rw' ∧ nth undefA t 10 = rn' ∧ nth undefA t 12 = I64 at' ∧ nth undefA t 14 = I64 x.sp.n ∧ nth undefA t 15 = BL (grI W x.sp.f i) ∧ nth undefA t 16 = I64 (bhI W x.af i) ∧ nth undefA t 17 = I64 i ∧ Wf N ∧ N.get 0 = some (.row false (rnR x ra))) (n := W.length) (by omega) ?_ ?_
        · refine ⟨0, rfl, Nat.zero_le _, ?_, ?_, ?_, ?_, ?_, ?_, ?_, ?_, ?_, Wf.mem0.add _, by simp (maxSteps := 2000000) (disch := first | omega | assumption | (simp only [DS, Nat.reduceAdd, *]; done) | (simp only [DZ]; omega)) only [RUN, RU, zD, zC, zB, zE, zG, slot, lay, zH, zF, zA, kR, reduceIte, Nat.reduceEqDiff, Nat.reduceBEq, Nat.reduceLT, Nat.reduceAdd, Nat.reduceLeDiff, Nat.reduceSub, Nat.reduceMul, Int.reduceLT, Int.reduceLE, Int.reduceEq, Int.reduceAdd, Int.reduceSub, Int.reduceMul]⟩ <;> simp (maxSteps := 2000000) (disch := first | omega | assumption | (simp only [DS, Nat.reduceAdd, *]; done) | (simp only [DZ]; omega)) only [RUN, RU, zD, zC, zB, zE, zG, slot, lay, zH, zF, zA, kR, reduceIte, Nat.reduceEqDiff, Nat.reduceBEq, Nat.reduceLT, Nat.reduceAdd, Nat.reduceLeDiff, Nat.reduceSub, Nat.reduceMul, Int.reduceLT, Int.reduceLE, Int.reduceEq, Int.reduceAdd, Int.reduceSub, Int.reduceMul, h0, h1, grI, bhI, List.take_zero, List.all_nil]
          all_goals first | rfl | assumption | done
        · rintro n t N hlt ⟨i, rfl, hi, g3, g5, g8, g10, g12, g14, g15, g16, g17, w, g⟩
          simp only [ht] at hlt ⊢
          have lg := Mem.get_lt g
          by_cases hc : i < W.length
          · have c1 : decide ((i : Int) < W.length) = true := decide_eq_true (by omega)
            have v1 : IntKind.i64.wrap ((i : Int) + 1) = ((i + 1 : Nat) : Int) := by rw [wrap_i64] <;> omega
            have hpi := hpi i hc
            rw [List.getElem?_eq_getElem hc] at hpi
            obtain ⟨r1, hiad1, ⟨hr1, _⟩, hrl1⟩ := hw'.iad i hc
            have hgs := grI_succ (x := x.sp.f) hc
            have hbs : bhI W x.af (i + 1) = if W[i] = x.af then (i : Int) else bhI W x.af i := by
              rw [bhI, List.getElem?_eq_getElem hc]
              simp only [Option.some.injEq]
            have hls := fun M => @less_run 4000000 58 W[i] x.sp.f M
            have key : ∀ (kn : Nat), kn < V.length → V[kn]? = some W[i] → ∃ r2, (∀ M, iadO M 4 rn' (some kn) = some (.cp r2 0, M)) ∧ r2 = idR W[i] ∧ r2.length = 4 := fun kn hk e => by
              obtain ⟨r2, hiad2, ⟨hr2, _⟩, hrl2⟩ := hn'.iad kn hk
              rw [List.getElem?_eq_getElem hk] at e
              injection e with e
              rw [e] at hr2
              exact ⟨r2, hiad2, hr2, hrl2⟩
            generalize W[i] = wi at *
            subst hr1
            have tt : decide (wi = wi) = true := decide_eq_true rfl
            clear hat3 hat4
            by_cases hca : at' ≤ i
            · have c2 : decide ((at' : Int) ≤ i) = true := decide_eq_true (by omega)
              rw [if_pos hca] at hpi
              obtain ⟨r2, hiad2, rfl, hrl2⟩ := key (i + m) (by omega) hpi
              have v2 : IntKind.i64.wrap ((i : Int) + x.sp.n) = ((i + m : Nat) : Int) := by rw [wrap_i64] <;> omega
              cases hgb : grI W x.sp.f i with
              | true =>
                rw [hgb] at g15 hgs
                cases hlb : wi.less x.sp.f with
                | true =>
                  rw [hlb] at hls hgs
                  by_cases hwa : wi = x.af
                  · have c5 : decide (wi = x.af) = true := decide_eq_true hwa
                    rw [if_pos hwa] at hbs
                    simp (maxSteps := 2000000) (disch := first | omega | assumption | (simp only [DS, Nat.reduceAdd, *]; done) | (simp only [DZ]; omega)) only [RUN, RU, zD, zC, zB, zE, zG, slot, lay, zH, zF, zA, kR, reduceIte, Nat.reduceEqDiff, Nat.reduceBEq, Nat.reduceLT, Nat.reduceAdd, Nat.reduceLeDiff, Nat.reduceSub, Nat.reduceMul, Int.reduceLT, Int.reduceLE, Int.reduceEq, Int.reduceAdd, Int.reduceSub, Int.reduceMul, g3, g5, g8, g10, g12, g14, g15, g16, g17, lrw, hw'.fz.rows, hw'.fz.one, hw'.fz.cells, hw'.fz.icy, hw'.fz.frz, hn'.fz.rows, hn'.fz.one, hn'.fz.cells, hn'.fz.icy, hn'.fz.frz, hR.fz.rows, hR.fz.one, hR.fz.cells, hR.fz.icy, hR.fz.frz, c1, c2, v1, v2, hiad1, hiad2, ↓pIdE, peIdE_val, ↓pIdN, peIdN_val, ↓pHdE, peHdE_val, ↓pHdN, peHdN_val, ↓pLbE, peLbE_val, ↓pLbN, peLbN_val, ↓pSpE, peSpE_val, ↓pSpN, peSpN_val, ETA, tt, hls, g, w, c5, apart2_pu]
                    exact ⟨hlt, W.length - (i + 1), by omega, i + 1, rfl, by omega, by rw [hgs]; rfl, by rw [hbs], rfl⟩
                  · have c5 : decide (wi = x.af) = false := decide_eq_false hwa
                    rw [if_neg hwa] at hbs
                    simp (maxSteps := 2000000) (disch := first | omega | assumption | (simp only [DS, Nat.reduceAdd, *]; done) | (simp only [DZ]; omega)) only [RUN, RU, zD, zC, zB, zE, zG, slot, lay, zH, zF, zA, kR, reduceIte, Nat.reduceEqDiff, Nat.reduceBEq, Nat.reduceLT, Nat.reduceAdd, Nat.reduceLeDiff, Nat.reduceSub, Nat.reduceMul, Int.reduceLT, Int.reduceLE, Int.reduceEq, Int.reduceAdd, Int.reduceSub, Int.reduceMul, g3, g5, g8, g10, g12, g14, g15, g16, g17, lrw, hw'.fz.rows, hw'.fz.one, hw'.fz.cells, hw'.fz.icy, hw'.fz.frz, hn'.fz.rows, hn'.fz.one, hn'.fz.cells, hn'.fz.icy, hn'.fz.frz, hR.fz.rows, hR.fz.one, hR.fz.cells, hR.fz.icy, hR.fz.frz, c1, c2, v1, v2, hiad1, hiad2, ↓pIdE, peIdE_val, ↓pIdN, peIdN_val, ↓pHdE, peHdE_val, ↓pHdN, peHdN_val, ↓pLbE, peLbE_val, ↓pLbN, peLbN_val, ↓pSpE, peSpE_val, ↓pSpN, peSpN_val, ETA, tt, hls, g, w, c5, apart2_pu]
                    exact ⟨hlt, W.length - (i + 1), by omega, i + 1, rfl, by omega, by rw [hgs]; rfl, by rw [hbs], rfl⟩
                | false =>
                  rw [hlb] at hls hgs
                  by_cases hwa : wi = x.af
                  · have c5 : decide (wi = x.af) = true := decide_eq_true hwa
                    rw [if_pos hwa] at hbs
                    simp (maxSteps := 2000000) (disch := first | omega | assumption | (simp only [DS, Nat.reduceAdd, *]; done) | (simp only [DZ]; omega)) only [RUN, RU, zD, zC, zB, zE, zG, slot, lay, zH, zF, zA, kR, reduceIte, Nat.reduceEqDiff, Nat.reduceBEq, Nat.reduceLT, Nat.reduceAdd, Nat.reduceLeDiff, Nat.reduceSub, Nat.reduceMul, Int.reduceLT, Int.reduceLE, Int.reduceEq, Int.reduceAdd, Int.reduceSub, Int.reduceMul, g3, g5, g8, g10, g12, g14, g15, g16, g17, lrw, hw'.fz.rows, hw'.fz.one, hw'.fz.cells, hw'.fz.icy, hw'.fz.frz, hn'.fz.rows, hn'.fz.one, hn'.fz.cells, hn'.fz.icy, hn'.fz.frz, hR.fz.rows, hR.fz.one, hR.fz.cells, hR.fz.icy, hR.fz.frz, c1, c2, v1, v2, hiad1, hiad2, ↓pIdE, peIdE_val, ↓pIdN, peIdN_val, ↓pHdE, peHdE_val, ↓pHdN, peHdN_val, ↓pLbE, peLbE_val, ↓pLbN, peLbN_val, ↓pSpE, peSpE_val, ↓pSpN, peSpN_val, ETA, tt, hls, g, w, c5, apart2_pu]
                    exact ⟨hlt, W.length - (i + 1), by omega, i + 1, rfl, by omega, by rw [hgs]; rfl, by rw [hbs], rfl⟩
                  · have c5 : decide (wi = x.af) = false := decide_eq_false hwa
                    rw [if_neg hwa] at hbs
                    simp (maxSteps := 2000000) (disch := first | omega | assumption | (simp only [DS, Nat.reduceAdd, *]; done) | (simp only [DZ]; omega)) only [RUN, RU, zD, zC, zB, zE, zG, slot, lay, zH, zF, zA, kR, reduceIte, Nat.reduceEqDiff, Nat.reduceBEq, Nat.reduceLT, Nat.reduceAdd, Nat.reduceLeDiff, Nat.reduceSub, Nat.reduceMul, Int.reduceLT, Int.reduceLE, Int.reduceEq, Int.reduceAdd, Int.reduceSub, Int.reduceMul, g3, g5, g8, g10, g12, g14, g15, g16, g17, lrw, hw'.fz.rows, hw'.fz.one, hw'.fz.cells, hw'.fz.icy, hw'.fz.frz, hn'.fz.rows, hn'.fz.one, hn'.fz.cells, hn'.fz.icy, hn'.fz.frz, hR.fz.rows, hR.fz.one, hR.fz.cells, hR.fz.icy, hR.fz.frz, c1, c2, v1, v2, hiad1, hiad2, ↓pIdE, peIdE_val, ↓pIdN, peIdN_val, ↓pHdE, peHdE_val, ↓pHdN, peHdN_val, ↓pLbE, peLbE_val, ↓pLbN, peLbN_val, ↓pSpE, peSpE_val, ↓pSpN, peSpN_val, ETA, tt, hls, g, w, c5, apart2_pu]
                    exact ⟨hlt, W.length - (i + 1), by omega, i + 1, rfl, by omega, by rw [hgs]; rfl, by rw [hbs], rfl⟩
              | false =>
                rw [hgb] at g15 hgs
                by_cases hwa : wi = x.af
                · have c5 : decide (wi = x.af) = true := decide_eq_true hwa
                  rw [if_pos hwa] at hbs
                  simp (maxSteps := 2000000) (disch := first | omega | assumption | (simp only [DS, Nat.reduceAdd, *]; done) | (simp only [DZ]; omega)) only [RUN, RU, zD, zC, zB, zE, zG, slot, lay, zH, zF, zA, kR, reduceIte, Nat.reduceEqDiff, Nat.reduceBEq, Nat.reduceLT, Nat.reduceAdd, Nat.reduceLeDiff, Nat.reduceSub, Nat.reduceMul, Int.reduceLT, Int.reduceLE, Int.reduceEq, Int.reduceAdd, Int.reduceSub, Int.reduceMul, g3, g5, g8, g10, g12, g14, g15, g16, g17, lrw, hw'.fz.rows, hw'.fz.one, hw'.fz.cells, hw'.fz.icy, hw'.fz.frz, hn'.fz.rows, hn'.fz.one, hn'.fz.cells, hn'.fz.icy, hn'.fz.frz, hR.fz.rows, hR.fz.one, hR.fz.cells, hR.fz.icy, hR.fz.frz, c1, c2, v1, v2, hiad1, hiad2, ↓pIdE, peIdE_val, ↓pIdN, peIdN_val, ↓pHdE, peHdE_val, ↓pHdN, peHdN_val, ↓pLbE, peLbE_val, ↓pLbN, peLbN_val, ↓pSpE, peSpE_val, ↓pSpN, peSpN_val, ETA, tt, g, w, c5, apart2_pu]
                  exact ⟨hlt, W.length - (i + 1), by omega, i + 1, rfl, by omega, by rw [hgs]; rfl, by rw [hbs], rfl⟩
                · have c5 : decide (wi = x.af) = false := decide_eq_false hwa
                  rw [if_neg hwa] at hbs
                  simp (maxSteps := 2000000) (disch := first | omega | assumption | (simp only [DS, Nat.reduceAdd, *]; done) | (simp only [DZ]; omega)) only [RUN, RU, zD, zC, zB, zE, zG, slot, lay, zH, zF, zA, kR, reduceIte, Nat.reduceEqDiff, Nat.reduceBEq, Nat.reduceLT, Nat.reduceAdd, Nat.reduceLeDiff, Nat.reduceSub, Nat.reduceMul, Int.reduceLT, Int.reduceLE, Int.reduceEq, Int.reduceAdd, Int.reduceSub, Int.reduceMul, g3, g5, g8, g10, g12, g14, g15, g16, g17, lrw, hw'.fz.rows, hw'.fz.one, hw'.fz.cells, hw'.fz.icy, hw'.fz.frz, hn'.fz.rows, hn'.fz.one, hn'.fz.cells, hn'.fz.icy, hn'.fz.frz, hR.fz.rows, hR.fz.one, hR.fz.cells, hR.fz.icy, hR.fz.frz, c1, c2, v1, v2, hiad1, hiad2, ↓pIdE, peIdE_val, ↓pIdN, peIdN_val, ↓pHdE, peHdE_val, ↓pHdN, peHdN_val, ↓pLbE, peLbE_val, ↓pLbN, peLbN_val, ↓pSpE, peSpE_val, ↓pSpN, peSpN_val, ETA, tt, g, w, c5, apart2_pu]
                  exact ⟨hlt, W.length - (i + 1), by omega, i + 1, rfl, by omega, by rw [hgs]; rfl, by rw [hbs], rfl⟩
            · have c2 : decide ((at' : Int) ≤ i) = false := decide_eq_false (by omega)
              rw [if_neg hca] at hpi
              obtain ⟨r2, hiad2, rfl, hrl2⟩ := key i (by omega) hpi
              have v2 : True := trivial
              cases hgb : grI W x.sp.f i with
              | true =>
                rw [hgb] at g15 hgs
                cases hlb : wi.less x.sp.f with
                | true =>
                  rw [hlb] at hls hgs
                  by_cases hwa : wi = x.af
                  · have c5 : decide (wi = x.af) = true := decide_eq_true hwa
                    rw [if_pos hwa] at hbs
                    simp (maxSteps := 2000000) (disch := first | omega | assumption | (simp only [DS, Nat.reduceAdd, *]; done) | (simp only [DZ]; omega)) only [RUN, RU, zD, zC, zB, zE, zG, slot, lay, zH, zF, zA, kR, reduceIte, Nat.reduceEqDiff, Nat.reduceBEq, Nat.reduceLT, Nat.reduceAdd, Nat.reduceLeDiff, Nat.reduceSub, Nat.reduceMul, Int.reduceLT, Int.reduceLE, Int.reduceEq, Int.reduceAdd, Int.reduceSub, Int.reduceMul, g3, g5, g8, g10, g12, g14, g15, g16, g17, lrw, hw'.fz.rows, hw'.fz.one, hw'.fz.cells, hw'.fz.icy, hw'.fz.frz, hn'.fz.rows, hn'.fz.one, hn'.fz.cells, hn'.fz.icy, hn'.fz.frz, hR.fz.rows, hR.fz.one, hR.fz.cells, hR.fz.icy, hR.fz.frz, c1, c2, v1, v2, hiad1, hiad2, ↓pIdE, peIdE_val, ↓pIdN, peIdN_val, ↓pHdE, peHdE_val, ↓pHdN, peHdN_val, ↓pLbE, peLbE_val, ↓pLbN, peLbN_val, ↓pSpE, peSpE_val, ↓pSpN, peSpN_val, ETA, tt, hls, g, w, c5, apart2_pu]
                    exact ⟨hlt, W.length - (i + 1), by omega, i + 1, rfl, by omega, by rw [hgs]; rfl, by rw [hbs], rfl⟩
                  · have c5 : decide (wi = x.af) = false := decide_eq_false hwa
                    rw [if_neg hwa] at hbs
                    simp (maxSteps := 2000000) (disch := first | omega | assumption | (simp only [DS, Nat.reduceAdd, *]; done) | (simp only [DZ]; omega)) only [RUN, RU, zD, zC, zB, zE, zG, slot, lay, zH, zF, zA, kR, reduceIte, Nat.reduceEqDiff, Nat.reduceBEq, Nat.reduceLT, Nat.reduceAdd, Nat.reduceLeDiff, Nat.reduceSub, Nat.reduceMul, Int.reduceLT, Int.reduceLE, Int.reduceEq, Int.reduceAdd, Int.reduceSub, Int.reduceMul, g3, g5, g8, g10, g12, g14, g15, g16, g17, lrw, hw'.fz.rows, hw'.fz.one, hw'.fz.cells, hw'.fz.icy, hw'.fz.frz, hn'.fz.rows, hn'.fz.one, hn'.fz.cells, hn'.fz.icy, hn'.fz.frz, hR.fz.rows, hR.fz.one, hR.fz.cells, hR.fz.icy, hR.fz.frz, c1, c2, v1, v2, hiad1, hiad2, ↓pIdE, peIdE_val, ↓pIdN, peIdN_val, ↓pHdE, peHdE_val, ↓pHdN, peHdN_val, ↓pLbE, peLbE_val, ↓pLbN, peLbN_val, ↓pSpE, peSpE_val, ↓pSpN, peSpN_val, ETA, tt, hls, g, w, c5, apart2_pu]
                    exact ⟨hlt, W.length - (i + 1), by omega, i + 1, rfl, by omega, by rw [hgs]; rfl, by rw [hbs], rfl⟩
                | false =>
                  rw [hlb] at hls hgs
                  by_cases hwa : wi = x.af
                  · have c5 : decide (wi = x.af) = true := decide_eq_true hwa
                    rw [if_pos hwa] at hbs
                    simp (maxSteps := 2000000) (disch := first | omega | assumption | (simp only [DS, Nat.reduceAdd, *]; done) | (simp only [DZ]; omega)) only [RUN, RU, zD, zC, zB, zE, zG, slot, lay, zH, zF, zA, kR, reduceIte, Nat.reduceEqDiff, Nat.reduceBEq, Nat.reduceLT, Nat.reduceAdd, Nat.reduceLeDiff, Nat.reduceSub, Nat.reduceMul, Int.reduceLT, Int.reduceLE, Int.reduceEq, Int.reduceAdd, Int.reduceSub, Int.reduceMul, g3, g5, g8, g10, g12, g14, g15, g16, g17, lrw, hw'.fz.rows, hw'.fz.one, hw'.fz.cells, hw'.fz.icy, hw'.fz.frz, hn'.fz.rows, hn'.fz.one, hn'.fz.cells, hn'.fz.icy, hn'.fz.frz, hR.fz.rows, hR.fz.one, hR.fz.cells, hR.fz.icy, hR.fz.frz, c1, c2, v1, v2, hiad1, hiad2, ↓pIdE, peIdE_val, ↓pIdN, peIdN_val, ↓pHdE, peHdE_val, ↓pHdN, peHdN_val, ↓pLbE, peLbE_val, ↓pLbN, peLbN_val, ↓pSpE, peSpE_val, ↓pSpN, peSpN_val, ETA, tt, hls, g, w, c5, apart2_pu]
                    exact ⟨hlt, W.length - (i + 1), by omega, i + 1, rfl, by omega, by rw [hgs]; rfl, by rw [hbs], rfl⟩
                  · have c5 : decide (wi = x.af) = false := decide_eq_false hwa
                    rw [if_neg hwa] at hbs
                    simp (maxSteps := 2000000) (disch := first | omega | assumption | (simp only [DS, Nat.reduceAdd, *]; done) | (simp only [DZ]; omega)) only [RUN, RU, zD, zC, zB, zE, zG, slot, lay, zH, zF, zA, kR, reduceIte, Nat.reduceEqDiff, Nat.reduceBEq, Nat.reduceLT, Nat.reduceAdd, Nat.reduceLeDiff, Nat.reduceSub, Nat.reduceMul, Int.reduceLT, Int.reduceLE, Int.reduceEq, Int.reduceAdd, Int.reduceSub, Int.reduceMul, g3, g5, g8, g10, g12, g14, g15, g16, g17, lrw, hw'.fz.rows, hw'.fz.one, hw'.fz.cells, hw'.fz.icy, hw'.fz.frz, hn'.fz.rows, hn'.fz.one, hn'.fz.cells, hn'.fz.icy, hn'.fz.frz, hR.fz.rows, hR.fz.one, hR.fz.cells, hR.fz.icy, hR.fz.frz, c1, c2, v1, v2, hiad1, hiad2, ↓pIdE, peIdE_val, ↓pIdN, peIdN_val, ↓pHdE, peHdE_val, ↓pHdN, peHdN_val, ↓pLbE, peLbE_val, ↓pLbN, peLbN_val, ↓pSpE, peSpE_val, ↓pSpN, peSpN_val, ETA, tt, hls, g, w, c5, apart2_pu]
                    exact ⟨hlt, W.length - (i + 1), by omega, i + 1, rfl, by omega, by rw [hgs]; rfl, by rw [hbs], rfl⟩
              | false =>
                rw [hgb] at g15 hgs
                by_cases hwa : wi = x.af
                · have c5 : decide (wi = x.af) = true := decide_eq_true hwa
                  rw [if_pos hwa] at hbs
                  simp (maxSteps := 2000000) (disch := first | omega | assumption | (simp only [DS, Nat.reduceAdd, *]; done) | (simp only [DZ]; omega)) only [RUN, RU, zD, zC, zB, zE, zG, slot, lay, zH, zF, zA, kR, reduceIte, Nat.reduceEqDiff, Nat.reduceBEq, Nat.reduceLT, Nat.reduceAdd, Nat.reduceLeDiff, Nat.reduceSub, Nat.reduceMul, Int.reduceLT, Int.reduceLE, Int.reduceEq, Int.reduceAdd, Int.reduceSub, Int.reduceMul, g3, g5, g8, g10, g12, g14, g15, g16, g17, lrw, hw'.fz.rows, hw'.fz.one, hw'.fz.cells, hw'.fz.icy, hw'.fz.frz, hn'.fz.rows, hn'.fz.one, hn'.fz.cells, hn'.fz.icy, hn'.fz.frz, hR.fz.rows, hR.fz.one, hR.fz.cells, hR.fz.icy, hR.fz.frz, c1, c2, v1, v2, hiad1, hiad2, ↓pIdE, peIdE_val, ↓pIdN, peIdN_val, ↓pHdE, peHdE_val, ↓pHdN, peHdN_val, ↓pLbE, peLbE_val, ↓pLbN, peLbN_val, ↓pSpE, peSpE_val, ↓pSpN, peSpN_val, ETA, tt, g, w, c5, apart2_pu]
                  exact ⟨hlt, W.length - (i + 1), by omega, i + 1, rfl, by omega, by rw [hgs]; rfl, by rw [hbs], rfl⟩
                · have c5 : decide (wi = x.af) = false := decide_eq_false hwa
                  rw [if_neg hwa] at hbs
                  simp (maxSteps := 2000000) (disch := first | omega | assumption | (simp only [DS, Nat.reduceAdd, *]; done) | (simp only [DZ]; omega)) only [RUN, RU, zD, zC, zB, zE, zG, slot, lay, zH, zF, zA, kR, reduceIte, Nat.reduceEqDiff, Nat.reduceBEq, Nat.reduceLT, Nat.reduceAdd, Nat.reduceLeDiff, Nat.reduceSub, Nat.reduceMul, Int.reduceLT, Int.reduceLE, Int.reduceEq, Int.reduceAdd, Int.reduceSub, Int.reduceMul, g3, g5, g8, g10, g12, g14, g15, g16, g17, lrw, hw'.fz.rows, hw'.fz.one, hw'.fz.cells, hw'.fz.icy, hw'.fz.frz, hn'.fz.rows, hn'.fz.one, hn'.fz.cells, hn'.fz.icy, hn'.fz.frz, hR.fz.rows, hR.fz.one, hR.fz.cells, hR.fz.icy, hR.fz.frz, c1, c2, v1, v2, hiad1, hiad2, ↓pIdE, peIdE_val, ↓pIdN, peIdN_val, ↓pHdE, peHdE_val, ↓pHdN, peHdN_val, ↓pLbE, peLbE_val, ↓pLbN, peLbN_val, ↓pSpE, peSpE_val, ↓pSpN, peSpN_val, ETA, tt, g, w, c5, apart2_pu]
                  exact ⟨hlt, W.length - (i + 1), by omega, i + 1, rfl, by omega, by rw [hgs]; rfl, by rw [hbs], rfl⟩
          · obtain rfl : i = W.length := by omega
            have c1 : decide ((W.length : Int) < W.length) = false := decide_eq_false (by omega)
            simp (maxSteps := 2000000) (disch := first | omega | assumption | (simp only [DS, Nat.reduceAdd, *]; done) | (simp only [DZ]; omega)) only [RUN, RU, zD, zC, zB, zE, zG, slot, lay, zH, zF, zA, kR, reduceIte, Nat.reduceEqDiff, Nat.reduceBEq, Nat.reduceLT, Nat.reduceAdd, Nat.reduceLeDiff, Nat.reduceSub, Nat.reduceMul, Int.reduceLT, Int.reduceLE, Int.reduceEq, Int.reduceAdd, Int.reduceSub, Int.reduceMul, g3, g5, g8, g10, g12, g14, g15, g16, g17, lrw, hw'.fz.rows, hw'.fz.one, hw'.fz.cells, hw'.fz.icy, hw'.fz.frz, hn'.fz.rows, hn'.fz.one, hn'.fz.cells, hn'.fz.icy, hn'.fz.frz, c1]
            refine w_loop (I := fun n2 t2 N2 => ∃ (i2 : Nat), n2 = m - i2 ∧ i2 ≤ m ∧ nth undefA t2 3 = .ptr 0 0 ∧ nth undefA t2 5 = BL true ∧ nth undefA t2 10 = rn' ∧ nth undefA t2 12 = I64 at' ∧ nth undefA t2 14 = I64 x.sp.n ∧ nth undefA t2 15 = BL (grI W x.sp.f W.length) ∧ nth undefA t2 16 = I64 (bhI W x.af W.length) ∧ nth undefA t2 19 = I64 i2 ∧ Wf N2 ∧ N2.get 0 = some (.row false (rnR x ra))) (n := m) (by omega) ?_ ?_
            · refine ⟨0, rfl, Nat.zero_le _, ?_, ?_, ?_, ?_, ?_, ?_, ?_, ?_, w, g⟩ <;> simp (maxSteps := 2000000) (disch := first | omega | assumption | (simp only [DS, Nat.reduceAdd, *]; done) | (simp only [DZ]; omega)) only [RUN, RU, zD, zC, zB, zE, zG, slot, lay, zH, zF, zA, kR, reduceIte, Nat.reduceEqDiff, Nat.reduceBEq, Nat.reduceLT, Nat.reduceAdd, Nat.reduceLeDiff, Nat.reduceSub, Nat.reduceMul, Int.reduceLT, Int.reduceLE, Int.reduceEq, Int.reduceAdd, Int.reduceSub, Int.reduceMul, g3, g5, g10, g12, g14, g15, g16]
              all_goals first | rfl | assumption | done
            · rintro n2 t2 N2 hlt2 ⟨i2, rfl, hi2, g23, g25, g210, g212, g214, g215, g216, g219, w2, gg⟩
              simp only [hlt] at hlt2 ⊢
              have lgg := Mem.get_lt gg
              by_cases hc2 : i2 < m
              · have c2 : decide ((i2 : Int) < x.sp.n) = true := decide_eq_true (by omega)
                have v1 : IntKind.i64.wrap ((i2 : Int) + 1) = ((i2 + 1 : Nat) : Int) := by rw [wrap_i64] <;> omega
                have v2 : IntKind.i64.wrap ((at' : Int) + (i2 : Int)) = ((at' + i2 : Nat) : Int) := by rw [wrap_i64] <;> omega
                have hpn := hpn i2 hc2
                have hkn : at' + i2 < V.length := by omega
                obtain ⟨r2, hiad2, ⟨hr2, _⟩, hrl2⟩ := hn'.iad (at' + i2) hkn
                rw [List.getElem?_eq_getElem hkn] at hpn
                injection hpn with hpn
                rw [hpn] at hr2
                subst hr2
                have hatE : atE x i2 = 0 := by unfold atE; rw [if_pos hxm, if_neg (by omega)]
                have hat := fun M => @runat_run 4000000 53 x ra (i2 : Int) hR (by omega) M
                simp only [hatE, if_true] at hat
                have tt : decide (x.sp.at (i2 : Nat) = x.sp.at (i2 : Nat)) = true := decide_eq_true rfl
                simp (maxSteps := 2000000) (disch := first | omega | assumption | (simp only [DS, Nat.reduceAdd, *]; done) | (simp only [DZ]; omega)) only [RUN, RU, zD, zC, zB, zE, zG, slot, lay, zH, zF, zA, kR, reduceIte, Nat.reduceEqDiff, Nat.reduceBEq, Nat.reduceLT, Nat.reduceAdd, Nat.reduceLeDiff, Nat.reduceSub, Nat.reduceMul, Int.reduceLT, Int.reduceLE, Int.reduceEq, Int.reduceAdd, Int.reduceSub, Int.reduceMul, g23, g25, g210, g212, g214, g215, g216, g219, hn'.fz.rows, hn'.fz.one, hn'.fz.cells, hn'.fz.icy, hn'.fz.frz, hR.fz.rows, hR.fz.one, hR.fz.cells, hR.fz.icy, hR.fz.frz, c2, hat, gg, w2, z00, v1, v2, hiad2, ↓pIdE, peIdE_val, ↓pIdN, peIdN_val, ↓pHdE, peHdE_val, ↓pHdN, peHdN_val, ↓pLbE, peLbE_val, ↓pLbN, peLbN_val, ↓pSpE, peSpE_val, ↓pSpN, peSpN_val, ETA, tt, apart2_pu]
                exact ⟨hlt2, m - (i2 + 1), by omega, i2 + 1, rfl, by omega, rfl⟩
              · obtain rfl : i2 = m := by omega
                have c2 : decide ((i2 : Int) < x.sp.n) = false := decide_eq_false (by omega)
                have d1 : decide (bhI W x.af W.length < (at' : Int)) = true := decide_eq_true hat2
                have hbl := bhI_le W x.af W.length
                have v3 : IntKind.i64.wrap (bhI W x.af W.length + 1) = bhI W x.af W.length + 1 := by rw [wrap_i64] <;> omega
                have d2 : grI W x.sp.f W.length = true → decide ((at' : Int) = bhI W x.af W.length + 1) = true := fun k => by
                  refine decide_eq_true (hat3 fun w hw => ?_)
                  unfold grI at k
                  rw [List.take_length] at k
                  exact List.all_eq_true.1 k w hw
                have d4 : ∃ b, decide ((0 : Int) ≤ bhI W x.af W.length) = b ∧ (b = false → decide (x.af = Eid.z) = true) := ⟨_, rfl, fun k => by
                  rcases hat4 with h | h
                  · rw [decide_eq_true h] at k; cases k
                  · exact decide_eq_true h⟩
                obtain ⟨b4, d4, d5⟩ := d4
                generalize grI W x.sp.f W.length = gb at *
                generalize bhI W x.af W.length = bi at *
                cases gb with
                | true =>
                  have d2 := d2 rfl
                  cases b4 with
                  | true => simp (maxSteps := 2000000) (disch := first | omega | assumption | (simp only [DS, Nat.reduceAdd, *]; done) | (simp only [DZ]; omega)) only [RUN, RU, zD, zC, zB, zE, zG, slot, lay, zH, zF, zA, kR, reduceIte, Nat.reduceEqDiff, Nat.reduceBEq, Nat.reduceLT, Nat.reduceAdd, Nat.reduceLeDiff, Nat.reduceSub, Nat.reduceMul, Int.reduceLT, Int.reduceLE, Int.reduceEq, Int.reduceAdd, Int.reduceSub, Int.reduceMul, g23, g25, g210, g212, g214, g215, g216, g219, hn'.fz.rows, hn'.fz.one, hn'.fz.cells, hn'.fz.icy, hn'.fz.frz, hR.fz.rows, hR.fz.one, hR.fz.cells, hR.fz.icy, hR.fz.frz, c2, gg, w2, d1, d2, v3, d4]
                  | false =>
                    have d5 := d5 rfl
                    simp (maxSteps := 2000000) (disch := first | omega | assumption | (simp only [DS, Nat.reduceAdd, *]; done) | (simp only [DZ]; omega)) only [RUN, RU, zD, zC, zB, zE, zG, slot, lay, zH, zF, zA, kR, reduceIte, Nat.reduceEqDiff, Nat.reduceBEq, Nat.reduceLT, Nat.reduceAdd, Nat.reduceLeDiff, Nat.reduceSub, Nat.reduceMul, Int.reduceLT, Int.reduceLE, Int.reduceEq, Int.reduceAdd, Int.reduceSub, Int.reduceMul, g23, g25, g210, g212, g214, g215, g216, g219, hn'.fz.rows, hn'.fz.one, hn'.fz.cells, hn'.fz.icy, hn'.fz.frz, hR.fz.rows, hR.fz.one, hR.fz.cells, hR.fz.icy, hR.fz.frz, c2, gg, w2, d1, d2, v3, d4, ↓pIdE, peIdE_val, ↓pIdN, peIdN_val, ↓pHdE, peHdE_val, ↓pHdN, peHdN_val, ↓pLbE, peLbE_val, ↓pLbN, peLbN_val, ↓pSpE, peSpE_val, ↓pSpN, peSpN_val, ETA, d5]
                | false =>
                  cases b4 with
                  | true => simp (maxSteps := 2000000) (disch := first | omega | assumption | (simp only [DS, Nat.reduceAdd, *]; done) | (simp only [DZ]; omega)) only [RUN, RU, zD, zC, zB, zE, zG, slot, lay, zH, zF, zA, kR, reduceIte, Nat.reduceEqDiff, Nat.reduceBEq, Nat.reduceLT, Nat.reduceAdd, Nat.reduceLeDiff, Nat.reduceSub, Nat.reduceMul, Int.reduceLT, Int.reduceLE, Int.reduceEq, Int.reduceAdd, Int.reduceSub, Int.reduceMul, g23, g25, g210, g212, g214, g215, g216, g219, hn'.fz.rows, hn'.fz.one, hn'.fz.cells, hn'.fz.icy, hn'.fz.frz, hR.fz.rows, hR.fz.one, hR.fz.cells, hR.fz.icy, hR.fz.frz, c2, gg, w2, d1, d4]
                  | false =>
                    have d5 := d5 rfl
                    simp (maxSteps := 2000000) (disch := first | omega | assumption | (simp only [DS, Nat.reduceAdd, *]; done) | (simp only [DZ]; omega)) only [RUN, RU, zD, zC, zB, zE, zG, slot, lay, zH, zF, zA, kR, reduceIte, Nat.reduceEqDiff, Nat.reduceBEq, Nat.reduceLT, Nat.reduceAdd, Nat.reduceLeDiff, Nat.reduceSub, Nat.reduceMul, Int.reduceLT, Int.reduceLE, Int.reduceEq, Int.reduceAdd, Int.reduceSub, Int.reduceMul, g23, g25, g210, g212, g214, g215, g216, g219, hn'.fz.rows, hn'.fz.one, hn'.fz.cells, hn'.fz.icy, hn'.fz.frz, hR.fz.rows, hR.fz.one, hR.fz.cells, hR.fz.icy, hR.fz.frz, c2, gg, w2, d1, d4, ↓pIdE, peIdE_val, ↓pIdN, peIdN_val, ↓pHdE, peHdE_val, ↓pHdN, peHdN_val, ↓pLbE, peLbE_val, ↓pLbN, peLbN_val, ↓pSpE, peSpE_val, ↓pSpN, peSpN_val, ETA, d5]
      · have q2 : decide (putE l x = 0) = false := decide_eq_false he
        rw [if_neg he] at hy lry
        simp (maxSteps := 2000000) (disch := first | omega | assumption | (simp only [DS, Nat.reduceAdd, *]; done) | (simp only [DZ]; omega)) only [RUN, RU, zD, zC, zB, zE, zG, slot, lay, zH, zF, zA, kR, reduceIte, Nat.reduceEqDiff, Nat.reduceBEq, Nat.reduceLT, Nat.reduceAdd, Nat.reduceLeDiff, Nat.reduceSub, Nat.reduceMul, Int.reduceLT, Int.reduceLE, Int.reduceEq, Int.reduceAdd, Int.reduceSub, Int.reduceMul, h0, h1, hS.fz.rows, hS.fz.one, hS.fz.cells, hS.fz.icy, hS.fz.frz, hR.fz.rows, hR.fz.one, hR.fz.cells, hR.fz.icy, hR.fz.frz, hal, hgr, lra, q1, hins, hy.fz.rows, hy.fz.one, hy.fz.cells, hy.fz.icy, hy.fz.frz, q2, lry, List.length_nil]
        all_goals rfl
end Go.Proofs.Ytbomjpdheibmfaa
