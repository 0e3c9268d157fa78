/-
  Texts: Check.
-/
import Derived.Test.YtbomjpdheibmfaaTrH
import Derived.Test.YtbomjpdheibmfaaEf
set_option linter.unusedSimpArgs false
set_option linter.unusedVariables false
set_option maxRecDepth 100000
namespace Go.Proofs.Ytbomjpdheibmfaa
open Go Go.Ax
variable {fuel : Nat} {M : Mem} {Q : AV → Mem → Prop} {d : Nat}
theorem check1_run {o : Rn} {ra : AV} (hR : Sl 1 isI32 ra o.rs) (hf : 100 < fuel) (M : Mem) : callN Try.prog (fsT tbl) fuel (d + 7) (.fn 27) [.agg (rnR o ra)] M = some (BL (!o.may), M) := by
  have ora := hR.one
  have hck := fun M => @runcheck_run fuel d o ra hR hf M
  apply w3_eq
  refine call_gc tf27 rfl (by simp only [zH, rn_icy hR.fz]) (by simp [a27]) fun b' ht hx => ?_
  have h0 := hx 0 _ rfl
  clear hx
  simp only [a27, c27] at ht ⊢
  cases hm : o.may <;> rw [hm] at hck <;> simp (maxSteps := 2000000) (disch := first | omega | assumption | (simp only [DS, Nat.reduceAdd, *]; done) | (simp only [DZ]; omega)) only [RUN, RU, zD, zC, zB, zE, zG, slot, lay, zH, zF, zA, kR, reduceIte, Nat.reduceEqDiff, Nat.reduceBEq, Nat.reduceLT, Nat.reduceAdd, Nat.reduceLeDiff, Nat.reduceSub, Nat.reduceMul, Int.reduceLT, Int.reduceLE, Int.reduceEq, Int.reduceAdd, Int.reduceSub, Int.reduceMul, h0, hR.fz.rows, hR.fz.one, hR.fz.cells, hR.fz.icy, hR.fz.frz, hck, err_t, err_f, z00, z80]
open Classical in
noncomputable def textB (l : List Rn) : Bool := decide (TextOk l)
open Classical in
theorem textB_t {l : List Rn} (h : TextOk l) : textB l = true := by unfold textB; exact decide_eq_true h
open Classical in
theorem textB_f {l : List Rn} (h : ¬TextOk l) : textB l = false := by unfold textB; exact decide_eq_false h
open Classical in
theorem textB_iff {l : List Rn} : textB l = true ↔ TextOk l := by unfold textB; exact ⟨of_decide_eq_true, fun h => decide_eq_true h⟩
theorem may_rs {l : List Rn} (h : ∀ r ∈ l, r.may = true) : ∀ r ∈ l, r.rs.length ≤ 64 := fun r hr => ((Rn.may_iff.1 (h r hr)).2.2.2.1)
set_option maxHeartbeats 4000000 in
theorem check_run {a : AV} {l : List Rn} (hS : Sl 10 isRn a l) (hl : l.length ≤ 1000) (hf : 64 * l.length + 3001000 < fuel) (M : Mem) : callN Try.prog (fsT tbl) fuel (d + 10) (.fn 14) [a] M = some (I64 (err (textB l)), M) := by
  have oa := hS.one
  have hh := fun M => has_g10 (P := Try.prog) (fs := fsT tbl) (fuel := fuel) (l := l) (ag := true) (n := d + 7) tf26 tf43 (fun h => by cases h) fz_Rn hS (by omega) (by omega) (fz_fn0 27) (p := fun x => !x.may) (fun r x hr _ M => by
    obtain ⟨ra, rfl, hra, _⟩ := hr
    exact @check1_run fuel d x ra hra (by omega) M) M
  rw [any_not] at hh
  apply w3_eq
  refine call_gc tf14 rfl (by simp only [zH, fun M => hS.icy M 12 (by omega)]) (by simp [a14]) fun b' ht hx => ?_
  have h0 := hx 0 _ rfl
  clear hx
  simp only [a14, c14] at ht ⊢
  cases hb : l.all Rn.may with
  | false =>
    rw [hb] at hh
    have hno : textB l = false := textB_f fun k => by
      rw [List.all_eq_true.2 k.1] at hb; cases hb
    rw [hno]
    simp (maxSteps := 2000000) (disch := first | omega | assumption | (simp only [DS, Nat.reduceAdd, *]; done) | (simp only [DZ]; omega)) only [RUN, RU, zD, zC, zB, zE, zG, slot, lay, zH, zF, zA, kR, reduceIte, Nat.reduceEqDiff, Nat.reduceBEq, Nat.reduceLT, Nat.reduceAdd, Nat.reduceLeDiff, Nat.reduceSub, Nat.reduceMul, Int.reduceLT, Int.reduceLE, Int.reduceEq, Int.reduceAdd, Int.reduceSub, Int.reduceMul, h0, hS.fz.rows, hS.fz.one, hS.fz.cells, hS.fz.icy, hS.fz.frz, hh, err_f]
  | true =>
    rw [hb] at hh
    have hm : ∀ r ∈ l, r.may = true := List.all_eq_true.1 hb
    have hrs := may_rs hm
    have hct := fun M => @count_run fuel (d + 8) a l hS hm (by omega) (by omega) M
    have hord := fun M => @ordered_run fuel d a l hS hl hm (by omega) M
    obtain ⟨r, hr, hlong⟩ := long_run (fuel := fuel) (d := d) hS (by omega) (fun r hr => by have := hrs r hr; omega) (by omega)
    have hmL := (long_chunk hm).2
    have hrsL := may_rs hmL
    have hlenL : (longL l).length ≤ 64000 := by
      have e1 := count_els hmL
      have e2 := countL_le hm
      have e3 := count_els hm
      rw [(long_chunk hm).1, (chunk_els _).1] at e1
      have : (longL l).length ≤ (countL (longL l)) := by
        rw [(long_chunk hm).1]
        have hh := (chunk_els (elsR l)).2
        generalize chunk (elsR l) = C at *
        clear e1
        induction C with
        | nil => simp [countL]
        | cons q C ih =>
          have := ih (fun q hq => hh q (List.mem_cons_of_mem _ hq))
          have := (hh q List.mem_cons_self).1
          simp only [countL, List.length_cons]
          omega
      rw [(long_chunk hm).1] at this ⊢
      omega
    have hsame := fun M => @tsame_run fuel (d + 5) r a (longL l) l hr hS (by omega) (fun e he => ⟨by have := hrsL e he; omega, by have := hrsL e he; omega⟩) (by omega) M
    have or := hr.one
    by_cases h1 : countL l ≤ 8192
    · have q1 : decide (8192 < countL l) = false := decide_eq_false (by omega)
      by_cases h2 : Ord (elsL l)
      · have ho := @decide_eq_true _ (Classical.propDecidable (Ord (elsL l))) h2
        rw [ho] at hord
        by_cases h3 : longL l = l
        · have hyes : textB l = true := textB_t ⟨hm, h1, h2, h3⟩
          have hs : sameT (longL l) l = true := sameT_iff.2 h3
          rw [hs] at hsame
          rw [hyes]
          simp (maxSteps := 2000000) (disch := first | omega | assumption | (simp only [DS, Nat.reduceAdd, *]; done) | (simp only [DZ]; omega)) only [RUN, RU, zD, zC, zB, zE, zG, slot, lay, zH, zF, zA, kR, reduceIte, Nat.reduceEqDiff, Nat.reduceBEq, Nat.reduceLT, Nat.reduceAdd, Nat.reduceLeDiff, Nat.reduceSub, Nat.reduceMul, Int.reduceLT, Int.reduceLE, Int.reduceEq, Int.reduceAdd, Int.reduceSub, Int.reduceMul, h0, hS.fz.rows, hS.fz.one, hS.fz.cells, hS.fz.icy, hS.fz.frz, hr.fz.rows, hr.fz.one, hr.fz.cells, hr.fz.icy, hr.fz.frz, hh, hct, q1, hord, hlong, hsame, err_t]
        · have hno : textB l = false := textB_f fun k => h3 k.2.2.2
          have hs : sameT (longL l) l = false := by
            cases hq : sameT (longL l) l with
            | false => rfl
            | true => exact absurd (sameT_iff.1 hq) h3
          rw [hs] at hsame
          rw [hno]
          simp (maxSteps := 2000000) (disch := first | omega | assumption | (simp only [DS, Nat.reduceAdd, *]; done) | (simp only [DZ]; omega)) only [RUN, RU, zD, zC, zB, zE, zG, slot, lay, zH, zF, zA, kR, reduceIte, Nat.reduceEqDiff, Nat.reduceBEq, Nat.reduceLT, Nat.reduceAdd, Nat.reduceLeDiff, Nat.reduceSub, Nat.reduceMul, Int.reduceLT, Int.reduceLE, Int.reduceEq, Int.reduceAdd, Int.reduceSub, Int.reduceMul, h0, hS.fz.rows, hS.fz.one, hS.fz.cells, hS.fz.icy, hS.fz.frz, hr.fz.rows, hr.fz.one, hr.fz.cells, hr.fz.icy, hr.fz.frz, hh, hct, q1, hord, hlong, hsame, err_f]
      · have ho := @decide_eq_false _ (Classical.propDecidable (Ord (elsL l))) h2
        rw [ho] at hord
        have hno : textB l = false := textB_f fun k => h2 k.2.2.1
        rw [hno]
        simp (maxSteps := 2000000) (disch := first | omega | assumption | (simp only [DS, Nat.reduceAdd, *]; done) | (simp only [DZ]; omega)) only [RUN, RU, zD, zC, zB, zE, zG, slot, lay, zH, zF, zA, kR, reduceIte, Nat.reduceEqDiff, Nat.reduceBEq, Nat.reduceLT, Nat.reduceAdd, Nat.reduceLeDiff, Nat.reduceSub, Nat.reduceMul, Int.reduceLT, Int.reduceLE, Int.reduceEq, Int.reduceAdd, Int.reduceSub, Int.reduceMul, h0, hS.fz.rows, hS.fz.one, hS.fz.cells, hS.fz.icy, hS.fz.frz, hh, hct, q1, hord, err_f]
    · have q1 : decide (8192 < countL l) = true := decide_eq_true (by omega)
      have hno : textB l = false := textB_f fun k => h1 k.2.1
      rw [hno]
      simp (maxSteps := 2000000) (disch := first | omega | assumption | (simp only [DS, Nat.reduceAdd, *]; done) | (simp only [DZ]; omega)) only [RUN, RU, zD, zC, zB, zE, zG, slot, lay, zH, zF, zA, kR, reduceIte, Nat.reduceEqDiff, Nat.reduceBEq, Nat.reduceLT, Nat.reduceAdd, Nat.reduceLeDiff, Nat.reduceSub, Nat.reduceMul, Int.reduceLT, Int.reduceLE, Int.reduceEq, Int.reduceAdd, Int.reduceSub, Int.reduceMul, h0, hS.fz.rows, hS.fz.one, hS.fz.cells, hS.fz.icy, hS.fz.frz, hh, hct, q1, err_f]
end Go.Proofs.Ytbomjpdheibmfaa
