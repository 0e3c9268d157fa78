/-
  The statement LinkRenews: the run.
-/
import Derived.Test.YtbemomagabjbnaaLkH
import Derived.Test.YtbemomagabjbnaaLkD
set_option linter.unusedSimpArgs false
set_option linter.unusedVariables false
set_option maxRecDepth 100000
namespace Go.Proofs.Ytbemomagabjbnaa
open Go Go.Ax
variable {M : Mem} {Q : AV → Mem → Prop}

theorem puts_ok : ∀ (bs : List (List UInt8)) (cur x : End), cur.out.length ≤ 32 → cur.nx < 16777216 → puts cur bs = .ok x → x.ep = cur.ep ∧ x.want = cur.want ∧ x.since = cur.since ∧ x.owe = cur.owe ∧ x.nx = cur.nx + bs.length ∧ x.out.length = cur.out.length + bs.length ∧
    x.out.length ≤ 32 ∧ x.nx < 16777216 ∧ (∀ b ∈ bs, b.length ≤ 900) ∧ (∀ i, i < cur.out.length → x.out[i]? = cur.out[i]?) ∧ ∀ i b, bs[i]? = some b → x.out[cur.out.length + i]? = some ⟨cur.nx + i, b⟩
  | [], cur, x, h1, h2, h => by
    simp only [puts, Except.ok.injEq] at h; subst h
    exact ⟨rfl, rfl, rfl, rfl, by simp, by simp, h1, h2, fun b hb => (by cases hb), fun _ _ => rfl, fun i b hb => (by simp at hb)⟩
  | b :: bs, cur, x, h1, h2, h => by
    rw [puts] at h
    split at h
    · cases h
    · split at h
      · cases h
      · rename_i h3 h4
        obtain ⟨a1, a2, a3, a4, a5, a6, a7, a8, a9, a10, a11⟩ := puts_ok bs _ x (by simp; omega) (by simp only; omega) h
        simp only [List.length_append, List.length_cons, List.length_nil] at a1 a2 a3 a4 a5 a6 a10 a11
        refine ⟨a1, a2, a3, a4, by rw [a5]; simp only [List.length_cons]; omega, by rw [a6]; simp only [List.length_cons]; omega, a7, a8, fun c hc => ?_, fun i hi => ?_, fun i c hc => ?_⟩
        · rcases List.mem_cons.1 hc with rfl | hc
          · omega
          · exact a9 c hc
        · rw [a10 i (by omega), List.getElem?_append_left hi]
        · cases i with
          | zero =>
            simp at hc; subst hc
            rw [Nat.add_zero, a10 _ (by omega)]
            simp
          | succ i =>
            have := a11 i c (by simpa using hc)
            rw [show cur.out.length + (i + 1) = cur.out.length + (0 + 1) + i by omega, this]
            congr 2; omega

/-- What is renewed. -/
theorem renewed_ok {e : End} {epoch : Int} {ahead : List (List UInt8)} {x : End} (h : renewed e epoch ahead = .ok x) : e.may = true ∧ x.ep = epoch ∧ x.want = 1 ∧ x.since = 0 ∧ x.owe = false ∧ x.nx = x.out.length + 1 ∧ x.out.length = ahead.length + e.out.length ∧ x.out.length ≤ 32 ∧ x.may = true ∧
    ∀ i (hi : i < x.out.length), (x.out[i]).seq = i + 1 ∧ (ahead ++ e.out.map (·.body))[i]? = some (x.out[i]).body := by
  unfold renewed at h
  split at h
  · cases h
  · split at h
    · cases h
    · rename_i hm hc
      have hm : e.may = true := by cases hh : e.may <;> simp_all
      have hc : from' epoch 0 2147483648 = true := by cases hh : from' epoch 0 2147483648 <;> simp_all
      obtain ⟨a1, a2, a3, a4, a5, a6, a7, a8, a9, a10, a11⟩ := puts_ok _ _ x (by simp [fresh]) (by simp [fresh]) h
      simp only [fresh, List.length_nil, Nat.zero_add] at a1 a2 a3 a4 a5 a6 a11
      have hall : ∀ i (hi : i < x.out.length), (x.out[i]).seq = i + 1 ∧ (ahead ++ e.out.map (·.body))[i]? = some (x.out[i]).body := fun i hi => by
        have hb : (ahead ++ e.out.map (·.body))[i]? = some ((ahead ++ e.out.map (·.body))[i]'(by omega)) := by simp
        have := a11 i _ hb
        rw [List.getElem?_eq_getElem hi] at this
        have e1 := Option.some.inj this
        rw [e1]
        exact ⟨by simp only; omega, hb⟩
      refine ⟨hm, a1, a2, a3, a4, by omega, by simpa using a6, a7, ?_, hall⟩
      rw [may_eq, Bool.and_eq_true, List.all_eq_true]
      refine ⟨?_, fun i hi => ?_⟩
      · simp only [End.plain, a1, hc, a2, a3, Bool.true_and]
        simp only [from', Bool.and_eq_true, decide_eq_true_eq]
        simp
        omega
      · have hi := List.mem_range.1 hi
        obtain ⟨k1, k2⟩ := hall i hi
        simp only [End.mayAt, List.getElem?_eq_getElem hi, Bool.and_eq_true, decide_eq_true_eq]
        refine ⟨⟨by omega, by omega⟩, ?_⟩
        exact a9 _ (List.mem_of_getElem? k2)

theorem puts_err : ∀ (bs : List (List UInt8)) (cur : End) (c : Int), puts cur bs = .error c → c = 4 ∨ c = 9
  | [], _, _, h => by simp [puts] at h
  | b :: bs, cur, c, h => by
    rw [puts] at h
    split at h
    · cases h; exact .inl rfl
    · split at h
      · cases h; exact .inr rfl
      · exact puts_err bs _ c h
theorem renewed_err {e : End} {epoch : Int} {ahead : List (List UInt8)} {c : Int} (h : renewed e epoch ahead = .error c) : c ≠ 0 := by
  unfold renewed at h
  split at h
  · cases h; omega
  · split at h
    · cases h; omega
    · rcases puts_err _ _ _ h with rfl | rfl <;> omega

set_option maxHeartbeats 8000000 in
theorem law_run (e : End) (ae : AV) (he : IsEnd ae e) (hwf : -9223372036854775808 ≤ e.nx ∧ e.nx ≤ 9223372036854775807) (epoch : Int) (ah : AV) (ahead : List (List UInt8)) (hah : Sl 1 isBs ah ahead) :
    callN Try.prog (fsT tbl) 100000 21 (.fn 3) [ae, I64 epoch, ah] mem0 = some (BL true, mem0) := by
  have he' := he
  obtain ⟨o, rfl, hS⟩ := he
  have o1 := hS.one
  obtain ⟨g, hg⟩ := great_run (fuel := 100000) (d := 19) e _ he' (by omega)
  apply w3_eq
  refine call_gc t3 rfl (by simp (maxSteps := 2000000) (disch := first | omega | assumption | (simp only [add_size, upd_size, mem0_size, List.length_cons, List.length_nil, wf_add, wf_upd, wf_mem0, lo_wf, bk_wf, lo_size, bk_size, List.all_cons, List.all_nil, one_sc_int, one_sc_bool, one_sc_string, one_sc_slice, one_sc_ptr, one_ptr, one_sl, one_pv, one_cp, one_fn, Bool.and_true, Nat.reduceAdd, *]; done) | (simp only [add_size, upd_size, mem0_size, lo_size, bk_size, List.length_cons, List.length_nil]; omega)) only [RUN, footA, feetIn, resultsA, tupOf, frzL, slot, lay, icyL, fillA, repCells, kR, reduceIte, Nat.reduceEqDiff, Nat.reduceBEq, Nat.reduceLT, Nat.reduceAdd, Nat.reduceLeDiff, Nat.reduceSub, Nat.reduceMul, Int.reduceLT, Int.reduceLE, Int.reduceEq, Int.reduceAdd, Int.reduceSub, Int.reduceMul, decide_true, decide_false, Int.lt_irrefl, Nat.beq_eq, Option.map_some, Option.map_none, List.contains_cons, List.contains_nil, Bool.or_true, Bool.true_or, Bool.or_false, Bool.false_or, Bool.not_true, Bool.not_false, Bool.and_self, List.elem_nil, List.all_nil, List.all_cons, Bool.and_true, Bool.true_and, true_and, and_true, List.map_cons, List.map_nil, List.nil_append, List.cons_append, List.append_nil, Nat.zero_add, Nat.add_zero, List.drop_succ_cons, List.drop_zero, List.take_succ_cons, List.take_zero, List.getElem?_cons_zero, List.getElem?_cons_succ, List.length_cons, List.length_nil, hS.icy, hah.icy]) (by simp [a3]) fun b ht hx => ?_
  have h0 := hx 0 _ rfl
  have h1 := hx 1 _ rfl
  have h2 := hx 2 _ rfl
  clear hx
  simp only [a3, c3] at ht ⊢
  cases g with
  | true =>
    simp (maxSteps := 2000000) (disch := first | omega | assumption | (simp only [add_size, upd_size, mem0_size, List.length_cons, List.length_nil, wf_add, wf_upd, wf_mem0, lo_wf, bk_wf, lo_size, bk_size, List.all_cons, List.all_nil, one_sc_int, one_sc_bool, one_sc_string, one_sc_slice, one_sc_ptr, one_ptr, one_sl, one_pv, one_cp, one_fn, Bool.and_true, Nat.reduceAdd, *]; done) | (simp only [add_size, upd_size, mem0_size, lo_size, bk_size, List.length_cons, List.length_nil]; omega)) only [RUN, footA, feetIn, resultsA, tupOf, frzL, slot, lay, icyL, fillA, repCells, kR, reduceIte, Nat.reduceEqDiff, Nat.reduceBEq, Nat.reduceLT, Nat.reduceAdd, Nat.reduceLeDiff, Nat.reduceSub, Nat.reduceMul, Int.reduceLT, Int.reduceLE, Int.reduceEq, Int.reduceAdd, Int.reduceSub, Int.reduceMul, decide_true, decide_false, Int.lt_irrefl, Nat.beq_eq, Option.map_some, Option.map_none, List.contains_cons, List.contains_nil, Bool.or_true, Bool.true_or, Bool.or_false, Bool.false_or, Bool.not_true, Bool.not_false, Bool.and_self, List.elem_nil, List.all_nil, List.all_cons, Bool.and_true, Bool.true_and, true_and, and_true, List.map_cons, List.map_nil, List.nil_append, List.cons_append, List.append_nil, Nat.zero_add, Nat.add_zero, List.drop_succ_cons, List.drop_zero, List.take_succ_cons, List.take_zero, List.getElem?_cons_zero, List.getElem?_cons_succ, List.length_cons, List.length_nil, h0, h1, h2, o1, hg, alive_run, hah.len]
  | false =>
    by_cases hl : 20 < ahead.length
    · have q1 : decide ((20 : Int) < ahead.length) = true := by simp; omega
      simp (maxSteps := 2000000) (disch := first | omega | assumption | (simp only [add_size, upd_size, mem0_size, List.length_cons, List.length_nil, wf_add, wf_upd, wf_mem0, lo_wf, bk_wf, lo_size, bk_size, List.all_cons, List.all_nil, one_sc_int, one_sc_bool, one_sc_string, one_sc_slice, one_sc_ptr, one_ptr, one_sl, one_pv, one_cp, one_fn, Bool.and_true, Nat.reduceAdd, *]; done) | (simp only [add_size, upd_size, mem0_size, lo_size, bk_size, List.length_cons, List.length_nil]; omega)) only [RUN, footA, feetIn, resultsA, tupOf, frzL, slot, lay, icyL, fillA, repCells, kR, reduceIte, Nat.reduceEqDiff, Nat.reduceBEq, Nat.reduceLT, Nat.reduceAdd, Nat.reduceLeDiff, Nat.reduceSub, Nat.reduceMul, Int.reduceLT, Int.reduceLE, Int.reduceEq, Int.reduceAdd, Int.reduceSub, Int.reduceMul, decide_true, decide_false, Int.lt_irrefl, Nat.beq_eq, Option.map_some, Option.map_none, List.contains_cons, List.contains_nil, Bool.or_true, Bool.true_or, Bool.or_false, Bool.false_or, Bool.not_true, Bool.not_false, Bool.and_self, List.elem_nil, List.all_nil, List.all_cons, Bool.and_true, Bool.true_and, true_and, and_true, List.map_cons, List.map_nil, List.nil_append, List.cons_append, List.append_nil, Nat.zero_add, Nat.add_zero, List.drop_succ_cons, List.drop_zero, List.take_succ_cons, List.take_zero, List.getElem?_cons_zero, List.getElem?_cons_succ, List.length_cons, List.length_nil, h0, h1, h2, o1, hg, alive_run, hah.len, q1]
    have q1 : decide ((20 : Int) < ahead.length) = false := by simp; omega
    simp (maxSteps := 2000000) (disch := first | omega | assumption | (simp only [add_size, upd_size, mem0_size, List.length_cons, List.length_nil, wf_add, wf_upd, wf_mem0, lo_wf, bk_wf, lo_size, bk_size, List.all_cons, List.all_nil, one_sc_int, one_sc_bool, one_sc_string, one_sc_slice, one_sc_ptr, one_ptr, one_sl, one_pv, one_cp, one_fn, Bool.and_true, Nat.reduceAdd, *]; done) | (simp only [add_size, upd_size, mem0_size, lo_size, bk_size, List.length_cons, List.length_nil]; omega)) only [RUN, footA, feetIn, resultsA, tupOf, frzL, slot, lay, icyL, fillA, repCells, kR, reduceIte, Nat.reduceEqDiff, Nat.reduceBEq, Nat.reduceLT, Nat.reduceAdd, Nat.reduceLeDiff, Nat.reduceSub, Nat.reduceMul, Int.reduceLT, Int.reduceLE, Int.reduceEq, Int.reduceAdd, Int.reduceSub, Int.reduceMul, decide_true, decide_false, Int.lt_irrefl, Nat.beq_eq, Option.map_some, Option.map_none, List.contains_cons, List.contains_nil, Bool.or_true, Bool.true_or, Bool.or_false, Bool.false_or, Bool.not_true, Bool.not_false, Bool.and_self, List.elem_nil, List.all_nil, List.all_cons, Bool.and_true, Bool.true_and, true_and, and_true, List.map_cons, List.map_nil, List.nil_append, List.cons_append, List.append_nil, Nat.zero_add, Nat.add_zero, List.drop_succ_cons, List.drop_zero, List.take_succ_cons, List.take_zero, List.getElem?_cons_zero, List.getElem?_cons_succ, List.length_cons, List.length_nil, h0, h1, h2, o1, hg, alive_run, hah.len, q1]
    refine renew_run e _ he' (by omega) epoch ah ahead hah (by omega) ?_
    cases hr : renewed e epoch ahead with
    | error c =>
      have q2 : decide (c = 0) = false := by simp [renewed_err hr]
      show kO _ _ _ _ _ _ _ _
      simp (maxSteps := 2000000) (disch := first | omega | assumption | (simp only [add_size, upd_size, mem0_size, List.length_cons, List.length_nil, wf_add, wf_upd, wf_mem0, lo_wf, bk_wf, lo_size, bk_size, List.all_cons, List.all_nil, one_sc_int, one_sc_bool, one_sc_string, one_sc_slice, one_sc_ptr, one_ptr, one_sl, one_pv, one_cp, one_fn, Bool.and_true, Nat.reduceAdd, *]; done) | (simp only [add_size, upd_size, mem0_size, lo_size, bk_size, List.length_cons, List.length_nil]; omega)) only [RUN, footA, feetIn, resultsA, tupOf, frzL, slot, lay, icyL, fillA, repCells, kR, reduceIte, Nat.reduceEqDiff, Nat.reduceBEq, Nat.reduceLT, Nat.reduceAdd, Nat.reduceLeDiff, Nat.reduceSub, Nat.reduceMul, Int.reduceLT, Int.reduceLE, Int.reduceEq, Int.reduceAdd, Int.reduceSub, Int.reduceMul, decide_true, decide_false, Int.lt_irrefl, Nat.beq_eq, Option.map_some, Option.map_none, List.contains_cons, List.contains_nil, Bool.or_true, Bool.true_or, Bool.or_false, Bool.false_or, Bool.not_true, Bool.not_false, Bool.and_self, List.elem_nil, List.all_nil, List.all_cons, Bool.and_true, Bool.true_and, true_and, and_true, List.map_cons, List.map_nil, List.nil_append, List.cons_append, List.append_nil, Nat.zero_add, Nat.add_zero, List.drop_succ_cons, List.drop_zero, List.take_succ_cons, List.take_zero, List.getElem?_cons_zero, List.getElem?_cons_succ, List.length_cons, List.length_nil, h0, h1, h2, o1, q2]
    | ok x =>
      intro ax hax
      obtain ⟨hm, x1, x2, x3, x4, x5, x6, x7, x8, x9⟩ := renewed_ok hr
      have hck := fun M => check_run (P := Try.prog) (fuel := 100000) (M := M) (d := 18) x ax hax (by omega)
      rw [x8, if_pos rfl] at hck
      obtain ⟨ox, rfl, hSx⟩ := hax
      have ox1 := hSx.one
      have w1 : IntKind.i64.wrap ((ahead.length : Int) + (e.out.length : Int)) = (x.out.length : Int) := by rw [wrap_i64] <;> omega
      have w2 : IntKind.i64.wrap ((x.out.length : Int) + 1) = x.nx := by rw [wrap_i64] <;> omega
      have q2 : decide (x.want = 1) = true := by simp [x2]
      have q3 : decide (x.ep = epoch) = true := by simp [x1]
      have q4 : decide ((x.out.length : Int) = x.out.length) = true := by simp
      have q5 : decide (x.nx = x.nx) = true := by simp
      show kO _ _ _ _ _ _ _ _
      simp (maxSteps := 2000000) (disch := first | omega | assumption | (simp only [add_size, upd_size, mem0_size, List.length_cons, List.length_nil, wf_add, wf_upd, wf_mem0, lo_wf, bk_wf, lo_size, bk_size, List.all_cons, List.all_nil, one_sc_int, one_sc_bool, one_sc_string, one_sc_slice, one_sc_ptr, one_ptr, one_sl, one_pv, one_cp, one_fn, Bool.and_true, Nat.reduceAdd, *]; done) | (simp only [add_size, upd_size, mem0_size, lo_size, bk_size, List.length_cons, List.length_nil]; omega)) only [RUN, footA, feetIn, resultsA, tupOf, frzL, slot, lay, icyL, fillA, repCells, kR, reduceIte, Nat.reduceEqDiff, Nat.reduceBEq, Nat.reduceLT, Nat.reduceAdd, Nat.reduceLeDiff, Nat.reduceSub, Nat.reduceMul, Int.reduceLT, Int.reduceLE, Int.reduceEq, Int.reduceAdd, Int.reduceSub, Int.reduceMul, decide_true, decide_false, Int.lt_irrefl, Nat.beq_eq, Option.map_some, Option.map_none, List.contains_cons, List.contains_nil, Bool.or_true, Bool.true_or, Bool.or_false, Bool.false_or, Bool.not_true, Bool.not_false, Bool.and_self, List.elem_nil, List.all_nil, List.all_cons, Bool.and_true, Bool.true_and, true_and, and_true, List.map_cons, List.map_nil, List.nil_append, List.cons_append, List.append_nil, Nat.zero_add, Nat.add_zero, List.drop_succ_cons, List.drop_zero, List.take_succ_cons, List.take_zero, List.getElem?_cons_zero, List.getElem?_cons_succ, List.length_cons, List.length_nil, h0, h1, h2, o1, ox1, hah.len, hS.len, hSx.len, w1, w2, q2, q3, q4, q5, hck]
      refine w_loop (I := fun n t N => ∃ i : Nat, i ≤ x.out.length ∧ n = x.out.length - i ∧ nth undefA t 2 = ah ∧ nth undefA t 3 = .ptr 0 0 ∧ nth undefA t 7 = BL true ∧ nth undefA t 8 = .ptr 1 0 ∧ nth undefA t 10 = I64 i ∧ Wf N ∧ 2 ≤ N.size ∧
        N.get 0 = some (.row false [I64 e.ep, I64 e.nx, o, I64 e.want, I64 e.since, BL e.owe]) ∧ N.get 1 = some (.row false [I64 x.ep, I64 x.nx, ox, I64 x.want, I64 x.since, BL x.owe])) (n := x.out.length) (by omega) ?_ ?_
      · refine ⟨0, by omega, by omega, ?_, ?_, ?_, ?_, ?_, ?_, ?_, ?_, ?_⟩
        all_goals try simp (maxSteps := 2000000) (disch := first | omega | assumption | (simp only [add_size, upd_size, mem0_size, List.length_cons, List.length_nil, wf_add, wf_upd, wf_mem0, lo_wf, bk_wf, lo_size, bk_size, List.all_cons, List.all_nil, one_sc_int, one_sc_bool, one_sc_string, one_sc_slice, one_sc_ptr, one_ptr, one_sl, one_pv, one_cp, one_fn, Bool.and_true, Nat.reduceAdd, *]; done) | (simp only [add_size, upd_size, mem0_size, lo_size, bk_size, List.length_cons, List.length_nil]; omega)) only [RUN, footA, feetIn, resultsA, tupOf, frzL, slot, lay, icyL, fillA, repCells, kR, reduceIte, Nat.reduceEqDiff, Nat.reduceBEq, Nat.reduceLT, Nat.reduceAdd, Nat.reduceLeDiff, Nat.reduceSub, Nat.reduceMul, Int.reduceLT, Int.reduceLE, Int.reduceEq, Int.reduceAdd, Int.reduceSub, Int.reduceMul, decide_true, decide_false, Int.lt_irrefl, Nat.beq_eq, Option.map_some, Option.map_none, List.contains_cons, List.contains_nil, Bool.or_true, Bool.true_or, Bool.or_false, Bool.false_or, Bool.not_true, Bool.not_false, Bool.and_self, List.elem_nil, List.all_nil, List.all_cons, Bool.and_true, Bool.true_and, true_and, and_true, List.map_cons, List.map_nil, List.nil_append, List.cons_append, List.append_nil, Nat.zero_add, Nat.add_zero, List.drop_succ_cons, List.drop_zero, List.take_succ_cons, List.take_zero, List.getElem?_cons_zero, List.getElem?_cons_succ, List.length_cons, List.length_nil, h2]
        all_goals rfl
      · clear hg hck
        rintro n t N hl ⟨i, hi, hn, t2, t3, t7, t8, t10, wf, ms, n0, n1⟩
        simp only [ht] at hl ⊢
        clear h0 h1 h2 ht b
        by_cases hlt : i < x.out.length
        · have hc : decide ((i : Int) < x.out.length) = true := by simp; omega
          obtain ⟨y1, y2⟩ := x9 i hlt
          obtain ⟨r, hr1, ⟨bx, rfl, hbx⟩, _⟩ := hSx.iad i hlt
          have w3 : IntKind.i64.wrap ((i : Int) + 1) = ((i + 1 : Nat) : Int) := by rw [wrap_i64] <;> omega
          have z1 : decide (x.out[i].seq = ((i + 1 : Nat) : Int)) = true := by rw [y1]; simp
          have bx2 := hbx.b2s
          by_cases hia : i < ahead.length
          · have z2 : decide ((i : Int) < ahead.length) = true := by simp; omega
            have z3 : decide ((ahead.length : Int) ≤ i) = false := by simp; omega
            obtain ⟨r2, hr2, ⟨ba, rfl, hba⟩, _⟩ := hah.iad i hia
            have ba2 := hba.b2s
            have z4 : decide (x.out[i].body = ahead[i]) = true := by
              rw [List.getElem?_append_left hia, List.getElem?_eq_getElem hia] at y2
              simp [Option.some.inj y2]
            simp (maxSteps := 2000000) (disch := first | omega | assumption | (simp only [add_size, upd_size, mem0_size, List.length_cons, List.length_nil, wf_add, wf_upd, wf_mem0, lo_wf, bk_wf, lo_size, bk_size, List.all_cons, List.all_nil, one_sc_int, one_sc_bool, one_sc_string, one_sc_slice, one_sc_ptr, one_ptr, one_sl, one_pv, one_cp, one_fn, Bool.and_true, Nat.reduceAdd, *]; done) | (simp only [add_size, upd_size, mem0_size, lo_size, bk_size, List.length_cons, List.length_nil]; omega)) only [RUN, footA, feetIn, resultsA, tupOf, frzL, slot, lay, icyL, fillA, repCells, kR, reduceIte, Nat.reduceEqDiff, Nat.reduceBEq, Nat.reduceLT, Nat.reduceAdd, Nat.reduceLeDiff, Nat.reduceSub, Nat.reduceMul, Int.reduceLT, Int.reduceLE, Int.reduceEq, Int.reduceAdd, Int.reduceSub, Int.reduceMul, decide_true, decide_false, Int.lt_irrefl, Nat.beq_eq, Option.map_some, Option.map_none, List.contains_cons, List.contains_nil, Bool.or_true, Bool.true_or, Bool.or_false, Bool.false_or, Bool.not_true, Bool.not_false, Bool.and_self, List.elem_nil, List.all_nil, List.all_cons, Bool.and_true, Bool.true_and, true_and, and_true, List.map_cons, List.map_nil, List.nil_append, List.cons_append, List.append_nil, Nat.zero_add, Nat.add_zero, List.drop_succ_cons, List.drop_zero, List.take_succ_cons, List.take_zero, List.getElem?_cons_zero, List.getElem?_cons_succ, List.length_cons, List.length_nil, t2, t3, t7, t8, t10, n0, n1, wf, hc, hSx.len, hah.len, hr1, hr2, w3, z1, z2, z3, z4, bx2, ba2]
            exact ⟨by rw [hbx.rows mem0]; rfl, by rw [hba.rows mem0]; rfl, hl, x.out.length - (i + 1), by omega, i + 1, by omega, rfl, rfl, ms⟩
          · have z2 : decide ((i : Int) < ahead.length) = false := by simp; omega
            have z3 : decide ((ahead.length : Int) ≤ i) = true := by simp; omega
            have hie : i - ahead.length < e.out.length := by omega
            obtain ⟨r2, hr2, ⟨ba, rfl, hba⟩, _⟩ := hS.iad (i - ahead.length) hie
            have ba2 := hba.b2s
            have w4 : IntKind.i64.wrap ((i : Int) - (ahead.length : Int)) = ((i - ahead.length : Nat) : Int) := by rw [wrap_i64] <;> omega
            have z4 : decide (x.out[i].body = e.out[i - ahead.length].body) = true := by
              rw [List.getElem?_append_right (by omega), List.getElem?_map, List.getElem?_eq_getElem hie] at y2
              simp at y2
              simp [y2]
            simp (maxSteps := 2000000) (disch := first | omega | assumption | (simp only [add_size, upd_size, mem0_size, List.length_cons, List.length_nil, wf_add, wf_upd, wf_mem0, lo_wf, bk_wf, lo_size, bk_size, List.all_cons, List.all_nil, one_sc_int, one_sc_bool, one_sc_string, one_sc_slice, one_sc_ptr, one_ptr, one_sl, one_pv, one_cp, one_fn, Bool.and_true, Nat.reduceAdd, *]; done) | (simp only [add_size, upd_size, mem0_size, lo_size, bk_size, List.length_cons, List.length_nil]; omega)) only [RUN, footA, feetIn, resultsA, tupOf, frzL, slot, lay, icyL, fillA, repCells, kR, reduceIte, Nat.reduceEqDiff, Nat.reduceBEq, Nat.reduceLT, Nat.reduceAdd, Nat.reduceLeDiff, Nat.reduceSub, Nat.reduceMul, Int.reduceLT, Int.reduceLE, Int.reduceEq, Int.reduceAdd, Int.reduceSub, Int.reduceMul, decide_true, decide_false, Int.lt_irrefl, Nat.beq_eq, Option.map_some, Option.map_none, List.contains_cons, List.contains_nil, Bool.or_true, Bool.true_or, Bool.or_false, Bool.false_or, Bool.not_true, Bool.not_false, Bool.and_self, List.elem_nil, List.all_nil, List.all_cons, Bool.and_true, Bool.true_and, true_and, and_true, List.map_cons, List.map_nil, List.nil_append, List.cons_append, List.append_nil, Nat.zero_add, Nat.add_zero, List.drop_succ_cons, List.drop_zero, List.take_succ_cons, List.take_zero, List.getElem?_cons_zero, List.getElem?_cons_succ, List.length_cons, List.length_nil, t2, t3, t7, t8, t10, n0, n1, wf, hc, hSx.len, hah.len, hr1, hr2, w3, w4, z1, z2, z3, z4, bx2, ba2]
            exact ⟨by rw [hbx.rows mem0]; rfl, by rw [hba.rows mem0]; rfl, hl, x.out.length - (i + 1), by omega, i + 1, by omega, rfl, rfl, ms⟩
        · have hc : decide ((i : Int) < x.out.length) = false := by simp; omega
          simp (maxSteps := 2000000) (disch := first | omega | assumption | (simp only [add_size, upd_size, mem0_size, List.length_cons, List.length_nil, wf_add, wf_upd, wf_mem0, lo_wf, bk_wf, lo_size, bk_size, List.all_cons, List.all_nil, one_sc_int, one_sc_bool, one_sc_string, one_sc_slice, one_sc_ptr, one_ptr, one_sl, one_pv, one_cp, one_fn, Bool.and_true, Nat.reduceAdd, *]; done) | (simp only [add_size, upd_size, mem0_size, lo_size, bk_size, List.length_cons, List.length_nil]; omega)) only [RUN, footA, feetIn, resultsA, tupOf, frzL, slot, lay, icyL, fillA, repCells, kR, reduceIte, Nat.reduceEqDiff, Nat.reduceBEq, Nat.reduceLT, Nat.reduceAdd, Nat.reduceLeDiff, Nat.reduceSub, Nat.reduceMul, Int.reduceLT, Int.reduceLE, Int.reduceEq, Int.reduceAdd, Int.reduceSub, Int.reduceMul, decide_true, decide_false, Int.lt_irrefl, Nat.beq_eq, Option.map_some, Option.map_none, List.contains_cons, List.contains_nil, Bool.or_true, Bool.true_or, Bool.or_false, Bool.false_or, Bool.not_true, Bool.not_false, Bool.and_self, List.elem_nil, List.all_nil, List.all_cons, Bool.and_true, Bool.true_and, true_and, and_true, List.map_cons, List.map_nil, List.nil_append, List.cons_append, List.append_nil, Nat.zero_add, Nat.add_zero, List.drop_succ_cons, List.drop_zero, List.take_succ_cons, List.take_zero, List.getElem?_cons_zero, List.getElem?_cons_succ, List.length_cons, List.length_nil, t2, t3, t7, t8, t10, n0, n1, wf, hc, hSx.len]
end Go.Proofs.Ytbemomagabjbnaa
