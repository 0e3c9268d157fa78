/-
  link: Renew.
-/
import Derived.Test.YtbemomagabjbnaaLkG
set_option linter.unusedSimpArgs false
set_option linter.unusedVariables false
set_option maxRecDepth 100000
namespace Go.Proofs.Ytbemomagabjbnaa
open Go Go.Ax
variable {fuel : Nat} {M : Mem} {Q : AV → Mem → Prop} {d : Nat}

/-- A row of bytes. -/
def isBs (r : List AV) (b : List UInt8) : Prop := ∃ a, r = [a] ∧ Bs a b
theorem cel_Bs : Cel isBs := fun r x h y hy => by
  obtain ⟨a, rfl, hb⟩ := h
  simp at hy; subst hy
  exact ⟨hb.one, fun M k hk => hb.frz M 0 k hk⟩

/-- Bodies put, one behind the other. -/
def puts (e : End) : List (List UInt8) → Except Int End
  | [] => .ok e
  | b :: bs => if 900 < b.length then .error 4 else if 32 ≤ e.out.length ∨ 16777216 ≤ e.nx + 1 then .error 9 else puts { e with nx := e.nx + 1, out := e.out ++ [⟨e.nx, b⟩] } bs
def fresh (epoch : Int) : End := ⟨epoch, 1, [], 1, 0, false⟩
def renewed (e : End) (epoch : Int) (ahead : List (List UInt8)) : Except Int End :=
  if e.may = false then .error 8 else if from' epoch 0 2147483648 = false then .error 2 else puts (fresh epoch) (ahead ++ e.out.map (·.body))
abbrev ZERO : AV := .agg [I64 0, I64 0, NIL, I64 0, I64 0, BL false]
/-- What an end and an error come to. -/
def EndRes (x : Except Int End) (K : AV → Prop) : Prop := match x with
  | .error c => K (.tup [ZERO, I64 c])
  | .ok x => ∀ a, IsEnd a x → K (.tup [a, I64 0])

set_option maxHeartbeats 8000000 in
theorem renew_run (e : End) (ae : AV) (he : IsEnd ae e) (hf : 1000 < fuel) (epoch : Int) (ah : AV) (ahead : List (List UInt8)) (hah : Sl 1 isBs ah ahead) (hal : ahead.length ≤ 100)
    (k : EndRes (renewed e epoch ahead) fun r => Q r M) : W3 (callN Try.prog (fsT tbl) fuel (d + 4) (.fn 10) [ae, I64 epoch, ah] M) Q := by
  have he' := he
  obtain ⟨o, rfl, hS⟩ := he
  have o1 := hS.one
  refine call_gc t10 rfl (by simp (maxSteps := 2000000) (disch := first | omega | assumption | (simp only [add_size, upd_size, mem0_size, List.length_cons, List.length_nil, wf_add, wf_upd, wf_mem0, lo_wf, bk_wf, lo_size, bk_size, List.all_cons, List.all_nil, one_sc_int, one_sc_bool, one_sc_string, one_sc_slice, one_sc_ptr, one_ptr, one_sl, one_pv, one_cp, one_fn, Bool.and_true, Nat.reduceAdd, *]; done) | (simp only [add_size, upd_size, mem0_size, lo_size, bk_size, List.length_cons, List.length_nil]; omega)) only [RUN, footA, feetIn, resultsA, tupOf, frzL, slot, lay, icyL, fillA, repCells, kR, reduceIte, Nat.reduceEqDiff, Nat.reduceBEq, Nat.reduceLT, Nat.reduceAdd, Nat.reduceLeDiff, Nat.reduceSub, Nat.reduceMul, Int.reduceLT, Int.reduceLE, Int.reduceEq, Int.reduceAdd, Int.reduceSub, Int.reduceMul, decide_true, decide_false, Int.lt_irrefl, Nat.beq_eq, Option.map_some, Option.map_none, List.contains_cons, List.contains_nil, Bool.or_true, Bool.true_or, Bool.or_false, Bool.false_or, Bool.not_true, Bool.not_false, Bool.and_self, List.elem_nil, List.all_nil, List.all_cons, Bool.and_true, Bool.true_and, true_and, and_true, List.map_cons, List.map_nil, List.nil_append, List.cons_append, List.append_nil, Nat.zero_add, Nat.add_zero, List.drop_succ_cons, List.drop_zero, List.take_succ_cons, List.take_zero, List.getElem?_cons_zero, List.getElem?_cons_succ, List.length_cons, List.length_nil, hS.icy, hah.icy]) (by simp [a10]) fun b ht hx => ?_
  have h0 := hx 0 _ rfl
  have h1 := hx 1 _ rfl
  have h2 := hx 2 _ rfl
  clear hx
  simp only [a10, c10] at ht ⊢
  simp (maxSteps := 2000000) (disch := first | omega | assumption | (simp only [add_size, upd_size, mem0_size, List.length_cons, List.length_nil, wf_add, wf_upd, wf_mem0, lo_wf, bk_wf, lo_size, bk_size, List.all_cons, List.all_nil, one_sc_int, one_sc_bool, one_sc_string, one_sc_slice, one_sc_ptr, one_ptr, one_sl, one_pv, one_cp, one_fn, Bool.and_true, Nat.reduceAdd, *]; done) | (simp only [add_size, upd_size, mem0_size, lo_size, bk_size, List.length_cons, List.length_nil]; omega)) only [RUN, footA, feetIn, resultsA, tupOf, frzL, slot, lay, icyL, fillA, repCells, kR, reduceIte, Nat.reduceEqDiff, Nat.reduceBEq, Nat.reduceLT, Nat.reduceAdd, Nat.reduceLeDiff, Nat.reduceSub, Nat.reduceMul, Int.reduceLT, Int.reduceLE, Int.reduceEq, Int.reduceAdd, Int.reduceSub, Int.reduceMul, decide_true, decide_false, Int.lt_irrefl, Nat.beq_eq, Option.map_some, Option.map_none, List.contains_cons, List.contains_nil, Bool.or_true, Bool.true_or, Bool.or_false, Bool.false_or, Bool.not_true, Bool.not_false, Bool.and_self, List.elem_nil, List.all_nil, List.all_cons, Bool.and_true, Bool.true_and, true_and, and_true, List.map_cons, List.map_nil, List.nil_append, List.cons_append, List.append_nil, Nat.zero_add, Nat.add_zero, List.drop_succ_cons, List.drop_zero, List.take_succ_cons, List.take_zero, List.getElem?_cons_zero, List.getElem?_cons_succ, List.length_cons, List.length_nil, h0, h1, h2, o1]
  refine of_run e _ he' hf (by simp only [wf_add, wf_mem0]) ?_ ?_
  · intro hm M1 wf1 s1 kp
    simp only [add_size, mem0_size] at s1
    have g1 := kp 1 (by simp only [add_size, mem0_size]; omega)
    simp (maxSteps := 2000000) (disch := first | omega | assumption | (simp only [add_size, upd_size, mem0_size, List.length_cons, List.length_nil, wf_add, wf_upd, wf_mem0, lo_wf, bk_wf, lo_size, bk_size, List.all_cons, List.all_nil, one_sc_int, one_sc_bool, one_sc_string, one_sc_slice, one_sc_ptr, one_ptr, one_sl, one_pv, one_cp, one_fn, Bool.and_true, Nat.reduceAdd, *]; done) | (simp only [add_size, upd_size, mem0_size, lo_size, bk_size, List.length_cons, List.length_nil]; omega)) only [RUN, footA, feetIn, resultsA, tupOf, frzL, slot, lay, icyL, fillA, repCells, kR, reduceIte, Nat.reduceEqDiff, Nat.reduceBEq, Nat.reduceLT, Nat.reduceAdd, Nat.reduceLeDiff, Nat.reduceSub, Nat.reduceMul, Int.reduceLT, Int.reduceLE, Int.reduceEq, Int.reduceAdd, Int.reduceSub, Int.reduceMul, decide_true, decide_false, Int.lt_irrefl, Nat.beq_eq, Option.map_some, Option.map_none, List.contains_cons, List.contains_nil, Bool.or_true, Bool.true_or, Bool.or_false, Bool.false_or, Bool.not_true, Bool.not_false, Bool.and_self, List.elem_nil, List.all_nil, List.all_cons, Bool.and_true, Bool.true_and, true_and, and_true, List.map_cons, List.map_nil, List.nil_append, List.cons_append, List.append_nil, Nat.zero_add, Nat.add_zero, List.drop_succ_cons, List.drop_zero, List.take_succ_cons, List.take_zero, List.getElem?_cons_zero, List.getElem?_cons_succ, List.length_cons, List.length_nil] at g1
    rw [renewed, if_pos hm] at k
    have k' : Q (.tup [ZERO, I64 8]) M := k
    simp (maxSteps := 2000000) (disch := first | omega | assumption | (simp only [add_size, upd_size, mem0_size, List.length_cons, List.length_nil, wf_add, wf_upd, wf_mem0, lo_wf, bk_wf, lo_size, bk_size, List.all_cons, List.all_nil, one_sc_int, one_sc_bool, one_sc_string, one_sc_slice, one_sc_ptr, one_ptr, one_sl, one_pv, one_cp, one_fn, Bool.and_true, Nat.reduceAdd, *]; done) | (simp only [add_size, upd_size, mem0_size, lo_size, bk_size, List.length_cons, List.length_nil]; omega)) only [RUN, footA, feetIn, resultsA, tupOf, frzL, slot, lay, icyL, fillA, repCells, kR, reduceIte, Nat.reduceEqDiff, Nat.reduceBEq, Nat.reduceLT, Nat.reduceAdd, Nat.reduceLeDiff, Nat.reduceSub, Nat.reduceMul, Int.reduceLT, Int.reduceLE, Int.reduceEq, Int.reduceAdd, Int.reduceSub, Int.reduceMul, decide_true, decide_false, Int.lt_irrefl, Nat.beq_eq, Option.map_some, Option.map_none, List.contains_cons, List.contains_nil, Bool.or_true, Bool.true_or, Bool.or_false, Bool.false_or, Bool.not_true, Bool.not_false, Bool.and_self, List.elem_nil, List.all_nil, List.all_cons, Bool.and_true, Bool.true_and, true_and, and_true, List.map_cons, List.map_nil, List.nil_append, List.cons_append, List.append_nil, Nat.zero_add, Nat.add_zero, List.drop_succ_cons, List.drop_zero, List.take_succ_cons, List.take_zero, List.getElem?_cons_zero, List.getElem?_cons_succ, List.length_cons, List.length_nil, *]
  intro hm u o' M1 wf1 s1 kp hu gu hS1 hK
  simp only [add_size, mem0_size] at s1 hu hK
  have g1 := kp 1 (by simp only [add_size, mem0_size]; omega)
  simp (maxSteps := 2000000) (disch := first | omega | assumption | (simp only [add_size, upd_size, mem0_size, List.length_cons, List.length_nil, wf_add, wf_upd, wf_mem0, lo_wf, bk_wf, lo_size, bk_size, List.all_cons, List.all_nil, one_sc_int, one_sc_bool, one_sc_string, one_sc_slice, one_sc_ptr, one_ptr, one_sl, one_pv, one_cp, one_fn, Bool.and_true, Nat.reduceAdd, *]; done) | (simp only [add_size, upd_size, mem0_size, lo_size, bk_size, List.length_cons, List.length_nil]; omega)) only [RUN, footA, feetIn, resultsA, tupOf, frzL, slot, lay, icyL, fillA, repCells, kR, reduceIte, Nat.reduceEqDiff, Nat.reduceBEq, Nat.reduceLT, Nat.reduceAdd, Nat.reduceLeDiff, Nat.reduceSub, Nat.reduceMul, Int.reduceLT, Int.reduceLE, Int.reduceEq, Int.reduceAdd, Int.reduceSub, Int.reduceMul, decide_true, decide_false, Int.lt_irrefl, Nat.beq_eq, Option.map_some, Option.map_none, List.contains_cons, List.contains_nil, Bool.or_true, Bool.true_or, Bool.or_false, Bool.false_or, Bool.not_true, Bool.not_false, Bool.and_self, List.elem_nil, List.all_nil, List.all_cons, Bool.and_true, Bool.true_and, true_and, and_true, List.map_cons, List.map_nil, List.nil_append, List.cons_append, List.append_nil, Nat.zero_add, Nat.add_zero, List.drop_succ_cons, List.drop_zero, List.take_succ_cons, List.take_zero, List.getElem?_cons_zero, List.getElem?_cons_succ, List.length_cons, List.length_nil] at g1
  clear kp
  rw [renewed, if_neg (by rw [hm]; exact Bool.noConfusion)] at k
  obtain ⟨hn, hbody, _⟩ := may_facts hm
  cases hc : from' epoch 0 2147483648 with
  | false =>
    rw [if_pos hc] at k
    have k' : Q (.tup [ZERO, I64 2]) M := k
    have hnew := fun M => new_run (fuel := fuel) (M := M) (d := d + 1) epoch
    simp only [hc, Bool.false_eq_true, if_false] at hnew
    simp (maxSteps := 2000000) (disch := first | omega | assumption | (simp only [add_size, upd_size, mem0_size, List.length_cons, List.length_nil, wf_add, wf_upd, wf_mem0, lo_wf, bk_wf, lo_size, bk_size, List.all_cons, List.all_nil, one_sc_int, one_sc_bool, one_sc_string, one_sc_slice, one_sc_ptr, one_ptr, one_sl, one_pv, one_cp, one_fn, Bool.and_true, Nat.reduceAdd, *]; done) | (simp only [add_size, upd_size, mem0_size, lo_size, bk_size, List.length_cons, List.length_nil]; omega)) only [RUN, footA, feetIn, resultsA, tupOf, frzL, slot, lay, icyL, fillA, repCells, kR, reduceIte, Nat.reduceEqDiff, Nat.reduceBEq, Nat.reduceLT, Nat.reduceAdd, Nat.reduceLeDiff, Nat.reduceSub, Nat.reduceMul, Int.reduceLT, Int.reduceLE, Int.reduceEq, Int.reduceAdd, Int.reduceSub, Int.reduceMul, decide_true, decide_false, Int.lt_irrefl, Nat.beq_eq, Option.map_some, Option.map_none, List.contains_cons, List.contains_nil, Bool.or_true, Bool.true_or, Bool.or_false, Bool.false_or, Bool.not_true, Bool.not_false, Bool.and_self, List.elem_nil, List.all_nil, List.all_cons, Bool.and_true, Bool.true_and, true_and, and_true, List.map_cons, List.map_nil, List.nil_append, List.cons_append, List.append_nil, Nat.zero_add, Nat.add_zero, List.drop_succ_cons, List.drop_zero, List.take_succ_cons, List.take_zero, List.getElem?_cons_zero, List.getElem?_cons_succ, List.length_cons, List.length_nil, *]
  | true =>
    rw [if_neg (by rw [hc]; exact Bool.noConfusion)] at k
    have hnew := fun M => new_run (fuel := fuel) (M := M) (d := d + 1) epoch
    simp only [hc, if_true] at hnew
    have lu := Mem.get_lt gu
    simp (maxSteps := 2000000) (disch := first | omega | assumption | (simp only [add_size, upd_size, mem0_size, List.length_cons, List.length_nil, wf_add, wf_upd, wf_mem0, lo_wf, bk_wf, lo_size, bk_size, List.all_cons, List.all_nil, one_sc_int, one_sc_bool, one_sc_string, one_sc_slice, one_sc_ptr, one_ptr, one_sl, one_pv, one_cp, one_fn, Bool.and_true, Nat.reduceAdd, *]; done) | (simp only [add_size, upd_size, mem0_size, lo_size, bk_size, List.length_cons, List.length_nil]; omega)) only [RUN, footA, feetIn, resultsA, tupOf, frzL, slot, lay, icyL, fillA, repCells, kR, reduceIte, Nat.reduceEqDiff, Nat.reduceBEq, Nat.reduceLT, Nat.reduceAdd, Nat.reduceLeDiff, Nat.reduceSub, Nat.reduceMul, Int.reduceLT, Int.reduceLE, Int.reduceEq, Int.reduceAdd, Int.reduceSub, Int.reduceMul, decide_true, decide_false, Int.lt_irrefl, Nat.beq_eq, Option.map_some, Option.map_none, List.contains_cons, List.contains_nil, Bool.or_true, Bool.true_or, Bool.or_false, Bool.false_or, Bool.not_true, Bool.not_false, Bool.and_self, List.elem_nil, List.all_nil, List.all_cons, Bool.and_true, Bool.true_and, true_and, and_true, List.map_cons, List.map_nil, List.nil_append, List.cons_append, List.append_nil, Nat.zero_add, Nat.add_zero, List.drop_succ_cons, List.drop_zero, List.take_succ_cons, List.take_zero, List.getElem?_cons_zero, List.getElem?_cons_succ, List.length_cons, List.length_nil, h0, h1, h2, o1, hnew, wf1, gu, g1, hS1.len]
    generalize hM2 : ((M1.add (.row false [I64 0, I64 0, NIL, I64 0, I64 0, BL false])).upd M1.size (.row false [I64 epoch, I64 1, NIL, I64 1, I64 0, BL false])).add (.row false [I64 epoch, I64 1, NIL, I64 1, I64 0, BL false]) = M2
    have wf2 : Wf M2 := by rw [← hM2]; simp only [wf_add, wf_upd]; exact wf1
    have s2 : M2.size = M1.size + 2 := by rw [← hM2]; rfl
    have q1 : M2.get 1 = some (.row false [I64 0, I64 0, NIL, I64 0, I64 0, BL false]) := by rw [← hM2]; simp (maxSteps := 2000000) (disch := first | omega | assumption | (simp only [add_size, upd_size, mem0_size, List.length_cons, List.length_nil, wf_add, wf_upd, wf_mem0, lo_wf, bk_wf, lo_size, bk_size, List.all_cons, List.all_nil, one_sc_int, one_sc_bool, one_sc_string, one_sc_slice, one_sc_ptr, one_ptr, one_sl, one_pv, one_cp, one_fn, Bool.and_true, Nat.reduceAdd, *]; done) | (simp only [add_size, upd_size, mem0_size, lo_size, bk_size, List.length_cons, List.length_nil]; omega)) only [RUN, footA, feetIn, resultsA, tupOf, frzL, slot, lay, icyL, fillA, repCells, kR, reduceIte, Nat.reduceEqDiff, Nat.reduceBEq, Nat.reduceLT, Nat.reduceAdd, Nat.reduceLeDiff, Nat.reduceSub, Nat.reduceMul, Int.reduceLT, Int.reduceLE, Int.reduceEq, Int.reduceAdd, Int.reduceSub, Int.reduceMul, decide_true, decide_false, Int.lt_irrefl, Nat.beq_eq, Option.map_some, Option.map_none, List.contains_cons, List.contains_nil, Bool.or_true, Bool.true_or, Bool.or_false, Bool.false_or, Bool.not_true, Bool.not_false, Bool.and_self, List.elem_nil, List.all_nil, List.all_cons, Bool.and_true, Bool.true_and, true_and, and_true, List.map_cons, List.map_nil, List.nil_append, List.cons_append, List.append_nil, Nat.zero_add, Nat.add_zero, List.drop_succ_cons, List.drop_zero, List.take_succ_cons, List.take_zero, List.getElem?_cons_zero, List.getElem?_cons_succ, List.length_cons, List.length_nil, wf1, g1]
    have qv : M2.get (M1.size + 1) = some (.row false [I64 epoch, I64 1, NIL, I64 1, I64 0, BL false]) := by rw [← hM2]; simp (maxSteps := 2000000) (disch := first | omega | assumption | (simp only [add_size, upd_size, mem0_size, List.length_cons, List.length_nil, wf_add, wf_upd, wf_mem0, lo_wf, bk_wf, lo_size, bk_size, List.all_cons, List.all_nil, one_sc_int, one_sc_bool, one_sc_string, one_sc_slice, one_sc_ptr, one_ptr, one_sl, one_pv, one_cp, one_fn, Bool.and_true, Nat.reduceAdd, *]; done) | (simp only [add_size, upd_size, mem0_size, lo_size, bk_size, List.length_cons, List.length_nil]; omega)) only [RUN, footA, feetIn, resultsA, tupOf, frzL, slot, lay, icyL, fillA, repCells, kR, reduceIte, Nat.reduceEqDiff, Nat.reduceBEq, Nat.reduceLT, Nat.reduceAdd, Nat.reduceLeDiff, Nat.reduceSub, Nat.reduceMul, Int.reduceLT, Int.reduceLE, Int.reduceEq, Int.reduceAdd, Int.reduceSub, Int.reduceMul, decide_true, decide_false, Int.lt_irrefl, Nat.beq_eq, Option.map_some, Option.map_none, List.contains_cons, List.contains_nil, Bool.or_true, Bool.true_or, Bool.or_false, Bool.false_or, Bool.not_true, Bool.not_false, Bool.and_self, List.elem_nil, List.all_nil, List.all_cons, Bool.and_true, Bool.true_and, true_and, and_true, List.map_cons, List.map_nil, List.nil_append, List.cons_append, List.append_nil, Nat.zero_add, Nat.add_zero, List.drop_succ_cons, List.drop_zero, List.take_succ_cons, List.take_zero, List.getElem?_cons_zero, List.getElem?_cons_succ, List.length_cons, List.length_nil, wf1]
    have hS2 : SlM M2 2 isItem o' e.out := hS1.keep fun id h => by
      have := hS1.lt id h
      rw [← hM2, get_add (by rw [wf_upd, wf_add]; exact wf1) _ _ (by rw [upd_size, add_size]; omega), get_upd_ne (by rw [wf_add]; exact wf1) _ _ _ (by omega), get_add wf1 _ _ (by omega)]
    have lo2 : ∀ id, rowOf o' = some id → id < M1.size := hS1.lt
    clear hM2 g1 gu hS1
    refine w_loop (I := fun n t N => ∃ (i : Nat) (a : AV), i ≤ e.out.length ∧ n = e.out.length - i ∧ nth undefA t 2 = a ∧ nth undefA t 6 = .ptr 1 0 ∧ nth undefA t 11 = .ptr (M1.size + 1) 0 ∧ nth undefA t 42 = o' ∧ nth undefA t 43 = I64 e.out.length ∧ nth undefA t 44 = I64 i ∧
      Wf N ∧ M1.size + 2 ≤ N.size ∧ N.get 1 = some (.row false [I64 0, I64 0, NIL, I64 0, I64 0, BL false]) ∧ N.get (M1.size + 1) = some (.row false [I64 epoch, I64 1, NIL, I64 1, I64 0, BL false]) ∧
      SlM N 2 isItem o' e.out ∧ Rd N 1 isBs a (ahead ++ (e.out.take i).map (·.body)) ∧ (∀ id, rowOf a = some id → M1.size + 2 ≤ id)) (n := e.out.length) (by omega) ?_ ?_
    · refine ⟨0, ah, by omega, by omega, ?_, ?_, ?_, ?_, ?_, ?_, wf2, by omega, q1, qv, hS2, .inl (by simpa using hah), fun id h => ?_⟩
      all_goals try simp (maxSteps := 2000000) (disch := first | omega | assumption | (simp only [add_size, upd_size, mem0_size, List.length_cons, List.length_nil, wf_add, wf_upd, wf_mem0, lo_wf, bk_wf, lo_size, bk_size, List.all_cons, List.all_nil, one_sc_int, one_sc_bool, one_sc_string, one_sc_slice, one_sc_ptr, one_ptr, one_sl, one_pv, one_cp, one_fn, Bool.and_true, Nat.reduceAdd, *]; done) | (simp only [add_size, upd_size, mem0_size, lo_size, bk_size, List.length_cons, List.length_nil]; omega)) only [RUN, footA, feetIn, resultsA, tupOf, frzL, slot, lay, icyL, fillA, repCells, kR, reduceIte, Nat.reduceEqDiff, Nat.reduceBEq, Nat.reduceLT, Nat.reduceAdd, Nat.reduceLeDiff, Nat.reduceSub, Nat.reduceMul, Int.reduceLT, Int.reduceLE, Int.reduceEq, Int.reduceAdd, Int.reduceSub, Int.reduceMul, decide_true, decide_false, Int.lt_irrefl, Nat.beq_eq, Option.map_some, Option.map_none, List.contains_cons, List.contains_nil, Bool.or_true, Bool.true_or, Bool.or_false, Bool.false_or, Bool.not_true, Bool.not_false, Bool.and_self, List.elem_nil, List.all_nil, List.all_cons, Bool.and_true, Bool.true_and, true_and, and_true, List.map_cons, List.map_nil, List.nil_append, List.cons_append, List.append_nil, Nat.zero_add, Nat.add_zero, List.drop_succ_cons, List.drop_zero, List.take_succ_cons, List.take_zero, List.getElem?_cons_zero, List.getElem?_cons_succ, List.length_cons, List.length_nil, h2]
      · rfl
      · rcases hah with ⟨rfl, _⟩ | ⟨_, _, rfl, _⟩ <;> cases h
    · rintro n t N hl ⟨i, a, hi, hn', t2, t6, t11, t42, t43, t44, wfN, sN, n1, nv, hSN, hRN, haK⟩
      simp only [ht] at hl ⊢
      clear h0 h1 h2 ht b q1 qv hS2 wf2 s2 M2
      by_cases hlt : i < e.out.length
      · have hc' : decide ((i : Int) < e.out.length) = true := by simp; omega
        have w1 : IntKind.i64.wrap ((i : Int) + 1) = ((i + 1 : Nat) : Int) := by rw [wrap_i64] <;> omega
        obtain ⟨r, p, hp, ⟨ab, rfl, hb⟩, hrl, hrows, hld⟩ := Rd.elem (.inr hSN) i hlt
        have hld0 := (hld N (fun _ _ => rfl)).1
        have ab1 := hb.one
        have RLo := hSN.rl
        have RLa := hRN.lt
        have lena := hRN.len
        have hlena : (ahead ++ (e.out.take i).map (·.body)).length ≤ 132 := by simp; omega
        -- memory behind the item's copy, and behind the literal
        let N2 := (N.add (.row false [I64 0, NIL])).upd N.size (.row false [I64 e.out[i].seq, ab])
        have wfN2 : Wf N2 := by simp only [N2, wf_upd, wf_add]; exact wfN
        have sN2 : N2.size = N.size + 1 := rfl
        have kN2 : ∀ j, j < N.size → N2.get j = N.get j := fun j hj => by
          simp only [N2]; rw [get_upd_ne (by rw [wf_add]; exact wfN) _ _ _ (by omega), get_add wfN _ _ hj]
        have rowa : ∀ id, rowOf a = some id → id < N.size := fun id h => by
          rcases hRN with h' | h'
          · rcases h' with ⟨rfl, _⟩ | ⟨_, _, rfl, _⟩ <;> cases h
          · exact h'.lt id h
        obtain ⟨a1, ha1, hF, hra1, hro1⟩ := (hRN.keep (N := N2) fun id h => kN2 id (rowa id h)).full (by omega)
        have wfN3 : Wf (N2.add (.row false [ab])) := wfN2.add _
        have gy : (N2.add (.row false [ab])).get (N.size + 1) = some (.row false [ab]) := get_add_new wfN2 _ _ (by omega) (by omega)
        have hF3 := hF.keep (N := N2.add (.row false [ab])) fun id h => get_add wfN2 _ _ (by have := rowa id (hro1 ▸ h); omega)
        obtain ⟨a2, cs, ha2, hS2, hr2⟩ := hF3.appO wfN3 (y := .sl (N.size + 1) 0 1 (some 1) 1) (l' := [e.out[i].body]) (new := [[ab]]) (bytes := 24) (cells_lit gy rfl) rfl (.cons ⟨ab, rfl, hb⟩ .nil) (by simp) (by simp only [List.flatten_cons, List.flatten_nil, List.append_nil, List.all_cons, List.all_nil, ab1, Bool.and_true]) (by omega) (by simp) (by simp only [List.length_cons, List.length_nil]; omega) (by simp only [List.length_cons, List.length_nil]; omega)
        simp only [N2] at ha1 ha2
        simp only [List.length_append, List.length_map, List.length_take] at ha1 lena
        simp (maxSteps := 2000000) (disch := first | omega | assumption | (simp only [add_size, upd_size, mem0_size, List.length_cons, List.length_nil, wf_add, wf_upd, wf_mem0, lo_wf, bk_wf, lo_size, bk_size, List.all_cons, List.all_nil, one_sc_int, one_sc_bool, one_sc_string, one_sc_slice, one_sc_ptr, one_ptr, one_sl, one_pv, one_cp, one_fn, Bool.and_true, Nat.reduceAdd, *]; done) | (simp only [add_size, upd_size, mem0_size, lo_size, bk_size, List.length_cons, List.length_nil]; omega)) only [RUN, footA, feetIn, resultsA, tupOf, frzL, slot, lay, icyL, fillA, repCells, kR, reduceIte, Nat.reduceEqDiff, Nat.reduceBEq, Nat.reduceLT, Nat.reduceAdd, Nat.reduceLeDiff, Nat.reduceSub, Nat.reduceMul, Int.reduceLT, Int.reduceLE, Int.reduceEq, Int.reduceAdd, Int.reduceSub, Int.reduceMul, decide_true, decide_false, Int.lt_irrefl, Nat.beq_eq, Option.map_some, Option.map_none, List.contains_cons, List.contains_nil, Bool.or_true, Bool.true_or, Bool.or_false, Bool.false_or, Bool.not_true, Bool.not_false, Bool.and_self, List.elem_nil, List.all_nil, List.all_cons, Bool.and_true, Bool.true_and, true_and, and_true, List.map_cons, List.map_nil, List.nil_append, List.cons_append, List.append_nil, Nat.zero_add, Nat.add_zero, List.drop_succ_cons, List.drop_zero, List.take_succ_cons, List.take_zero, List.getElem?_cons_zero, List.getElem?_cons_succ, List.length_cons, List.length_nil, t2, t6, t11, t42, t43, t44, hc', hp, hld0, hrows, ab1, hb.cells, wfN, lena, ha1, hra1, ha2, rows_lt RLo, rows_lt RLa]
        have htk : e.out.take (i + 1) = e.out.take i ++ [e.out[i]] := by rw [List.take_add_one, List.getElem?_eq_getElem hlt]; rfl
        refine ⟨hl, e.out.length - (i + 1), by omega, i + 1, a2, by omega, rfl, rfl, by rw [w1], by omega, n1, nv, hSN.keep fun id h => ?_, .inr ?_, fun id h => ?_⟩
        · have := hSN.lt id h
          rw [get_add wfN3 _ _ (by rw [add_size]; omega), get_add wfN2 _ _ (by omega), kN2 id this]
        · rw [htk, List.map_append, ← List.append_assoc]; exact hS2
        · rw [hr2] at h; cases h; simp only [add_size]; omega
      · have hc' : decide ((i : Int) < e.out.length) = false := by simp; omega
        have hil : i = e.out.length := by omega
        subst hil
        have lena := hRN.len
        simp (maxSteps := 2000000) (disch := first | omega | assumption | (simp only [add_size, upd_size, mem0_size, List.length_cons, List.length_nil, wf_add, wf_upd, wf_mem0, lo_wf, bk_wf, lo_size, bk_size, List.all_cons, List.all_nil, one_sc_int, one_sc_bool, one_sc_string, one_sc_slice, one_sc_ptr, one_ptr, one_sl, one_pv, one_cp, one_fn, Bool.and_true, Nat.reduceAdd, *]; done) | (simp only [add_size, upd_size, mem0_size, lo_size, bk_size, List.length_cons, List.length_nil]; omega)) only [RUN, footA, feetIn, resultsA, tupOf, frzL, slot, lay, icyL, fillA, repCells, kR, reduceIte, Nat.reduceEqDiff, Nat.reduceBEq, Nat.reduceLT, Nat.reduceAdd, Nat.reduceLeDiff, Nat.reduceSub, Nat.reduceMul, Int.reduceLT, Int.reduceLE, Int.reduceEq, Int.reduceAdd, Int.reduceSub, Int.reduceMul, decide_true, decide_false, Int.lt_irrefl, Nat.beq_eq, Option.map_some, Option.map_none, List.contains_cons, List.contains_nil, Bool.or_true, Bool.true_or, Bool.or_false, Bool.false_or, Bool.not_true, Bool.not_false, Bool.and_self, List.elem_nil, List.all_nil, List.all_cons, Bool.and_true, Bool.true_and, true_and, and_true, List.map_cons, List.map_nil, List.nil_append, List.cons_append, List.append_nil, Nat.zero_add, Nat.add_zero, List.drop_succ_cons, List.drop_zero, List.take_succ_cons, List.take_zero, List.getElem?_cons_zero, List.getElem?_cons_succ, List.length_cons, List.length_nil, t2, t6, t11, t42, t43, t44, hc', lena]
        simp only [List.take_length] at hRN lena
        generalize hall : ahead ++ e.out.map (·.body) = all at hRN lena k
        have hll : all.length ≤ 132 := by rw [← hall]; simp; omega
        have rowa : ∀ id, rowOf a = some id → id < N.size := fun id h => by
          rcases hRN with h' | h'
          · rcases h' with ⟨rfl, _⟩ | ⟨_, _, rfl, _⟩ <;> cases h
          · exact h'.lt id h
        clear hnew
        refine w_loop (I := fun n t N' => ∃ (i : Nat) (cur : End), i ≤ all.length ∧ n = all.length - i ∧ nth undefA t 6 = .ptr 1 0 ∧ nth undefA t 11 = .ptr (M1.size + 1) 0 ∧ nth undefA t 59 = a ∧ nth undefA t 60 = I64 all.length ∧ nth undefA t 61 = I64 i ∧
          Own N' (M1.size + 1) N.size cur ∧ N'.get 1 = some (.row false [I64 0, I64 0, NIL, I64 0, I64 0, BL false]) ∧ Rd N' 1 isBs a all ∧ puts (fresh epoch) all = puts cur (all.drop i) ∧ cur.out.length = i ∧ cur.nx = i + 1) (n := all.length) (by omega) ?_ ?_
        · refine ⟨0, fresh epoch, by omega, by omega, ?_, ?_, ?_, ?_, ?_, ⟨wfN, Nat.le_refl _, NIL, nv, .nil, fun id h => by cases h⟩, n1, hRN, by simp, rfl, rfl⟩
          all_goals simp (maxSteps := 2000000) (disch := first | omega | assumption | (simp only [add_size, upd_size, mem0_size, List.length_cons, List.length_nil, wf_add, wf_upd, wf_mem0, lo_wf, bk_wf, lo_size, bk_size, List.all_cons, List.all_nil, one_sc_int, one_sc_bool, one_sc_string, one_sc_slice, one_sc_ptr, one_ptr, one_sl, one_pv, one_cp, one_fn, Bool.and_true, Nat.reduceAdd, *]; done) | (simp only [add_size, upd_size, mem0_size, lo_size, bk_size, List.length_cons, List.length_nil]; omega)) only [RUN, footA, feetIn, resultsA, tupOf, frzL, slot, lay, icyL, fillA, repCells, kR, reduceIte, Nat.reduceEqDiff, Nat.reduceBEq, Nat.reduceLT, Nat.reduceAdd, Nat.reduceLeDiff, Nat.reduceSub, Nat.reduceMul, Int.reduceLT, Int.reduceLE, Int.reduceEq, Int.reduceAdd, Int.reduceSub, Int.reduceMul, decide_true, decide_false, Int.lt_irrefl, Nat.beq_eq, Option.map_some, Option.map_none, List.contains_cons, List.contains_nil, Bool.or_true, Bool.true_or, Bool.or_false, Bool.false_or, Bool.not_true, Bool.not_false, Bool.and_self, List.elem_nil, List.all_nil, List.all_cons, Bool.and_true, Bool.true_and, true_and, and_true, List.map_cons, List.map_nil, List.nil_append, List.cons_append, List.append_nil, Nat.zero_add, Nat.add_zero, List.drop_succ_cons, List.drop_zero, List.take_succ_cons, List.take_zero, List.getElem?_cons_zero, List.getElem?_cons_succ, List.length_cons, List.length_nil, t6, t11, hall]
          all_goals try rfl
          rw [← hall]; simp
        · clear t2 t6 t11 t42 t43 t44 hSN lena n1 nv
          rintro n t N' hl' ⟨i, cur, hi', hn'', t6, t11, t59, t60, t61, hOwn, n1, hR', hpu, hco, hcn⟩
          simp only [hl] at hl' ⊢
          obtain ⟨wfN', lN', oo, gv, hSo, hoK⟩ := hOwn
          have lv := Mem.get_lt gv
          have w1 : IntKind.i64.wrap ((i : Int) + 1) = ((i + 1 : Nat) : Int) := by rw [wrap_i64] <;> omega
          by_cases hlt : i < all.length
          · have hc'' : decide ((i : Int) < all.length) = true := by simp; omega
            obtain ⟨r, p, hp, ⟨ab, rfl, hb⟩, hrl, hrows, hld⟩ := hR'.elem i hlt
            have hld1 := (hld N' (fun _ _ => rfl)).2 ab rfl
            have RLa := hR'.lt
            have hdr : all.drop i = all[i] :: all.drop (i + 1) := List.drop_eq_getElem_cons hlt
            rw [hdr] at hpu
            simp (maxSteps := 2000000) (disch := first | omega | assumption | (simp only [add_size, upd_size, mem0_size, List.length_cons, List.length_nil, wf_add, wf_upd, wf_mem0, lo_wf, bk_wf, lo_size, bk_size, List.all_cons, List.all_nil, one_sc_int, one_sc_bool, one_sc_string, one_sc_slice, one_sc_ptr, one_ptr, one_sl, one_pv, one_cp, one_fn, Bool.and_true, Nat.reduceAdd, *]; done) | (simp only [add_size, upd_size, mem0_size, lo_size, bk_size, List.length_cons, List.length_nil]; omega)) only [RUN, footA, feetIn, resultsA, tupOf, frzL, slot, lay, icyL, fillA, repCells, kR, reduceIte, Nat.reduceEqDiff, Nat.reduceBEq, Nat.reduceLT, Nat.reduceAdd, Nat.reduceLeDiff, Nat.reduceSub, Nat.reduceMul, Int.reduceLT, Int.reduceLE, Int.reduceEq, Int.reduceAdd, Int.reduceSub, Int.reduceMul, decide_true, decide_false, Int.lt_irrefl, Nat.beq_eq, Option.map_some, Option.map_none, List.contains_cons, List.contains_nil, Bool.or_true, Bool.true_or, Bool.or_false, Bool.false_or, Bool.not_true, Bool.not_false, Bool.and_self, List.elem_nil, List.all_nil, List.all_cons, Bool.and_true, Bool.true_and, true_and, and_true, List.map_cons, List.map_nil, List.nil_append, List.cons_append, List.append_nil, Nat.zero_add, Nat.add_zero, List.drop_succ_cons, List.drop_zero, List.take_succ_cons, List.take_zero, List.getElem?_cons_zero, List.getElem?_cons_succ, List.length_cons, List.length_nil, t6, t11, t59, t60, t61, hc'', hp, hld1, hrows, rows_lt RLa]
            refine put_run ⟨wfN', lN', oo, gv, hSo, hoK⟩ hb (by omega) (by omega) (by omega) ?_ ?_ ?_
            · intro h9
              have k' : Q (.tup [ZERO, I64 4]) M := by
                rw [hpu, puts, if_pos h9] at k; exact k
              simp (maxSteps := 2000000) (disch := first | omega | assumption | (simp only [add_size, upd_size, mem0_size, List.length_cons, List.length_nil, wf_add, wf_upd, wf_mem0, lo_wf, bk_wf, lo_size, bk_size, List.all_cons, List.all_nil, one_sc_int, one_sc_bool, one_sc_string, one_sc_slice, one_sc_ptr, one_ptr, one_sl, one_pv, one_cp, one_fn, Bool.and_true, Nat.reduceAdd, *]; done) | (simp only [add_size, upd_size, mem0_size, lo_size, bk_size, List.length_cons, List.length_nil]; omega)) only [RUN, footA, feetIn, resultsA, tupOf, frzL, slot, lay, icyL, fillA, repCells, kR, reduceIte, Nat.reduceEqDiff, Nat.reduceBEq, Nat.reduceLT, Nat.reduceAdd, Nat.reduceLeDiff, Nat.reduceSub, Nat.reduceMul, Int.reduceLT, Int.reduceLE, Int.reduceEq, Int.reduceAdd, Int.reduceSub, Int.reduceMul, decide_true, decide_false, Int.lt_irrefl, Nat.beq_eq, Option.map_some, Option.map_none, List.contains_cons, List.contains_nil, Bool.or_true, Bool.true_or, Bool.or_false, Bool.false_or, Bool.not_true, Bool.not_false, Bool.and_self, List.elem_nil, List.all_nil, List.all_cons, Bool.and_true, Bool.true_and, true_and, and_true, List.map_cons, List.map_nil, List.nil_append, List.cons_append, List.append_nil, Nat.zero_add, Nat.add_zero, List.drop_succ_cons, List.drop_zero, List.take_succ_cons, List.take_zero, List.getElem?_cons_zero, List.getElem?_cons_succ, List.length_cons, List.length_nil, t6, t11, t59, t60, t61, n1, wfN', k']
            · intro h9 h8
              have k' : Q (.tup [ZERO, I64 9]) M := by
                rw [hpu, puts, if_neg (by omega), if_pos h8] at k; exact k
              simp (maxSteps := 2000000) (disch := first | omega | assumption | (simp only [add_size, upd_size, mem0_size, List.length_cons, List.length_nil, wf_add, wf_upd, wf_mem0, lo_wf, bk_wf, lo_size, bk_size, List.all_cons, List.all_nil, one_sc_int, one_sc_bool, one_sc_string, one_sc_slice, one_sc_ptr, one_ptr, one_sl, one_pv, one_cp, one_fn, Bool.and_true, Nat.reduceAdd, *]; done) | (simp only [add_size, upd_size, mem0_size, lo_size, bk_size, List.length_cons, List.length_nil]; omega)) only [RUN, footA, feetIn, resultsA, tupOf, frzL, slot, lay, icyL, fillA, repCells, kR, reduceIte, Nat.reduceEqDiff, Nat.reduceBEq, Nat.reduceLT, Nat.reduceAdd, Nat.reduceLeDiff, Nat.reduceSub, Nat.reduceMul, Int.reduceLT, Int.reduceLE, Int.reduceEq, Int.reduceAdd, Int.reduceSub, Int.reduceMul, decide_true, decide_false, Int.lt_irrefl, Nat.beq_eq, Option.map_some, Option.map_none, List.contains_cons, List.contains_nil, Bool.or_true, Bool.true_or, Bool.or_false, Bool.false_or, Bool.not_true, Bool.not_false, Bool.and_self, List.elem_nil, List.all_nil, List.all_cons, Bool.and_true, Bool.true_and, true_and, and_true, List.map_cons, List.map_nil, List.nil_append, List.cons_append, List.append_nil, Nat.zero_add, Nat.add_zero, List.drop_succ_cons, List.drop_zero, List.take_succ_cons, List.take_zero, List.getElem?_cons_zero, List.getElem?_cons_succ, List.length_cons, List.length_nil, t6, t11, t59, t60, t61, n1, wfN', k']
            · intro h9 h8 h7 M' hO' sM' kp'
              simp (maxSteps := 2000000) (disch := first | omega | assumption | (simp only [add_size, upd_size, mem0_size, List.length_cons, List.length_nil, wf_add, wf_upd, wf_mem0, lo_wf, bk_wf, lo_size, bk_size, List.all_cons, List.all_nil, one_sc_int, one_sc_bool, one_sc_string, one_sc_slice, one_sc_ptr, one_ptr, one_sl, one_pv, one_cp, one_fn, Bool.and_true, Nat.reduceAdd, *]; done) | (simp only [add_size, upd_size, mem0_size, lo_size, bk_size, List.length_cons, List.length_nil]; omega)) only [RUN, footA, feetIn, resultsA, tupOf, frzL, slot, lay, icyL, fillA, repCells, kR, reduceIte, Nat.reduceEqDiff, Nat.reduceBEq, Nat.reduceLT, Nat.reduceAdd, Nat.reduceLeDiff, Nat.reduceSub, Nat.reduceMul, Int.reduceLT, Int.reduceLE, Int.reduceEq, Int.reduceAdd, Int.reduceSub, Int.reduceMul, decide_true, decide_false, Int.lt_irrefl, Nat.beq_eq, Option.map_some, Option.map_none, List.contains_cons, List.contains_nil, Bool.or_true, Bool.true_or, Bool.or_false, Bool.false_or, Bool.not_true, Bool.not_false, Bool.and_self, List.elem_nil, List.all_nil, List.all_cons, Bool.and_true, Bool.true_and, true_and, and_true, List.map_cons, List.map_nil, List.nil_append, List.cons_append, List.append_nil, Nat.zero_add, Nat.add_zero, List.drop_succ_cons, List.drop_zero, List.take_succ_cons, List.take_zero, List.getElem?_cons_zero, List.getElem?_cons_succ, List.length_cons, List.length_nil, t6, t11, t59, t60, t61, n1, hO'.wf, w1]
              refine ⟨hl', all.length - (i + 1), by omega, i + 1, _, by omega, rfl, rfl, hO', ?_, hR'.keep fun id h => ?_, ?_, by simp [hco], by simp [hcn]⟩
              · rw [kp' 1 (by omega) (by omega), n1]
              · have := rowa id h
                have := haK id h
                exact kp' id (by omega) (by omega)
              · rw [hpu, puts, if_neg (by omega), if_neg (by omega)]
          · have hc'' : decide ((i : Int) < all.length) = false := by simp; omega
            have hil : i = all.length := by omega
            rw [hil, List.drop_length, puts] at hpu
            rw [hpu] at k
            have oo1 := hSo.one
            obtain ⟨ro, hfo, hSr⟩ := (hSo.keep (N := N'.upd 1 (.row false [I64 cur.ep, I64 cur.nx, oo, I64 cur.want, I64 cur.since, BL cur.owe])) fun id h => get_upd_ne wfN' _ _ _ (by have := hoK id h; omega)).frz cel_Item (k := 11) (by omega)
            have k' := k _ ⟨ro, rfl, hSr⟩
            simp (maxSteps := 2000000) (disch := first | omega | assumption | (simp only [add_size, upd_size, mem0_size, List.length_cons, List.length_nil, wf_add, wf_upd, wf_mem0, lo_wf, bk_wf, lo_size, bk_size, List.all_cons, List.all_nil, one_sc_int, one_sc_bool, one_sc_string, one_sc_slice, one_sc_ptr, one_ptr, one_sl, one_pv, one_cp, one_fn, Bool.and_true, Nat.reduceAdd, *]; done) | (simp only [add_size, upd_size, mem0_size, lo_size, bk_size, List.length_cons, List.length_nil]; omega)) only [RUN, footA, feetIn, resultsA, tupOf, frzL, slot, lay, icyL, fillA, repCells, kR, reduceIte, Nat.reduceEqDiff, Nat.reduceBEq, Nat.reduceLT, Nat.reduceAdd, Nat.reduceLeDiff, Nat.reduceSub, Nat.reduceMul, Int.reduceLT, Int.reduceLE, Int.reduceEq, Int.reduceAdd, Int.reduceSub, Int.reduceMul, decide_true, decide_false, Int.lt_irrefl, Nat.beq_eq, Option.map_some, Option.map_none, List.contains_cons, List.contains_nil, Bool.or_true, Bool.true_or, Bool.or_false, Bool.false_or, Bool.not_true, Bool.not_false, Bool.and_self, List.elem_nil, List.all_nil, List.all_cons, Bool.and_true, Bool.true_and, true_and, and_true, List.map_cons, List.map_nil, List.nil_append, List.cons_append, List.append_nil, Nat.zero_add, Nat.add_zero, List.drop_succ_cons, List.drop_zero, List.take_succ_cons, List.take_zero, List.getElem?_cons_zero, List.getElem?_cons_succ, List.length_cons, List.length_nil, t6, t11, t59, t60, t61, hc'', gv, wfN', n1, oo1, hfo, k']
end Go.Proofs.Ytbemomagabjbnaa
