/-
  link: Wrap.
-/
import Derived.Test.YtbemomagabjbnaaFrQ
set_option linter.unusedSimpArgs false
set_option linter.unusedVariables false
set_option maxRecDepth 100000
namespace Go.Proofs.Ytbemomagabjbnaa
open Go Go.Ax
variable {fuel : Nat} {M : Mem} {Q : AV → Mem → Prop} {d : Nat}

/-- What is in the frame of a packet. -/
def Pk.bytes (p : Pk) : List UInt8 := wr [(p.ep.toNat, 4), (p.seq.toNat, 3), (p.ack.toNat, 3)] ++ p.body
def Pk.wrap (p : Pk) : List UInt8 × Int := if p.may then (frameL p.bytes, 0) else ([], 8)
theorem Pk.may_iff (p : Pk) : p.may = true ↔ (0 ≤ p.ep ∧ p.ep < 2147483648) ∧ (0 ≤ p.seq ∧ p.seq < 16777216) ∧ (0 ≤ p.ack ∧ p.ack < 16777216) ∧ p.body.length ≤ 900 ∧ (p.seq = 0 → p.body.length = 0) := by
  unfold Pk.may from'
  simp only [Bool.and_eq_true, decide_eq_true_eq, Bool.not_eq_true', Bool.and_eq_false_iff, decide_eq_false_iff_not]
  constructor
  · rintro ⟨⟨⟨⟨⟨h1, h2⟩, h3, h4⟩, h5, h6⟩, h7⟩, h8⟩
    exact ⟨⟨h1, h2⟩, ⟨h3, h4⟩, ⟨h5, h6⟩, h7, fun h => by omega⟩
  · rintro ⟨⟨h1, h2⟩, ⟨h3, h4⟩, ⟨h5, h6⟩, h7, h8⟩
    refine ⟨⟨⟨⟨⟨h1, h2⟩, h3, h4⟩, h5, h6⟩, h7⟩, ?_⟩
    by_cases h : p.seq = 0
    · right; have := h8 h; omega
    · exact .inl h
theorem Pk.bytes_len (p : Pk) : p.bytes.length = 10 + p.body.length := by
  unfold Pk.bytes wr
  simp [be_length]
  omega

set_option maxHeartbeats 8000000 in
theorem wrap_run {a : AV} {p : Pk} (h : IsPk a p) (hl : p.body.length ≤ 1000000000) (hf : 5000 < fuel) : ∃ r, Bs r p.wrap.1 ∧ ∀ M, callN Try.prog (fsT tbl) fuel (d + 5) (.fn 15) [a] M = some (.tup [r, I64 p.wrap.2], M) := by
  have ic := h.icy
  have hck := fun M => pk_check (fuel := fuel) (d := d + 2) h hl M
  have hmi := p.may_iff
  obtain ⟨o, rfl, hb⟩ := h
  have hlen := hb.len
  have ro := hb.rows mem0
  have o1 := hb.one
  cases hm : p.may with
  | false =>
    rw [hm] at hck
    replace hck : ∀ M, callN Try.prog (fsT tbl) fuel (d + 4) (.fn 20) [.agg [I64 p.ep, I64 p.seq, I64 p.ack, o]] M = some (I64 8, M) := hck
    have hw : p.wrap = ([], 8) := by unfold Pk.wrap; rw [hm]; rfl
    rw [hw]
    refine ⟨NIL, .inl ⟨rfl, rfl⟩, fun M => ?_⟩
    have q1 : decide ((8 : Int) = 0) = false := rfl
    apply w3_eq
    refine call_gc tf15 rfl (ic M) (by simp [a15]) fun b ht hx => ?_
    have h0 := hx 0 _ rfl
    clear hx
    simp only [a15, c15] at ht ⊢
    simp (maxSteps := 2000000) (disch := first | omega | assumption | (simp only [add_size, upd_size, mem0_size, List.length_cons, List.length_nil, wf_add, wf_upd, wf_mem0, lo_wf, bk_wf, lo_size, bk_size, List.all_cons, List.all_nil, one_sc_int, one_sc_bool, one_sc_string, one_sc_slice, one_sc_ptr, one_ptr, one_sl, one_pv, one_cp, one_fn, Bool.and_true, Nat.reduceAdd, *]; done) | (simp only [add_size, upd_size, mem0_size, lo_size, bk_size, List.length_cons, List.length_nil]; omega)) only [RUN, footA, feetIn, resultsA, tupOf, frzL, slot, lay, icyL, fillA, repCells, kR, reduceIte, Nat.reduceEqDiff, Nat.reduceBEq, Nat.reduceLT, Nat.reduceAdd, Nat.reduceLeDiff, Nat.reduceSub, Nat.reduceMul, Int.reduceLT, Int.reduceLE, Int.reduceEq, Int.reduceAdd, Int.reduceSub, Int.reduceMul, decide_true, decide_false, Int.lt_irrefl, Nat.beq_eq, Option.map_some, Option.map_none, List.contains_cons, List.contains_nil, Bool.or_true, Bool.true_or, Bool.or_false, Bool.false_or, Bool.not_true, Bool.not_false, Bool.and_self, List.elem_nil, List.all_nil, List.all_cons, Bool.and_true, Bool.true_and, true_and, and_true, List.map_cons, List.map_nil, List.nil_append, List.cons_append, List.append_nil, Nat.zero_add, Nat.add_zero, List.drop_succ_cons, List.drop_zero, List.take_succ_cons, List.take_zero, List.getElem?_cons_zero, List.getElem?_cons_succ, List.length_cons, List.length_nil, h0, hck, ro, o1, hb.cells, q1]
  | true =>
    rw [hm] at hck
    replace hck : ∀ M, callN Try.prog (fsT tbl) fuel (d + 4) (.fn 20) [.agg [I64 p.ep, I64 p.seq, I64 p.ack, o]] M = some (I64 0, M) := hck
    have hw : p.wrap = (frameL p.bytes, 0) := by unfold Pk.wrap; rw [hm]; rfl
    rw [hw]
    have hmm := hmi.1 hm
    have hbl := p.bytes_len
    have q1 : decide ((0 : Int) = 0) = true := rfl
    have key : W3 (callN Try.prog (fsT tbl) fuel (d + 5) (.fn 15) [.agg [I64 p.ep, I64 p.seq, I64 p.ack, o]] mem0) (fun r' _ => ∃ r, Bs r (frameL p.bytes) ∧ r' = .tup [r, I64 0]) := by
      refine call_gc tf15 rfl (ic mem0) (by simp [a15]) fun b ht hx => ?_
      have h0 := hx 0 _ rfl
      clear hx
      simp only [a15, c15] at ht ⊢
      simp (maxSteps := 2000000) (disch := first | omega | assumption | (simp only [add_size, upd_size, mem0_size, List.length_cons, List.length_nil, wf_add, wf_upd, wf_mem0, lo_wf, bk_wf, lo_size, bk_size, List.all_cons, List.all_nil, one_sc_int, one_sc_bool, one_sc_string, one_sc_slice, one_sc_ptr, one_ptr, one_sl, one_pv, one_cp, one_fn, Bool.and_true, Nat.reduceAdd, *]; done) | (simp only [add_size, upd_size, mem0_size, lo_size, bk_size, List.length_cons, List.length_nil]; omega)) only [RUN, footA, feetIn, resultsA, tupOf, frzL, slot, lay, icyL, fillA, repCells, kR, reduceIte, Nat.reduceEqDiff, Nat.reduceBEq, Nat.reduceLT, Nat.reduceAdd, Nat.reduceLeDiff, Nat.reduceSub, Nat.reduceMul, Int.reduceLT, Int.reduceLE, Int.reduceEq, Int.reduceAdd, Int.reduceSub, Int.reduceMul, decide_true, decide_false, Int.lt_irrefl, Nat.beq_eq, Option.map_some, Option.map_none, List.contains_cons, List.contains_nil, Bool.or_true, Bool.true_or, Bool.or_false, Bool.false_or, Bool.not_true, Bool.not_false, Bool.and_self, List.elem_nil, List.all_nil, List.all_cons, Bool.and_true, Bool.true_and, true_and, and_true, List.map_cons, List.map_nil, List.nil_append, List.cons_append, List.append_nil, Nat.zero_add, Nat.add_zero, List.drop_succ_cons, List.drop_zero, List.take_succ_cons, List.take_zero, List.getElem?_cons_zero, List.getElem?_cons_succ, List.length_cons, List.length_nil, h0, hck, ro, o1, hb.cells, q1]
      obtain ⟨e, he⟩ : ∃ e : Nat, p.ep = e := ⟨p.ep.toNat, by omega⟩
      obtain ⟨s, hs⟩ : ∃ e : Nat, p.seq = e := ⟨p.seq.toNat, by omega⟩
      obtain ⟨k, hk⟩ : ∃ e : Nat, p.ack = e := ⟨p.ack.toNat, by omega⟩
      have hby : wr [(e, 4), (s, 3), (k, 3)] ++ p.body = p.bytes := by unfold Pk.bytes; rw [he, hs, hk]; rfl
      rw [he, hs, hk] at hmm
      rw [he, hs, hk]
      have wX0 : Wf (mem0.add (.row false [I64 e, I64 s, I64 k, o])) := Wf.mem0.add _
      have gX0 : ((mem0.add (.row false [I64 e, I64 s, I64 k, o])).add (.row false [I64 e, I64 4, I64 s, I64 3, I64 k, I64 3])).get 0 = some (.row false [I64 e, I64 s, I64 k, o]) := by
        rw [get_add wX0 _ _ (by rw [add_size]; omega)]
        exact get_add_new Wf.mem0 _ _ (Nat.le_refl _) (by rw [mem0_size]; omega)
      have gX1 : ((mem0.add (.row false [I64 e, I64 s, I64 k, o])).add (.row false [I64 e, I64 4, I64 s, I64 3, I64 k, I64 3])).get 1 = some (.row false [I64 e, I64 4, I64 s, I64 3, I64 k, I64 3]) := get_add_new wX0 _ _ (by rw [add_size, mem0_size]; omega) (by rw [add_size, mem0_size]; omega)
      have sX : ((mem0.add (.row false [I64 e, I64 s, I64 k, o])).add (.row false [I64 e, I64 4, I64 s, I64 3, I64 k, I64 3])).size = 2 := by rw [add_size, add_size, mem0_size]
      have wX : Wf ((mem0.add (.row false [I64 e, I64 s, I64 k, o])).add (.row false [I64 e, I64 4, I64 s, I64 3, I64 k, I64 3])) := wX0.add _
      generalize (mem0.add (.row false [I64 e, I64 s, I64 k, o])).add (.row false [I64 e, I64 4, I64 s, I64 3, I64 k, I64 3]) = X at *
      refine written_run (d := d + 3) (ps := [(e, 4), (s, 3), (k, 3)]) (.inr (.inr ⟨1, [[I64 e, I64 4], [I64 s, I64 3], [I64 k, I64 3]], some 3, rfl, .inr rfl, by rw [lo_get]; exact gX1, .cons rfl (.cons rfl (.cons rfl .nil)), by simp⟩)) (by simp) (by simp; omega) (by omega) (by rw [lo_wf]; exact wX) (by rw [lo_size]; exact Nat.le_refl _) fun o2 N kN hS2 hro2 => ?_
      have nd : N.dirty = false := kN.di
      have g0 : N.get 0 = some (.row false [I64 e, I64 s, I64 k, o]) := by rw [kN.get 0 (by rw [lo_size]; omega), lo_get]; exact gX0
      have hl2 := wr_len [(e, 4), (s, 3), (k, 3)] (by simp)
      obtain ⟨rows, ho1, ho2, ho3, ho4⟩ := hb.open
      have hS3 : SlM (X.bk N) 1 isU8 o2 (wr [(e, 4), (s, 3), (k, 3)]) := hS2.keep fun _ _ => rfl
      obtain ⟨a5, M5, e5, s5, wf5, _⟩ := hS3.appO (by rw [bk_wf]; exact kN.wf) (ho1 _) ho2 ho3 ho4 (cel_U8.all ho3) (by omega) (bytes := 1) (by simp at hl2; omega) (by simp at hl2; omega)
      rw [hby] at s5
      have RLo := rows_lt hS2.rl (Nat.le_refl _)
      have szN : 2 ≤ N.size := by have := kN.le; rw [lo_size, sX] at this; exact this
      have ap1 : apart2 .pure (.acc [] [], 1, 2) = true := rfl
      have ap2 : apart2 .pure (.quiet, X.size, N.size) = true := rfl
      have ap3 : apart2 (.acc [0] []) (.acc [] [], 1, 2) = true := rfl
      have ap4 : apart2 (.acc [0] []) (.quiet, X.size, N.size) = true := by rw [sX]; rfl
      have s5' : SlM M5.lo 1 isU8 a5 p.bytes := s5.keep fun _ _ => rfl
      obtain ⟨a6, N6, hi6, hS6, _⟩ := s5'.hand (by rw [lo_wf]; exact wf5) celI_U8 (k := 12) (by omega)
      obtain ⟨r7, hr7, hse⟩ := seal_run (fuel := fuel) (d := d) hS6 (by omega) (by omega)
      rw [if_pos (by omega)] at hr7 hse
      have hse7 := call_own tf32 rfl (hse mem0) (M3 := mem0) (icyL_one (hS6.icy mem0 12 (by omega))) (icyL_one hi6)
      have rr : rowsOf r7 = [] := hr7.rows mem0
      have fr := fun M => hr7.frz M 0 12 (by omega)
      simp (maxSteps := 2000000) (disch := first | omega | assumption | (simp only [add_size, upd_size, mem0_size, List.length_cons, List.length_nil, wf_add, wf_upd, wf_mem0, lo_wf, bk_wf, lo_size, bk_size, List.all_cons, List.all_nil, one_sc_int, one_sc_bool, one_sc_string, one_sc_slice, one_sc_ptr, one_ptr, one_sl, one_pv, one_cp, one_fn, Bool.and_true, Nat.reduceAdd, *]; done) | (simp only [add_size, upd_size, mem0_size, lo_size, bk_size, List.length_cons, List.length_nil]; omega)) only [RUN, footA, feetIn, resultsA, tupOf, frzL, slot, lay, icyL, fillA, repCells, kR, reduceIte, Nat.reduceEqDiff, Nat.reduceBEq, Nat.reduceLT, Nat.reduceAdd, Nat.reduceLeDiff, Nat.reduceSub, Nat.reduceMul, Int.reduceLT, Int.reduceLE, Int.reduceEq, Int.reduceAdd, Int.reduceSub, Int.reduceMul, decide_true, decide_false, Int.lt_irrefl, Nat.beq_eq, Option.map_some, Option.map_none, List.contains_cons, List.contains_nil, Bool.or_true, Bool.true_or, Bool.or_false, Bool.false_or, Bool.not_true, Bool.not_false, Bool.and_self, List.elem_nil, List.all_nil, List.all_cons, Bool.and_true, Bool.true_and, true_and, and_true, List.map_cons, List.map_nil, List.nil_append, List.cons_append, List.append_nil, Nat.zero_add, Nat.add_zero, List.drop_succ_cons, List.drop_zero, List.take_succ_cons, List.take_zero, List.getElem?_cons_zero, List.getElem?_cons_succ, List.length_cons, List.length_nil, nd, g0, ro, e5, RLo, ap1, ap2, ap3, ap4, hse7, rr, fr]
      exact ⟨r7, hr7, rfl⟩
    obtain ⟨r', N, hk, r, hr, rfl⟩ := key
    exact ⟨r, hr, fun M => call_own tf15 rfl hk (ic mem0) (ic M)⟩
end Go.Proofs.Ytbemomagabjbnaa
