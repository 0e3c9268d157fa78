/-
  The law's round.
-/
import Derived.Test.YtbemomagabjbnaaLoW
set_option linter.unusedSimpArgs false
set_option linter.unusedVariables false
set_option maxRecDepth 100000
namespace Go.Proofs.Ytbemomagabjbnaa
open Go Go.Ax
variable {fuel : Nat} {M : Mem} {Q : AV → Mem → Prop} {d : Nat} {ep : Int} {k : Nat} {x : Pair}

theorem Inv.okA (h : Inv ep k x) (h0 : 0 ≤ ep) (h1 : ep < 2147483648) (hp : x.put.length ≤ 1000) (hu : x.up.length ≤ 1000) (hd : x.down.length ≤ 1000) : okA x := by
  have htp := h.tp
  refine ⟨fun p hm => ⟨?_, ?_⟩, fun p hm => ⟨?_, ?_, ?_⟩, h.ok, by omega, by omega, by omega, by omega⟩
  · have ha := h.amay h0 h1 hp
    have hpm := h.pkmay h0 h1 hp (.inr hm)
    obtain ⟨e1, e2, e3, j, e4, e5⟩ := h.down p hm
    unfold End.take
    rw [ha, hpm, if_pos (show (true && true) = true from rfl), if_neg (by rw [e1, h.aep, e2, h.awant]; simp), if_pos (by rw [e2, h.awant]; simp)]
  · obtain ⟨e1, e2, e3, j, e4, e5⟩ := h.down p hm
    rw [e3]; simp
  all_goals
    have hb := h.bmay h0 h1 hp
    have hpm := h.pkmay h0 h1 hp (.inl hm)
    obtain ⟨e1, e2, s, b, e3, e4, e5⟩ := h.up p hm
    have hs := (List.getElem?_eq_some_iff.1 e3).1
    have hne : ¬ (p.ep ≠ x.b.ep ∨ (p.seq = x.b.want ∧ 16777216 ≤ x.b.want + 1)) := by
      rw [e1, h.bep, h.bwant]
      rintro (hh | ⟨_, hh⟩)
      · exact hh rfl
      · omega
  · unfold End.take
    rw [hb, hpm, if_pos (show (true && true) = true from rfl), if_neg hne]
    split <;> rfl
  · unfold End.take
    rw [hb, hpm, if_pos (show (true && true) = true from rfl), if_neg hne]
    split
    · intro hh; cases hh
    · intro _; rw [e5]; rfl
  · rw [e5]; simp
theorem Inv.putOK (h : Inv ep k x) (h0 : 0 ≤ ep) (h1 : ep < 2147483648) (hp : x.put.length ≤ 1000) (b : UInt8) : (x.a.put [b]).2 = 0 ∨ (x.a.put [b]).2 = 9 := by
  unfold End.put
  rw [if_pos (h.amay h0 h1 hp), if_neg (by simp)]
  split
  · exact .inr rfl
  · exact .inl rfl
set_option maxHeartbeats 8000000 in
theorem doesE {cx : List AV} {x : Pair} (hx : PairC cx x) (kind : UInt8) (hk : 10 < kind.toNat) (n : Int) : ∀ M, callN Try.prog (fsT tbl) fuel (d + 7) (.fn 13) [.agg cx, .agg [U8 kind.toNat, I64 n]] M = some (.agg cx, M) := by
  have ic : ∀ M, icyL (icy 12) M [.agg cx, .agg [U8 kind.toNat, I64 n]] = some ([.agg cx, .agg [U8 kind.toNat, I64 n]], M) := fun M => by
    simp (maxSteps := 2000000) (disch := first | omega | assumption | (simp only [DS, Nat.reduceAdd, *]; done) | (simp only [DZ]; omega)) only [RUN, RU, footA, feetIn, resultsA, tupOf, frzL, slot, lay, icyL, fillA, repCells, kR, reduceIte, Nat.reduceEqDiff, Nat.reduceBEq, Nat.reduceLT, Nat.reduceAdd, Nat.reduceLeDiff, Nat.reduceSub, Nat.reduceMul, Int.reduceLT, Int.reduceLE, Int.reduceEq, Int.reduceAdd, Int.reduceSub, Int.reduceMul, hx.icl]
  have y3 := hx.len
  have y4 := hx.one
  have z0 : decide ((kind.toNat : Int) = 0) = false := decide_eq_false (by omega)
  have z1 : decide ((kind.toNat : Int) = 1) = false := decide_eq_false (by omega)
  have z2 : decide ((kind.toNat : Int) = 2) = false := decide_eq_false (by omega)
  have z3 : decide ((kind.toNat : Int) = 3) = false := decide_eq_false (by omega)
  have z4 : decide ((kind.toNat : Int) = 4) = false := decide_eq_false (by omega)
  have z5 : decide ((kind.toNat : Int) = 5) = false := decide_eq_false (by omega)
  have z6 : decide ((kind.toNat : Int) = 6) = false := decide_eq_false (by omega)
  have z7 : decide ((kind.toNat : Int) = 7) = false := decide_eq_false (by omega)
  have z8 : decide ((kind.toNat : Int) = 8) = false := decide_eq_false (by omega)
  have z9 : decide ((kind.toNat : Int) = 9) = false := decide_eq_false (by omega)
  have z10 : decide ((kind.toNat : Int) = 10) = false := decide_eq_false (by omega)
  have key : W3 (callN Try.prog (fsT tbl) fuel (d + 7) (.fn 13) [.agg cx, .agg [U8 kind.toNat, I64 n]] mem0) (fun r' _ => r' = .agg cx) := by
    refine call_gc tf13 rfl (ic mem0) (by simp [a13]) fun b ht hx' => ?_
    have h0 := hx' 0 _ rfl
    have h1 := hx' 1 _ rfl
    clear hx'
    simp only [a13, c13] at ht ⊢
    simp (maxSteps := 2000000) (disch := first | omega | assumption | (simp only [DS, Nat.reduceAdd, *]; done) | (simp only [DZ]; omega)) only [RUN, RU, footA, feetIn, resultsA, tupOf, frzL, slot, lay, icyL, fillA, repCells, kR, reduceIte, Nat.reduceEqDiff, Nat.reduceBEq, Nat.reduceLT, Nat.reduceAdd, Nat.reduceLeDiff, Nat.reduceSub, Nat.reduceMul, Int.reduceLT, Int.reduceLE, Int.reduceEq, Int.reduceAdd, Int.reduceSub, Int.reduceMul, h0, h1, hx.len, hx.one, hx.lay, hx.part, hx.icl, hx.frz, z0, z1, z2, z3, z4, z5, z6, z7, z8, z9, z10]
  obtain ⟨r', N, hk, rfl⟩ := key
  exact fun M => call_own tf13 rfl hk (ic mem0) (ic M)
theorem does_run {cx : List AV} (hx : PairC cx x) (h : okA x) (hP : ∀ b, (x.a.put [b]).2 = 0 ∨ (x.a.put [b]).2 = 9) (kind : UInt8) (n : Int) (hf : 3000 < fuel) : ∃ r, IsPair r (x.does kind n) ∧ ∀ M, callN Try.prog (fsT tbl) fuel (d + 7) (.fn 13) [.agg cx, .agg [U8 kind.toNat, I64 n]] M = some (r, M) := by
  by_cases hk : 10 < kind.toNat
  · refine ⟨.agg cx, ?_, doesE hx kind hk n⟩
    have he : x.does kind n = x := by
      unfold Pair.does
      split <;> first | omega | rfl
    rw [he]; exact hx.is
  · have h2 : kind.toNat = 0 ∨ kind.toNat = 1 ∨ kind.toNat = 2 ∨ kind.toNat = 3 ∨ kind.toNat = 4 ∨ kind.toNat = 5 ∨ kind.toNat = 6 ∨ kind.toNat = 7 ∨ kind.toNat = 8 ∨ kind.toNat = 9 ∨ kind.toNat = 10 := by omega
    rcases h2 with h2 | h2 | h2 | h2 | h2 | h2 | h2 | h2 | h2 | h2 | h2
    · obtain rfl : kind = 0 := UInt8.toNat.inj h2
      exact does0 hx h n hf (hP _)
    · obtain rfl : kind = 1 := UInt8.toNat.inj h2
      exact does1 hx h n hf
    · obtain rfl : kind = 2 := UInt8.toNat.inj h2
      exact does2 hx h n hf
    · obtain rfl : kind = 3 := UInt8.toNat.inj h2
      exact does3 hx h n hf
    · obtain rfl : kind = 4 := UInt8.toNat.inj h2
      exact does4 hx h n hf
    · obtain rfl : kind = 5 := UInt8.toNat.inj h2
      exact does5 hx h n hf
    · obtain rfl : kind = 6 := UInt8.toNat.inj h2
      exact does6 hx h n hf
    · obtain rfl : kind = 7 := UInt8.toNat.inj h2
      exact does7 hx h n hf
    · obtain rfl : kind = 8 := UInt8.toNat.inj h2
      exact does8 hx h n hf
    · obtain rfl : kind = 9 := UInt8.toNat.inj h2
      exact does9 hx h n hf
    · obtain rfl : kind = 10 := UInt8.toNat.inj h2
      exact does10 hx h n hf
theorem PairC.get {cx : List AV} (h : PairC cx x) : ∃ oa ob au ad ap at', cx = [I64 x.a.ep, I64 x.a.nx, oa, I64 x.a.want, I64 x.a.since, BL x.a.owe, I64 x.b.ep, I64 x.b.nx, ob, I64 x.b.want, I64 x.b.since, BL x.b.owe, au, ad, ap, at', BL x.ok] ∧
  Sl 2 isItem oa x.a.out ∧ Sl 2 isItem ob x.b.out ∧ Sl 4 isPkR au x.up ∧ Sl 4 isPkR ad x.down ∧ Bs ap x.put ∧ Bs at' x.told := by
  obtain ⟨oa, ob, au, ad, ap, at', h1, h2⟩ := h.is
  injection h1 with h1
  exact ⟨oa, ob, au, ad, ap, at', h1, h2⟩
set_option maxHeartbeats 8000000 in
theorem round_run {cx : List AV} (hx : PairC cx x) (h : Inv ep k x) (h0 : 0 ≤ ep) (h1 : ep < 2147483648) (hp : x.put.length ≤ 1000) (hu : x.up.length ≤ 490) (hd : x.down.length ≤ 490) (hf : 3000 < fuel) : ∃ r, IsPair r x.round ∧ ∀ M, callN Try.prog (fsT tbl) fuel (d + 7) (.fn 14) [.agg cx] M = some (r, M) := by
  have ic : ∀ M, icyL (icy 12) M [.agg cx] = some ([.agg cx], M) := fun M => by
    simp (maxSteps := 2000000) (disch := first | omega | assumption | (simp only [DS, Nat.reduceAdd, *]; done) | (simp only [DZ]; omega)) only [RUN, RU, footA, feetIn, resultsA, tupOf, frzL, slot, lay, icyL, fillA, repCells, kR, reduceIte, Nat.reduceEqDiff, Nat.reduceBEq, Nat.reduceLT, Nat.reduceAdd, Nat.reduceLeDiff, Nat.reduceSub, Nat.reduceMul, Int.reduceLT, Int.reduceLE, Int.reduceEq, Int.reduceAdd, Int.reduceSub, Int.reduceMul, hx.icl]
  have i1 := h.sends h0 h1 hp false false
  have p1 := sends_put x false false
  have l1 := sends_len x false false
  obtain ⟨i2, u2, d2, p2, g2⟩ := Inv.drainU h0 h1 500 i1 (by rw [p1]; exact hp) (by omega)
  have i3 := i2.sends h0 h1 (by rw [p2, p1]; exact hp) true false
  have hup3 : ((Pair.drain 500 false (x.sends false false)).sends true false).up = (Pair.drain 500 false (x.sends false false)).up := by
    unfold Pair.sends; rfl
  have p3 := sends_put (Pair.drain 500 false (x.sends false false)) true false
  have l3 := sends_len (Pair.drain 500 false (x.sends false false)) true false
  have ok1 := h.okA h0 h1 hp (by omega) (by omega)
  obtain ⟨r1, hr1, hc1⟩ := sends_run (fuel := fuel) (d := d + 1) hx.is false false ok1.2.2.1 (by omega) (by omega) hf
  obtain ⟨cr1, rfl, hcr1⟩ := hr1.cells
  have x3 := hx.len
  have x4 := hx.one
  have x5 : cx.drop 17 = [] := List.drop_of_length_le (by omega)
  have s3 := hcr1.len
  have s4 := hcr1.one
  have s5 : cr1.drop 17 = [] := List.drop_of_length_le (by omega)
  have key : W3 (callN Try.prog (fsT tbl) fuel (d + 7) (.fn 14) [.agg cx] mem0) (fun r' _ => ∃ r, IsPair r x.round ∧ r' = r) := by
    refine call_gc tf14 rfl (ic mem0) (by simp [a14]) fun b ht hx' => ?_
    have hb0 := hx' 0 _ rfl
    clear hx'
    simp only [a14, c14] at ht ⊢
    simp (maxSteps := 2000000) (disch := first | omega | assumption | (simp only [DS, Nat.reduceAdd, *]; done) | (simp only [DZ]; omega)) only [RUN, RU, footA, feetIn, resultsA, tupOf, frzL, slot, lay, icyL, fillA, repCells, kR, reduceIte, Nat.reduceEqDiff, Nat.reduceBEq, Nat.reduceLT, Nat.reduceAdd, Nat.reduceLeDiff, Nat.reduceSub, Nat.reduceMul, Int.reduceLT, Int.reduceLE, Int.reduceEq, Int.reduceAdd, Int.reduceSub, Int.reduceMul, hb0, x3, x4, x5, s5, List.append_nil, hx.part, hx.icl, hc1, s3, s4, hcr1.part]

    refine w_loop (I := fun n t M => ∃ (i : Nat) (y : Pair) (cy : List AV) (k : Nat), n = 500 - i ∧ i ≤ 500 ∧ PairC cy y ∧ Inv ep k y ∧ y.put.length ≤ 1000 ∧ y.up.length ≤ 500 ∧ y.down.length ≤ 500 ∧ Pair.drain (500 - i) false y = Pair.drain 500 false (x.sends false false) ∧ nth undefA t 3 = I64 i ∧ nth undefA t 1 = .ptr 0 0 ∧ nth undefA t 2 = .ptr 1 0 ∧ Wf M ∧ M.size = 2 ∧ M.get 0 = some (.row false cy) ∧ M.get 1 = some (.row false [I64 0, I64 0, NIL, I64 0, I64 0, BL false, I64 0, I64 0, NIL, I64 0, I64 0, BL false, NIL, NIL, NIL, NIL, BL false])) (n := 500) (by omega) ?_ ?_
    · refine ⟨0, (x.sends false false), cr1, k, rfl, by omega, hcr1, i1, (by rw [p1]; exact hp), (by omega), (by omega), rfl, ?_, ?_, ?_, ?_, ?_, ?_, ?_⟩ <;> simp (maxSteps := 2000000) (disch := first | omega | assumption | (simp only [DS, Nat.reduceAdd, *]; done) | (simp only [DZ]; omega)) only [RUN, RU, footA, feetIn, resultsA, tupOf, frzL, slot, lay, icyL, fillA, repCells, kR, reduceIte, Nat.reduceEqDiff, Nat.reduceBEq, Nat.reduceLT, Nat.reduceAdd, Nat.reduceLeDiff, Nat.reduceSub, Nat.reduceMul, Int.reduceLT, Int.reduceLE, Int.reduceEq, Int.reduceAdd, Int.reduceSub, Int.reduceMul, hb0, x3, x4, x5, s5, List.append_nil, hx.part, hx.icl, hc1, s3, s4, hcr1.part]
      all_goals first | rfl | assumption
    · rintro n t M hl ⟨i, y, cy, ky, rfl, hi, hcy, hiy, hpy, huy, hdy, hdr, gT, g1, g2, wf, ms, m0, m1⟩
      simp only [ht] at hl ⊢
      obtain ⟨oa, ob, au, ad, ap, at', ecy, ha, hb, hup, hdn, hpu, hto⟩ := hcy.get
      have y1 := hcy.len
      have y2 := hcy.one
      have y8 : cy.take 17 = cy := List.take_of_length_le (by omega)
      have y3 : cy.drop 17 = [] := List.drop_of_length_le (by omega)
      have y5 : cy[12]? = some au := by rw [ecy]; rfl
      have y6 := hup.len
      have y7 := hup.rows mem0
      have z0 : 0 < M.size := by omega
      have z1 : 1 < M.size := by omega
      by_cases hlt : i < 500
      · have q1 : decide ((i : Int) < 500) = true := decide_eq_true (by omega)
        have hnd : Pair.drain (500 - i) false y = if y.up.length = 0 then y else Pair.drain (500 - (i + 1)) false (y.comes 0 false false) := by
          obtain ⟨m, hm⟩ : ∃ m, 500 - i = m + 1 := ⟨499 - i, by omega⟩
          rw [hm, show 500 - (i + 1) = m by omega]
          conv => lhs; unfold Pair.drain
          simp only [Bool.false_eq_true, if_false, if_true]
        by_cases hz : y.up.length = 0
        · have q2 : decide (0 < (y.up.length : Int)) = false := decide_eq_false (by omega)
          rw [if_pos hz] at hnd
          have hye := hnd.symm.trans hdr
          simp (maxSteps := 2000000) (disch := first | omega | assumption | (simp only [DS, Nat.reduceAdd, *]; done) | (simp only [DZ]; omega)) only [RUN, RU, footA, feetIn, resultsA, tupOf, frzL, slot, lay, icyL, fillA, repCells, kR, reduceIte, Nat.reduceEqDiff, Nat.reduceBEq, Nat.reduceLT, Nat.reduceAdd, Nat.reduceLeDiff, Nat.reduceSub, Nat.reduceMul, Int.reduceLT, Int.reduceLE, Int.reduceEq, Int.reduceAdd, Int.reduceSub, Int.reduceMul, gT, g1, g2, y1, y2, y5, y6, y7, y8, q1, q2, m0, m1]
          have hcyX : PairC cy (Pair.drain 500 false (x.sends false false)) := hye ▸ hcy
          have okX := i2.okA h0 h1 (by rw [p2, p1]; exact hp) (by rw [u2]; simp) (by rw [d2]; omega)
          obtain ⟨r2', hr2', hc2'⟩ := sends_run (fuel := fuel) (d := d + 1) hcyX.is true false okX.2.2.1 (by rw [u2]; simp) (by rw [d2]; omega) hf
          obtain ⟨cr2', rfl, hcr2'⟩ := hr2'.cells
          have s32 := hcr2'.len
          have s42 := hcr2'.one
          have s52 : cr2'.drop 17 = [] := List.drop_of_length_le (by omega)
          simp (maxSteps := 2000000) (disch := first | omega | assumption | (simp only [DS, Nat.reduceAdd, *]; done) | (simp only [DZ]; omega)) only [RUN, RU, footA, feetIn, resultsA, tupOf, frzL, slot, lay, icyL, fillA, repCells, kR, reduceIte, Nat.reduceEqDiff, Nat.reduceBEq, Nat.reduceLT, Nat.reduceAdd, Nat.reduceLeDiff, Nat.reduceSub, Nat.reduceMul, Int.reduceLT, Int.reduceLE, Int.reduceEq, Int.reduceAdd, Int.reduceSub, Int.reduceMul, gT, g1, g2, y1, y2, y3, y8, m0, m1, z0, z1, hcy.part, List.append_nil, hc2', s32, s42, s52, hcr2'.part]
          refine w_loop (I := fun n t_ M_ => ∃ (i_ : Nat) (y_ : Pair) (cy_ : List AV) (k : Nat), n = 500 - i_ ∧ i_ ≤ 500 ∧ PairC cy_ y_ ∧ Inv ep k y_ ∧ y_.put.length ≤ 1000 ∧ y_.up.length ≤ 500 ∧ y_.down.length ≤ 500 ∧ Pair.drain (500 - i_) true y_ = Pair.drain 500 true ((Pair.drain 500 false (x.sends false false)).sends true false) ∧ nth undefA t_ 4 = I64 i_ ∧ nth undefA t_ 1 = .ptr 0 0 ∧ nth undefA t_ 2 = .ptr 1 0 ∧ Wf M_ ∧ M_.size = 2 ∧ M_.get 0 = some (.row false cy_) ∧ M_.get 1 = some (.row false [I64 0, I64 0, NIL, I64 0, I64 0, BL false, I64 0, I64 0, NIL, I64 0, I64 0, BL false, NIL, NIL, NIL, NIL, BL false])) (n := 500) (by omega) ?_ ?_
          · refine ⟨0, ((Pair.drain 500 false (x.sends false false)).sends true false), cr2', k, rfl, by omega, hcr2', i3, (by rw [p3, p2, p1]; exact hp), (by rw [hup3, u2]; simp), (by rw [d2] at l3; omega), rfl, ?_, ?_, ?_, ?_, ?_, ?_, ?_⟩ <;> simp (maxSteps := 2000000) (disch := first | omega | assumption | (simp only [DS, Nat.reduceAdd, *]; done) | (simp only [DZ]; omega)) only [RUN, RU, footA, feetIn, resultsA, tupOf, frzL, slot, lay, icyL, fillA, repCells, kR, reduceIte, Nat.reduceEqDiff, Nat.reduceBEq, Nat.reduceLT, Nat.reduceAdd, Nat.reduceLeDiff, Nat.reduceSub, Nat.reduceMul, Int.reduceLT, Int.reduceLE, Int.reduceEq, Int.reduceAdd, Int.reduceSub, Int.reduceMul, gT, g1, g2, y1, y2, y3, y8, m0, m1, z0, z1, hcy.part, List.append_nil, hc2', s32, s42, s52, hcr2'.part]
            all_goals first | rfl | assumption
          · rintro n t_ M_ hl_ ⟨i_, y_, cy_, ky_, rfl, hi_, hcy_, hiy_, hpy_, huy_, hdy_, hdr_, gT_, g1_, g2_, wf_, ms_, m0_, m1_⟩
            simp only [hl] at hl_ ⊢
            obtain ⟨oa_, ob_, au_, ad_, ap_, at'_, ecy_, ha_, hb_, hup_, hdn_, hpu_, hto_⟩ := hcy_.get
            have y1_ := hcy_.len
            have y2_ := hcy_.one
            have y8_ : cy_.take 17 = cy_ := List.take_of_length_le (by omega)
            have y3_ : cy_.drop 17 = [] := List.drop_of_length_le (by omega)
            have y5_ : cy_[13]? = some ad_ := by rw [ecy_]; rfl
            have y6_ := hdn_.len
            have y7_ := hdn_.rows mem0
            have z0_ : 0 < M_.size := by omega
            have z1_ : 1 < M_.size := by omega
            by_cases hlt_ : i_ < 500
            · have q1_ : decide ((i_ : Int) < 500) = true := decide_eq_true (by omega)
              have hnd_ : Pair.drain (500 - i_) true y_ = if y_.down.length = 0 then y_ else Pair.drain (500 - (i_ + 1)) true (y_.comes 0 true false) := by
                obtain ⟨m, hm⟩ : ∃ m, 500 - i_ = m + 1 := ⟨499 - i_, by omega⟩
                rw [hm, show 500 - (i_ + 1) = m by omega]
                conv => lhs; unfold Pair.drain
                simp only [Bool.false_eq_true, if_false, if_true]
              by_cases hz_ : y_.down.length = 0
              · have q2_ : decide (0 < (y_.down.length : Int)) = false := decide_eq_false (by omega)
                rw [if_pos hz_] at hnd_
                have hye_ := hnd_.symm.trans hdr_
                simp (maxSteps := 2000000) (disch := first | omega | assumption | (simp only [DS, Nat.reduceAdd, *]; done) | (simp only [DZ]; omega)) only [RUN, RU, footA, feetIn, resultsA, tupOf, frzL, slot, lay, icyL, fillA, repCells, kR, reduceIte, Nat.reduceEqDiff, Nat.reduceBEq, Nat.reduceLT, Nat.reduceAdd, Nat.reduceLeDiff, Nat.reduceSub, Nat.reduceMul, Int.reduceLT, Int.reduceLE, Int.reduceEq, Int.reduceAdd, Int.reduceSub, Int.reduceMul, gT_, g1_, g2_, y1_, y2_, y5_, y6_, y7_, y8_, hcy_.frz, q1_, q2_, m0_, m1_]
                exact ⟨_, (by have he : x.round = y_ := hye_.symm; rw [he]; exact hcy_.is), rfl⟩
              · have q2_ : decide (0 < (y_.down.length : Int)) = true := decide_eq_true (by omega)
                rw [if_neg hz_] at hnd_
                obtain ⟨r_, hr_, hc_⟩ := comes_run (fuel := fuel) (d := d) hcy_.is (hiy_.okA h0 h1 hpy_ (by omega) (by omega)) 0 true false hf
                obtain ⟨cr_, rfl, hcr_⟩ := hr_.cells
                have c1_ := hcr_.len
                have c2_ := hcr_.one
                have w1_ : IntKind.i64.wrap ((i_ : Int) + 1) = ((i_ + 1 : Nat) : Int) := by rw [wrap_i64] <;> omega
                simp (maxSteps := 2000000) (disch := first | omega | assumption | (simp only [DS, Nat.reduceAdd, *]; done) | (simp only [DZ]; omega)) only [RUN, RU, footA, feetIn, resultsA, tupOf, frzL, slot, lay, icyL, fillA, repCells, kR, reduceIte, Nat.reduceEqDiff, Nat.reduceBEq, Nat.reduceLT, Nat.reduceAdd, Nat.reduceLeDiff, Nat.reduceSub, Nat.reduceMul, Int.reduceLT, Int.reduceLE, Int.reduceEq, Int.reduceAdd, Int.reduceSub, Int.reduceMul, gT_, g1_, g2_, y1_, y2_, y5_, y6_, y7_, y8_, hcy_.frz, q1_, q2_, m0_, m1_, hcy_.part, y3_, y8_, List.append_nil, hc_, c1_, c2_, w1_]
                obtain ⟨k'_, hk1_, hk2_⟩ := hiy_.comes h0 h1 hpy_ 0 true false
                have hl2_ := comes_len y_ 0 true false
                refine ⟨hl_, 500 - (i_ + 1), by omega, i_ + 1, _, cr_, k'_, rfl, by omega, hcr_, hk2_, by rw [comes_put]; exact hpy_, by omega, by omega, hnd_.symm.trans hdr_, rfl, wf_, ms_, rfl⟩
            · obtain rfl : i_ = 500 := by omega
              have q1_ : decide (((500 : Nat) : Int) < 500) = false := rfl
              have hye_ : y_ = Pair.drain 500 true ((Pair.drain 500 false (x.sends false false)).sends true false) := hdr_
              simp (maxSteps := 2000000) (disch := first | omega | assumption | (simp only [DS, Nat.reduceAdd, *]; done) | (simp only [DZ]; omega)) only [RUN, RU, footA, feetIn, resultsA, tupOf, frzL, slot, lay, icyL, fillA, repCells, kR, reduceIte, Nat.reduceEqDiff, Nat.reduceBEq, Nat.reduceLT, Nat.reduceAdd, Nat.reduceLeDiff, Nat.reduceSub, Nat.reduceMul, Int.reduceLT, Int.reduceLE, Int.reduceEq, Int.reduceAdd, Int.reduceSub, Int.reduceMul, gT_, g1_, g2_, y1_, y2_, y5_, y6_, y7_, y8_, hcy_.frz, q1_, m0_, m1_]
              exact ⟨_, (by have he : x.round = y_ := hye_.symm; rw [he]; exact hcy_.is), rfl⟩
        · have q2 : decide (0 < (y.up.length : Int)) = true := decide_eq_true (by omega)
          rw [if_neg hz] at hnd
          obtain ⟨r, hr, hc⟩ := comes_run (fuel := fuel) (d := d) hcy.is (hiy.okA h0 h1 hpy (by omega) (by omega)) 0 false false hf
          obtain ⟨cr, rfl, hcr⟩ := hr.cells
          have c1 := hcr.len
          have c2 := hcr.one
          have w1 : IntKind.i64.wrap ((i : Int) + 1) = ((i + 1 : Nat) : Int) := by rw [wrap_i64] <;> omega
          simp (maxSteps := 2000000) (disch := first | omega | assumption | (simp only [DS, Nat.reduceAdd, *]; done) | (simp only [DZ]; omega)) only [RUN, RU, footA, feetIn, resultsA, tupOf, frzL, slot, lay, icyL, fillA, repCells, kR, reduceIte, Nat.reduceEqDiff, Nat.reduceBEq, Nat.reduceLT, Nat.reduceAdd, Nat.reduceLeDiff, Nat.reduceSub, Nat.reduceMul, Int.reduceLT, Int.reduceLE, Int.reduceEq, Int.reduceAdd, Int.reduceSub, Int.reduceMul, gT, g1, g2, y1, y2, y5, y6, y7, y8, q1, q2, m0, m1, hcy.part, y3, y8, List.append_nil, hc, c1, c2, w1]
          obtain ⟨k', hk1, hk2⟩ := hiy.comes h0 h1 hpy 0 false false
          have hl2 := comes_len y 0 false false
          refine ⟨hl, 500 - (i + 1), by omega, i + 1, _, cr, k', rfl, by omega, hcr, hk2, by rw [comes_put]; exact hpy, by omega, by omega, hnd.symm.trans hdr, rfl, wf, ms, rfl⟩
      · obtain rfl : i = 500 := by omega
        have q1 : decide (((500 : Nat) : Int) < 500) = false := rfl
        have hye : y = Pair.drain 500 false (x.sends false false) := hdr
        simp (maxSteps := 2000000) (disch := first | omega | assumption | (simp only [DS, Nat.reduceAdd, *]; done) | (simp only [DZ]; omega)) only [RUN, RU, footA, feetIn, resultsA, tupOf, frzL, slot, lay, icyL, fillA, repCells, kR, reduceIte, Nat.reduceEqDiff, Nat.reduceBEq, Nat.reduceLT, Nat.reduceAdd, Nat.reduceLeDiff, Nat.reduceSub, Nat.reduceMul, Int.reduceLT, Int.reduceLE, Int.reduceEq, Int.reduceAdd, Int.reduceSub, Int.reduceMul, gT, g1, g2, y1, y2, y5, y6, y7, y8, q1, m0, m1]
        have hcyX : PairC cy (Pair.drain 500 false (x.sends false false)) := hye ▸ hcy
        have okX := i2.okA h0 h1 (by rw [p2, p1]; exact hp) (by rw [u2]; simp) (by rw [d2]; omega)
        obtain ⟨r2', hr2', hc2'⟩ := sends_run (fuel := fuel) (d := d + 1) hcyX.is true false okX.2.2.1 (by rw [u2]; simp) (by rw [d2]; omega) hf
        obtain ⟨cr2', rfl, hcr2'⟩ := hr2'.cells
        have s32 := hcr2'.len
        have s42 := hcr2'.one
        have s52 : cr2'.drop 17 = [] := List.drop_of_length_le (by omega)
        simp (maxSteps := 2000000) (disch := first | omega | assumption | (simp only [DS, Nat.reduceAdd, *]; done) | (simp only [DZ]; omega)) only [RUN, RU, footA, feetIn, resultsA, tupOf, frzL, slot, lay, icyL, fillA, repCells, kR, reduceIte, Nat.reduceEqDiff, Nat.reduceBEq, Nat.reduceLT, Nat.reduceAdd, Nat.reduceLeDiff, Nat.reduceSub, Nat.reduceMul, Int.reduceLT, Int.reduceLE, Int.reduceEq, Int.reduceAdd, Int.reduceSub, Int.reduceMul, gT, g1, g2, y1, y2, y3, y8, m0, m1, z0, z1, hcy.part, List.append_nil, hc2', s32, s42, s52, hcr2'.part]
        refine w_loop (I := fun n t_ M_ => ∃ (i_ : Nat) (y_ : Pair) (cy_ : List AV) (k : Nat), n = 500 - i_ ∧ i_ ≤ 500 ∧ PairC cy_ y_ ∧ Inv ep k y_ ∧ y_.put.length ≤ 1000 ∧ y_.up.length ≤ 500 ∧ y_.down.length ≤ 500 ∧ Pair.drain (500 - i_) true y_ = Pair.drain 500 true ((Pair.drain 500 false (x.sends false false)).sends true false) ∧ nth undefA t_ 4 = I64 i_ ∧ nth undefA t_ 1 = .ptr 0 0 ∧ nth undefA t_ 2 = .ptr 1 0 ∧ Wf M_ ∧ M_.size = 2 ∧ M_.get 0 = some (.row false cy_) ∧ M_.get 1 = some (.row false [I64 0, I64 0, NIL, I64 0, I64 0, BL false, I64 0, I64 0, NIL, I64 0, I64 0, BL false, NIL, NIL, NIL, NIL, BL false])) (n := 500) (by omega) ?_ ?_
        · refine ⟨0, ((Pair.drain 500 false (x.sends false false)).sends true false), cr2', k, rfl, by omega, hcr2', i3, (by rw [p3, p2, p1]; exact hp), (by rw [hup3, u2]; simp), (by rw [d2] at l3; omega), rfl, ?_, ?_, ?_, ?_, ?_, ?_, ?_⟩ <;> simp (maxSteps := 2000000) (disch := first | omega | assumption | (simp only [DS, Nat.reduceAdd, *]; done) | (simp only [DZ]; omega)) only [RUN, RU, footA, feetIn, resultsA, tupOf, frzL, slot, lay, icyL, fillA, repCells, kR, reduceIte, Nat.reduceEqDiff, Nat.reduceBEq, Nat.reduceLT, Nat.reduceAdd, Nat.reduceLeDiff, Nat.reduceSub, Nat.reduceMul, Int.reduceLT, Int.reduceLE, Int.reduceEq, Int.reduceAdd, Int.reduceSub, Int.reduceMul, gT, g1, g2, y1, y2, y3, y8, m0, m1, z0, z1, hcy.part, List.append_nil, hc2', s32, s42, s52, hcr2'.part]
          all_goals first | rfl | assumption
        · rintro n t_ M_ hl_ ⟨i_, y_, cy_, ky_, rfl, hi_, hcy_, hiy_, hpy_, huy_, hdy_, hdr_, gT_, g1_, g2_, wf_, ms_, m0_, m1_⟩
          simp only [hl] at hl_ ⊢
          obtain ⟨oa_, ob_, au_, ad_, ap_, at'_, ecy_, ha_, hb_, hup_, hdn_, hpu_, hto_⟩ := hcy_.get
          have y1_ := hcy_.len
          have y2_ := hcy_.one
          have y8_ : cy_.take 17 = cy_ := List.take_of_length_le (by omega)
          have y3_ : cy_.drop 17 = [] := List.drop_of_length_le (by omega)
          have y5_ : cy_[13]? = some ad_ := by rw [ecy_]; rfl
          have y6_ := hdn_.len
          have y7_ := hdn_.rows mem0
          have z0_ : 0 < M_.size := by omega
          have z1_ : 1 < M_.size := by omega
          by_cases hlt_ : i_ < 500
          · have q1_ : decide ((i_ : Int) < 500) = true := decide_eq_true (by omega)
            have hnd_ : Pair.drain (500 - i_) true y_ = if y_.down.length = 0 then y_ else Pair.drain (500 - (i_ + 1)) true (y_.comes 0 true false) := by
              obtain ⟨m, hm⟩ : ∃ m, 500 - i_ = m + 1 := ⟨499 - i_, by omega⟩
              rw [hm, show 500 - (i_ + 1) = m by omega]
              conv => lhs; unfold Pair.drain
              simp only [Bool.false_eq_true, if_false, if_true]
            by_cases hz_ : y_.down.length = 0
            · have q2_ : decide (0 < (y_.down.length : Int)) = false := decide_eq_false (by omega)
              rw [if_pos hz_] at hnd_
              have hye_ := hnd_.symm.trans hdr_
              simp (maxSteps := 2000000) (disch := first | omega | assumption | (simp only [DS, Nat.reduceAdd, *]; done) | (simp only [DZ]; omega)) only [RUN, RU, footA, feetIn, resultsA, tupOf, frzL, slot, lay, icyL, fillA, repCells, kR, reduceIte, Nat.reduceEqDiff, Nat.reduceBEq, Nat.reduceLT, Nat.reduceAdd, Nat.reduceLeDiff, Nat.reduceSub, Nat.reduceMul, Int.reduceLT, Int.reduceLE, Int.reduceEq, Int.reduceAdd, Int.reduceSub, Int.reduceMul, gT_, g1_, g2_, y1_, y2_, y5_, y6_, y7_, y8_, hcy_.frz, q1_, q2_, m0_, m1_]
              exact ⟨_, (by have he : x.round = y_ := hye_.symm; rw [he]; exact hcy_.is), rfl⟩
            · have q2_ : decide (0 < (y_.down.length : Int)) = true := decide_eq_true (by omega)
              rw [if_neg hz_] at hnd_
              obtain ⟨r_, hr_, hc_⟩ := comes_run (fuel := fuel) (d := d) hcy_.is (hiy_.okA h0 h1 hpy_ (by omega) (by omega)) 0 true false hf
              obtain ⟨cr_, rfl, hcr_⟩ := hr_.cells
              have c1_ := hcr_.len
              have c2_ := hcr_.one
              have w1_ : IntKind.i64.wrap ((i_ : Int) + 1) = ((i_ + 1 : Nat) : Int) := by rw [wrap_i64] <;> omega
              simp (maxSteps := 2000000) (disch := first | omega | assumption | (simp only [DS, Nat.reduceAdd, *]; done) | (simp only [DZ]; omega)) only [RUN, RU, footA, feetIn, resultsA, tupOf, frzL, slot, lay, icyL, fillA, repCells, kR, reduceIte, Nat.reduceEqDiff, Nat.reduceBEq, Nat.reduceLT, Nat.reduceAdd, Nat.reduceLeDiff, Nat.reduceSub, Nat.reduceMul, Int.reduceLT, Int.reduceLE, Int.reduceEq, Int.reduceAdd, Int.reduceSub, Int.reduceMul, gT_, g1_, g2_, y1_, y2_, y5_, y6_, y7_, y8_, hcy_.frz, q1_, q2_, m0_, m1_, hcy_.part, y3_, y8_, List.append_nil, hc_, c1_, c2_, w1_]
              obtain ⟨k'_, hk1_, hk2_⟩ := hiy_.comes h0 h1 hpy_ 0 true false
              have hl2_ := comes_len y_ 0 true false
              refine ⟨hl_, 500 - (i_ + 1), by omega, i_ + 1, _, cr_, k'_, rfl, by omega, hcr_, hk2_, by rw [comes_put]; exact hpy_, by omega, by omega, hnd_.symm.trans hdr_, rfl, wf_, ms_, rfl⟩
          · obtain rfl : i_ = 500 := by omega
            have q1_ : decide (((500 : Nat) : Int) < 500) = false := rfl
            have hye_ : y_ = Pair.drain 500 true ((Pair.drain 500 false (x.sends false false)).sends true false) := hdr_
            simp (maxSteps := 2000000) (disch := first | omega | assumption | (simp only [DS, Nat.reduceAdd, *]; done) | (simp only [DZ]; omega)) only [RUN, RU, footA, feetIn, resultsA, tupOf, frzL, slot, lay, icyL, fillA, repCells, kR, reduceIte, Nat.reduceEqDiff, Nat.reduceBEq, Nat.reduceLT, Nat.reduceAdd, Nat.reduceLeDiff, Nat.reduceSub, Nat.reduceMul, Int.reduceLT, Int.reduceLE, Int.reduceEq, Int.reduceAdd, Int.reduceSub, Int.reduceMul, gT_, g1_, g2_, y1_, y2_, y5_, y6_, y7_, y8_, hcy_.frz, q1_, m0_, m1_]
            exact ⟨_, (by have he : x.round = y_ := hye_.symm; rw [he]; exact hcy_.is), rfl⟩
  obtain ⟨r', N, hk, r, hr, rfl⟩ := key
  exact ⟨r', hr, fun M => call_own tf14 rfl hk (ic mem0) (ic M)⟩
end Go.Proofs.Ytbemomagabjbnaa
