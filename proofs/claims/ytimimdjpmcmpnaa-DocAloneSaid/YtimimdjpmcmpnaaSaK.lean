/-
  An element's chain: raises, made.
-/
import Derived.Test.YtimimdjpmcmpnaaSaJ
import Derived.Test.YtimimdjpmcmpnaaEf
set_option linter.unusedSimpArgs false
set_option linter.unusedVariables false
set_option maxRecDepth 100000
namespace Go.Proofs.Ytimimdjpmcmpnaa
open Go Go.Ax
variable {fuel : Nat} {M : Mem} {Q : AV → Mem → Prop} {d : Nat} {tm : List AV} {a o : AV} {x : Eid} {v : Lb} {out : List Lb} {l : List Op}

def raiseC (x : Eid) (v : Lb) (o : Op) : Bool := decide (o.kd = 3) && (o.sp.has x).isSome && o.hd.lb.leq v
def raisesL (l : List Op) (x : Eid) (v : Lb) : List Lb := (l.filter (raiseC x v)).map (·.to)
def made (l : List Op) (x : Eid) (v : Lb) : List Lb := (raisesL l x v).foldl addL [x.hd.lb]
theorem addL_len (out : List Lb) (x : Lb) : (addL out x).length ≤ out.length + 1 := by
  unfold addL
  split
  · omega
  · simp
theorem fold_len : ∀ (r : List Lb) (out : List Lb), (r.foldl addL out).length ≤ out.length + r.length
  | [], out => by simp
  | y :: r, out => by
    have h1 := fold_len r (addL out y)
    have h2 := addL_len out y
    simp only [List.foldl_cons, List.length_cons]
    omega
theorem raises_len (l : List Op) (x : Eid) (v : Lb) : (raisesL l x v).length ≤ l.length := by
  unfold raisesL
  rw [List.length_map]
  exact List.length_filter_le _ _
theorem take_snoc {α : Type} (l : List α) (i : Nat) (h : i < l.length) : l.take (i + 1) = l.take i ++ [l[i]] := by
  rw [List.take_add_one, List.getElem?_eq_getElem h]; rfl
theorem raises_snoc (l : List Op) (o : Op) (x : Eid) (v : Lb) : raisesL (l ++ [o]) x v = raisesL l x v ++ (if raiseC x v o then [o.to] else []) := by
  unfold raisesL
  rw [List.filter_append, List.map_append]
  cases h : raiseC x v o <;> simp [List.filter_cons, h]
set_option maxHeartbeats 8000000 in
theorem raises1_0 {o0 : AV} (hS : Sl 17 isOp a l) (hl : l.length ≤ 50000) (hn : out.length ≤ 50000) (hf : l.length + out.length < fuel) (h : MI M tm a x v o0 out) (h7 : nth undefA tm 7 = .ptr 3 0) (hlen : tm.length = 27)
    (k : ∀ u o' N, MI N tm a x v o' ((raisesL l x v).foldl addL out) → Q u N) :
    W3 (callN Try.prog (fsT tbl) fuel (d + 6) (.fn 96) [.yl 8, .ptr 4 0, .ptr 5 0, .ptr 6 0] M) Q := by
  have ll := hS.len
  have g4' := h.g4
  have l4 := Mem.get_lt g4'
  refine call_0 tf96 rfl (by simp [a96]) fun b' ht hx => ?_
  have h0 := hx 0 _ rfl
  have h1 := hx 1 _ rfl
  have h2 := hx 2 _ rfl
  have h3 := hx 3 _ rfl
  clear hx
  simp only [a96, c96] at ht ⊢
  simp (maxSteps := 2000000) (disch := first | omega | assumption | (simp only [DS, Nat.reduceAdd, *]; done) | (simp only [DZ]; omega)) only [RUN, RU, footA, feetIn, resultsA, tupOf, frzL, slot, lay, icyL, fillA, repCells, kR, reduceIte, Nat.reduceEqDiff, Nat.reduceBEq, Nat.reduceLT, Nat.reduceAdd, Nat.reduceLeDiff, Nat.reduceSub, Nat.reduceMul, Int.reduceLT, Int.reduceLE, Int.reduceEq, Int.reduceAdd, Int.reduceSub, Int.reduceMul, h0, h1, h2, h3, g4', ll, hS.fz.rows, hS.fz.one, hS.fz.cells, hS.fz.icy, hS.fz.frz]
  refine w_loop (I := fun n t N => ∃ (i : Nat) (o : AV), n = l.length - i ∧ i ≤ l.length ∧ nth undefA t 0 = .yl 8 ∧ nth undefA t 1 = .ptr 4 0 ∧ nth undefA t 2 = .ptr 5 0 ∧ nth undefA t 3 = .ptr 6 0 ∧ nth undefA t 9 = a ∧ nth undefA t 10 = I64 l.length ∧ nth undefA t 11 = I64 i ∧ MI N tm a x v o ((raisesL (l.take i) x v).foldl addL out)) (n := l.length) (by omega) ?_ ?_
  · refine ⟨0, o0, rfl, Nat.zero_le _, ?_, ?_, ?_, ?_, ?_, ?_, ?_, h⟩ <;> simp (maxSteps := 2000000) (disch := first | omega | assumption | (simp only [DS, Nat.reduceAdd, *]; done) | (simp only [DZ]; omega)) only [RUN, RU, footA, feetIn, resultsA, tupOf, frzL, slot, lay, icyL, fillA, repCells, kR, reduceIte, Nat.reduceEqDiff, Nat.reduceBEq, Nat.reduceLT, Nat.reduceAdd, Nat.reduceLeDiff, Nat.reduceSub, Nat.reduceMul, Int.reduceLT, Int.reduceLE, Int.reduceEq, Int.reduceAdd, Int.reduceSub, Int.reduceMul, h0, h1, h2, h3, g4', ll]
    all_goals first | rfl | assumption | done
  · rintro n t N hlt ⟨i, o, rfl, hi, g0, g1, g2, g3, g9, g10, g11, m⟩
    simp only [ht] at hlt ⊢
    clear h0 h1 h2 h3 ht b'
    by_cases hc : i < l.length
    · have q1 : decide ((i : Int) < l.length) = true := decide_eq_true (by omega)
      have w1 : IntKind.i64.wrap ((i : Int) + 1) = ((i + 1 : Nat) : Int) := by rw [wrap_i64] <;> omega
      obtain ⟨r, hiad, hr, hrl⟩ := hS.iad i hc
      have hsn := raises_snoc (l.take i) l[i] x v
      rw [← take_snoc l i hc] at hsn
      have b1 := fold_len (raisesL (l.take i) x v) out
      have b2 := raises_len (l.take i) x v
      rw [List.length_take] at b2
      generalize l[i] = e at *
      obtain ⟨ra, rfl, hra, hok⟩ := hr
      have ora := hra.one
      have wf := m.wf
      have sz := m.sz
      have m5 := m.g5
      have m6 := m.g6
      have l5 := Mem.get_lt m5
      have l6 := Mem.get_lt m6
      have hh := fun M => @ids_has fuel d e.sp x M
      have hle := fun M => @leq_run fuel (d + 4) e.hd.lb v M
      have mA : MI ((N.add (.row false (opR ⟨0, Hd.z, 0, ⟨Eid.z, 0⟩, Eid.z, Lb.z, []⟩ NIL))).upd N.size (.row false (opR e ra))) tm a x v o ((raisesL (l.take i) x v).foldl addL out) := m.keep ((wf.add _).upd _ _) (by rw [upd_size, add_size]; omega) (fun j hj => by rw [get_upd_ne (wf.add _) _ _ _ (by omega), get_add wf _ _ hj])
      cases c1 : decide (e.kd = 3) with
      | false =>
        have hcc : raiseC x v e = false := by unfold raiseC; rw [c1]; rfl
        rw [hcc, if_neg (by decide), List.append_nil] at hsn
        cases c2 : (e.sp.has x).isSome <;> rw [c2] at hh
        all_goals
          simp (maxSteps := 2000000) (disch := first | omega | assumption | (simp only [DS, Nat.reduceAdd, *]; done) | (simp only [DZ]; omega)) only [RUN, RU, footA, feetIn, resultsA, tupOf, frzL, slot, lay, icyL, fillA, repCells, kR, reduceIte, Nat.reduceEqDiff, Nat.reduceBEq, Nat.reduceLT, Nat.reduceAdd, Nat.reduceLeDiff, Nat.reduceSub, Nat.reduceMul, Int.reduceLT, Int.reduceLE, Int.reduceEq, Int.reduceAdd, Int.reduceSub, Int.reduceMul, g0, g1, g2, g3, g9, g10, g11, q1, hiad, hra.fz.rows, hra.fz.one, hra.fz.cells, hra.fz.icy, hra.fz.frz, wf, m5, m6, hh, c1, w1]
          exact ⟨hlt, l.length - (i + 1), by omega, i + 1, o, rfl, by omega, rfl, by rw [hsn]; exact mA⟩
      | true =>
        cases c2 : (e.sp.has x).isSome <;> rw [c2] at hh
        · have hcc : raiseC x v e = false := by unfold raiseC; rw [c1, c2]; rfl
          rw [hcc, if_neg (by decide), List.append_nil] at hsn
          simp (maxSteps := 2000000) (disch := first | omega | assumption | (simp only [DS, Nat.reduceAdd, *]; done) | (simp only [DZ]; omega)) only [RUN, RU, footA, feetIn, resultsA, tupOf, frzL, slot, lay, icyL, fillA, repCells, kR, reduceIte, Nat.reduceEqDiff, Nat.reduceBEq, Nat.reduceLT, Nat.reduceAdd, Nat.reduceLeDiff, Nat.reduceSub, Nat.reduceMul, Int.reduceLT, Int.reduceLE, Int.reduceEq, Int.reduceAdd, Int.reduceSub, Int.reduceMul, g0, g1, g2, g3, g9, g10, g11, q1, hiad, hra.fz.rows, hra.fz.one, hra.fz.cells, hra.fz.icy, hra.fz.frz, wf, m5, m6, hh, c1, w1]
          exact ⟨hlt, l.length - (i + 1), by omega, i + 1, o, rfl, by omega, rfl, by rw [hsn]; exact mA⟩
        · cases c3 : e.hd.lb.leq v <;> rw [c3] at hle
          · have hcc : raiseC x v e = false := by unfold raiseC; rw [c1, c2, c3]; rfl
            rw [hcc, if_neg (by decide), List.append_nil] at hsn
            simp (maxSteps := 2000000) (disch := first | omega | assumption | (simp only [DS, Nat.reduceAdd, *]; done) | (simp only [DZ]; omega)) only [RUN, RU, footA, feetIn, resultsA, tupOf, frzL, slot, lay, icyL, fillA, repCells, kR, reduceIte, Nat.reduceEqDiff, Nat.reduceBEq, Nat.reduceLT, Nat.reduceAdd, Nat.reduceLeDiff, Nat.reduceSub, Nat.reduceMul, Int.reduceLT, Int.reduceLE, Int.reduceEq, Int.reduceAdd, Int.reduceSub, Int.reduceMul, g0, g1, g2, g3, g9, g10, g11, q1, hiad, hra.fz.rows, hra.fz.one, hra.fz.cells, hra.fz.icy, hra.fz.frz, wf, m5, m6, hh, c1, hle, w1]
            exact ⟨hlt, l.length - (i + 1), by omega, i + 1, o, rfl, by omega, rfl, by rw [hsn]; exact mA⟩
          · have hcc : raiseC x v e = true := by unfold raiseC; rw [c1, c2, c3]; rfl
            rw [hcc, if_pos rfl] at hsn
            simp (maxSteps := 2000000) (disch := first | omega | assumption | (simp only [DS, Nat.reduceAdd, *]; done) | (simp only [DZ]; omega)) only [RUN, RU, footA, feetIn, resultsA, tupOf, frzL, slot, lay, icyL, fillA, repCells, kR, reduceIte, Nat.reduceEqDiff, Nat.reduceBEq, Nat.reduceLT, Nat.reduceAdd, Nat.reduceLeDiff, Nat.reduceSub, Nat.reduceMul, Int.reduceLT, Int.reduceLE, Int.reduceEq, Int.reduceAdd, Int.reduceSub, Int.reduceMul, g0, g1, g2, g3, g9, g10, g11, q1, hiad, hra.fz.rows, hra.fz.one, hra.fz.cells, hra.fz.icy, hra.fz.frz, wf, m5, m6, hh, c1, hle]
            refine myield (d := d + 2) mA h7 hlen hok.2.2.2.2.2.1 (by omega) (by omega) fun o' N' m' le' => ?_
            simp (maxSteps := 2000000) (disch := first | omega | assumption | (simp only [DS, Nat.reduceAdd, *]; done) | (simp only [DZ]; omega)) only [RUN, RU, footA, feetIn, resultsA, tupOf, frzL, slot, lay, icyL, fillA, repCells, kR, reduceIte, Nat.reduceEqDiff, Nat.reduceBEq, Nat.reduceLT, Nat.reduceAdd, Nat.reduceLeDiff, Nat.reduceSub, Nat.reduceMul, Int.reduceLT, Int.reduceLE, Int.reduceEq, Int.reduceAdd, Int.reduceSub, Int.reduceMul, g0, g1, g2, g3, g9, g10, g11, w1]
            exact ⟨hlt, l.length - (i + 1), by omega, i + 1, o', rfl, by omega, rfl, by rw [hsn, List.foldl_append]; exact m'⟩
    · obtain rfl : i = l.length := by omega
      have q1 : decide ((l.length : Int) < l.length) = false := decide_eq_false (by omega)
      rw [List.take_length] at m
      simp (maxSteps := 2000000) (disch := first | omega | assumption | (simp only [DS, Nat.reduceAdd, *]; done) | (simp only [DZ]; omega)) only [RUN, RU, footA, feetIn, resultsA, tupOf, frzL, slot, lay, icyL, fillA, repCells, kR, reduceIte, Nat.reduceEqDiff, Nat.reduceBEq, Nat.reduceLT, Nat.reduceAdd, Nat.reduceLeDiff, Nat.reduceSub, Nat.reduceMul, Int.reduceLT, Int.reduceLE, Int.reduceEq, Int.reduceAdd, Int.reduceSub, Int.reduceMul, g9, g10, g11, q1]
      exact k _ _ _ m
end Go.Proofs.Ytimimdjpmcmpnaa
