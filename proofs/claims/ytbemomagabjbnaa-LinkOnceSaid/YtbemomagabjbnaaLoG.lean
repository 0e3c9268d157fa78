/-
  link: DeleteFunc, the run.
-/
import Derived.Test.YtbemomagabjbnaaLoF
set_option linter.unusedSimpArgs false
set_option linter.unusedVariables false
set_option maxRecDepth 100000
namespace Go.Proofs.Ytbemomagabjbnaa
open Go Go.Ax
variable {fuel : Nat} {M : Mem} {Q : AV → Mem → Prop} {d : Nat}

def leftOf (ack : Int) (out : List Item) : List Item := out.filter fun x => !decide (x.seq ≤ ack)
theorem all2_take {α : Type} {T : List AV → α → Prop} : ∀ {rows : List (List AV)} {l : List α} (n : Nat), All2 T rows l → All2 T (rows.take n) (l.take n)
  | _, _, 0, _ => by simp; exact .nil
  | _, _, n + 1, .nil => by simp; exact .nil
  | _, _, n + 1, .cons a b => .cons a (all2_take n b)
theorem all2_snoc {α : Type} {T : List AV → α → Prop} {r : List AV} {x : α} : ∀ {rows : List (List AV)} {l : List α}, All2 T rows l → T r x → All2 T (rows ++ [r]) (l ++ [x])
  | _, _, .nil, h => .cons h .nil
  | _, _, .cons a b, h => .cons a (all2_snoc b h)

theorem part_to2 {M : Mem} {id k n : Nat} {cap : Option Nat} {cs : List AV} (hc : cap = none ∨ cap = some n) (hrd : M.rd id = some cs) (hcs : cs.length = n * 2) (hk : k ≤ n) : ∃ cap', slcO M 2 (.sl id 0 n cap 2) none (some (I64 k)) none = some (.sl id 0 k cap' 2, M) := by
  rcases hc with rfl | rfl
  · refine ⟨none, ?_⟩
    have hav : cs.length / 2 = n := by rw [hcs, Nat.mul_div_cancel _ (by omega)]
    unfold slcO
    simp only [Nat.beq_refl, hrd, Nat.sub_zero, hav, bnd_none, bnd_int _ _ _ _ hk, Nat.zero_mul, Nat.zero_add]
  · refine ⟨some (n - 0), ?_⟩
    unfold slcO
    simp only [Nat.beq_refl, bnd_none, bnd_int _ _ _ _ hk, Nat.sub_zero, Nat.zero_mul, Nat.zero_add]
    cases Nat.beq n 0 <;> rfl
theorem part_from2 {M : Mem} {id k n : Nat} {cap : Option Nat} {cs : List AV} (hc : cap = none ∨ cap = some n) (hrd : M.rd id = some cs) (hcs : cs.length = n * 2) (hk : k < n) : ∃ cap', slcO M 2 (.sl id 0 n cap 2) (some (I64 k)) none none = some (.sl id (k * 2) (n - k) cap' 2, M) := by
  have hb : Nat.beq n k = false := by
    cases h : Nat.beq n k with
    | false => rfl
    | true => have := Nat.eq_of_beq_eq_true h; omega
  rcases hc with rfl | rfl
  · refine ⟨none, ?_⟩
    have hav : cs.length / 2 = n := by rw [hcs, Nat.mul_div_cancel _ (by omega)]
    unfold slcO
    simp only [Nat.beq_refl, hrd, Nat.sub_zero, hav, bnd_none, bnd_int _ _ _ _ (Nat.le_of_lt hk), Nat.zero_add]
  · refine ⟨some (n - k), ?_⟩
    unfold slcO
    simp only [Nat.beq_refl, bnd_none, bnd_int _ _ _ _ (Nat.le_of_lt hk), hb, Nat.zero_add]

set_option maxHeartbeats 16000000 in
theorem delete_run {id n : Nat} {cap : Option Nat} {rows : List (List AV)} {out : List Item} {c : Nat} {ack : Int} (hg : M.get id = some (.row false rows.flatten)) (hA : All2 isItem rows out) (hr : ∀ r ∈ rows, r.length = 2) (hnn : n = rows.length) (hcap : cap = none ∨ cap = some rows.length)
    (hn : out.length ≤ 1000) (hf : 3000 < fuel) (wf : Wf M) (hc : M.get c = some (.row false [I64 ack])) (hic : id ≠ c) (hpos : 0 ≤ gonePos ack out)
    (kk : ∀ o N, Fz N o (leftOf ack out) → (∀ j, rowOf o = some j → j = id) → Wf N → M.size ≤ N.size → (∀ j, j < M.size → j ≠ id → N.get j = M.get j) → Q o N) : W3 (callN Try.prog (fsT tbl) fuel (d + 3) (.fn 61) [.sl id 0 n cap 2, .fn 59 [] [.ptr c 0]] M) Q := by
  subst hnn
  have hS : SlM M 2 isItem (.sl id 0 rows.length cap 2) out := .inr ⟨id, rows, cap, rfl, hcap, hg, hA, hr⟩
  have hlen := hA.length_eq
  have lid := Mem.get_lt hg
  have lc := Mem.get_lt hc
  refine call_0 tf61 rfl (by simp [a61]) fun b ht hx => ?_
  have h0 := hx 0 _ rfl
  have h1 := hx 1 _ rfl
  clear hx
  simp only [a61, c61] at ht ⊢
  simp (maxSteps := 2000000) (disch := first | omega | assumption | (simp only [DS, Nat.reduceAdd, *]; done) | (simp only [DZ]; omega)) only [RUN, RU, footA, feetIn, resultsA, tupOf, frzL, slot, lay, icyL, fillA, repCells, kR, reduceIte, Nat.reduceEqDiff, Nat.reduceBEq, Nat.reduceLT, Nat.reduceAdd, Nat.reduceLeDiff, Nat.reduceSub, Nat.reduceMul, Int.reduceLT, Int.reduceLE, Int.reduceEq, Int.reduceAdd, Int.reduceSub, Int.reduceMul, h0, h1]
  refine index_run (d := d + 0) hS hn (by omega) wf hc fun N0 wf0 le0 k0 => ?_
  obtain ⟨i0, hi0, hi0l⟩ : ∃ i0 : Nat, gonePos ack out = i0 ∧ i0 = out.findIdx (fun x => decide (x.seq ≤ ack)) ∧ i0 < out.length := by
    unfold gonePos at hpos ⊢
    by_cases h : out.findIdx (fun x => decide (x.seq ≤ ack)) < out.length
    · rw [if_pos h]; exact ⟨_, rfl, rfl, h⟩
    · rw [if_neg h] at hpos; omega
  obtain ⟨hi0e, hi0l⟩ := hi0l
  have hfirst : ∀ j (hj : j < out.length), j < i0 → ¬ out[j].seq ≤ ack := fun j hj h => by
    have := List.not_of_lt_findIdx (p := fun x : Item => decide (x.seq ≤ ack)) (xs := out) (i := j) (by omega)
    simpa using this
  have hat : out[i0].seq ≤ ack := by
    have h2 := List.findIdx_getElem (p := fun x : Item => decide (x.seq ≤ ack)) (xs := out) (w := by omega)
    simp only [← hi0e] at h2
    exact of_decide_eq_true h2
  have hft : (out.take (i0 + 1)).filter (fun x => !decide (x.seq ≤ ack)) = out.take i0 := by
    rw [List.take_add_one, List.getElem?_eq_getElem hi0l, List.filter_append]
    have h1 : (out.take i0).filter (fun x => !decide (x.seq ≤ ack)) = out.take i0 := List.filter_eq_self.2 fun x hx => by
      obtain ⟨j, hj, rfl⟩ := List.getElem_of_mem hx
      rw [List.length_take] at hj
      rw [List.getElem_take]
      simpa using hfirst j (by omega) (by omega)
    rw [h1]
    simp [hat]
  have qm : decide ((i0 : Int) = -1) = false := decide_eq_false (by omega)
  have w0 : IntKind.i64.wrap ((i0 : Int) + 1) = ((i0 + 1 : Nat) : Int) := by rw [wrap_i64] <;> omega
  rw [hi0]
  simp (maxSteps := 2000000) (disch := first | omega | assumption | (simp only [DS, Nat.reduceAdd, *]; done) | (simp only [DZ]; omega)) only [RUN, RU, footA, feetIn, resultsA, tupOf, frzL, slot, lay, icyL, fillA, repCells, kR, reduceIte, Nat.reduceEqDiff, Nat.reduceBEq, Nat.reduceLT, Nat.reduceAdd, Nat.reduceLeDiff, Nat.reduceSub, Nat.reduceMul, Int.reduceLT, Int.reduceLE, Int.reduceEq, Int.reduceAdd, Int.reduceSub, Int.reduceMul, h0, h1, qm, w0]
  refine w_loop (I := fun m t N => ∃ (i j : Nat) (rs : List (List AV)), i < j ∧ j ≤ out.length ∧ m = out.length - j ∧ rs.length = rows.length ∧ (∀ r ∈ rs, r.length = 2) ∧ All2 isItem (rs.take i) ((out.take j).filter fun x => !decide (x.seq ≤ ack)) ∧ rs.drop j = rows.drop j ∧ Wf N ∧ M.size ≤ N.size ∧ (∀ q, q < M.size → q ≠ id → N.get q = M.get q) ∧ N.get id = some (.row false rs.flatten) ∧
    nth undefA t 0 = .sl id 0 rows.length cap 2 ∧ nth undefA t 1 = .fn 59 [] [.ptr c 0] ∧ nth undefA t 5 = I64 i ∧ nth undefA t 6 = I64 j) (n := out.length - (i0 + 1)) (by omega) ?_ ?_
  · refine ⟨i0, i0 + 1, rows, by omega, by omega, rfl, rfl, hr, by rw [hft]; exact all2_take i0 hA, rfl, wf0, le0, fun q hq _ => k0 q hq, by rw [k0 id lid]; exact hg, ?_, ?_, ?_, ?_⟩
    all_goals simp (maxSteps := 2000000) (disch := first | omega | assumption | (simp only [DS, Nat.reduceAdd, *]; done) | (simp only [DZ]; omega)) only [RUN, RU, footA, feetIn, resultsA, tupOf, frzL, slot, lay, icyL, fillA, repCells, kR, reduceIte, Nat.reduceEqDiff, Nat.reduceBEq, Nat.reduceLT, Nat.reduceAdd, Nat.reduceLeDiff, Nat.reduceSub, Nat.reduceMul, Int.reduceLT, Int.reduceLE, Int.reduceEq, Int.reduceAdd, Int.reduceSub, Int.reduceMul, h0, h1]
    all_goals rfl
  · rintro m t N hl' ⟨i, j, rs, hij, hj, hm, hrl, hr2, hAi, hdr, wfN, leN, kN, gN, t0, t1, t5, t6⟩
    simp only [ht] at hl' ⊢
    clear h0 h1 ht b
    have lidN := Mem.get_lt gN
    by_cases hlt : j < out.length
    · have hc' : decide ((j : Int) < rows.length) = true := decide_eq_true (by omega)
      have w1 : IntKind.i64.wrap ((j : Int) + 1) = ((j + 1 : Nat) : Int) := by rw [wrap_i64] <;> omega
      have w2 : IntKind.i64.wrap ((i : Int) + 1) = ((i + 1 : Nat) : Int) := by rw [wrap_i64] <;> omega
      obtain ⟨x, hx⟩ : ∃ x, out[j] = x := ⟨_, rfl⟩
      obtain ⟨r, hrj, ⟨ab, rfl, hab⟩⟩ : ∃ r, rows[j]? = some r ∧ isItem r x := ⟨_, List.getElem?_eq_getElem (by omega), by rw [← hx]; exact hA.get (by omega) hlt⟩
      have hrsj : rs[j]? = some [I64 x.seq, ab] := by
        have h1 : (rs.drop j)[0]? = (rows.drop j)[0]? := by rw [hdr]
        rw [List.getElem?_drop, List.getElem?_drop, Nat.add_zero, hrj] at h1
        exact h1
      have hfl := flat_len hr2
      have hld : ld2 N 2 (j * 2) true (N.get id) = some (.agg [I64 x.seq, ab], N) := by
        rw [gN, ld2_row, part_ag _ _ _ (by rw [hfl]; omega), flat_slot hr2 j _ hrsj]
      have hidb : id.blt N.size = true := blt_t lidN
      have ab1 := hab.one
      have rab := hab.rows mem0
      have abc := hab.cells
      have wX1 : Wf (N.add (.row false [I64 0, NIL])) := wfN.add _
      have zX1 : N.size < (N.add (.row false [I64 0, NIL])).size := by rw [add_size]; omega
      have gX : ((N.add (.row false [I64 0, NIL])).upd N.size (.row false [I64 x.seq, ab])).get N.size = some (.row false [I64 x.seq, ab]) := get_upd_eq wX1 _ _ zX1
      have sX : ((N.add (.row false [I64 0, NIL])).upd N.size (.row false [I64 x.seq, ab])).size = N.size + 1 := by rw [upd_size, add_size]
      have wX : Wf ((N.add (.row false [I64 0, NIL])).upd N.size (.row false [I64 x.seq, ab])) := wX1.upd _ _
      have kX : ∀ j, j < N.size → ((N.add (.row false [I64 0, NIL])).upd N.size (.row false [I64 x.seq, ab])).get j = N.get j := fun j hj => by rw [get_upd_ne wX1 _ _ _ (by omega), get_add wfN _ _ (by omega)]
      simp (maxSteps := 2000000) (disch := first | omega | assumption | (simp only [DS, Nat.reduceAdd, *]; done) | (simp only [DZ]; omega)) only [RUN, RU, footA, feetIn, resultsA, tupOf, frzL, slot, lay, icyL, fillA, repCells, kR, reduceIte, Nat.reduceEqDiff, Nat.reduceBEq, Nat.reduceLT, Nat.reduceAdd, Nat.reduceLeDiff, Nat.reduceSub, Nat.reduceMul, Int.reduceLT, Int.reduceLE, Int.reduceEq, Int.reduceAdd, Int.reduceSub, Int.reduceMul, t0, t1, t5, t6, hc', hld, hidb, rab]
      generalize (N.add (.row false [I64 0, NIL])).upd N.size (.row false [I64 x.seq, ab]) = X at *
      have hcX : X.get c = some (.row false [I64 ack]) := by rw [kX c (by omega), kN c lc (fun e => hic e.symm)]; exact hc
      have hgo := gone_run (fuel := fuel) (d := d + 1) (s := x.seq) hab wX hcX
      have wX2 : Wf (X.add (.row false [I64 x.seq, ab])) := wX.add _
      have sX2 : (X.add (.row false [I64 x.seq, ab])).size = N.size + 2 := by rw [add_size, sX]
      have kX2 : ∀ q, q < N.size → (X.add (.row false [I64 x.seq, ab])).get q = N.get q := fun q hq => by rw [get_add wX _ _ (by omega), kX q hq]
      have gX2 : (X.add (.row false [I64 x.seq, ab])).get N.size = some (.row false [I64 x.seq, ab]) := by rw [get_add wX _ _ (by omega)]; exact gX
      have gid2 : (X.add (.row false [I64 x.seq, ab])).get id = some (.row false rs.flatten) := by rw [kX2 id lidN]; exact gN
      have lnX : N.size.blt X.size = true := blt_t (by omega)
      have lnX2 : N.size.blt (N.size + 2) = true := blt_t (by omega)
      have lidX2 : id.blt (N.size + 2) = true := blt_t (by omega)
      have htk : (out.take (j + 1)).filter (fun x => !decide (x.seq ≤ ack)) = (out.take j).filter (fun x => !decide (x.seq ≤ ack)) ++ (if x.seq ≤ ack then [] else [x]) := by
        rw [List.take_add_one, List.getElem?_eq_getElem hlt, hx, List.filter_append]
        by_cases hg : x.seq ≤ ack <;> simp [hg]
      have hdr2 : rs.drop (j + 1) = rows.drop (j + 1) := by
        have := congrArg (List.drop 1) hdr
        rw [List.drop_drop, List.drop_drop] at this
        exact this
      by_cases hg : x.seq ≤ ack
      · have qg : decide (x.seq ≤ ack) = true := decide_eq_true hg
        rw [qg] at hgo
        rw [if_pos hg, List.append_nil] at htk
        simp (maxSteps := 2000000) (disch := first | omega | assumption | (simp only [DS, Nat.reduceAdd, *]; done) | (simp only [DZ]; omega)) only [RUN, RU, footA, feetIn, resultsA, tupOf, frzL, slot, lay, icyL, fillA, repCells, kR, reduceIte, Nat.reduceEqDiff, Nat.reduceBEq, Nat.reduceLT, Nat.reduceAdd, Nat.reduceLeDiff, Nat.reduceSub, Nat.reduceMul, Int.reduceLT, Int.reduceLE, Int.reduceEq, Int.reduceAdd, Int.reduceSub, Int.reduceMul, t0, t1, t5, t6, gX, lnX, hgo, w1]
        exact ⟨hl', out.length - (j + 1), by omega, i, j + 1, rs, by omega, by omega, rfl, hrl, hr2, by rw [htk]; exact hAi, hdr2, wX, by omega, fun q hq hqi => by rw [kX2 q (by omega)]; exact kN q hq hqi, by rw [kX id lidN]; exact gN, rfl, rfl⟩
      · have qg : decide (x.seq ≤ ack) = false := decide_eq_false hg
        rw [qg] at hgo
        rw [if_neg hg] at htk
        have hst : st2 (X.add (.row false [I64 x.seq, ab])) id (i * 2) 2 [I64 x.seq, ab] (some (.row false rs.flatten)) = some (undefA, (X.add (.row false [I64 x.seq, ab])).upd id (.row false (rs.set i [I64 x.seq, ab]).flatten)) := by
          obtain ⟨ri, hri⟩ : ∃ ri, rs[i]? = some ri := ⟨_, List.getElem?_eq_getElem (by omega)⟩
          have hril := hr2 ri (List.mem_of_getElem? hri)
          have e := flat_lay (off := 0) (new := [I64 x.seq, ab]) hr2 hri (by simp)
          have e2 : lay ri 0 [I64 x.seq, ab] = [I64 x.seq, ab] := by
            unfold lay
            rw [List.take_zero, List.nil_append, List.drop_eq_nil_of_le (by simp; omega), List.append_nil]
          rw [e2, Nat.add_zero] at e
          rw [st2_row (M := X.add (.row false [I64 x.seq, ab])) id (i * 2) 2 [I64 x.seq, ab] rs.flatten false rfl (by rw [hfl]; omega) (by simp only [List.all_cons, List.all_nil, one_sc_int, ab1, Bool.and_true]) (by omega) wX2, e]
        simp (maxSteps := 2000000) (disch := first | omega | assumption | (simp only [DS, Nat.reduceAdd, *]; done) | (simp only [DZ]; omega)) only [RUN, RU, footA, feetIn, resultsA, tupOf, frzL, slot, lay, icyL, fillA, repCells, kR, reduceIte, Nat.reduceEqDiff, Nat.reduceBEq, Nat.reduceLT, Nat.reduceAdd, Nat.reduceLeDiff, Nat.reduceSub, Nat.reduceMul, Int.reduceLT, Int.reduceLE, Int.reduceEq, Int.reduceAdd, Int.reduceSub, Int.reduceMul, t0, t1, t5, t6, gX, lnX, hgo, gX2, gid2, lnX2, lidX2, sX, sX2, ab1, abc, rab, hst, w1, w2]
        refine ⟨hl', out.length - (j + 1), by omega, i + 1, j + 1, rs.set i [I64 x.seq, ab], by omega, by omega, rfl, by rw [List.length_set]; exact hrl, fun r h => ?_, ?_, ?_, wX, by omega, fun q hq hqi => ?_, rfl, rfl, rfl⟩
        · rcases List.mem_or_eq_of_mem_set h with h | rfl
          · exact hr2 r h
          · rfl
        · have e1 : (rs.set i [I64 x.seq, ab]).take (i + 1) = rs.take i ++ [[I64 x.seq, ab]] := by
            rw [List.take_add_one, List.getElem?_set_self (by omega), List.take_set, List.set_eq_of_length_le (by rw [List.length_take]; omega)]
            rfl
          rw [e1, htk]
          exact all2_snoc hAi ⟨ab, rfl, hab⟩
        · rw [List.drop_set_of_lt (by omega)]; exact hdr2
        · rw [get_upd_ne wX2 _ _ _ (fun e => hqi e.symm), kX2 q (by omega)]; exact kN q hq hqi
    · have hc' : decide ((j : Int) < rows.length) = false := decide_eq_false (by omega)
      obtain rfl : j = out.length := by omega
      rw [List.take_length] at hAi
      have hfl := flat_len hr2
      obtain ⟨cap1, hs1⟩ := part_from2 (M := N) (cap := cap) (id := id) (n := rows.length) (k := i) (cs := rs.flatten) hcap (by rw [rd_get, gN, rd1_row]) (by rw [hfl, hrl]) (by omega)
      have hcl : clrO N 2 (.agg #[.int .i64 0, .slice none 0 0]) (.sl id (i * 2) (rows.length - i) cap1 2) = some (.sc (.tuple #[]), N.upd id (.row false ((rs.take i).flatten ++ repCells (.agg #[.int .i64 0, .slice none 0 0]) (rows.length - i)))) := by
        have hb0 : Nat.beq (rows.length - i) 0 = false := by
          cases h : Nat.beq (rows.length - i) 0 with
          | false => rfl
          | true => have := Nat.eq_of_beq_eq_true h; omega
        have hlay : lay rs.flatten (i * 2) (repCells (.agg #[.int .i64 0, .slice none 0 0]) (rows.length - i)) = (rs.take i).flatten ++ repCells (.agg #[.int .i64 0, .slice none 0 0]) (rows.length - i) := by
          have hft : rs.flatten = (rs.take i).flatten ++ (rs.drop i).flatten := by rw [← List.flatten_append, List.take_append_drop]
          have hl1 : (rs.take i).flatten.length = i * 2 := by rw [flat_len (st := 2) (fun r h => hr2 r (List.mem_of_mem_take h)), List.length_take]; omega
          unfold lay
          rw [List.drop_eq_nil_of_le (by rw [hfl, rep_item_len]; omega), List.append_nil]
          congr 1
          rw [hft, List.take_left' hl1]
        simp only [clrO, hb0, gN, Nat.ble_eq_true_of_le (show i * 2 + (rows.length - i) * 2 ≤ rs.flatten.length by rw [hfl]; omega), rep_item_one, rep_item_len, Nat.beq_refl, Bool.and_self, put_upd wfN lidN, hlay]
      have gN2 : (N.upd id (.row false ((rs.take i).flatten ++ repCells (.agg #[.int .i64 0, .slice none 0 0]) (rows.length - i)))).get id = some (.row false ((rs.take i).flatten ++ repCells (.agg #[.int .i64 0, .slice none 0 0]) (rows.length - i))) := get_upd_eq wfN _ _ lidN
      have htl : (rs.take i).length = i := by rw [List.length_take]; omega
      obtain ⟨cap2, hs2⟩ := part_to2 (M := N.upd id (.row false ((rs.take i).flatten ++ repCells (.agg #[.int .i64 0, .slice none 0 0]) (rows.length - i)))) (cap := cap) (id := id) (n := rows.length) (k := i) (cs := (rs.take i).flatten ++ repCells (.agg #[.int .i64 0, .slice none 0 0]) (rows.length - i)) hcap (by rw [rd_get, gN2, rd1_row]) (by rw [List.length_append, flat_len (st := 2) (fun r h => hr2 r (List.mem_of_mem_take h)), htl, rep_item_len]; omega) (by omega)
      have hq := kk (.sl id 0 i cap2 2) _ (fz_part gN2 hAi (fun r h => hr2 r (List.mem_of_mem_take h)) htl) (fun j h => by cases h; rfl) (wfN.upd _ _) (by rw [upd_size]; exact leN) (fun q hq hqi => by rw [get_upd_ne wfN _ _ _ (fun e => hqi e.symm)]; exact kN q hq hqi)
      have hidb : id.blt N.size = true := blt_t lidN
      simp (maxSteps := 2000000) (disch := first | omega | assumption | (simp only [DS, Nat.reduceAdd, *]; done) | (simp only [DZ]; omega)) only [RUN, RU, footA, feetIn, resultsA, tupOf, frzL, slot, lay, icyL, fillA, repCells, kR, reduceIte, Nat.reduceEqDiff, Nat.reduceBEq, Nat.reduceLT, Nat.reduceAdd, Nat.reduceLeDiff, Nat.reduceSub, Nat.reduceMul, Int.reduceLT, Int.reduceLE, Int.reduceEq, Int.reduceAdd, Int.reduceSub, Int.reduceMul, t0, t1, t5, t6, hc', hs1, x_clr, hcl, hs2, hidb, hq]
end Go.Proofs.Ytbemomagabjbnaa
