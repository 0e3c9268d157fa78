/-
  runes: Put.
-/
import Derived.Test.YtlccfbaibcdodaaRnB0
set_option linter.unusedSimpArgs false
set_option linter.unusedVariables false
set_option maxRecDepth 100000
namespace Go.Proofs.Ytlccfbaibcdodaa
open Go Go.Ax
variable {fuel : Nat} {M : Mem} {Q : AV → Mem → Prop} {d : Nat}

/-- A number's lowest byte. -/
def by8 (n : Int) : UInt8 := UInt8.ofNat (n % 256).toNat
theorem wrap_u8 (n : Int) : IntKind.u8.wrap n = ((by8 n).toNat : Int) := by
  simp [IntKind.wrap, IntKind.bits, IntKind.signed, by8, UInt8.toNat_ofNat']
  omega
/-- A number's four bytes. -/
def four (x : Int) : List UInt8 := [by8 (x.fdiv 16777216), by8 (x.fdiv 65536), by8 (x.fdiv 256), by8 x]
def wide (l : List Int) : List UInt8 := l.flatMap four

theorem sh24 (P : Program) (ty : TypeId) (a : Int) : binV P .shr ty .i32 a .u64 24 = some (.int .i32 (a.fdiv 16777216)) := vShr ty .i32 .u64 a 24 (by omega)
theorem sh16 (P : Program) (ty : TypeId) (a : Int) : binV P .shr ty .i32 a .u64 16 = some (.int .i32 (a.fdiv 65536)) := vShr ty .i32 .u64 a 16 (by omega)
theorem sh8 (P : Program) (ty : TypeId) (a : Int) : binV P .shr ty .i32 a .u64 8 = some (.int .i32 (a.fdiv 256)) := vShr ty .i32 .u64 a 8 (by omega)

set_option maxHeartbeats 4000000 in
theorem put_run {a : AV} {l : List Int} (hS : Sl 1 isI32 a l) (hf : 1000 < fuel) :
    if chk l ≠ 0 then ∀ M, callN Try.prog (fsT tbl) fuel (d + 6) (.fn 10) [a] M = some (.tup [NIL, I64 (chk l)], M)
    else ∃ r, Bs r (wide l) ∧ ∀ M, callN Try.prog (fsT tbl) fuel (d + 6) (.fn 10) [a] M = some (.tup [r, I64 0], M) := by
  have hck := check_run (fuel := fuel) (d := d) hS hf
  have hlen := hS.len
  have ic : ∀ M, icyL (icy 12) M [a] = some ([a], M) := fun M => by simp (maxSteps := 2000000) (disch := first | omega | assumption | (simp only [DS, Nat.reduceAdd, *]; done) | (simp only [DZ]; omega)) only [RUN, RU, footA, feetIn, resultsA, tupOf, frzL, slot, lay, icyL, fillA, repCells, kR, reduceIte, Nat.reduceEqDiff, Nat.reduceBEq, Nat.reduceLT, Nat.reduceAdd, Nat.reduceLeDiff, Nat.reduceSub, Nat.reduceMul, Int.reduceLT, Int.reduceLE, Int.reduceEq, Int.reduceAdd, Int.reduceSub, Int.reduceMul, hS.icy]
  split
  · rename_i hc
    intro M
    have q1 : decide (chk l = 0) = false := by simp [hc]
    apply w3_eq
    refine call_gc tf10 rfl (ic M) (by simp [a10]) fun b ht hx => ?_
    have h0 := hx 0 _ rfl
    clear hx
    simp only [a10, c10] at ht ⊢
    simp (maxSteps := 2000000) (disch := first | omega | assumption | (simp only [DS, Nat.reduceAdd, *]; done) | (simp only [DZ]; omega)) only [RUN, RU, footA, feetIn, resultsA, tupOf, frzL, slot, lay, icyL, fillA, repCells, kR, reduceIte, Nat.reduceEqDiff, Nat.reduceBEq, Nat.reduceLT, Nat.reduceAdd, Nat.reduceLeDiff, Nat.reduceSub, Nat.reduceMul, Int.reduceLT, Int.reduceLE, Int.reduceEq, Int.reduceAdd, Int.reduceSub, Int.reduceMul, h0, hck, q1]
  rename_i hc
  have hc : chk l = 0 := by omega
  have q1 : decide (chk l = 0) = true := by simp [hc]
  have h64 : l.length ≤ 64 := by unfold chk at hc; split at hc <;> omega
  have key : W3 (callN Try.prog (fsT tbl) fuel (d + 6) (.fn 10) [a] mem0) (fun r _ => ∃ r', r = .tup [r', I64 0] ∧ Bs r' (wide l)) := by
    refine call_gc tf10 rfl (ic mem0) (by simp [a10]) fun b ht hx => ?_
    have h0 := hx 0 _ rfl
    clear hx
    simp only [a10, c10] at ht ⊢
    simp (maxSteps := 2000000) (disch := first | omega | assumption | (simp only [DS, Nat.reduceAdd, *]; done) | (simp only [DZ]; omega)) only [RUN, RU, footA, feetIn, resultsA, tupOf, frzL, slot, lay, icyL, fillA, repCells, kR, reduceIte, Nat.reduceEqDiff, Nat.reduceBEq, Nat.reduceLT, Nat.reduceAdd, Nat.reduceLeDiff, Nat.reduceSub, Nat.reduceMul, Int.reduceLT, Int.reduceLE, Int.reduceEq, Int.reduceAdd, Int.reduceSub, Int.reduceMul, h0, hck, q1, hlen]
    refine w_loop (I := fun n t N => ∃ (i : Nat) (o : AV), i ≤ l.length ∧ n = l.length - i ∧ nth undefA t 5 = o ∧ nth undefA t 13 = a ∧ nth undefA t 14 = I64 l.length ∧ nth undefA t 15 = I64 i ∧ Wf N ∧ SlM N 1 isU8 o (wide (l.take i))) (n := l.length) (by omega) ?_ ?_
    · refine ⟨0, NIL, by omega, by omega, ?_, ?_, ?_, ?_, Wf.mem0, .nil⟩
      all_goals simp (maxSteps := 2000000) (disch := first | omega | assumption | (simp only [DS, Nat.reduceAdd, *]; done) | (simp only [DZ]; omega)) only [RUN, RU, footA, feetIn, resultsA, tupOf, frzL, slot, lay, icyL, fillA, repCells, kR, reduceIte, Nat.reduceEqDiff, Nat.reduceBEq, Nat.reduceLT, Nat.reduceAdd, Nat.reduceLeDiff, Nat.reduceSub, Nat.reduceMul, Int.reduceLT, Int.reduceLE, Int.reduceEq, Int.reduceAdd, Int.reduceSub, Int.reduceMul]
      rfl
    · rintro n t N hl' ⟨i, o, hi, hn, t5, t13, t14, t15, wfN, hN⟩
      simp only [ht] at hl' ⊢
      clear h0 ht b
      by_cases hlt : i < l.length
      · have hc' : decide ((i : Int) < l.length) = true := by simp; omega
        have w1 : IntKind.i64.wrap ((i : Int) + 1) = ((i + 1 : Nat) : Int) := by rw [wrap_i64] <;> omega
        obtain ⟨r, hr, ⟨rfl, _⟩, _⟩ := hS.iad i hlt
        have cv := fun t r x => pConv2 (P := Try.prog) (t := t) Try.underlying21 Try.underlying5 r x
        let row : List AV := [U8 (by8 (l[i].fdiv 16777216)).toNat, U8 (by8 (l[i].fdiv 65536)).toNat, U8 (by8 (l[i].fdiv 256)).toNat, U8 (by8 l[i]).toNat]
        have gy : (N.add (.row false row)).get N.size = some (.row false row) := get_add_new wfN _ _ (Nat.le_refl _) (by omega)
        have hN' : SlM (N.add (.row false row)) 1 isU8 o (wide (l.take i)) := hN.keep fun id h => get_add wfN _ _ (hN.lt id h)
        have hwl : (wide (l.take i)).length ≤ 1000 := by
          have : ∀ m : List Int, (wide m).length = 4 * m.length := fun m => by
            induction m with
            | nil => rfl
            | cons x m ih => simp only [wide, List.flatMap_cons, List.length_append, List.length_cons] at ih ⊢; rw [ih]; simp [four]; omega
          rw [this, List.length_take]; omega
        obtain ⟨o', M1, hap, hS1, wf1, _⟩ := hN'.appO (wfN.add _) (y := .sl N.size 0 4 (some 4) 1) (l' := four l[i]) (new := [[U8 (by8 (l[i].fdiv 16777216)).toNat], [U8 (by8 (l[i].fdiv 65536)).toNat], [U8 (by8 (l[i].fdiv 256)).toNat], [U8 (by8 l[i]).toNat]]) (bytes := 1) (cells_lit gy rfl) rfl
          (.cons rfl (.cons rfl (.cons rfl (.cons rfl .nil)))) (by simp) rfl (by omega) (by simp [four]; omega) (by simp [four]; omega)
        have RLo := hN.rl
        simp only [row] at hap
        simp (maxSteps := 2000000) (disch := first | omega | assumption | (simp only [DS, Nat.reduceAdd, *]; done) | (simp only [DZ]; omega)) only [RUN, RU, footA, feetIn, resultsA, tupOf, frzL, slot, lay, icyL, fillA, repCells, kR, reduceIte, Nat.reduceEqDiff, Nat.reduceBEq, Nat.reduceLT, Nat.reduceAdd, Nat.reduceLeDiff, Nat.reduceSub, Nat.reduceMul, Int.reduceLT, Int.reduceLE, Int.reduceEq, Int.reduceAdd, Int.reduceSub, Int.reduceMul, t5, t13, t14, t15, hc', hr, w1, cv, pc1_int, wrap_u8, sh24, sh16, sh8, wfN, rows_lt RLo, hap]
        refine ⟨hl', l.length - (i + 1), by omega, i + 1, o', by omega, rfl, rfl, rfl, wf1, ?_⟩
        have htk : l.take (i + 1) = l.take i ++ [l[i]] := by rw [List.take_add_one, List.getElem?_eq_getElem hlt]; rfl
        rw [htk]
        simp only [wide, List.flatMap_append, List.flatMap_cons, List.flatMap_nil, List.append_nil] at hS1 ⊢
        exact hS1
      · have hc' : decide ((i : Int) < l.length) = false := by simp; omega
        have hil : i = l.length := by omega
        subst hil
        rw [List.take_length] at hN
        obtain ⟨r, hfz, hSr⟩ := hN.frz cel_U8 (k := 12) (by omega)
        simp (maxSteps := 2000000) (disch := first | omega | assumption | (simp only [DS, Nat.reduceAdd, *]; done) | (simp only [DZ]; omega)) only [RUN, RU, footA, feetIn, resultsA, tupOf, frzL, slot, lay, icyL, fillA, repCells, kR, reduceIte, Nat.reduceEqDiff, Nat.reduceBEq, Nat.reduceLT, Nat.reduceAdd, Nat.reduceLeDiff, Nat.reduceSub, Nat.reduceMul, Int.reduceLT, Int.reduceLE, Int.reduceEq, Int.reduceAdd, Int.reduceSub, Int.reduceMul, t5, t13, t14, t15, hc', hfz]
        exact ⟨r, rfl, hSr⟩
  obtain ⟨r, N, hcl, r', rfl, hSr⟩ := key
  exact ⟨r', hSr, fun M => call_own tf10 rfl hcl (ic mem0) (ic M)⟩

end Go.Proofs.Ytlccfbaibcdodaa
