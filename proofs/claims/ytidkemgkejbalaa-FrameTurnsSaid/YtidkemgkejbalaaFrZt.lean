/-
  Three bytes and none: whether they are the same.
-/
import Derived.Test.YtidkemgkejbalaaFrZ
import Derived.KernelRfl
set_option linter.unusedSimpArgs false
set_option linter.unusedVariables false
set_option maxRecDepth 100000
namespace Go.Proofs.Ytidkemgkejbalaa
open Go Go.Ax
theorem eq_u8 {P : Program} {ty : TypeId} (d : Nat) (a b : Int) {x : IntKind} (hu : P.underlying ty = some (.int x)) : pureRun P (Op.equalIn (d + 1) ty (.int .u8 a) (.int .u8 b)) = some (a == b) := by
  unfold Op.equalIn
  refine pureRun_bind2 _ (a := TypeDesc.int x) (pureRun_bind2 _ (a := P) rfl (by simp only [hu]; rfl)) ?_
  rfl
theorem sz1 : pureRun Try.prog (sizeOf 5) = some 1 := by kernel_rfl
theorem pt0 (a b c : Value) : pureRun Try.prog (part 5 #[a, b, c] (0 * 1)) = some a := by kernel_rfl
theorem pt1 (a b c : Value) : pureRun Try.prog (part 5 #[a, b, c] (1 * 1)) = some b := by kernel_rfl
theorem pt2 (a b c : Value) : pureRun Try.prog (part 5 #[a, b, c] (2 * 1)) = some c := by kernel_rfl
theorem eq_arr (d : Nat) (a b c : Int) : pureRun Try.prog (Op.equalIn (d + 2) 23 (.agg #[.int .u8 a, .int .u8 b, .int .u8 c]) (.agg #[.int .u8 0, .int .u8 0, .int .u8 0])) = some (a == 0 && b == 0 && c == 0) := by
  have hu := fun a => eq_u8 (P := Try.prog) d a 0 Try.underlying5
  rw [Op.equalIn]
  refine pureRun_bind2 _ (a := TypeDesc.array 3 5) (pureRun_bind2 _ (a := Try.prog) rfl (by simp only [Try.underlying23]; rfl)) ?_
  simp only []
  refine pureRun_bind2 _ sz1 ?_
  simp only [Std.Legacy.Range.forIn_eq_forIn_range', Std.Legacy.Range.size]
  have hl : List.range' 0 ((3 - 0 + 1 - 1) / 1) 1 = [0, 1, 2] := rfl
  simp only [hl, List.forIn_cons, List.forIn_nil]
  refine pureRun_bind2 _ (a := ((if a == 0 && b == 0 && c == 0 then none else some false), ())) ?_ (by cases (a == 0 && b == 0 && c == 0) <;> rfl)
  cases ha : (a == 0) with
  | false => exact pureRun_bind2 _ (a := ForInStep.done (some false, ())) (pureRun_bind2 _ (pt0 _ _ _) (pureRun_bind2 _ (pt0 _ _ _) (pureRun_bind2 _ (hu a) (by rw [ha]; rfl)))) rfl
  | true =>
  refine pureRun_bind2 _ (a := ForInStep.yield (none, ())) (pureRun_bind2 _ (pt0 _ _ _) (pureRun_bind2 _ (pt0 _ _ _) (pureRun_bind2 _ (hu a) (by rw [ha]; rfl)))) ?_
  cases hb : (b == 0) with
  | false => exact pureRun_bind2 _ (a := ForInStep.done (some false, ())) (pureRun_bind2 _ (pt1 _ _ _) (pureRun_bind2 _ (pt1 _ _ _) (pureRun_bind2 _ (hu b) (by rw [hb]; rfl)))) rfl
  | true =>
  refine pureRun_bind2 _ (a := ForInStep.yield (none, ())) (pureRun_bind2 _ (pt1 _ _ _) (pureRun_bind2 _ (pt1 _ _ _) (pureRun_bind2 _ (hu b) (by rw [hb]; rfl)))) ?_
  cases hc : (c == 0) with
  | false => exact pureRun_bind2 _ (a := ForInStep.done (some false, ())) (pureRun_bind2 _ (pt2 _ _ _) (pureRun_bind2 _ (pt2 _ _ _) (pureRun_bind2 _ (hu c) (by rw [hc]; rfl)))) rfl
  | true => exact pureRun_bind2 _ (a := ForInStep.yield (none, ())) (pureRun_bind2 _ (pt2 _ _ _) (pureRun_bind2 _ (pt2 _ _ _) (pureRun_bind2 _ (hu c) (by rw [hc]; rfl)))) rfl
theorem eq_guard (i j : Nat) (a b c : Int) : pureRun Try.prog (eqGuard .neq 23 (.tmp i) (.tmp j) (.agg #[.int .u8 a, .int .u8 b, .int .u8 c]) (.agg #[.int .u8 0, .int .u8 0, .int .u8 0])) = some () := by kernel_rfl
/-- Are three bytes not all nought? -/
def pne (d : Option AV) (u v : AV) : Option AV := match u, v with
  | .agg [.sc (.int .u8 a), .sc (.int .u8 b), .sc (.int .u8 c)], .agg [.sc (.int .u8 0), .sc (.int .u8 0), .sc (.int .u8 0)] => some (BL (!(a == 0 && b == 0 && c == 0)))
  | _, _ => d
theorem pNeArr {t : List AV} (i j : Nat) : pureOp Try.prog t (mkO (.binOp .neq 23 (.tmp i) (.tmp j) 23) 4) = pne (pureD Try.prog t (mkO (.binOp .neq 23 (.tmp i) (.tmp j) 23) 4)) (evalA t (.tmp i)) (evalA t (.tmp j)) := by
  unfold pne
  split
  · rename_i a b c h1 h2
    refine pureOp_of (v := .bool (!(a == 0 && b == 0 && c == 0))) ?_ ?_
    · simp only [mkO, Op.operands]
      show ([Operand.tmp i, .tmp j].all fun x => (toVal (evalA t x)).isSome) = true
      simp only [List.all_cons, List.all_nil, h1, h2]
      rfl
    · have t1 : (toVal (.agg [.sc (.int .u8 a), .sc (.int .u8 b), .sc (.int .u8 c)])).getD undef = .agg #[.int .u8 a, .int .u8 b, .int .u8 c] := rfl
      have t2 : (toVal (.agg [.sc (.int .u8 0), .sc (.int .u8 0), .sc (.int .u8 0)])).getD undef = .agg #[.int .u8 0, .int .u8 0, .int .u8 0] := rfl
      simp only [execOp, mkO, h1, h2, t1, t2]
      have hb : pureRun Try.prog (binOp .neq 23 (.agg #[.int .u8 a, .int .u8 b, .int .u8 c]) (.agg #[.int .u8 0, .int .u8 0, .int .u8 0])) = some (.bool (!(a == 0 && b == 0 && c == 0))) := by
        unfold binOp
        exact pureRun_bind2 _ (eq_arr 9998 a b c) rfl
      exact pureRun_bind2 _ (pureRun_bind2 _ (a := ()) (eq_guard i j a b c) hb) rfl
  · rfl
end Go.Proofs.Ytidkemgkejbalaa
