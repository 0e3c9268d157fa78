/-
  Labels, handles, ids, spans, operations, runs: their cells, and how they are compared.
-/
import Derived.Test.YtbomjpdheibmfaaTb
import Derived.Test.YtbomjpdheibmfaaEf
set_option linter.unusedSimpArgs false
set_option linter.unusedVariables false
set_option maxRecDepth 100000
namespace Go.Proofs.Ytbomjpdheibmfaa
open Go Go.Ax
abbrev U32 (n : Int) : AV := .sc (.int .u32 n)
structure Lb where
  lv : Int
  cats : Int
  deriving DecidableEq
structure Hd where
  lb : Lb
  num : Int
  deriving DecidableEq
structure Eid where
  hd : Hd
  c : Int
  deriving DecidableEq
structure Spn where
  f : Eid
  n : Int
  deriving DecidableEq
structure Op where
  kd : Int
  hd : Hd
  sr : Int
  sp : Spn
  af : Eid
  to : Lb
  rs : List Int
  deriving DecidableEq
structure Rn where
  sp : Spn
  af : Eid
  rs : List Int
  deriving DecidableEq
abbrev Lb.z : Lb := ⟨0, 0⟩
abbrev Hd.z : Hd := ⟨⟨0, 0⟩, 0⟩
abbrev Eid.z : Eid := ⟨⟨⟨0, 0⟩, 0⟩, 0⟩
def i64R (x : Int) : Prop := -9223372036854775808 ≤ x ∧ x ≤ 9223372036854775807
def Lb.ok (x : Lb) : Prop := 0 ≤ x.lv ∧ x.lv ≤ 255 ∧ 0 ≤ x.cats ∧ x.cats < 4294967296
def Hd.ok (x : Hd) : Prop := x.lb.ok ∧ 0 ≤ x.num ∧ x.num ≤ 255
def Eid.ok (x : Eid) : Prop := x.hd.ok ∧ i64R x.c
def Spn.ok (x : Spn) : Prop := x.f.ok ∧ i64R x.n
def i32s (l : List Int) : Prop := ∀ x ∈ l, -2147483648 ≤ x ∧ x ≤ 2147483647
def Op.ok (o : Op) : Prop := (0 ≤ o.kd ∧ o.kd ≤ 255) ∧ o.hd.ok ∧ i64R o.sr ∧ o.sp.ok ∧ o.af.ok ∧ o.to.ok ∧ i32s o.rs
def Rn.ok (o : Rn) : Prop := o.sp.ok ∧ o.af.ok ∧ i32s o.rs
theorem Lb.z_ok : Lb.z.ok := by unfold Lb.ok; decide
theorem Hd.z_ok : Hd.z.ok := ⟨Lb.z_ok, by decide, by decide⟩
theorem Eid.z_ok : Eid.z.ok := ⟨Hd.z_ok, by decide, by decide⟩
abbrev lbR (x : Lb) : List AV := [U8 x.lv, U32 x.cats]
abbrev hdR (x : Hd) : List AV := [U8 x.lb.lv, U32 x.lb.cats, U8 x.num]
abbrev idR (x : Eid) : List AV := [U8 x.hd.lb.lv, U32 x.hd.lb.cats, U8 x.hd.num, I64 x.c]
abbrev spR (x : Spn) : List AV := [U8 x.f.hd.lb.lv, U32 x.f.hd.lb.cats, U8 x.f.hd.num, I64 x.f.c, I64 x.n]
abbrev rnR (o : Rn) (ra : AV) : List AV := [U8 o.sp.f.hd.lb.lv, U32 o.sp.f.hd.lb.cats, U8 o.sp.f.hd.num, I64 o.sp.f.c, I64 o.sp.n, U8 o.af.hd.lb.lv, U32 o.af.hd.lb.cats, U8 o.af.hd.num, I64 o.af.c, ra]
abbrev lbA (x : Lb) : AV := .agg (lbR x)
abbrev hdA (x : Hd) : AV := .agg (hdR x)
abbrev idA (x : Eid) : AV := .agg (idR x)
abbrev spA (x : Spn) : AV := .agg (spR x)
def isI32 (r : List AV) (x : Int) : Prop := r = [I32 x]
def isEid (r : List AV) (x : Eid) : Prop := r = idR x ∧ x.ok
def isRn (r : List AV) (x : Rn) : Prop := ∃ ra, r = rnR x ra ∧ Sl 1 isI32 ra x.rs ∧ x.ok
theorem fz_I32 : FzT isI32 := fun r x h y hy => by
  rw [h, List.mem_singleton] at hy; subst hy; exact fz_sc_int _ _
theorem fz_idR (x : Eid) : ∀ y ∈ idR x, Fz y := fun y hy => by
  simp only [idR, List.mem_cons, List.not_mem_nil, or_false] at hy
  rcases hy with rfl | rfl | rfl | rfl <;> exact fz_sc_int _ _
theorem fz_spR (x : Spn) : ∀ y ∈ spR x, Fz y := fun y hy => by
  simp only [spR, List.mem_cons, List.not_mem_nil, or_false] at hy
  rcases hy with rfl | rfl | rfl | rfl | rfl <;> exact fz_sc_int _ _
theorem fz_rnR {o : Rn} {ra : AV} (h : Fz ra) : ∀ y ∈ rnR o ra, Fz y := fun y hy => by
  simp only [rnR, List.mem_cons, List.not_mem_nil, or_false] at hy
  rcases hy with rfl | rfl | rfl | rfl | rfl | rfl | rfl | rfl | rfl | rfl
  all_goals first | exact fz_sc_int _ _ | exact h
theorem fz_Rn : FzT isRn := fun r x h => by
  obtain ⟨ra, rfl, hr, _⟩ := h
  exact fz_rnR hr.fz
theorem Lb.eta (x : Lb) : Lb.mk x.lv x.cats = x := rfl
theorem Hd.eta (x : Hd) : Hd.mk x.lb x.num = x := rfl
theorem Eid.eta (x : Eid) : Eid.mk x.hd x.c = x := rfl
theorem Spn.eta (x : Spn) : Spn.mk x.f x.n = x := rfl
theorem ETA : type_of% (And.intro @Lb.eta (And.intro @Hd.eta (And.intro @Eid.eta @Spn.eta))) := And.intro @Lb.eta (And.intro @Hd.eta (And.intro @Eid.eta @Spn.eta))
theorem issLbE (a0 : Int) (a1 : Int) : PT.iss [.int .u8, .int .u32] [.int .u8 a0, .int .u32 a1] := by
  simp only [PT.iss, PT.is]
  exact ⟨[.int .u8 a0], [.int .u32 a1], rfl, ⟨_, rfl⟩, ⟨[.int .u32 a1], [], rfl, ⟨_, rfl⟩, rfl⟩⟩
def peLbE (d : Option AV) (u v : AV) : Option AV := match u, v with
  | .agg [.sc (.int .u8 a0), .sc (.int .u32 a1)], .agg [.sc (.int .u8 b0), .sc (.int .u32 b1)] => some (BL (decide (a0 = b0) && decide (a1 = b1)))
  | _, _ => d
theorem pLbE {t : List AV} (i j : Nat) : pureOp Try.prog t (mkO (.binOp .eql 25 (.tmp i) (.tmp j) 25) 4) = peLbE (pureD Try.prog t (mkO (.binOp .eql 25 (.tmp i) (.tmp j) 25) 4)) (evalA t (.tmp i)) (evalA t (.tmp j)) := by
  unfold peLbE
  split
  · rename_i a0 a1 b0 b1 h1 h2
    obtain ⟨r, hr, he⟩ := pEqS (P := Try.prog) [.int .u8, .int .u32] false 25 25 4 i j (by kernel_rfl) (by decide) (by kernel_rfl) h1 h2 rfl rfl (issLbE _ _) (issLbE _ _)
    have e : r = (decide (a0 = b0) && decide (a1 = b1)) := by
      rw [Bool.eq_iff_iff, he]
      simp [and_assoc]
    rw [← e]
    exact hr
  · rfl
theorem peLbE_val (d : Option AV) (a0 a1 : Int) (b0 b1 : Int) : peLbE d (.agg [.sc (.int .u8 a0), .sc (.int .u32 a1)]) (.agg [.sc (.int .u8 b0), .sc (.int .u32 b1)]) = some (BL (decide ((⟨a0, a1⟩ : Lb) = ⟨b0, b1⟩))) := by
  simp only [peLbE]
  congr 4
  rw [Bool.eq_iff_iff]
  simp [and_assoc]
theorem issLbN (a0 : Int) (a1 : Int) : PT.iss [.int .u8, .int .u32] [.int .u8 a0, .int .u32 a1] := by
  simp only [PT.iss, PT.is]
  exact ⟨[.int .u8 a0], [.int .u32 a1], rfl, ⟨_, rfl⟩, ⟨[.int .u32 a1], [], rfl, ⟨_, rfl⟩, rfl⟩⟩
def peLbN (d : Option AV) (u v : AV) : Option AV := match u, v with
  | .agg [.sc (.int .u8 a0), .sc (.int .u32 a1)], .agg [.sc (.int .u8 b0), .sc (.int .u32 b1)] => some (BL (!(decide (a0 = b0) && decide (a1 = b1))))
  | _, _ => d
theorem pLbN {t : List AV} (i j : Nat) : pureOp Try.prog t (mkO (.binOp .neq 25 (.tmp i) (.tmp j) 25) 4) = peLbN (pureD Try.prog t (mkO (.binOp .neq 25 (.tmp i) (.tmp j) 25) 4)) (evalA t (.tmp i)) (evalA t (.tmp j)) := by
  unfold peLbN
  split
  · rename_i a0 a1 b0 b1 h1 h2
    obtain ⟨r, hr, he⟩ := pEqS (P := Try.prog) [.int .u8, .int .u32] true 25 25 4 i j (by kernel_rfl) (by decide) (by kernel_rfl) h1 h2 rfl rfl (issLbN _ _) (issLbN _ _)
    have e : r = (decide (a0 = b0) && decide (a1 = b1)) := by
      rw [Bool.eq_iff_iff, he]
      simp [and_assoc]
    rw [← e]
    exact hr
  · rfl
theorem peLbN_val (d : Option AV) (a0 a1 : Int) (b0 b1 : Int) : peLbN d (.agg [.sc (.int .u8 a0), .sc (.int .u32 a1)]) (.agg [.sc (.int .u8 b0), .sc (.int .u32 b1)]) = some (BL (!decide ((⟨a0, a1⟩ : Lb) = ⟨b0, b1⟩))) := by
  simp only [peLbN]
  congr 4
  rw [Bool.eq_iff_iff]
  simp [and_assoc]
theorem issHdE (a0 : Int) (a1 : Int) (a2 : Int) : PT.iss [.st [.int .u8, .int .u32], .int .u8] [.int .u8 a0, .int .u32 a1, .int .u8 a2] := by
  simp only [PT.iss, PT.is]
  exact ⟨[.int .u8 a0, .int .u32 a1], [.int .u8 a2], rfl, ⟨[.int .u8 a0], [.int .u32 a1], rfl, ⟨_, rfl⟩, ⟨[.int .u32 a1], [], rfl, ⟨_, rfl⟩, rfl⟩⟩, ⟨[.int .u8 a2], [], rfl, ⟨_, rfl⟩, rfl⟩⟩
def peHdE (d : Option AV) (u v : AV) : Option AV := match u, v with
  | .agg [.sc (.int .u8 a0), .sc (.int .u32 a1), .sc (.int .u8 a2)], .agg [.sc (.int .u8 b0), .sc (.int .u32 b1), .sc (.int .u8 b2)] => some (BL (decide (a0 = b0) && decide (a1 = b1) && decide (a2 = b2)))
  | _, _ => d
theorem pHdE {t : List AV} (i j : Nat) : pureOp Try.prog t (mkO (.binOp .eql 27 (.tmp i) (.tmp j) 27) 4) = peHdE (pureD Try.prog t (mkO (.binOp .eql 27 (.tmp i) (.tmp j) 27) 4)) (evalA t (.tmp i)) (evalA t (.tmp j)) := by
  unfold peHdE
  split
  · rename_i a0 a1 a2 b0 b1 b2 h1 h2
    obtain ⟨r, hr, he⟩ := pEqS (P := Try.prog) [.st [.int .u8, .int .u32], .int .u8] false 27 27 4 i j (by kernel_rfl) (by decide) (by kernel_rfl) h1 h2 rfl rfl (issHdE _ _ _) (issHdE _ _ _)
    have e : r = (decide (a0 = b0) && decide (a1 = b1) && decide (a2 = b2)) := by
      rw [Bool.eq_iff_iff, he]
      simp [and_assoc]
    rw [← e]
    exact hr
  · rfl
theorem peHdE_val (d : Option AV) (a0 a1 a2 : Int) (b0 b1 b2 : Int) : peHdE d (.agg [.sc (.int .u8 a0), .sc (.int .u32 a1), .sc (.int .u8 a2)]) (.agg [.sc (.int .u8 b0), .sc (.int .u32 b1), .sc (.int .u8 b2)]) = some (BL (decide ((⟨⟨a0, a1⟩, a2⟩ : Hd) = ⟨⟨b0, b1⟩, b2⟩))) := by
  simp only [peHdE]
  congr 4
  rw [Bool.eq_iff_iff]
  simp [and_assoc]
theorem issHdN (a0 : Int) (a1 : Int) (a2 : Int) : PT.iss [.st [.int .u8, .int .u32], .int .u8] [.int .u8 a0, .int .u32 a1, .int .u8 a2] := by
  simp only [PT.iss, PT.is]
  exact ⟨[.int .u8 a0, .int .u32 a1], [.int .u8 a2], rfl, ⟨[.int .u8 a0], [.int .u32 a1], rfl, ⟨_, rfl⟩, ⟨[.int .u32 a1], [], rfl, ⟨_, rfl⟩, rfl⟩⟩, ⟨[.int .u8 a2], [], rfl, ⟨_, rfl⟩, rfl⟩⟩
def peHdN (d : Option AV) (u v : AV) : Option AV := match u, v with
  | .agg [.sc (.int .u8 a0), .sc (.int .u32 a1), .sc (.int .u8 a2)], .agg [.sc (.int .u8 b0), .sc (.int .u32 b1), .sc (.int .u8 b2)] => some (BL (!(decide (a0 = b0) && decide (a1 = b1) && decide (a2 = b2))))
  | _, _ => d
theorem pHdN {t : List AV} (i j : Nat) : pureOp Try.prog t (mkO (.binOp .neq 27 (.tmp i) (.tmp j) 27) 4) = peHdN (pureD Try.prog t (mkO (.binOp .neq 27 (.tmp i) (.tmp j) 27) 4)) (evalA t (.tmp i)) (evalA t (.tmp j)) := by
  unfold peHdN
  split
  · rename_i a0 a1 a2 b0 b1 b2 h1 h2
    obtain ⟨r, hr, he⟩ := pEqS (P := Try.prog) [.st [.int .u8, .int .u32], .int .u8] true 27 27 4 i j (by kernel_rfl) (by decide) (by kernel_rfl) h1 h2 rfl rfl (issHdN _ _ _) (issHdN _ _ _)
    have e : r = (decide (a0 = b0) && decide (a1 = b1) && decide (a2 = b2)) := by
      rw [Bool.eq_iff_iff, he]
      simp [and_assoc]
    rw [← e]
    exact hr
  · rfl
theorem peHdN_val (d : Option AV) (a0 a1 a2 : Int) (b0 b1 b2 : Int) : peHdN d (.agg [.sc (.int .u8 a0), .sc (.int .u32 a1), .sc (.int .u8 a2)]) (.agg [.sc (.int .u8 b0), .sc (.int .u32 b1), .sc (.int .u8 b2)]) = some (BL (!decide ((⟨⟨a0, a1⟩, a2⟩ : Hd) = ⟨⟨b0, b1⟩, b2⟩))) := by
  simp only [peHdN]
  congr 4
  rw [Bool.eq_iff_iff]
  simp [and_assoc]
theorem issIdE (a0 : Int) (a1 : Int) (a2 : Int) (a3 : Int) : PT.iss [.st [.st [.int .u8, .int .u32], .int .u8], .int .i64] [.int .u8 a0, .int .u32 a1, .int .u8 a2, .int .i64 a3] := by
  simp only [PT.iss, PT.is]
  exact ⟨[.int .u8 a0, .int .u32 a1, .int .u8 a2], [.int .i64 a3], rfl, ⟨[.int .u8 a0, .int .u32 a1], [.int .u8 a2], rfl, ⟨[.int .u8 a0], [.int .u32 a1], rfl, ⟨_, rfl⟩, ⟨[.int .u32 a1], [], rfl, ⟨_, rfl⟩, rfl⟩⟩, ⟨[.int .u8 a2], [], rfl, ⟨_, rfl⟩, rfl⟩⟩, ⟨[.int .i64 a3], [], rfl, ⟨_, rfl⟩, rfl⟩⟩
def peIdE (d : Option AV) (u v : AV) : Option AV := match u, v with
  | .agg [.sc (.int .u8 a0), .sc (.int .u32 a1), .sc (.int .u8 a2), .sc (.int .i64 a3)], .agg [.sc (.int .u8 b0), .sc (.int .u32 b1), .sc (.int .u8 b2), .sc (.int .i64 b3)] => some (BL (decide (a0 = b0) && decide (a1 = b1) && decide (a2 = b2) && decide (a3 = b3)))
  | _, _ => d
theorem pIdE {t : List AV} (i j : Nat) : pureOp Try.prog t (mkO (.binOp .eql 29 (.tmp i) (.tmp j) 29) 4) = peIdE (pureD Try.prog t (mkO (.binOp .eql 29 (.tmp i) (.tmp j) 29) 4)) (evalA t (.tmp i)) (evalA t (.tmp j)) := by
  unfold peIdE
  split
  · rename_i a0 a1 a2 a3 b0 b1 b2 b3 h1 h2
    obtain ⟨r, hr, he⟩ := pEqS (P := Try.prog) [.st [.st [.int .u8, .int .u32], .int .u8], .int .i64] false 29 29 4 i j (by kernel_rfl) (by decide) (by kernel_rfl) h1 h2 rfl rfl (issIdE _ _ _ _) (issIdE _ _ _ _)
    have e : r = (decide (a0 = b0) && decide (a1 = b1) && decide (a2 = b2) && decide (a3 = b3)) := by
      rw [Bool.eq_iff_iff, he]
      simp [and_assoc]
    rw [← e]
    exact hr
  · rfl
theorem peIdE_val (d : Option AV) (a0 a1 a2 a3 : Int) (b0 b1 b2 b3 : Int) : peIdE d (.agg [.sc (.int .u8 a0), .sc (.int .u32 a1), .sc (.int .u8 a2), .sc (.int .i64 a3)]) (.agg [.sc (.int .u8 b0), .sc (.int .u32 b1), .sc (.int .u8 b2), .sc (.int .i64 b3)]) = some (BL (decide ((⟨⟨⟨a0, a1⟩, a2⟩, a3⟩ : Eid) = ⟨⟨⟨b0, b1⟩, b2⟩, b3⟩))) := by
  simp only [peIdE]
  congr 4
  rw [Bool.eq_iff_iff]
  simp [and_assoc]
theorem issIdN (a0 : Int) (a1 : Int) (a2 : Int) (a3 : Int) : PT.iss [.st [.st [.int .u8, .int .u32], .int .u8], .int .i64] [.int .u8 a0, .int .u32 a1, .int .u8 a2, .int .i64 a3] := by
  simp only [PT.iss, PT.is]
  exact ⟨[.int .u8 a0, .int .u32 a1, .int .u8 a2], [.int .i64 a3], rfl, ⟨[.int .u8 a0, .int .u32 a1], [.int .u8 a2], rfl, ⟨[.int .u8 a0], [.int .u32 a1], rfl, ⟨_, rfl⟩, ⟨[.int .u32 a1], [], rfl, ⟨_, rfl⟩, rfl⟩⟩, ⟨[.int .u8 a2], [], rfl, ⟨_, rfl⟩, rfl⟩⟩, ⟨[.int .i64 a3], [], rfl, ⟨_, rfl⟩, rfl⟩⟩
def peIdN (d : Option AV) (u v : AV) : Option AV := match u, v with
  | .agg [.sc (.int .u8 a0), .sc (.int .u32 a1), .sc (.int .u8 a2), .sc (.int .i64 a3)], .agg [.sc (.int .u8 b0), .sc (.int .u32 b1), .sc (.int .u8 b2), .sc (.int .i64 b3)] => some (BL (!(decide (a0 = b0) && decide (a1 = b1) && decide (a2 = b2) && decide (a3 = b3))))
  | _, _ => d
theorem pIdN {t : List AV} (i j : Nat) : pureOp Try.prog t (mkO (.binOp .neq 29 (.tmp i) (.tmp j) 29) 4) = peIdN (pureD Try.prog t (mkO (.binOp .neq 29 (.tmp i) (.tmp j) 29) 4)) (evalA t (.tmp i)) (evalA t (.tmp j)) := by
  unfold peIdN
  split
  · rename_i a0 a1 a2 a3 b0 b1 b2 b3 h1 h2
    obtain ⟨r, hr, he⟩ := pEqS (P := Try.prog) [.st [.st [.int .u8, .int .u32], .int .u8], .int .i64] true 29 29 4 i j (by kernel_rfl) (by decide) (by kernel_rfl) h1 h2 rfl rfl (issIdN _ _ _ _) (issIdN _ _ _ _)
    have e : r = (decide (a0 = b0) && decide (a1 = b1) && decide (a2 = b2) && decide (a3 = b3)) := by
      rw [Bool.eq_iff_iff, he]
      simp [and_assoc]
    rw [← e]
    exact hr
  · rfl
theorem peIdN_val (d : Option AV) (a0 a1 a2 a3 : Int) (b0 b1 b2 b3 : Int) : peIdN d (.agg [.sc (.int .u8 a0), .sc (.int .u32 a1), .sc (.int .u8 a2), .sc (.int .i64 a3)]) (.agg [.sc (.int .u8 b0), .sc (.int .u32 b1), .sc (.int .u8 b2), .sc (.int .i64 b3)]) = some (BL (!decide ((⟨⟨⟨a0, a1⟩, a2⟩, a3⟩ : Eid) = ⟨⟨⟨b0, b1⟩, b2⟩, b3⟩))) := by
  simp only [peIdN]
  congr 4
  rw [Bool.eq_iff_iff]
  simp [and_assoc]
theorem issSpE (a0 : Int) (a1 : Int) (a2 : Int) (a3 : Int) (a4 : Int) : PT.iss [.st [.st [.st [.int .u8, .int .u32], .int .u8], .int .i64], .int .i64] [.int .u8 a0, .int .u32 a1, .int .u8 a2, .int .i64 a3, .int .i64 a4] := by
  simp only [PT.iss, PT.is]
  exact ⟨[.int .u8 a0, .int .u32 a1, .int .u8 a2, .int .i64 a3], [.int .i64 a4], rfl, ⟨[.int .u8 a0, .int .u32 a1, .int .u8 a2], [.int .i64 a3], rfl, ⟨[.int .u8 a0, .int .u32 a1], [.int .u8 a2], rfl, ⟨[.int .u8 a0], [.int .u32 a1], rfl, ⟨_, rfl⟩, ⟨[.int .u32 a1], [], rfl, ⟨_, rfl⟩, rfl⟩⟩, ⟨[.int .u8 a2], [], rfl, ⟨_, rfl⟩, rfl⟩⟩, ⟨[.int .i64 a3], [], rfl, ⟨_, rfl⟩, rfl⟩⟩, ⟨[.int .i64 a4], [], rfl, ⟨_, rfl⟩, rfl⟩⟩
def peSpE (d : Option AV) (u v : AV) : Option AV := match u, v with
  | .agg [.sc (.int .u8 a0), .sc (.int .u32 a1), .sc (.int .u8 a2), .sc (.int .i64 a3), .sc (.int .i64 a4)], .agg [.sc (.int .u8 b0), .sc (.int .u32 b1), .sc (.int .u8 b2), .sc (.int .i64 b3), .sc (.int .i64 b4)] => some (BL (decide (a0 = b0) && decide (a1 = b1) && decide (a2 = b2) && decide (a3 = b3) && decide (a4 = b4)))
  | _, _ => d
theorem pSpE {t : List AV} (i j : Nat) : pureOp Try.prog t (mkO (.binOp .eql 31 (.tmp i) (.tmp j) 31) 4) = peSpE (pureD Try.prog t (mkO (.binOp .eql 31 (.tmp i) (.tmp j) 31) 4)) (evalA t (.tmp i)) (evalA t (.tmp j)) := by
  unfold peSpE
  split
  · rename_i a0 a1 a2 a3 a4 b0 b1 b2 b3 b4 h1 h2
    obtain ⟨r, hr, he⟩ := pEqS (P := Try.prog) [.st [.st [.st [.int .u8, .int .u32], .int .u8], .int .i64], .int .i64] false 31 31 4 i j (by kernel_rfl) (by decide) (by kernel_rfl) h1 h2 rfl rfl (issSpE _ _ _ _ _) (issSpE _ _ _ _ _)
    have e : r = (decide (a0 = b0) && decide (a1 = b1) && decide (a2 = b2) && decide (a3 = b3) && decide (a4 = b4)) := by
      rw [Bool.eq_iff_iff, he]
      simp [and_assoc]
    rw [← e]
    exact hr
  · rfl
theorem peSpE_val (d : Option AV) (a0 a1 a2 a3 a4 : Int) (b0 b1 b2 b3 b4 : Int) : peSpE d (.agg [.sc (.int .u8 a0), .sc (.int .u32 a1), .sc (.int .u8 a2), .sc (.int .i64 a3), .sc (.int .i64 a4)]) (.agg [.sc (.int .u8 b0), .sc (.int .u32 b1), .sc (.int .u8 b2), .sc (.int .i64 b3), .sc (.int .i64 b4)]) = some (BL (decide ((⟨⟨⟨⟨a0, a1⟩, a2⟩, a3⟩, a4⟩ : Spn) = ⟨⟨⟨⟨b0, b1⟩, b2⟩, b3⟩, b4⟩))) := by
  simp only [peSpE]
  congr 4
  rw [Bool.eq_iff_iff]
  simp [and_assoc]
theorem issSpN (a0 : Int) (a1 : Int) (a2 : Int) (a3 : Int) (a4 : Int) : PT.iss [.st [.st [.st [.int .u8, .int .u32], .int .u8], .int .i64], .int .i64] [.int .u8 a0, .int .u32 a1, .int .u8 a2, .int .i64 a3, .int .i64 a4] := by
  simp only [PT.iss, PT.is]
  exact ⟨[.int .u8 a0, .int .u32 a1, .int .u8 a2, .int .i64 a3], [.int .i64 a4], rfl, ⟨[.int .u8 a0, .int .u32 a1, .int .u8 a2], [.int .i64 a3], rfl, ⟨[.int .u8 a0, .int .u32 a1], [.int .u8 a2], rfl, ⟨[.int .u8 a0], [.int .u32 a1], rfl, ⟨_, rfl⟩, ⟨[.int .u32 a1], [], rfl, ⟨_, rfl⟩, rfl⟩⟩, ⟨[.int .u8 a2], [], rfl, ⟨_, rfl⟩, rfl⟩⟩, ⟨[.int .i64 a3], [], rfl, ⟨_, rfl⟩, rfl⟩⟩, ⟨[.int .i64 a4], [], rfl, ⟨_, rfl⟩, rfl⟩⟩
def peSpN (d : Option AV) (u v : AV) : Option AV := match u, v with
  | .agg [.sc (.int .u8 a0), .sc (.int .u32 a1), .sc (.int .u8 a2), .sc (.int .i64 a3), .sc (.int .i64 a4)], .agg [.sc (.int .u8 b0), .sc (.int .u32 b1), .sc (.int .u8 b2), .sc (.int .i64 b3), .sc (.int .i64 b4)] => some (BL (!(decide (a0 = b0) && decide (a1 = b1) && decide (a2 = b2) && decide (a3 = b3) && decide (a4 = b4))))
  | _, _ => d
theorem pSpN {t : List AV} (i j : Nat) : pureOp Try.prog t (mkO (.binOp .neq 31 (.tmp i) (.tmp j) 31) 4) = peSpN (pureD Try.prog t (mkO (.binOp .neq 31 (.tmp i) (.tmp j) 31) 4)) (evalA t (.tmp i)) (evalA t (.tmp j)) := by
  unfold peSpN
  split
  · rename_i a0 a1 a2 a3 a4 b0 b1 b2 b3 b4 h1 h2
    obtain ⟨r, hr, he⟩ := pEqS (P := Try.prog) [.st [.st [.st [.int .u8, .int .u32], .int .u8], .int .i64], .int .i64] true 31 31 4 i j (by kernel_rfl) (by decide) (by kernel_rfl) h1 h2 rfl rfl (issSpN _ _ _ _ _) (issSpN _ _ _ _ _)
    have e : r = (decide (a0 = b0) && decide (a1 = b1) && decide (a2 = b2) && decide (a3 = b3) && decide (a4 = b4)) := by
      rw [Bool.eq_iff_iff, he]
      simp [and_assoc]
    rw [← e]
    exact hr
  · rfl
theorem peSpN_val (d : Option AV) (a0 a1 a2 a3 a4 : Int) (b0 b1 b2 b3 b4 : Int) : peSpN d (.agg [.sc (.int .u8 a0), .sc (.int .u32 a1), .sc (.int .u8 a2), .sc (.int .i64 a3), .sc (.int .i64 a4)]) (.agg [.sc (.int .u8 b0), .sc (.int .u32 b1), .sc (.int .u8 b2), .sc (.int .i64 b3), .sc (.int .i64 b4)]) = some (BL (!decide ((⟨⟨⟨⟨a0, a1⟩, a2⟩, a3⟩, a4⟩ : Spn) = ⟨⟨⟨⟨b0, b1⟩, b2⟩, b3⟩, b4⟩))) := by
  simp only [peSpN]
  congr 4
  rw [Bool.eq_iff_iff]
  simp [and_assoc]
end Go.Proofs.Ytbomjpdheibmfaa
