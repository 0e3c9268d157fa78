/-
  Texts joined: Tc In SaA SaB SbD SaD SaE SaF RnMay SbG SaG SaH SaC SaI SaJ SaK SaL SaM SaN SaO SbP SaQ SaR SaS SaT SaU SbI SaV SaZ SwP SwQ SbF EdA VpD VqC.
-/
import Derived.Test.YtebloodpblgncaaGreatTb
import Derived.Test.YtebloodpblgncaaGreatRows
import Derived.Test.YtebloodpblgncaaGreatEf
import Derived.KernelRfl
set_option linter.unusedSimpArgs false
set_option linter.unusedVariables false
set_option maxRecDepth 100000
namespace Go.Proofs.YtebloodpblgncaaGreat
open Go Go.Ax
theorem zfC : (tbl.map noX).map clr = msk (tbl.map noX) (zFU Tryz.prog 126 0):=by kernel_rfl
theorem tabOK : zQF Glob.any Tryz.prog (fsT tbl):=zYG zfC (by kernel_rfl)
end Go.Proofs.YtebloodpblgncaaGreat
namespace Go.Proofs.YtebloodpblgncaaGreat
open Go.Ax
theorem ovlOK : zQE Tryz.prog :=
 zXQ (g:=91) (tS:=63) (tR:=4) (by kernel_rfl) Tryz.func91 (by kernel_rfl) (by kernel_rfl) (by kernel_rfl) (by kernel_rfl) (by kernel_rfl)
theorem insFn : InsO (zZT Tryz.prog 66) 3 4 :=
 ⟨by kernel_rfl,by kernel_rfl,by kernel_rfl,by kernel_rfl,by kernel_rfl,by kernel_rfl,by kernel_rfl,by kernel_rfl,by kernel_rfl,by kernel_rfl,by kernel_rfl⟩
theorem zaZ : zJX Tryz.prog :=
 zR1 (g:=66) (t0:=63) (e0:=87) (ti0:=(Tryz.prog.info? 87).getD default) (O:=zZT Tryz.prog 66) (g':=92)
  (z:=(zeroOf Tryz.prog 87).getD default) (tint:=3) (tb:=4) (by kernel_rfl) Tryz.func66 (by kernel_rfl) (by kernel_rfl) (by kernel_rfl) (by kernel_rfl) (by kernel_rfl) insFn (by kernel_rfl) (by kernel_rfl) (by kernel_rfl)
theorem insOK : zN9 Glob.any Tryz.prog:=zWU ovlOK zaZ
end Go.Proofs.YtebloodpblgncaaGreat
namespace Go.Proofs.YtebloodpblgncaaGreat
open Go Go.Ax
abbrev U32 (n : Int) : AV:=.sc (.int .u32 n)
structure Lb where
 lv : Int
 cats : Int
 deriving DecidableEq
structure Hd where
 lb : Lb
 num : Int
 deriving DecidableEq
structure Eid where
 hd : Hd
 c : Int
 deriving DecidableEq
structure Spn where
 f : Eid
 n : Int
 deriving DecidableEq
structure Op where
 kd : Int
 hd : Hd
 sr : Int
 sp : Spn
 af : Eid
 to : Lb
 rs : List Int
 deriving DecidableEq
structure Rn where
 sp : Spn
 af : Eid
 rs : List Int
 deriving DecidableEq
abbrev Lb.z : Lb:=⟨0,0⟩
abbrev Hd.z : Hd:=⟨⟨0,0⟩,0⟩
abbrev Eid.z : Eid:=⟨⟨⟨0,0⟩,0⟩,0⟩
def i64R (x : Int) : Prop:=-9223372036854775808 ≤ x ∧ x ≤ 9223372036854775807
def Lb.ok (x : Lb) : Prop:=0 ≤ x.lv ∧ x.lv ≤ 255 ∧ 0 ≤ x.cats ∧ x.cats < 4294967296
def Hd.ok (x : Hd) : Prop:=x.lb.ok ∧ 0 ≤ x.num ∧ x.num ≤ 255
def Eid.ok (x : Eid) : Prop:=x.hd.ok ∧ i64R x.c
def Spn.ok (x : Spn) : Prop:=x.f.ok ∧ i64R x.n
def i32s (l : List Int) : Prop:=∀ x ∈ l, -2147483648 ≤ x ∧ x ≤ 2147483647
def Op.ok (o : Op) : Prop:=(0 ≤ o.kd ∧ o.kd ≤ 255) ∧ o.hd.ok ∧ i64R o.sr ∧ o.sp.ok ∧ o.af.ok ∧ o.to.ok ∧ i32s o.rs
def Rn.ok (o : Rn) : Prop:=o.sp.ok ∧ o.af.ok ∧ i32s o.rs
theorem Lb.z_ok : Lb.z.ok:=by unfold Lb.ok; decide
theorem Hd.z_ok : Hd.z.ok:=⟨Lb.z_ok,by decide,by decide⟩
theorem Eid.z_ok : Eid.z.ok:=⟨Hd.z_ok,by decide,by decide⟩
abbrev lbR (x : Lb) : List AV:=[U8 x.lv,U32 x.cats]
abbrev hdR (x : Hd) : List AV:=[U8 x.lb.lv,U32 x.lb.cats,U8 x.num]
abbrev idR (x : Eid) : List AV:=[U8 x.hd.lb.lv,U32 x.hd.lb.cats,U8 x.hd.num,I64 x.c]
abbrev spR (x : Spn) : List AV:=[U8 x.f.hd.lb.lv,U32 x.f.hd.lb.cats,U8 x.f.hd.num,I64 x.f.c,I64 x.n]
abbrev opR (o : Op) (ra : AV) : List AV:=[U8 o.kd,U8 o.hd.lb.lv,U32 o.hd.lb.cats,U8 o.hd.num,I64 o.sr,U8 o.sp.f.hd.lb.lv,U32 o.sp.f.hd.lb.cats,U8 o.sp.f.hd.num,I64 o.sp.f.c,I64 o.sp.n,U8 o.af.hd.lb.lv,U32 o.af.hd.lb.cats,U8 o.af.hd.num,I64 o.af.c,U8 o.to.lv,U32 o.to.cats,ra]
abbrev rnR (o : Rn) (ra : AV) : List AV:=[U8 o.sp.f.hd.lb.lv,U32 o.sp.f.hd.lb.cats,U8 o.sp.f.hd.num,I64 o.sp.f.c,I64 o.sp.n,U8 o.af.hd.lb.lv,U32 o.af.hd.lb.cats,U8 o.af.hd.num,I64 o.af.c,ra]
abbrev lbA (x : Lb) : AV:=.agg (lbR x)
abbrev hdA (x : Hd) : AV:=.agg (hdR x)
abbrev idA (x : Eid) : AV:=.agg (idR x)
abbrev spA (x : Spn) : AV:=.agg (spR x)
def zB2 (r : List AV) (x : Int) : Prop:=r = [I32 x]
def isLb (r : List AV) (x : Lb) : Prop:=r = lbR x ∧ x.ok
def zKR (r : List AV) (x : Eid) : Prop:=r = idR x ∧ x.ok
def isOp (r : List AV) (x : Op) : Prop:=∃ ra,r = opR x ra ∧ Sl 1 zB2 ra x.rs ∧ x.ok
def isRn (r : List AV) (x : Rn) : Prop:=∃ ra,r = rnR x ra ∧ Sl 1 zB2 ra x.rs ∧ x.ok
theorem zFB : FzT zB2:=fun r x h y hy=>by
 rw [h,List.mem_singleton] at hy; subst hy; exact zC7 _ _
theorem zEJ (x : Lb) : ∀ y ∈ lbR x,Fz y:=fun y hy=>by
 simp only [lbR,List.mem_cons,List.not_mem_nil,or_false] at hy
 rcases hy with rfl | rfl <;> exact zC7 _ _
theorem zEI (x : Eid) : ∀ y ∈ idR x,Fz y:=fun y hy=>by
 simp only [idR,List.mem_cons,List.not_mem_nil,or_false] at hy
 rcases hy with rfl | rfl | rfl | rfl <;> exact zC7 _ _
theorem zP6 (x : Spn) : ∀ y ∈ spR x,Fz y:=fun y hy=>by
 simp only [spR,List.mem_cons,List.not_mem_nil,or_false] at hy
 rcases hy with rfl | rfl | rfl | rfl | rfl <;> exact zC7 _ _
theorem zZ2 {o : Op} {ra : AV} (h : Fz ra) : ∀ y ∈ opR o ra,Fz y:=fun y hy=>by
 simp only [opR,List.mem_cons,List.not_mem_nil,or_false] at hy
 rcases hy with rfl | rfl | rfl | rfl | rfl | rfl | rfl | rfl | rfl | rfl | rfl | rfl | rfl | rfl | rfl | rfl | rfl
 all_goals first | exact zC7 _ _ | exact h
theorem zZ3 {o : Rn} {ra : AV} (h : Fz ra) : ∀ y ∈ rnR o ra,Fz y:=fun y hy=>by
 simp only [rnR,List.mem_cons,List.not_mem_nil,or_false] at hy
 rcases hy with rfl | rfl | rfl | rfl | rfl | rfl | rfl | rfl | rfl | rfl
 all_goals first | exact zC7 _ _ | exact h
theorem zT0 : FzT isLb:=fun r x h=>by rw [h.1]; exact zEJ x
theorem zLV : FzT zKR:=fun r x h=>by rw [h.1]; exact zEI x
theorem zKI : FzT isOp:=fun r x h=>by
 obtain ⟨ra,rfl,hr,_⟩:=h
 exact zZ2 hr.fz
theorem zD4 : FzT isRn:=fun r x h=>by
 obtain ⟨ra,rfl,hr,_⟩:=h
 exact zZ3 hr.fz
theorem Lb.eta (x : Lb) : Lb.mk x.lv x.cats = x:=rfl
theorem Hd.eta (x : Hd) : Hd.mk x.lb x.num = x:=rfl
theorem Eid.eta (x : Eid) : Eid.mk x.hd x.c = x:=rfl
theorem Spn.eta (x : Spn) : Spn.mk x.f x.n = x:=rfl
theorem ETA : type_of% (And.intro @Lb.eta (And.intro @Hd.eta (And.intro @Eid.eta @Spn.eta))):=And.intro @Lb.eta (And.intro @Hd.eta (And.intro @Eid.eta @Spn.eta))
theorem zZF (a0 : Int) (a1 : Int) : PT.iss [.int .u8,.int .u32] [.int .u8 a0,.int .u32 a1]:=by
 simp only [PT.iss,PT.is]
 exact ⟨[.int .u8 a0],[.int .u32 a1],rfl,⟨_,rfl⟩,⟨[.int .u32 a1],[],rfl,⟨_,rfl⟩,rfl⟩⟩
def zXY (d : Option AV) (u v : AV) : Option AV:=match u,v with
 | .agg [.sc (.int .u8 a0),.sc (.int .u32 a1)],.agg [.sc (.int .u8 b0),.sc (.int .u32 b1)]=>some (BL (decide (a0 = b0) && decide (a1 = b1)))
 | _,_=>d
theorem pLbE {t : List AV} (i j : Nat) : zB4 Tryz.prog t (mkO (.binOp .eql 25 (.tmp i) (.tmp j) 25) 4) = zXY (zD6 Tryz.prog t (mkO (.binOp .eql 25 (.tmp i) (.tmp j) 25) 4)) (zA9 t (.tmp i)) (zA9 t (.tmp j)):=by
 unfold zXY
 split
 ·rename_i a0 a1 b0 b1 h1 h2
  obtain ⟨r,hr,he⟩:=pEqS (P:=Tryz.prog) [.int .u8,.int .u32] false 25 25 4 i j (by kernel_rfl) (by decide) (by kernel_rfl) h1 h2 rfl rfl (zZF _ _) (zZF _ _)
  have e : r = (decide (a0 = b0) && decide (a1 = b1)):=by
   rw [Bool.eq_iff_iff,he]
   simp []
  rw [← e]
  exact hr
 ·rfl
theorem zES (d : Option AV) (a0 a1 : Int) (b0 b1 : Int) : zXY d (.agg [.sc (.int .u8 a0),.sc (.int .u32 a1)]) (.agg [.sc (.int .u8 b0),.sc (.int .u32 b1)]) = some (BL (decide ((⟨a0,a1⟩ : Lb) = ⟨b0,b1⟩))):=by
 simp only [zXY]
 congr 4
 rw [Bool.eq_iff_iff]
 simp []
theorem zZG (a0 : Int) (a1 : Int) : PT.iss [.int .u8,.int .u32] [.int .u8 a0,.int .u32 a1]:=by
 simp only [PT.iss,PT.is]
 exact ⟨[.int .u8 a0],[.int .u32 a1],rfl,⟨_,rfl⟩,⟨[.int .u32 a1],[],rfl,⟨_,rfl⟩,rfl⟩⟩
def zXZ (d : Option AV) (u v : AV) : Option AV:=match u,v with
 | .agg [.sc (.int .u8 a0),.sc (.int .u32 a1)],.agg [.sc (.int .u8 b0),.sc (.int .u32 b1)]=>some (BL (!(decide (a0 = b0) && decide (a1 = b1))))
 | _,_=>d
theorem pLbN {t : List AV} (i j : Nat) : zB4 Tryz.prog t (mkO (.binOp .neq 25 (.tmp i) (.tmp j) 25) 4) = zXZ (zD6 Tryz.prog t (mkO (.binOp .neq 25 (.tmp i) (.tmp j) 25) 4)) (zA9 t (.tmp i)) (zA9 t (.tmp j)):=by
 unfold zXZ
 split
 ·rename_i a0 a1 b0 b1 h1 h2
  obtain ⟨r,hr,he⟩:=pEqS (P:=Tryz.prog) [.int .u8,.int .u32] true 25 25 4 i j (by kernel_rfl) (by decide) (by kernel_rfl) h1 h2 rfl rfl (zZG _ _) (zZG _ _)
  have e : r = (decide (a0 = b0) && decide (a1 = b1)):=by
   rw [Bool.eq_iff_iff,he]
   simp []
  rw [← e]
  exact hr
 ·rfl
theorem zGA (d : Option AV) (a0 a1 : Int) (b0 b1 : Int) : zXZ d (.agg [.sc (.int .u8 a0),.sc (.int .u32 a1)]) (.agg [.sc (.int .u8 b0),.sc (.int .u32 b1)]) = some (BL (!decide ((⟨a0,a1⟩ : Lb) = ⟨b0,b1⟩))):=by
 simp only [zXZ]
 congr 4
 rw [Bool.eq_iff_iff]
 simp []
theorem zZB (a0 : Int) (a1 : Int) (a2 : Int) : PT.iss [.st [.int .u8,.int .u32],.int .u8] [.int .u8 a0,.int .u32 a1,.int .u8 a2]:=by
 simp only [PT.iss,PT.is]
 exact ⟨[.int .u8 a0,.int .u32 a1],[.int .u8 a2],rfl,⟨[.int .u8 a0],[.int .u32 a1],rfl,⟨_,rfl⟩,⟨[.int .u32 a1],[],rfl,⟨_,rfl⟩,rfl⟩⟩,⟨[.int .u8 a2],[],rfl,⟨_,rfl⟩,rfl⟩⟩
def zXU (d : Option AV) (u v : AV) : Option AV:=match u,v with
 | .agg [.sc (.int .u8 a0),.sc (.int .u32 a1),.sc (.int .u8 a2)],.agg [.sc (.int .u8 b0),.sc (.int .u32 b1),.sc (.int .u8 b2)]=>some (BL (decide (a0 = b0) && decide (a1 = b1) && decide (a2 = b2)))
 | _,_=>d
theorem pHdE {t : List AV} (i j : Nat) : zB4 Tryz.prog t (mkO (.binOp .eql 27 (.tmp i) (.tmp j) 27) 4) = zXU (zD6 Tryz.prog t (mkO (.binOp .eql 27 (.tmp i) (.tmp j) 27) 4)) (zA9 t (.tmp i)) (zA9 t (.tmp j)):=by
 unfold zXU
 split
 ·rename_i a0 a1 a2 b0 b1 b2 h1 h2
  obtain ⟨r,hr,he⟩:=pEqS (P:=Tryz.prog) [.st [.int .u8,.int .u32],.int .u8] false 27 27 4 i j (by kernel_rfl) (by decide) (by kernel_rfl) h1 h2 rfl rfl (zZB _ _ _) (zZB _ _ _)
  have e : r = (decide (a0 = b0) && decide (a1 = b1) && decide (a2 = b2)):=by
   rw [Bool.eq_iff_iff,he]
   simp [and_assoc]
  rw [← e]
  exact hr
 ·rfl
theorem zU8 (d : Option AV) (a0 a1 a2 : Int) (b0 b1 b2 : Int) : zXU d (.agg [.sc (.int .u8 a0),.sc (.int .u32 a1),.sc (.int .u8 a2)]) (.agg [.sc (.int .u8 b0),.sc (.int .u32 b1),.sc (.int .u8 b2)]) = some (BL (decide ((⟨⟨a0,a1⟩,a2⟩ : Hd) = ⟨⟨b0,b1⟩,b2⟩))):=by
 simp only [zXU]
 congr 4
 rw [Bool.eq_iff_iff]
 simp [and_assoc]
theorem zZC (a0 : Int) (a1 : Int) (a2 : Int) : PT.iss [.st [.int .u8,.int .u32],.int .u8] [.int .u8 a0,.int .u32 a1,.int .u8 a2]:=by
 simp only [PT.iss,PT.is]
 exact ⟨[.int .u8 a0,.int .u32 a1],[.int .u8 a2],rfl,⟨[.int .u8 a0],[.int .u32 a1],rfl,⟨_,rfl⟩,⟨[.int .u32 a1],[],rfl,⟨_,rfl⟩,rfl⟩⟩,⟨[.int .u8 a2],[],rfl,⟨_,rfl⟩,rfl⟩⟩
def zXV (d : Option AV) (u v : AV) : Option AV:=match u,v with
 | .agg [.sc (.int .u8 a0),.sc (.int .u32 a1),.sc (.int .u8 a2)],.agg [.sc (.int .u8 b0),.sc (.int .u32 b1),.sc (.int .u8 b2)]=>some (BL (!(decide (a0 = b0) && decide (a1 = b1) && decide (a2 = b2))))
 | _,_=>d
theorem pHdN {t : List AV} (i j : Nat) : zB4 Tryz.prog t (mkO (.binOp .neq 27 (.tmp i) (.tmp j) 27) 4) = zXV (zD6 Tryz.prog t (mkO (.binOp .neq 27 (.tmp i) (.tmp j) 27) 4)) (zA9 t (.tmp i)) (zA9 t (.tmp j)):=by
 unfold zXV
 split
 ·rename_i a0 a1 a2 b0 b1 b2 h1 h2
  obtain ⟨r,hr,he⟩:=pEqS (P:=Tryz.prog) [.st [.int .u8,.int .u32],.int .u8] true 27 27 4 i j (by kernel_rfl) (by decide) (by kernel_rfl) h1 h2 rfl rfl (zZC _ _ _) (zZC _ _ _)
  have e : r = (decide (a0 = b0) && decide (a1 = b1) && decide (a2 = b2)):=by
   rw [Bool.eq_iff_iff,he]
   simp [and_assoc]
  rw [← e]
  exact hr
 ·rfl
theorem zU9 (d : Option AV) (a0 a1 a2 : Int) (b0 b1 b2 : Int) : zXV d (.agg [.sc (.int .u8 a0),.sc (.int .u32 a1),.sc (.int .u8 a2)]) (.agg [.sc (.int .u8 b0),.sc (.int .u32 b1),.sc (.int .u8 b2)]) = some (BL (!decide ((⟨⟨a0,a1⟩,a2⟩ : Hd) = ⟨⟨b0,b1⟩,b2⟩))):=by
 simp only [zXV]
 congr 4
 rw [Bool.eq_iff_iff]
 simp [and_assoc]
theorem zZD (a0 : Int) (a1 : Int) (a2 : Int) (a3 : Int) : PT.iss [.st [.st [.int .u8,.int .u32],.int .u8],.int .i64] [.int .u8 a0,.int .u32 a1,.int .u8 a2,.int .i64 a3]:=by
 simp only [PT.iss,PT.is]
 exact ⟨[.int .u8 a0,.int .u32 a1,.int .u8 a2],[.int .i64 a3],rfl,⟨[.int .u8 a0,.int .u32 a1],[.int .u8 a2],rfl,⟨[.int .u8 a0],[.int .u32 a1],rfl,⟨_,rfl⟩,⟨[.int .u32 a1],[],rfl,⟨_,rfl⟩,rfl⟩⟩,⟨[.int .u8 a2],[],rfl,⟨_,rfl⟩,rfl⟩⟩,⟨[.int .i64 a3],[],rfl,⟨_,rfl⟩,rfl⟩⟩
def zXW (d : Option AV) (u v : AV) : Option AV:=match u,v with
 | .agg [.sc (.int .u8 a0),.sc (.int .u32 a1),.sc (.int .u8 a2),.sc (.int .i64 a3)],.agg [.sc (.int .u8 b0),.sc (.int .u32 b1),.sc (.int .u8 b2),.sc (.int .i64 b3)]=>some (BL (decide (a0 = b0) && decide (a1 = b1) && decide (a2 = b2) && decide (a3 = b3)))
 | _,_=>d
theorem pIdE {t : List AV} (i j : Nat) : zB4 Tryz.prog t (mkO (.binOp .eql 31 (.tmp i) (.tmp j) 31) 4) = zXW (zD6 Tryz.prog t (mkO (.binOp .eql 31 (.tmp i) (.tmp j) 31) 4)) (zA9 t (.tmp i)) (zA9 t (.tmp j)):=by
 unfold zXW
 split
 ·rename_i a0 a1 a2 a3 b0 b1 b2 b3 h1 h2
  obtain ⟨r,hr,he⟩:=pEqS (P:=Tryz.prog) [.st [.st [.int .u8,.int .u32],.int .u8],.int .i64] false 31 31 4 i j (by kernel_rfl) (by decide) (by kernel_rfl) h1 h2 rfl rfl (zZD _ _ _ _) (zZD _ _ _ _)
  have e : r = (decide (a0 = b0) && decide (a1 = b1) && decide (a2 = b2) && decide (a3 = b3)):=by
   rw [Bool.eq_iff_iff,he]
   simp [and_assoc]
  rw [← e]
  exact hr
 ·rfl
theorem zAZ (d : Option AV) (a0 a1 a2 a3 : Int) (b0 b1 b2 b3 : Int) : zXW d (.agg [.sc (.int .u8 a0),.sc (.int .u32 a1),.sc (.int .u8 a2),.sc (.int .i64 a3)]) (.agg [.sc (.int .u8 b0),.sc (.int .u32 b1),.sc (.int .u8 b2),.sc (.int .i64 b3)]) = some (BL (decide ((⟨⟨⟨a0,a1⟩,a2⟩,a3⟩ : Eid) = ⟨⟨⟨b0,b1⟩,b2⟩,b3⟩))):=by
 simp only [zXW]
 congr 4
 rw [Bool.eq_iff_iff]
 simp [and_assoc]
theorem zZE (a0 : Int) (a1 : Int) (a2 : Int) (a3 : Int) : PT.iss [.st [.st [.int .u8,.int .u32],.int .u8],.int .i64] [.int .u8 a0,.int .u32 a1,.int .u8 a2,.int .i64 a3]:=by
 simp only [PT.iss,PT.is]
 exact ⟨[.int .u8 a0,.int .u32 a1,.int .u8 a2],[.int .i64 a3],rfl,⟨[.int .u8 a0,.int .u32 a1],[.int .u8 a2],rfl,⟨[.int .u8 a0],[.int .u32 a1],rfl,⟨_,rfl⟩,⟨[.int .u32 a1],[],rfl,⟨_,rfl⟩,rfl⟩⟩,⟨[.int .u8 a2],[],rfl,⟨_,rfl⟩,rfl⟩⟩,⟨[.int .i64 a3],[],rfl,⟨_,rfl⟩,rfl⟩⟩
def zXX (d : Option AV) (u v : AV) : Option AV:=match u,v with
 | .agg [.sc (.int .u8 a0),.sc (.int .u32 a1),.sc (.int .u8 a2),.sc (.int .i64 a3)],.agg [.sc (.int .u8 b0),.sc (.int .u32 b1),.sc (.int .u8 b2),.sc (.int .i64 b3)]=>some (BL (!(decide (a0 = b0) && decide (a1 = b1) && decide (a2 = b2) && decide (a3 = b3))))
 | _,_=>d
theorem pIdN {t : List AV} (i j : Nat) : zB4 Tryz.prog t (mkO (.binOp .neq 31 (.tmp i) (.tmp j) 31) 4) = zXX (zD6 Tryz.prog t (mkO (.binOp .neq 31 (.tmp i) (.tmp j) 31) 4)) (zA9 t (.tmp i)) (zA9 t (.tmp j)):=by
 unfold zXX
 split
 ·rename_i a0 a1 a2 a3 b0 b1 b2 b3 h1 h2
  obtain ⟨r,hr,he⟩:=pEqS (P:=Tryz.prog) [.st [.st [.int .u8,.int .u32],.int .u8],.int .i64] true 31 31 4 i j (by kernel_rfl) (by decide) (by kernel_rfl) h1 h2 rfl rfl (zZE _ _ _ _) (zZE _ _ _ _)
  have e : r = (decide (a0 = b0) && decide (a1 = b1) && decide (a2 = b2) && decide (a3 = b3)):=by
   rw [Bool.eq_iff_iff,he]
   simp [and_assoc]
  rw [← e]
  exact hr
 ·rfl
theorem zBC (d : Option AV) (a0 a1 a2 a3 : Int) (b0 b1 b2 b3 : Int) : zXX d (.agg [.sc (.int .u8 a0),.sc (.int .u32 a1),.sc (.int .u8 a2),.sc (.int .i64 a3)]) (.agg [.sc (.int .u8 b0),.sc (.int .u32 b1),.sc (.int .u8 b2),.sc (.int .i64 b3)]) = some (BL (!decide ((⟨⟨⟨a0,a1⟩,a2⟩,a3⟩ : Eid) = ⟨⟨⟨b0,b1⟩,b2⟩,b3⟩))):=by
 simp only [zXX]
 congr 4
 rw [Bool.eq_iff_iff]
 simp [and_assoc]
theorem zZH (a0 : Int) (a1 : Int) (a2 : Int) (a3 : Int) (a4 : Int) : PT.iss [.st [.st [.st [.int .u8,.int .u32],.int .u8],.int .i64],.int .i64] [.int .u8 a0,.int .u32 a1,.int .u8 a2,.int .i64 a3,.int .i64 a4]:=by
 simp only [PT.iss,PT.is]
 exact ⟨[.int .u8 a0,.int .u32 a1,.int .u8 a2,.int .i64 a3],[.int .i64 a4],rfl,⟨[.int .u8 a0,.int .u32 a1,.int .u8 a2],[.int .i64 a3],rfl,⟨[.int .u8 a0,.int .u32 a1],[.int .u8 a2],rfl,⟨[.int .u8 a0],[.int .u32 a1],rfl,⟨_,rfl⟩,⟨[.int .u32 a1],[],rfl,⟨_,rfl⟩,rfl⟩⟩,⟨[.int .u8 a2],[],rfl,⟨_,rfl⟩,rfl⟩⟩,⟨[.int .i64 a3],[],rfl,⟨_,rfl⟩,rfl⟩⟩,⟨[.int .i64 a4],[],rfl,⟨_,rfl⟩,rfl⟩⟩
def zY0 (d : Option AV) (u v : AV) : Option AV:=match u,v with
 | .agg [.sc (.int .u8 a0),.sc (.int .u32 a1),.sc (.int .u8 a2),.sc (.int .i64 a3),.sc (.int .i64 a4)],.agg [.sc (.int .u8 b0),.sc (.int .u32 b1),.sc (.int .u8 b2),.sc (.int .i64 b3),.sc (.int .i64 b4)]=>some (BL (decide (a0 = b0) && decide (a1 = b1) && decide (a2 = b2) && decide (a3 = b3) && decide (a4 = b4)))
 | _,_=>d
theorem pSpE {t : List AV} (i j : Nat) : zB4 Tryz.prog t (mkO (.binOp .eql 33 (.tmp i) (.tmp j) 33) 4) = zY0 (zD6 Tryz.prog t (mkO (.binOp .eql 33 (.tmp i) (.tmp j) 33) 4)) (zA9 t (.tmp i)) (zA9 t (.tmp j)):=by
 unfold zY0
 split
 ·rename_i a0 a1 a2 a3 a4 b0 b1 b2 b3 b4 h1 h2
  obtain ⟨r,hr,he⟩:=pEqS (P:=Tryz.prog) [.st [.st [.st [.int .u8,.int .u32],.int .u8],.int .i64],.int .i64] false 33 33 4 i j (by kernel_rfl) (by decide) (by kernel_rfl) h1 h2 rfl rfl (zZH _ _ _ _ _) (zZH _ _ _ _ _)
  have e : r = (decide (a0 = b0) && decide (a1 = b1) && decide (a2 = b2) && decide (a3 = b3) && decide (a4 = b4)):=by
   rw [Bool.eq_iff_iff,he]
   simp [and_assoc]
  rw [← e]
  exact hr
 ·rfl
theorem zII (d : Option AV) (a0 a1 a2 a3 a4 : Int) (b0 b1 b2 b3 b4 : Int) : zY0 d (.agg [.sc (.int .u8 a0),.sc (.int .u32 a1),.sc (.int .u8 a2),.sc (.int .i64 a3),.sc (.int .i64 a4)]) (.agg [.sc (.int .u8 b0),.sc (.int .u32 b1),.sc (.int .u8 b2),.sc (.int .i64 b3),.sc (.int .i64 b4)]) = some (BL (decide ((⟨⟨⟨⟨a0,a1⟩,a2⟩,a3⟩,a4⟩ : Spn) = ⟨⟨⟨⟨b0,b1⟩,b2⟩,b3⟩,b4⟩))):=by
 simp only [zY0]
 congr 4
 rw [Bool.eq_iff_iff]
 simp [and_assoc]
end Go.Proofs.YtebloodpblgncaaGreat
namespace Go.Proofs.YtebloodpblgncaaGreat
open Go Go.Ax
variable {fuel : Nat} {M : Mem} {Q : AV → Mem → Prop} {d : Nat}
def zTK (a b : Int) : Int:=IntKind.u32.wrap ((BitVec.ofInt 32 a &&& ~~~ BitVec.ofInt 32 b).toNat : Nat)
def Lb.leq (a b : Lb) : Bool:=decide (a.lv ≤ b.lv) && decide (zTK a.cats b.cats = 0)
def Lb.may (a : Lb) : Bool:=!decide (15 < a.lv)
def Hd.may (h : Hd) : Bool:=h.lb.may && decide (h.num < 8)
def Eid.may (x : Eid) : Bool:=x.hd.may && decide (1 ≤ x.c) && decide (x.c ≤ 1099511627776)
def Spn.may (s : Spn) : Bool:=s.f.may && decide (1 ≤ s.n) && decide (s.n ≤ 64) && decide (s.f.c + s.n ≤ 1099511627777)
def err (b : Bool) : Int:=if b then 0 else 8
theorem zAV : err true = 0:=rfl
theorem zBE : err false = 8:=rfl
theorem zVE (P : Program) (ty : TypeId) (a b : Int) : binV P .andNot ty .u32 a .u32 b = some (.int .u32 (zTK a b)):=by
 simp only [binV,binOp,ne_eq,not_true_eq_false,if_false,Op.intBits]
 rfl
theorem zGR (a b : Lb) (M : Mem) : zAE Tryz.prog (fsT tbl) fuel (d + 1) (.fn 32) [lbA a,lbA b] M = some (BL (a.leq b),M):=by
 apply zBG
 refine zAJ tf32 rfl (by simp (maxSteps:=2000000) (disch:=first | omega | assumption | (simp only [DS,Nat.reduceAdd, *]; done) | (simp only [DZ]; omega)) only [RUN,icyL,Nat.reduceSub]) (by simp [a32]) fun b' ht hx=>?_
 have h0:=hx 0 _ rfl
 have h1:=hx 1 _ rfl
 clear hx
 simp only [a32,c32,zzm] at ht ⊢
 unfold Lb.leq
 by_cases q : a.lv ≤ b.lv
 ·have q1 : decide (a.lv ≤ b.lv) = true:=decide_eq_true q
  simp (maxSteps:=2000000) (disch:=first | omega | assumption | (simp only [DS,Nat.reduceAdd, *]; done) | (simp only [DZ]; omega)) only [RUN,RU,zA2,zA1,zA0,zAA,frzL,reduceIte,Nat.reduceEqDiff,Nat.reduceAdd,h0,h1,q1,zVE]
 ·have q1 : decide (a.lv ≤ b.lv) = false:=decide_eq_false q
  simp (maxSteps:=2000000) (disch:=first | omega | assumption | (simp only [DS,Nat.reduceAdd, *]; done) | (simp only [DZ]; omega)) only [RUN,RU,zA2,zA1,zA0,zAA,frzL,reduceIte,Nat.reduceEqDiff,Nat.reduceAdd,h0,h1,q1,Bool.false_and]
theorem zF3 (a : Lb) (M : Mem) : zAE Tryz.prog (fsT tbl) fuel (d + 1) (.fn 31) [lbA a] M = some (I64 (err a.may),M):=by
 apply zBG
 refine zAJ tf31 rfl (by simp (maxSteps:=2000000) (disch:=first | omega | assumption | (simp only [DS,Nat.reduceAdd, *]; done) | (simp only [DZ]; omega)) only [RUN,icyL,Nat.reduceSub]) (by simp [a31]) fun b' ht hx=>?_
 have h0:=hx 0 _ rfl
 clear hx
 simp only [a31,c31] at ht ⊢
 unfold Lb.may
 cases q : decide (15 < a.lv) <;> simp (maxSteps:=2000000) (disch:=first | omega | assumption | (simp only [DS,Nat.reduceAdd, *]; done) | (simp only [DZ]; omega)) only [RUN,RU,zA2,zA1,zA0,zAA,frzL,reduceIte,Nat.reduceEqDiff,h0,q,zAV,zBE]
theorem zIS (b : Bool) (M : Mem) : zAE Tryz.prog (fsT tbl) fuel (d + 1) (.fn 56) [BL b] M = some (I64 (err b),M):=by
 apply zBG
 refine zAJ tf56 rfl (by simp (maxSteps:=2000000) (disch:=first | omega | assumption | (simp only [DS,Nat.reduceAdd, *]; done) | (simp only [DZ]; omega)) only [RUN,icyL]) (by simp [a56]) fun b' ht hx=>?_
 have h0:=hx 0 _ rfl
 clear hx
 simp only [a56,c56,zzm] at ht ⊢
 cases b <;> simp (maxSteps:=2000000) (disch:=first | omega | assumption | (simp only [DS,Nat.reduceAdd, *]; done) | (simp only [DZ]; omega)) only [RUN,RU,zA2,zA1,zA0,zAA,frzL,reduceIte,Nat.reduceEqDiff,h0,zAV,zBE]
theorem zEA (h : Hd) (M : Mem) : zAE Tryz.prog (fsT tbl) fuel (d + 2) (.fn 37) [hdA h] M = some (I64 (err h.may),M):=by
 have hl:=fun M=>@zF3 fuel d h.lb M
 have hr:=fun b M=>@zIS fuel d b M
 apply zBG
 refine zAJ tf37 rfl (by simp (maxSteps:=2000000) (disch:=first | omega | assumption | (simp only [DS,Nat.reduceAdd, *]; done) | (simp only [DZ]; omega)) only [RUN,icyL,Nat.reduceSub]) (by simp [a37]) fun b' ht hx=>?_
 have h0:=hx 0 _ rfl
 clear hx
 simp only [a37,c37,zzm] at ht ⊢
 unfold Hd.may
 cases hm : h.lb.may <;> rw [hm] at hl
 ·simp (maxSteps:=2000000) (disch:=first | omega | assumption | (simp only [DS,Nat.reduceAdd, *]; done) | (simp only [DZ]; omega)) only [RUN,RU,zA2,zA1,zA0,zAA,frzL,slot,reduceIte,Nat.reduceEqDiff,Int.reduceEq,h0,hl,hr,zBE,Bool.false_and]
 ·simp (maxSteps:=2000000) (disch:=first | omega | assumption | (simp only [DS,Nat.reduceAdd, *]; done) | (simp only [DZ]; omega)) only [RUN,RU,zA2,zA1,zA0,zAA,frzL,slot,reduceIte,Nat.reduceEqDiff,h0,hl,hr,zAV]
theorem zK5 (x : Eid) (M : Mem) : zAE Tryz.prog (fsT tbl) fuel (d + 3) (.fn 71) [idA x] M = some (I64 (err x.may),M):=by
 have hl:=fun M=>@zEA fuel d x.hd M
 have hr:=fun b M=>@zIS fuel (d + 1) b M
 apply zBG
 refine zAJ tf71 rfl (by simp (maxSteps:=2000000) (disch:=first | omega | assumption | (simp only [DS,Nat.reduceAdd, *]; done) | (simp only [DZ]; omega)) only [RUN,icyL,Nat.reduceSub]) (by simp [a71]) fun b' ht hx=>?_
 have h0:=hx 0 _ rfl
 clear hx
 simp only [a71,c71,zzm] at ht ⊢
 unfold Eid.may
 cases hm : x.hd.may <;> rw [hm] at hl
 ·simp (maxSteps:=2000000) (disch:=first | omega | assumption | (simp only [DS,Nat.reduceAdd, *]; done) | (simp only [DZ]; omega)) only [RUN,RU,zA2,zA1,zA0,zAA,frzL,slot,reduceIte,Nat.reduceEqDiff,Int.reduceEq,h0,hl,hr,zBE,Bool.false_and]
 ·cases q : decide (1 ≤ x.c)
  ·simp (maxSteps:=2000000) (disch:=first | omega | assumption | (simp only [DS,Nat.reduceAdd, *]; done) | (simp only [DZ]; omega)) only [RUN,RU,zA2,zA1,zA0,zAA,frzL,slot,reduceIte,Nat.reduceEqDiff,h0,hl,hr,zAV,q,Bool.false_and]
  ·simp (maxSteps:=2000000) (disch:=first | omega | assumption | (simp only [DS,Nat.reduceAdd, *]; done) | (simp only [DZ]; omega)) only [RUN,RU,zA2,zA1,zA0,zAA,frzL,slot,reduceIte,Nat.reduceEqDiff,h0,hl,hr,zAV,q]
theorem zG0 (s : Spn) (M : Mem) : zAE Tryz.prog (fsT tbl) fuel (d + 4) (.fn 69) [spA s] M = some (I64 (err s.may),M):=by
 have hl:=fun M=>@zK5 fuel d s.f M
 have hr:=fun b M=>@zIS fuel (d + 2) b M
 apply zBG
 refine zAJ tf69 rfl (by simp (maxSteps:=2000000) (disch:=first | omega | assumption | (simp only [DS,Nat.reduceAdd, *]; done) | (simp only [DZ]; omega)) only [RUN,icyL,Nat.reduceSub]) (by simp [a69]) fun b' ht hx=>?_
 have h0:=hx 0 _ rfl
 clear hx
 simp only [a69,c69,zzm] at ht ⊢
 unfold Spn.may
 cases hm : s.f.may <;> rw [hm] at hl
 ·simp (maxSteps:=2000000) (disch:=first | omega | assumption | (simp only [DS,Nat.reduceAdd, *]; done) | (simp only [DZ]; omega)) only [RUN,RU,zA2,zA1,zA0,zAA,frzL,slot,reduceIte,Nat.reduceEqDiff,Int.reduceEq,h0,hl,hr,zBE,Bool.false_and]
 ·cases q1 : decide (1 ≤ s.n)
  ·simp (maxSteps:=2000000) (disch:=first | omega | assumption | (simp only [DS,Nat.reduceAdd, *]; done) | (simp only [DZ]; omega)) only [RUN,RU,zA2,zA1,zA0,zAA,frzL,slot,reduceIte,Nat.reduceEqDiff,h0,hl,hr,zAV,q1,Bool.false_and]
  ·cases q2 : decide (s.n ≤ 64)
   ·simp (maxSteps:=2000000) (disch:=first | omega | assumption | (simp only [DS,Nat.reduceAdd, *]; done) | (simp only [DZ]; omega)) only [RUN,RU,zA2,zA1,zA0,zAA,frzL,slot,reduceIte,Nat.reduceEqDiff,h0,hl,hr,zAV,q1,q2,Bool.false_and]
   ·have w : IntKind.i64.wrap (IntKind.i64.wrap (s.f.c + s.n) - 1) = s.f.c + s.n - 1:=by
     unfold Eid.may at hm
     simp only [Bool.and_eq_true,decide_eq_true_eq] at hm q1 q2
     rw [wrap_i64 (n:=s.f.c + s.n) (by omega) (by omega),wrap_i64 (by omega) (by omega)]
    have q3 : decide (s.f.c + s.n - 1 ≤ 1099511627776) = decide (s.f.c + s.n ≤ 1099511627777):=by
     rw [Bool.eq_iff_iff,decide_eq_true_iff,decide_eq_true_iff]; omega
    simp (maxSteps:=2000000) (disch:=first | omega | assumption | (simp only [DS,Nat.reduceAdd, *]; done) | (simp only [DZ]; omega)) only [RUN,RU,zA2,zA1,zA0,zAA,frzL,slot,reduceIte,Nat.reduceEqDiff,h0,hl,hr,zAV,q1,q2,w,q3]
end Go.Proofs.YtebloodpblgncaaGreat
namespace Go.Proofs.YtebloodpblgncaaGreat
open Go Go.Ax
variable {fuel : Nat} {M : Mem} {Q : AV → Mem → Prop} {d : Nat}
def zN2 (x : Int) : Bool:=(decide (0 ≤ x) && decide (x < 55296)) || (decide (57343 < x) && decide (x ≤ 1114111))
def okR (x : Int) : Bool:=decide (x = -1) || zN2 x
def chkR (l : List Int) : Int:=if 64 < l.length then 4 else err (l.all okR)
theorem zUZ (x : Int) (M : Mem) : zAE Tryz.prog (fsT tbl) fuel (d + 1) (.fn 109) [I32 x] M = some (BL (zN2 x),M):=by
 apply zBG
 refine zAJ tf109 rfl (by simp (maxSteps:=2000000) (disch:=first | omega | assumption | (simp only [DS,Nat.reduceAdd, *]; done) | (simp only [DZ]; omega)) only [RUN,icyL]) (by simp [a109]) fun b' ht hx=>?_
 have h0:=hx 0 _ rfl
 clear hx
 simp only [a109,c109,zzm,zzg] at ht ⊢
 unfold zN2
 cases q1 : decide (0 ≤ x) <;> cases q2 : decide (x < 55296) <;> cases q3 : decide (57343 < x) <;> cases q4 : decide (x ≤ 1114111)
 all_goals simp (maxSteps:=2000000) (disch:=first | omega | assumption | (simp only [DS,Nat.reduceAdd, *]; done) | (simp only [DZ]; omega)) only [RUN,RU,zA2,zA1,zA0,zAA,frzL,reduceIte,Nat.reduceEqDiff,h0,q1,q2,q3,q4]
theorem zV6 (x : Int) (M : Mem) : zAE Tryz.prog (fsT tbl) fuel (d + 2) (.fn 108) [I32 x] M = some (BL (!okR x),M):=by
 have hv:=fun M=>@zUZ fuel d x M
 apply zBG
 refine zAJ tf108 rfl (by simp (maxSteps:=2000000) (disch:=first | omega | assumption | (simp only [DS,Nat.reduceAdd, *]; done) | (simp only [DZ]; omega)) only [RUN,icyL]) (by simp [a108]) fun b' ht hx=>?_
 have h0:=hx 0 _ rfl
 clear hx
 simp only [a108,c108,zzm,zzg] at ht ⊢
 unfold okR
 cases q : decide (x = -1) <;> simp (maxSteps:=2000000) (disch:=first | omega | assumption | (simp only [DS,Nat.reduceAdd, *]; done) | (simp only [DZ]; omega)) only [RUN,RU,zA2,zA1,zA0,zAA,frzL,reduceIte,Nat.reduceEqDiff,h0,q,hv]
theorem zRW {α : Type} (p : α → Bool) (l : List α) : (l.any fun x => !p x) = !l.all p:=by
 induction l with
 | nil=>rfl
 | cons x l ih=>simp only [List.any_cons,List.all_cons,ih,Bool.not_and]
theorem zJR {a : AV} {l : List Int} (hS : Sl 1 zB2 a l) (hf : 100 < fuel) (M : Mem) : zAE Tryz.prog (fsT tbl) fuel (d + 5) (.fn 80) [a] M = some (I64 (chkR l),M):=by
 have ll:=hS.len
 apply zBG
 refine zAJ tf80 rfl (by simp (maxSteps:=2000000) (disch:=first | omega | assumption | (simp only [DS,Nat.reduceAdd, *]; done) | (simp only [DZ]; omega)) only [icyL,hS.fz.icy]) (by simp [a80]) fun b' ht hx=>?_
 have h0:=hx 0 _ rfl
 clear hx
 simp only [a80,c80,zzm] at ht ⊢
 unfold chkR
 by_cases q : 64 < l.length
 ·have q1 : decide ((64 : Int) < l.length) = true:=decide_eq_true (by omega)
  simp (maxSteps:=2000000) (disch:=first | omega | assumption | (simp only [DS,Nat.reduceAdd, *]; done) | (simp only [DZ]; omega)) only [RUN,RU,zA2,zA1,zA0,zAA,frzL,reduceIte,Nat.reduceEqDiff,h0,ll,q1,q,if_true]
 ·have q1 : decide ((64 : Int) < l.length) = false:=decide_eq_false (by omega)
  have hh:=fun M=>zdM (P:=Tryz.prog) (fs:=fsT tbl) (fuel:=fuel) (l:=l) (ag:=false) (n:=d + 2) tf110 tf122 (fun _=>rfl) zFB hS (by omega) (by omega) (zZ1 108) (p:=fun x => !okR x) (fun r x hr _ M=>by
   obtain rfl:=hr
   exact @zV6 fuel d x M) M
  rw [zRW] at hh
  cases hb : l.all okR <;> rw [hb] at hh <;> simp (maxSteps:=2000000) (disch:=first | omega | assumption | (simp only [DS,Nat.reduceAdd, *]; done) | (simp only [DZ]; omega)) only [RUN,RU,zA2,zA1,zA0,zAA,frzL,reduceIte,Nat.reduceEqDiff,h0,ll,q1,q,hh,if_false,zAV,zBE]
theorem zL5 {a : AV} {l : List Int} (hS : Sl 1 zB2 a l) (hl : l.length ≤ 1000000000) (wf : Wf M)
  (k : ∀ a' M',Wf M' → M.size ≤ M'.size → (∀ j,j < M.size → M'.get j = M.get j) → SlM M' 1 zB2 a' l → (∀ id,rowOf a' = some id → M.size ≤ id) → M'.wm = M.wm → M'.dirty = M.dirty → Q a' M') : W3 (zAE Tryz.prog (fsT tbl) fuel (d + 1) (.fn 57) [a] M) Q :=
 zaB zFB.cel tf57 Tryz.underlying34 hS (by omega) (by omega) wf k
end Go.Proofs.YtebloodpblgncaaGreat
namespace Go.Proofs.YtebloodpblgncaaGreat
open Go Go.Ax
variable {fuel : Nat} {M : Mem} {Q : AV → Mem → Prop} {d : Nat}
theorem zTL (M : Mem) : zAE Tryz.prog (fsT tbl) fuel (d + 1) (.fn 97) [] M = some (lbA Lb.z,M):=by
 apply zBG
 refine zAJ tf97 rfl (by simp (maxSteps:=2000000) (disch:=first | omega | assumption | (simp only [DS,Nat.reduceAdd, *]; done) | (simp only [DZ]; omega)) only [icyL]) (by simp [a97]) fun b' ht hx=>?_
 clear hx
 simp only [a97,c97,zz4] at ht ⊢
 simp (maxSteps:=2000000) (disch:=first | omega | assumption | (simp only [DS,Nat.reduceAdd, *]; done) | (simp only [DZ]; omega)) only [RUN,RU,zA2,zA1,zA0,zAA,frzL,slot,lay,zAI,reduceIte,Nat.reduceEqDiff,Nat.reduceAdd,Nat.reduceSub]
theorem zIH {o : Op} {ra : AV} (h : Fz ra) (M : Mem) : icy 12 M (.agg (opR o ra)) = some (.agg (opR o ra),M):=zAY (zZ2 h) (by omega) M
def Op.bare (o : Op) : Bool:=decide (o.af = Eid.z) && decide ((o.rs.length : Int) = 0)
def Op.part (o : Op) : Bool :=
 if o.kd = 1 then decide (o.to = Lb.z) && (decide (o.af = Eid.z) || o.af.may) && decide (o.sp.f.hd = o.hd) && decide ((o.rs.length : Int) = o.sp.n) && decide (chkR o.rs = 0)
 else if o.kd = 2 then decide (o.to = Lb.z) && o.bare
 else o.bare && o.to.may
def Op.may (o : Op) : Bool:=!decide (o.kd = 0) && !decide (4 ≤ o.kd) && o.hd.may && !decide (o.sr < 1) && !decide (16777216 ≤ o.sr) && o.sp.may && o.part
theorem zYS {o : Op} {ra : AV} (hS : Sl 1 zB2 ra o.rs) (wf : Wf M) (k : ∀ N,Kept M N → Q (BL o.bare) N) : W3 (zAE Tryz.prog (fsT tbl) fuel (d + 1) (.fn 95) [.agg (opR o ra)] M) Q:=by
 have pIdE:=@pIdE
 have ll:=hS.len
 unfold Op.bare at k
 refine zB7 tf95 rfl (by simp [a95]) fun b' ht hx=>?_
 have h0:=hx 0 _ rfl
 clear hx
 simp only [a95,c95,zz3,zzm] at ht ⊢
 cases q : decide (o.af = Eid.z) <;> rw [q] at k <;> simp only [Bool.false_and,Bool.true_and] at k <;> simp (maxSteps:=2000000) (disch:=first | omega | assumption | (simp only [DS,Nat.reduceAdd, *]; done) | (simp only [DZ]; omega)) only [RUN,RU,zA2,zA1,zA0,zAA,slot,zAI,reduceIte,Nat.reduceEqDiff,h0,↓pIdE,zAZ,ETA,q,ll]
 all_goals exact k _ ((Kept.refl wf).add _)
theorem zPF {o : Op} {ra : AV} (hS : Sl 1 zB2 ra o.rs) (wf : Wf M) (k : ∀ N,Kept M N → Q (BL (decide (o.to = Lb.z))) N) : W3 (zAE Tryz.prog (fsT tbl) fuel (d + 2) (.fn 96) [.agg (opR o ra)] M) Q:=by
 have pLbE:=@pLbE
 have hl:=fun M=>@zTL fuel d M
 refine zB7 tf96 rfl (by simp [a96]) fun b' ht hx=>?_
 have h0:=hx 0 _ rfl
 clear hx
 simp only [a96,c96,zzm] at ht ⊢
 simp (maxSteps:=2000000) (disch:=first | omega | assumption | (simp only [DS,Nat.reduceAdd, *]; done) | (simp only [DZ]; omega)) only [RUN,RU,zA2,zA1,zA0,zAA,slot,reduceIte,Nat.reduceEqDiff,Nat.reduceBEq,Nat.reduceAdd,h0,↓pLbE,zES,ETA,hl]
 exact k _ ((Kept.refl wf).add _)
end Go.Proofs.YtebloodpblgncaaGreat
namespace Go.Proofs.YtebloodpblgncaaGreat
open Go Go.Ax
variable {fuel : Nat} {M : Mem} {Q : AV → Mem → Prop} {d : Nat}
set_option maxHeartbeats 4000000 in
theorem zf2 {o : Op} {ra : AV} {x : Nat} (hS : Sl 1 zB2 ra o.rs) (hk1 : o.kd = 1) (hf : 100 < fuel) (wf : Wf M) (hx1 : M.get x = some (.row false [.fn 96 [] []])) (k : ∀ N,Kept M N → Q (BL o.part) N) :
  W3 (zAE Tryz.prog (fsT tbl) fuel (d + 6) (.fn 98) [.agg (opR o ra),.ptr x 0] M) Q:=by
 have ll:=hS.len
 have lx:=Mem.get_lt hx1
 have hc:=fun M=>@zK5 fuel (d + 2) o.af M
 have hr:=fun M=>zJR (fuel:=fuel) (d:=d) hS hf M
 have z4 : decide ((4 : Int) = 0) = false:=rfl
 unfold Op.part at k
 rw [if_pos hk1] at k
 have kept:=fun cs=>(Kept.refl wf).add (.row false cs)
 have key : ∀ b : Bool,((decide (o.af = Eid.z) || o.af.may) = b) → True:=fun _ _=>trivial
 refine zB7 tf98 rfl (by simp [a98]) fun b' ht hx=>?_
 have h0:=hx 0 _ rfl
 have h1:=hx 1 _ rfl
 clear hx
 simp only [a98,c98,zz3,zzm,zzg] at ht ⊢
 have tail : ∀ b : Bool,(decide (o.af = Eid.z) || o.af.may) = b → ∀ t : List AV,t.length = b'.length → True:=fun _ _ _ _=>trivial
 clear tail key
 cases q : decide (o.af = Eid.z) <;> cases q' : o.af.may <;> rw [q'] at hc <;> simp only [q,q',Bool.or_false,Bool.or_true,Bool.false_and,Bool.and_false,Bool.and_true] at k
 all_goals
  (simp (maxSteps:=2000000) (disch:=first | omega | assumption | (simp only [DS,Nat.reduceAdd, *]; done) | (simp only [DZ]; omega)) only [RUN,RU,zA2,zA1,slot,zAI,reduceIte,Nat.reduceEqDiff,Int.reduceEq,h0,h1,↓pIdE,zAZ,ETA,q,hc,zAV,zBE,hx1])
  refine zPF hS (by simp (maxSteps:=2000000) (disch:=first | omega | assumption | (simp only [DS,Nat.reduceAdd, *]; done) | (simp only [DZ]; omega)) only [RUN,wf]) fun N hN=>?_
  have hg:=hN.get M.size (by rw [zA7]; omega)
  rw [zAH wf _ _ (Nat.le_refl _) (Nat.lt_succ_self _)] at hg
  have lg:=Mem.get_lt hg
  have kN:=((Kept.refl wf).add _).trans hN
  cases q1 : decide (o.to = Lb.z) <;> (try simp only [q1,Bool.false_and,Bool.true_and] at k)
  all_goals (simp (maxSteps:=2000000) (disch:=first | omega | assumption | (simp only [DS,Nat.reduceAdd, *]; done) | (simp only [DZ]; omega)) only [RUN,RU,zA2,zA1,zA0,zAA,slot,reduceIte,Nat.reduceEqDiff,hg,↓pHdE,zU8,ETA])
  all_goals first | exact k _ kN | skip
 all_goals
  cases q2 : decide (o.sp.f.hd = o.hd) <;> (try simp only [q2,Bool.false_and,Bool.true_and] at k)
  all_goals (simp (maxSteps:=2000000) (disch:=first | omega | assumption | (simp only [DS,Nat.reduceAdd, *]; done) | (simp only [DZ]; omega)) only [RUN,RU,zA2,zA1,zA0,zAA,reduceIte,Nat.reduceEqDiff,hg])
  all_goals first | exact k _ kN | skip
 all_goals
  cases q3 : decide ((o.rs.length : Int) = o.sp.n) <;> (try simp only [q3,Bool.false_and,Bool.true_and] at k)
  all_goals (simp (maxSteps:=2000000) (disch:=first | omega | assumption | (simp only [DS,Nat.reduceAdd, *]; done) | (simp only [DZ]; omega)) only [RUN,RU,zA2,zA1,zA0,zAA,reduceIte,Nat.reduceEqDiff,Nat.reduceAdd,hg,ll,q3,hr])
  all_goals exact k _ kN
end Go.Proofs.YtebloodpblgncaaGreat
namespace Go.Proofs.YtebloodpblgncaaGreat
open Go Go.Ax
variable {fuel : Nat} {M : Mem} {Q : AV → Mem → Prop} {d : Nat}
theorem zeZ {o : Op} {ra : AV} {x y : Nat} (hS : Sl 1 zB2 ra o.rs) (wf : Wf M) (hx1 : M.get x = some (.row false [.fn 96 [] []])) (hy1 : M.get y = some (.row false [.fn 95 [] []])) (k : ∀ N,Kept M N → Q (BL (decide (o.to = Lb.z) && o.bare)) N) :
  W3 (zAE Tryz.prog (fsT tbl) fuel (d + 3) (.fn 100) [.agg (opR o ra),.ptr x 0,.ptr y 0] M) Q:=by
 have lx:=Mem.get_lt hx1
 have ly:=Mem.get_lt hy1
 refine zB7 tf100 rfl (by simp [a100]) fun b' ht hx=>?_
 have h0:=hx 0 _ rfl
 have h1:=hx 1 _ rfl
 have h2:=hx 2 _ rfl
 clear hx
 simp only [a100,c100,zzm] at ht ⊢
 simp (maxSteps:=2000000) (disch:=first | omega | assumption | (simp only [DS,Nat.reduceAdd, *]; done) | (simp only [DZ]; omega)) only [RUN,RU,zA2,zA1,slot,reduceIte,Nat.reduceEqDiff,h0,h1,hx1]
 refine zPF hS (by simp (maxSteps:=2000000) (disch:=first | omega | assumption | (simp only [DS,Nat.reduceAdd, *]; done) | (simp only [DZ]; omega)) only [RUN,wf]) fun N hN=>?_
 have hg:=hN.get M.size (by rw [zA7]; omega)
 rw [zAH wf _ _ (Nat.le_refl _) (Nat.lt_succ_self _)] at hg
 have lg:=Mem.get_lt hg
 have gy:=(hN.get y (by rw [zA7]; omega)).trans ((zAF wf _ _ ly).trans hy1)
 have lgy:=Mem.get_lt gy
 have kN:=((Kept.refl wf).add _).trans hN
 cases q1 : decide (o.to = Lb.z) <;> simp only [q1,Bool.false_and,Bool.true_and] at k <;> simp (maxSteps:=2000000) (disch:=first | omega | assumption | (simp only [DS,Nat.reduceAdd, *]; done) | (simp only [DZ]; omega)) only [RUN,RU,zA2,zA1,zA0,zAA,slot,reduceIte,Nat.reduceEqDiff,h2,hg,gy]
 ·exact k _ kN
 ·refine zYS hS hN.wf fun N' hN'=>?_
  simp (maxSteps:=2000000) (disch:=first | omega | assumption | (simp only [DS,Nat.reduceAdd, *]; done) | (simp only [DZ]; omega)) only [RUN,RU,zA2,zA1,zA0,zAA,reduceIte,Nat.reduceEqDiff]
  exact k _ (kN.trans hN')
theorem zY2 {o : Op} {ra : AV} {y : Nat} (hS : Sl 1 zB2 ra o.rs) (wf : Wf M) (hy1 : M.get y = some (.row false [.fn 95 [] []])) (k : ∀ N,Kept M N → Q (BL (o.bare && o.to.may)) N) :
  W3 (zAE Tryz.prog (fsT tbl) fuel (d + 2) (.fn 102) [.agg (opR o ra),.ptr y 0] M) Q:=by
 have ly:=Mem.get_lt hy1
 have hl:=fun M=>@zF3 fuel d o.to M
 refine zB7 tf102 rfl (by simp [a102]) fun b' ht hx=>?_
 have h0:=hx 0 _ rfl
 have h1:=hx 1 _ rfl
 clear hx
 simp only [a102,c102,zzm] at ht ⊢
 simp (maxSteps:=2000000) (disch:=first | omega | assumption | (simp only [DS,Nat.reduceAdd, *]; done) | (simp only [DZ]; omega)) only [RUN,RU,zA2,zA1,slot,reduceIte,Nat.reduceEqDiff,h0,h1,hy1]
 refine zYS hS (by simp (maxSteps:=2000000) (disch:=first | omega | assumption | (simp only [DS,Nat.reduceAdd, *]; done) | (simp only [DZ]; omega)) only [RUN,wf]) fun N hN=>?_
 have hg:=hN.get M.size (by rw [zA7]; omega)
 rw [zAH wf _ _ (Nat.le_refl _) (Nat.lt_succ_self _)] at hg
 have lg:=Mem.get_lt hg
 have kN:=((Kept.refl wf).add _).trans hN
 cases q1 : o.bare <;> simp only [q1,Bool.false_and,Bool.true_and] at k
 ·simp (maxSteps:=2000000) (disch:=first | omega | assumption | (simp only [DS,Nat.reduceAdd, *]; done) | (simp only [DZ]; omega)) only [RUN,RU,zA2,zA1,zA0,zAA,reduceIte,Nat.reduceEqDiff]
  exact k _ kN
 ·cases q2 : o.to.may <;> rw [q2] at hl k <;> simp (maxSteps:=2000000) (disch:=first | omega | assumption | (simp only [DS,Nat.reduceAdd, *]; done) | (simp only [DZ]; omega)) only [RUN,RU,zA2,zA1,zA0,zAA,slot,reduceIte,Nat.reduceEqDiff,Int.reduceEq,hg,hl,zAV,zBE] <;> exact k _ kN
theorem zbM (wf : Wf M) (hw : M.wm ≤ M.size) (k : ∀ N x y,Kept M N → N.get x = some (.row false [.fn 96 [] []]) → N.get y = some (.row false [.fn 95 [] []]) → M.size ≤ x → M.size ≤ y → Q (.agg [.sc .nilFunc,.sc .nilFunc,.fn 98 [] [.ptr x 0],.fn 99 [] [],.fn 100 [] [.ptr x 0,.ptr y 0],.fn 101 [] [],.fn 102 [] [.ptr y 0],.fn 103 [] []]) N) :
  W3 (zAE Tryz.prog (fsT tbl) fuel (d + 1) (.fn 76) [] M) Q:=by
 have onf : oneA (.sc .nilFunc) = true:=rfl
 have sn : scs Value.nilFunc = [.sc .nilFunc]:=rfl
 refine zB7 tf76 rfl (by simp [a76]) fun b' ht hx=>?_
 clear hx
 simp only [a76,c76,zz6] at ht ⊢
 simp (maxSteps:=2000000) (disch:=first | omega | assumption | (simp only [DS,Nat.reduceAdd, *]; done) | (simp only [DZ]; omega)) only [RUN,RU,zA2,zA1,zA0,zAA,slot,lay,zAI,reduceIte,Nat.reduceEqDiff,Nat.reduceBEq,Nat.reduceAdd,sn]
 refine k _ (M.size + 1 + 1) (M.size + 1) ((((((Kept.refl wf).add _).add _).upd hw (by omega) _).add _).upd hw (by omega) _ |>.upd hw (by omega) _) ?_ ?_ (by omega) (by omega)
 ·simp (maxSteps:=2000000) (disch:=first | omega | assumption | (simp only [DS,Nat.reduceAdd, *]; done) | (simp only [DZ]; omega)) only [RUN]
 ·simp (maxSteps:=2000000) (disch:=first | omega | assumption | (simp only [DS,Nat.reduceAdd, *]; done) | (simp only [DZ]; omega)) only [RUN]
set_option maxHeartbeats 4000000 in
theorem zDE {o : Op} {ra : AV} (hS : Sl 1 zB2 ra o.rs) (ho : o.ok) (hf : 100 < fuel) (M : Mem) : zAE Tryz.prog (fsT tbl) fuel (d + 7) (.fn 50) [.agg (opR o ra)] M = some (I64 (err o.may),M):=by
 have hh:=fun M=>@zEA fuel (d + 4) o.hd M
 have hs:=fun M=>@zG0 fuel (d + 2) o.sp M
 apply zBG
 refine zAJ tf50 rfl (by simp only [icyL,zIH hS.fz]) (by simp [a50]) fun b' ht hx=>?_
 have h0:=hx 0 _ rfl
 clear hx
 simp only [a50,c50,zzm] at ht ⊢
 unfold Op.may
 cases q1 : decide (o.kd = 0)
 ·cases q2 : decide (4 ≤ o.kd)
  ·cases q3 : o.hd.may <;> rw [q3] at hh
   ·simp (maxSteps:=2000000) (disch:=first | omega | assumption | (simp only [DS,Nat.reduceAdd, *]; done) | (simp only [DZ]; omega)) only [RUN,RU,zA2,zA1,zA0,zAA,frzL,slot,reduceIte,Nat.reduceEqDiff,Nat.reduceAdd,Int.reduceEq,h0,q1,q2,hh,zBE,Bool.false_and,Bool.and_false]
   ·cases q4 : decide (o.sr < 1)
    ·cases q5 : decide (16777216 ≤ o.sr)
     ·cases q6 : o.sp.may <;> rw [q6] at hs
      ·simp (maxSteps:=2000000) (disch:=first | omega | assumption | (simp only [DS,Nat.reduceAdd, *]; done) | (simp only [DZ]; omega)) only [RUN,RU,zA2,zA1,zA0,zAA,frzL,slot,reduceIte,Nat.reduceEqDiff,Nat.reduceAdd,Int.reduceEq,h0,q1,q2,q4,q5,hh,hs,zAV,zBE,Bool.false_and,Bool.and_false]
      ·simp (maxSteps:=2000000) (disch:=first | omega | assumption | (simp only [DS,Nat.reduceAdd, *]; done) | (simp only [DZ]; omega)) only [RUN,RU,zA2,zA1,slot,reduceIte,Nat.reduceEqDiff,Nat.reduceAdd,h0,q1,q2,q4,q5,hh,hs,zAV]
       refine zbM (by simp (maxSteps:=2000000) (disch:=first | omega | assumption | (simp only [DS,Nat.reduceAdd, *]; done) | (simp only [DZ]; omega)) only [RUN]) (by simp only [zDB]; exact Nat.le_refl _) fun N x y hN gx gy lx ly=>?_
       have hd : N.dirty = false:=hN.di
       have hsz : 1 ≤ N.size:=hN.le
       have g0 : N.get 0 = some (.row false (opR o ra)):=hN.get 0 (by show 0 < 1; omega)
       have wN:=hN.wf
       have hk : o.kd = 1 ∨ o.kd = 2 ∨ o.kd = 3:=by
        have:=ho.1
        simp only [decide_eq_false_iff_not] at q1 q2
        omega
       rcases hk with hk | hk | hk
       ·have n1 : zDC (U8 o.kd) = some 1:=by rw [hk]; rfl
        have ep : o.part = o.part:=rfl
        rw [ep]
        simp (maxSteps:=2000000) (disch:=first | omega | assumption | (simp only [DS,Nat.reduceAdd, *]; done) | (simp only [DZ]; omega)) only [RUN,RU,zA2,slot,reduceIte,Nat.reduceEqDiff,Nat.reduceBEq,Nat.reduceAdd,Nat.reduceMul,hd,g0,n1,zRJ,zGO]
        refine ⟨rfl,rfl,rfl, ?_⟩
        refine zf2 hS hk hf (by simp (maxSteps:=2000000) (disch:=first | omega | assumption | (simp only [DS,Nat.reduceAdd, *]; done) | (simp only [DZ]; omega)) only [RUN]; exact wN) (by simp (maxSteps:=2000000) (disch:=first | omega | assumption | (simp only [DS,Nat.reduceAdd, *]; done) | (simp only [DZ]; omega)) only [RUN,gx])  fun N' hN'=>?_
        have hd' : N'.dirty = false:=hN'.di
        cases qp : o.part <;> simp (maxSteps:=2000000) (disch:=first | omega | assumption | (simp only [DS,Nat.reduceAdd, *]; done) | (simp only [DZ]; omega)) only [RUN,RU,zA2,zA1,zA0,zAA,frzL,reduceIte,Nat.reduceEqDiff,Nat.reduceAdd,hd',zAV,zBE]
       ·have n1 : zDC (U8 o.kd) = some 2:=by rw [hk]; rfl
        have ep : o.part = (decide (o.to = Lb.z) && o.bare):=by unfold Op.part; rw [if_neg (by omega),if_pos hk]
        rw [ep]
        simp (maxSteps:=2000000) (disch:=first | omega | assumption | (simp only [DS,Nat.reduceAdd, *]; done) | (simp only [DZ]; omega)) only [RUN,RU,zA2,slot,reduceIte,Nat.reduceEqDiff,Nat.reduceBEq,Nat.reduceAdd,Nat.reduceMul,hd,g0,n1,zRJ,zGO]
        refine ⟨rfl,rfl,rfl, ?_⟩
        refine zeZ hS (by simp (maxSteps:=2000000) (disch:=first | omega | assumption | (simp only [DS,Nat.reduceAdd, *]; done) | (simp only [DZ]; omega)) only [RUN]; exact wN) (by simp (maxSteps:=2000000) (disch:=first | omega | assumption | (simp only [DS,Nat.reduceAdd, *]; done) | (simp only [DZ]; omega)) only [RUN,gx]) (by simp (maxSteps:=2000000) (disch:=first | omega | assumption | (simp only [DS,Nat.reduceAdd, *]; done) | (simp only [DZ]; omega)) only [RUN,gy])  fun N' hN'=>?_
        have hd' : N'.dirty = false:=hN'.di
        cases qp : (decide (o.to = Lb.z) && o.bare) <;> simp (maxSteps:=2000000) (disch:=first | omega | assumption | (simp only [DS,Nat.reduceAdd, *]; done) | (simp only [DZ]; omega)) only [RUN,RU,zA2,zA1,zA0,zAA,frzL,reduceIte,Nat.reduceEqDiff,Nat.reduceAdd,hd',zAV,zBE]
       ·have n1 : zDC (U8 o.kd) = some 3:=by rw [hk]; rfl
        have ep : o.part = (o.bare && o.to.may):=by unfold Op.part; rw [if_neg (by omega),if_neg (by omega)]
        rw [ep]
        simp (maxSteps:=2000000) (disch:=first | omega | assumption | (simp only [DS,Nat.reduceAdd, *]; done) | (simp only [DZ]; omega)) only [RUN,RU,zA2,slot,reduceIte,Nat.reduceEqDiff,Nat.reduceBEq,Nat.reduceAdd,Nat.reduceMul,hd,g0,n1,zRJ,zGO]
        refine ⟨rfl,rfl,rfl, ?_⟩
        refine zY2 hS (by simp (maxSteps:=2000000) (disch:=first | omega | assumption | (simp only [DS,Nat.reduceAdd, *]; done) | (simp only [DZ]; omega)) only [RUN]; exact wN) (by simp (maxSteps:=2000000) (disch:=first | omega | assumption | (simp only [DS,Nat.reduceAdd, *]; done) | (simp only [DZ]; omega)) only [RUN,gy])  fun N' hN'=>?_
        have hd' : N'.dirty = false:=hN'.di
        cases qp : (o.bare && o.to.may) <;> simp (maxSteps:=2000000) (disch:=first | omega | assumption | (simp only [DS,Nat.reduceAdd, *]; done) | (simp only [DZ]; omega)) only [RUN,RU,zA2,zA1,zA0,zAA,frzL,reduceIte,Nat.reduceEqDiff,Nat.reduceAdd,hd',zAV,zBE]
     ·simp (maxSteps:=2000000) (disch:=first | omega | assumption | (simp only [DS,Nat.reduceAdd, *]; done) | (simp only [DZ]; omega)) only [RUN,RU,zA2,zA1,zA0,zAA,frzL,slot,reduceIte,Nat.reduceEqDiff,Nat.reduceAdd,h0,q1,q2,q4,q5,hh,zAV,zBE,Bool.false_and,Bool.and_false]
    ·simp (maxSteps:=2000000) (disch:=first | omega | assumption | (simp only [DS,Nat.reduceAdd, *]; done) | (simp only [DZ]; omega)) only [RUN,RU,zA2,zA1,zA0,zAA,frzL,slot,reduceIte,Nat.reduceEqDiff,Nat.reduceAdd,h0,q1,q2,q4,hh,zAV,zBE,Bool.false_and,Bool.and_false]
  ·simp (maxSteps:=2000000) (disch:=first | omega | assumption | (simp only [DS,Nat.reduceAdd, *]; done) | (simp only [DZ]; omega)) only [RUN,RU,zA2,zA1,zA0,zAA,frzL,reduceIte,Nat.reduceEqDiff,Nat.reduceAdd,h0,q1,q2,zBE,Bool.false_and,Bool.and_false]
 ·simp (maxSteps:=2000000) (disch:=first | omega | assumption | (simp only [DS,Nat.reduceAdd, *]; done) | (simp only [DZ]; omega)) only [RUN,RU,zA2,zA1,zA0,zAA,frzL,reduceIte,Nat.reduceEqDiff,Nat.reduceAdd,h0,q1,zBE,Bool.false_and]
end Go.Proofs.YtebloodpblgncaaGreat
namespace Go.Proofs.YtebloodpblgncaaGreat
open Go Go.Ax
def Rn.may (r : Rn) : Bool:=r.sp.may && (decide (r.af = Eid.z) || (r.af.may && decide (r.af.c < r.sp.f.c))) && decide ((r.rs.length : Int) = r.sp.n) && decide (chkR r.rs = 0)
theorem zCN {o : Rn} {ra : AV} (h : Fz ra) (M : Mem) : icy 12 M (.agg (rnR o ra)) = some (.agg (rnR o ra),M):=zAY (zZ3 h) (by omega) M
end Go.Proofs.YtebloodpblgncaaGreat
namespace Go.Proofs.YtebloodpblgncaaGreat
open Go Go.Ax
variable {fuel : Nat} {M : Mem} {Q : AV → Mem → Prop} {d : Nat}
set_option maxHeartbeats 4000000 in
theorem zC3 {o : Rn} {ra : AV} (hS : Sl 1 zB2 ra o.rs) (hf : 100 < fuel) (M : Mem) : zAE Tryz.prog (fsT tbl) fuel (d + 6) (.fn 58) [.agg (rnR o ra)] M = some (I64 (err o.may),M):=by
 have ll:=hS.len
 have hc:=fun M=>@zK5 fuel (d + 2) o.af M
 have hs:=fun M=>@zG0 fuel (d + 1) o.sp M
 have hr:=fun M=>zJR (fuel:=fuel) (d:=d) hS hf M
 apply zBG
 refine zAJ tf58 rfl (by simp only [icyL,zCN hS.fz]) (by simp [a58]) fun b' ht hx=>?_
 have h0:=hx 0 _ rfl
 clear hx
 simp only [a58,c58,zz3,zzm,zzg] at ht ⊢
 unfold Rn.may
 cases q0 : o.sp.may <;> rw [q0] at hs <;> simp only [Bool.false_and,Bool.true_and]
 all_goals
  cases q1 : decide (o.af = Eid.z)
  ·cases q2 : o.af.may <;> rw [q2] at hc
   ·simp (maxSteps:=2000000) (disch:=first | omega | assumption | (simp only [DS,Nat.reduceAdd, *]; done) | (simp only [DZ]; omega)) only [RUN,RU,zA2,zA1,zA0,zAA,frzL,slot,zAI,reduceIte,Nat.reduceEqDiff,Int.reduceEq,h0,↓pIdE,zAZ,ETA,q1,hc,hs,zAV,zBE,Bool.false_and]
   ·cases q3 : decide (o.af.c < o.sp.f.c)
    ·simp (maxSteps:=2000000) (disch:=first | omega | assumption | (simp only [DS,Nat.reduceAdd, *]; done) | (simp only [DZ]; omega)) only [RUN,RU,zA2,zA1,zA0,zAA,frzL,slot,zAI,reduceIte,Nat.reduceEqDiff,Nat.reduceAdd,Int.reduceEq,h0,↓pIdE,zAZ,ETA,q1,hc,hs,q3,zAV,zBE,Bool.false_and]
    ·cases q4 : decide ((o.rs.length : Int) = o.sp.n)
     ·simp (maxSteps:=2000000) (disch:=first | omega | assumption | (simp only [DS,Nat.reduceAdd, *]; done) | (simp only [DZ]; omega)) only [RUN,RU,zA2,zA1,zA0,zAA,frzL,slot,zAI,reduceIte,Nat.reduceEqDiff,Nat.reduceAdd,Int.reduceEq,h0,↓pIdE,zAZ,ETA,q1,hc,hs,q3,q4,ll,zAV,zBE,Bool.false_and]
     ·cases q5 : decide (chkR o.rs = 0)
      ·simp (maxSteps:=2000000) (disch:=first | omega | assumption | (simp only [DS,Nat.reduceAdd, *]; done) | (simp only [DZ]; omega)) only [RUN,RU,zA2,zA1,zA0,zAA,frzL,slot,zAI,reduceIte,Nat.reduceEqDiff,Nat.reduceAdd,Int.reduceEq,h0,↓pIdE,zAZ,ETA,q1,hc,hs,q3,q4,q5,ll,hr,zAV,zBE]
      ·simp (maxSteps:=2000000) (disch:=first | omega | assumption | (simp only [DS,Nat.reduceAdd, *]; done) | (simp only [DZ]; omega)) only [RUN,RU,zA2,zA1,zA0,zAA,frzL,slot,zAI,reduceIte,Nat.reduceEqDiff,Nat.reduceAdd,Int.reduceEq,h0,↓pIdE,zAZ,ETA,q1,hc,hs,q3,q4,q5,ll,hr,zAV,zBE]
  ·cases q4 : decide ((o.rs.length : Int) = o.sp.n)
   ·simp (maxSteps:=2000000) (disch:=first | omega | assumption | (simp only [DS,Nat.reduceAdd, *]; done) | (simp only [DZ]; omega)) only [RUN,RU,zA2,zA1,zA0,zAA,frzL,slot,zAI,reduceIte,Nat.reduceEqDiff,Int.reduceEq,h0,↓pIdE,zAZ,ETA,q1,hs,q4,ll,zAV,zBE,Bool.false_and]
   ·cases q5 : decide (chkR o.rs = 0)
    ·simp (maxSteps:=2000000) (disch:=first | omega | assumption | (simp only [DS,Nat.reduceAdd, *]; done) | (simp only [DZ]; omega)) only [RUN,RU,zA2,zA1,zA0,zAA,frzL,slot,zAI,reduceIte,Nat.reduceEqDiff,Int.reduceEq,h0,↓pIdE,zAZ,ETA,q1,hs,q4,q5,ll,hr,zAV,zBE]
    ·simp (maxSteps:=2000000) (disch:=first | omega | assumption | (simp only [DS,Nat.reduceAdd, *]; done) | (simp only [DZ]; omega)) only [RUN,RU,zA2,zA1,zA0,zAA,frzL,slot,zAI,reduceIte,Nat.reduceEqDiff,Int.reduceEq,h0,↓pIdE,zAZ,ETA,q1,hs,q4,q5,ll,hr,zAV,zBE]
end Go.Proofs.YtebloodpblgncaaGreat
namespace Go.Proofs.YtebloodpblgncaaGreat
open Go Go.Ax
variable {fuel : Nat} {M : Mem} {Q : AV → Mem → Prop} {d : Nat}
def Op.rn (o : Op) : Rn:=⟨o.sp,o.af,o.rs⟩
def rnZ : AV:=.agg (rnR ⟨⟨Eid.z,0⟩,Eid.z,[]⟩ NIL)
def rofE (o : Op) : Int:=if o.may = true then (if o.kd = 1 ∧ o.rn.may = true then 0 else 2) else 8
def rofK (o : Op) (r : AV) : Prop:=if rofE o = 0 then ∃ ra,r = .tup [.agg (rnR o.rn ra),I64 0] ∧ Sl 1 zB2 ra o.rs else r = .tup [rnZ,I64 (rofE o)]
theorem zSD {l : List Int} (h : chkR l = 0) : l.length ≤ 64:=by
 unfold chkR at h
 by_cases hc : 64 < l.length
 ·rw [if_pos hc] at h
  cases h
 ·omega
theorem may_len {o : Op} (h : o.may = true) : o.rs.length ≤ 64:=by
 unfold Op.may Op.part Op.bare at h
 simp only [Bool.and_eq_true] at h
 have h:=h.2
 split at h
 ·simp only [Bool.and_eq_true,decide_eq_true_eq] at h
  exact zSD h.2
 ·split at h <;> simp only [Bool.and_eq_true,decide_eq_true_eq] at h <;> omega
end Go.Proofs.YtebloodpblgncaaGreat
namespace Go.Proofs.YtebloodpblgncaaGreat
open Go Go.Ax
variable {fuel : Nat} {M : Mem} {Q : AV → Mem → Prop} {d : Nat}
set_option maxHeartbeats 4000000 in
theorem zMT {o : Op} {ra : AV} (hS : Sl 1 zB2 ra o.rs) (ho : o.ok) (hf : 100 < fuel) : ∃ r,rofK o r ∧ ∀ M,zAE Tryz.prog (fsT tbl) fuel (d + 8) (.fn 39) [.agg (opR o ra)] M = some (r,M):=by
 have hc:=fun M=>@zDE fuel d o ra hS ho hf M
 refine zF8 tf39 rfl (fun M=>by simp only [icyL,zIH hS.fz]) ?_
 refine zAJ tf39 rfl (by simp only [icyL,zIH hS.fz]) (by simp [a39]) fun b' ht hx=>?_
 have h0:=hx 0 _ rfl
 clear hx
 simp only [a39,c39,zz1,zzm] at ht ⊢
 unfold rofK rofE
 cases q1 : o.may with
 | false =>
  rw [q1] at hc
  simp (maxSteps:=2000000) (disch:=first | omega | assumption | (simp only [DS,Nat.reduceAdd, *]; done) | (simp only [DZ]; omega)) only [RUN,RU,zA2,zA1,zA0,zAA,frzL,slot,lay,zAI,reduceIte,Nat.reduceEqDiff,Nat.reduceAdd,Nat.reduceSub,Int.reduceEq,h0,hc,zBE,Bool.false_eq_true,if_false]
  exact ⟨_,rfl,rfl⟩
 | true =>
  rw [q1] at hc
  have hl:=may_len q1
  simp (maxSteps:=2000000) (disch:=first | omega | assumption | (simp only [DS,Nat.reduceAdd, *]; done) | (simp only [DZ]; omega)) only [RUN,RU,zA2,zA1,slot,reduceIte,Nat.reduceEqDiff,Nat.reduceBEq,Nat.reduceAdd,h0,hc,zAV,if_true]
  refine zL5 hS (by omega) (by simp (maxSteps:=2000000) (disch:=first | omega | assumption | (simp only [DS,Nat.reduceAdd, *]; done) | (simp only [DZ]; omega)) only [RUN]) fun a' M' wf' le' kp' sm' new' wm' di'=>?_
  have hd : M'.dirty = false:=di'
  have hsz : 2 ≤ M'.size:=le'
  have g0 : M'.get 0 = some (.row false (opR o ra)):=by rw [kp' 0 (by show 0 < 2; omega)]; simp (maxSteps:=2000000) (disch:=first | omega | assumption | (simp only [DS,Nat.reduceAdd, *]; done) | (simp only [DZ]; omega)) only [RUN]
  have g1 : M'.get 1 = some (.row false (rnR ⟨⟨Eid.z,0⟩,Eid.z,[]⟩ NIL)):=by rw [kp' 1 (by show 1 < 2; omega)]; simp (maxSteps:=2000000) (disch:=first | omega | assumption | (simp only [DS,Nat.reduceAdd, *]; done) | (simp only [DZ]; omega)) only [RUN]
  have oa:=sm'.one
  have ca:=sm'.cells
  have rl : ∀ j,rowOf a' = some j → 2 ≤ j:=new'
  have hz : ∀ y ∈ spR o.sp ++ idR o.af,Fz y:=fun y hy=>(List.mem_append.1 hy).elim (zP6 o.sp y) (zEI o.af y)
  have rr:=fun a2 b2 M=>@zC3 fuel (d + 1) o.rn a2 b2 hf M
  simp (maxSteps:=2000000) (disch:=first | omega | assumption | (simp only [DS,Nat.reduceAdd, *]; done) | (simp only [DZ]; omega)) only [RUN,RU,zA2,zA1,lay,zAI,reduceIte,Nat.reduceEqDiff,Nat.reduceBEq,Nat.reduceAdd,hd,g0,ca]
  refine ⟨rfl, ?_⟩
  cases q2 : decide (o.kd = 1) with
  | false =>
   have q2':=of_decide_eq_false q2
   simp (maxSteps:=2000000) (disch:=first | omega | assumption | (simp only [DS,Nat.reduceAdd, *]; done) | (simp only [DZ]; omega)) only [RUN,RU,zA2,zA1,zA0,zAA,frzL,slot,lay,zAI,reduceIte,Nat.reduceEqDiff,Nat.reduceAdd,Nat.reduceSub,g1]
   rw [if_neg (fun h=>q2' h.1)]
   simp only [show ((2 : Int) = 0) = False by decide,if_false]
   exact ⟨_,rfl,rfl⟩
  | true =>
   have q2':=of_decide_eq_true q2
   simp (maxSteps:=2000000) (disch:=first | omega | assumption | (simp only [DS,Nat.reduceAdd, *]; done) | (simp only [DZ]; omega)) only [RUN,RU,zA2,zA1,slot,reduceIte,Nat.reduceEqDiff]
   refine zRG (spR o.sp ++ idR o.af) a' (n:=d + 6) tf58 rfl hz (sm'.keep fun j hj=>?_) (by simp (maxSteps:=2000000) (disch:=first | omega | assumption | (simp only [DS,Nat.reduceAdd, *]; done) | (simp only [DZ]; omega)) only [RUN,wf']) zFB (fun a2 b2 M=>rr a2 b2 M) fun a2 N2 b2 w2 s2 k2 r2 f2=>?_
   ·have:=sm'.lt j hj
    simp (maxSteps:=2000000) (disch:=first | omega | assumption | (simp only [DS,Nat.reduceAdd, *]; done) | (simp only [DZ]; omega)) only [RUN]
   have z1 : N2.get 1 = some (.row false (rnR ⟨⟨Eid.z,0⟩,Eid.z,[]⟩ NIL)):=by
    rw [k2 1 (fun e=>by have:=rl 1 e; omega)]
    simp (maxSteps:=2000000) (disch:=first | omega | assumption | (simp only [DS,Nat.reduceAdd, *]; done) | (simp only [DZ]; omega)) only [RUN,g1]
   have z5 : N2.get M'.size = some (.row false (rnR o.rn a')):=by
    rw [k2 _ (fun e=>by have:=sm'.lt _ e; omega)]
    simp (maxSteps:=2000000) (disch:=first | omega | assumption | (simp only [DS,Nat.reduceAdd, *]; done) | (simp only [DZ]; omega)) only [RUN]
    rfl
   have hs2 : M'.size < N2.size:=by rw [s2]; simp (maxSteps:=2000000) (disch:=first | omega | assumption | (simp only [DS,Nat.reduceAdd, *]; done) | (simp only [DZ]; omega)) only [RUN]; omega
   have e2:=f2 (N2.upd 1 (.row false (rnR o.rn a'))) 11 (by omega) (fun j hj=>zA4 w2 _ _ _ (fun e=>by have:=rl j hj; omega))
   cases q3 : o.rn.may with
   | false =>
    simp (maxSteps:=2000000) (disch:=first | omega | assumption | (simp only [DS,Nat.reduceAdd, *]; done) | (simp only [DZ]; omega)) only [RUN,RU,zA2,zA1,zA0,zAA,frzL,slot,lay,zAI,reduceIte,Nat.reduceEqDiff,Nat.reduceAdd,Nat.reduceSub,Int.reduceEq,z1,zBE,Bool.false_eq_true,and_false,if_false]
    exact ⟨_,rfl,rfl⟩
   | true =>
    simp (maxSteps:=2000000) (disch:=first | omega | assumption | (simp only [DS,Nat.reduceAdd, *]; done) | (simp only [DZ]; omega)) only [RUN,RU,zA2,zA1,zA0,zAA,frzL,slot,lay,reduceIte,Nat.reduceEqDiff,Nat.reduceAdd,Nat.reduceSub,z1,z5,zAV,q2',if_true,e2]
    exact ⟨_,⟨a2,rfl,b2⟩,rfl⟩
end Go.Proofs.YtebloodpblgncaaGreat
namespace Go.Proofs.YtebloodpblgncaaGreat
open Go Go.Ax
variable {fuel : Nat} {M : Mem} {Q : AV → Mem → Prop} {d : Nat}
def Spn.at (s : Spn) (n : Int) : Eid:=⟨s.f.hd,s.f.c + n⟩
theorem zPM (x : Eid) (n : Int) (M : Mem) : zAE Tryz.prog (fsT tbl) fuel (d + 1) (.fn 70) [idA x,I64 n] M = some (idA ⟨x.hd,IntKind.i64.wrap (x.c + n)⟩,M):=by
 apply zBG
 refine zAJ tf70 rfl (by simp (maxSteps:=2000000) (disch:=first | omega | assumption | (simp only [DS,Nat.reduceAdd, *]; done) | (simp only [DZ]; omega)) only [RUN,icyL,Nat.reduceSub]) (by simp [a70]) fun b' ht hx=>?_
 have h0:=hx 0 _ rfl
 have h1:=hx 1 _ rfl
 clear hx
 simp only [a70,c70,zz3] at ht ⊢
 simp (maxSteps:=2000000) (disch:=first | omega | assumption | (simp only [DS,Nat.reduceAdd, *]; done) | (simp only [DZ]; omega)) only [RUN,RU,zA2,zA1,zA0,zAA,frzL,slot,lay,reduceIte,Nat.reduceEqDiff,Nat.reduceAdd,Nat.reduceSub,h0,h1]
def Spn.has (s : Spn) (x : Eid) : Option Int:=if s.may = true ∧ x.hd = s.f.hd ∧ s.f.c ≤ x.c ∧ x.c < s.f.c + s.n then some (x.c - s.f.c) else none
theorem Spn.may_le {s : Spn} (h : s.may = true) : 1 ≤ s.f.c ∧ s.f.c ≤ 1099511627776 ∧ 1 ≤ s.n ∧ s.n ≤ 64 ∧ s.f.c + s.n ≤ 1099511627777:=by
 unfold Spn.may Eid.may at h
 simp only [Bool.and_eq_true,decide_eq_true_eq] at h
 omega
theorem zNU (s : Spn) (x : Eid) (M : Mem) : zAE Tryz.prog (fsT tbl) fuel (d + 5) (.fn 44) [spA s,idA x] M = some (.tup [I64 ((s.has x).getD 0),BL (s.has x).isSome],M):=by
 have hc:=fun M=>@zG0 fuel d s M
 have hn:=fun x n M=>@zPM fuel (d + 3) x n M
 have pIdN:=@pIdN
 apply zBG
 refine zAJ tf44 rfl (by simp (maxSteps:=2000000) (disch:=first | omega | assumption | (simp only [DS,Nat.reduceAdd, *]; done) | (simp only [DZ]; omega)) only [RUN,icyL,Nat.reduceSub]) (by simp [a44]) fun b' ht hx=>?_
 have h0:=hx 0 _ rfl
 have h1:=hx 1 _ rfl
 clear hx
 simp only [a44,c44,zzm,zzg] at ht ⊢
 cases hm : s.may with
 | false =>
  rw [hm] at hc
  have e : s.has x = none:=by unfold Spn.has; rw [if_neg (by simp [hm])]
  simp (maxSteps:=2000000) (disch:=first | omega | assumption | (simp only [DS,Nat.reduceAdd, *]; done) | (simp only [DZ]; omega)) only [RUN,RU,zA2,zA1,zA0,zAA,frzL,slot,reduceIte,Nat.reduceEqDiff,Nat.reduceAdd,Int.reduceEq,h0,h1,hc,zBE,e,Option.getD_none,Option.isSome_none]
 | true =>
  rw [hm] at hc
  have hb:=Spn.may_le hm
  generalize hw : IntKind.i64.wrap (x.c - s.f.c) = n at *
  by_cases q1 : n < 0
  ·have e : s.has x = none:=by
    unfold Spn.has
    rw [if_neg]
    rintro ⟨_,_,h1,h2⟩
    rw [wrap_i64 (by omega) (by omega)] at hw
    omega
   have q : decide (n < 0) = true:=decide_eq_true q1
   simp (maxSteps:=2000000) (disch:=first | omega | assumption | (simp only [DS,Nat.reduceAdd, *]; done) | (simp only [DZ]; omega)) only [RUN,RU,zA2,zA1,zA0,zAA,frzL,slot,reduceIte,Nat.reduceEqDiff,Nat.reduceAdd,h0,h1,hc,zAV,hw,q,e,Option.getD_none,Option.isSome_none]
  ·by_cases q2 : s.n ≤ n
   ·have e : s.has x = none:=by
     unfold Spn.has
     rw [if_neg]
     rintro ⟨_,_,h1,h2⟩
     rw [wrap_i64 (by omega) (by omega)] at hw
     omega
    have q : decide (n < 0) = false:=decide_eq_false q1
    have q' : decide (s.n ≤ n) = true:=decide_eq_true q2
    simp (maxSteps:=2000000) (disch:=first | omega | assumption | (simp only [DS,Nat.reduceAdd, *]; done) | (simp only [DZ]; omega)) only [RUN,RU,zA2,zA1,zA0,zAA,frzL,slot,reduceIte,Nat.reduceEqDiff,Nat.reduceBEq,Nat.reduceAdd,h0,h1,hc,zAV,hw,q,q',e,Option.getD_none,Option.isSome_none]
   ·have q : decide (n < 0) = false:=decide_eq_false q1
    have q' : decide (s.n ≤ n) = false:=decide_eq_false q2
    have w2 : IntKind.i64.wrap (s.f.c + n) = s.f.c + n:=wrap_i64 (by omega) (by omega)
    by_cases q3 : x = ⟨s.f.hd,s.f.c + n⟩
    ·have e : s.has x = some n:=by
      unfold Spn.has
      rw [if_pos ⟨hm,by rw [q3],by rw [q3]; show s.f.c ≤ s.f.c + n; omega,by rw [q3]; show s.f.c + n < _; omega⟩,q3]
      congr 1
      show s.f.c + n - s.f.c = n
      omega
     have q4 : decide (x = ⟨s.f.hd,s.f.c + n⟩) = true:=decide_eq_true q3
     simp (maxSteps:=2000000) (disch:=first | omega | assumption | (simp only [DS,Nat.reduceAdd, *]; done) | (simp only [DZ]; omega)) only [RUN,RU,zA2,zA1,zA0,zAA,frzL,slot,reduceIte,Nat.reduceEqDiff,Nat.reduceBEq,Nat.reduceAdd,h0,h1,hc,zAV,hw,q,q',hn,w2,↓pIdN,zBC,ETA,q4,e,Option.getD_some,Option.isSome_some]
    ·have e : s.has x = none:=by
      unfold Spn.has
      rw [if_neg]
      rintro ⟨_,h0,h1,h2⟩
      rw [wrap_i64 (by omega) (by omega)] at hw
      apply q3
      obtain ⟨xh,xc⟩:=x
      simp only at h0 hw ⊢
      rw [h0,← hw]
      congr 1
      omega
     have q4 : decide (x = ⟨s.f.hd,s.f.c + n⟩) = false:=decide_eq_false q3
     simp (maxSteps:=2000000) (disch:=first | omega | assumption | (simp only [DS,Nat.reduceAdd, *]; done) | (simp only [DZ]; omega)) only [RUN,RU,zA2,zA1,zA0,zAA,frzL,slot,reduceIte,Nat.reduceEqDiff,Nat.reduceBEq,Nat.reduceAdd,h0,h1,hc,zAV,hw,q,q',hn,w2,↓pIdN,zBC,ETA,q4,e,Option.getD_none,Option.isSome_none]
theorem zI4 (s : Spn) (n : Int) (M : Mem) : zAE Tryz.prog (fsT tbl) fuel (d + 5) (.fn 61) [spA s,I64 n] M = some (if s.may then (if n < 0 ∨ s.n ≤ n then .tup [idA Eid.z,I64 2] else .tup [idA (s.at n),I64 0]) else .tup [idA Eid.z,I64 8],M):=by
 have hc:=fun M=>@zG0 fuel d s M
 have hn:=fun x n M=>@zPM fuel (d + 3) x n M
 apply zBG
 refine zAJ tf61 rfl (by simp (maxSteps:=2000000) (disch:=first | omega | assumption | (simp only [DS,Nat.reduceAdd, *]; done) | (simp only [DZ]; omega)) only [RUN,icyL,Nat.reduceSub]) (by simp [a61]) fun b' ht hx=>?_
 have h0:=hx 0 _ rfl
 have h1:=hx 1 _ rfl
 clear hx
 simp only [a61,c61,zz3,zzm] at ht ⊢
 cases hm : s.may with
 | false =>
  rw [hm] at hc
  simp (maxSteps:=2000000) (disch:=first | omega | assumption | (simp only [DS,Nat.reduceAdd, *]; done) | (simp only [DZ]; omega)) only [RUN,RU,zA2,zA1,zA0,zAA,frzL,slot,lay,zAI,reduceIte,Nat.reduceEqDiff,Nat.reduceAdd,Nat.reduceSub,Int.reduceEq,h0,hc,zBE,Bool.false_eq_true,if_false]
 | true =>
  rw [hm] at hc
  have hb:=Spn.may_le hm
  by_cases q1 : n < 0
  ·have q : decide (n < 0) = true:=decide_eq_true q1
   simp (maxSteps:=2000000) (disch:=first | omega | assumption | (simp only [DS,Nat.reduceAdd, *]; done) | (simp only [DZ]; omega)) only [RUN,RU,zA2,zA1,zA0,zAA,frzL,slot,lay,zAI,reduceIte,Nat.reduceEqDiff,Nat.reduceAdd,Nat.reduceSub,h0,h1,hc,zAV,q1,true_or,if_true]
  ·have q : decide (n < 0) = false:=decide_eq_false q1
   by_cases q2 : s.n ≤ n
   ·have q' : decide (s.n ≤ n) = true:=decide_eq_true q2
    simp (maxSteps:=2000000) (disch:=first | omega | assumption | (simp only [DS,Nat.reduceAdd, *]; done) | (simp only [DZ]; omega)) only [RUN,RU,zA2,zA1,zA0,zAA,frzL,slot,lay,zAI,reduceIte,Nat.reduceEqDiff,Nat.reduceAdd,Nat.reduceSub,h0,h1,hc,zAV,q1,q2,or_true,if_true]
   ·have q' : decide (s.n ≤ n) = false:=decide_eq_false q2
    have w2 : IntKind.i64.wrap (s.f.c + n) = s.f.c + n:=wrap_i64 (by omega) (by omega)
    unfold Spn.at
    simp (maxSteps:=2000000) (disch:=first | omega | assumption | (simp only [DS,Nat.reduceAdd, *]; done) | (simp only [DZ]; omega)) only [RUN,RU,zA2,zA1,zA0,zAA,frzL,slot,lay,Nat.reduceEqDiff,Nat.reduceAdd,Nat.reduceSub,h0,h1,hc,zAV,q1,q2,or_self,if_true,if_false,hn,w2]
end Go.Proofs.YtebloodpblgncaaGreat
namespace Go.Proofs.YtebloodpblgncaaGreat
open Go Go.Ax
variable {fuel : Nat} {M : Mem} {Q : AV → Mem → Prop} {d : Nat}
theorem zXP {o : Op} {ra : AV} (hS : Sl 1 zB2 ra o.rs) (hl : o.rs.length ≤ 1000000000) (wf : Wf M) (hw : M.wm ≤ M.size) (k : ∀ a' N,Kept M N → SlM N 1 zB2 a' o.rs → (∀ id,rowOf a' = some id → M.size ≤ id) → Q (.agg (opR o a')) N) :
  W3 (zAE Tryz.prog (fsT tbl) fuel (d + 2) (.fn 38) [.agg (opR o ra)] M) Q:=by
 refine zB7 tf38 rfl (by simp [a38]) fun b' ht hx=>?_
 have h0:=hx 0 _ rfl
 clear hx
 simp only [a38,c38,zz5] at ht ⊢
 simp (maxSteps:=2000000) (disch:=first | omega | assumption | (simp only [DS,Nat.reduceAdd, *]; done) | (simp only [DZ]; omega)) only [RUN,RU,zA2,zA1,reduceIte,Nat.reduceEqDiff,h0]
 refine zL5 hS hl (by simp (maxSteps:=2000000) (disch:=first | omega | assumption | (simp only [DS,Nat.reduceAdd, *]; done) | (simp only [DZ]; omega)) only [RUN,wf]) fun a' M' wf' le' kp' sm' new' wm' di'=>?_
 simp only [zA7] at le' kp' new'
 have g0 : M'.get M.size = some (.row false (opR o ra)):=by rw [kp' _ (by omega)]; simp (maxSteps:=2000000) (disch:=first | omega | assumption | (simp only [DS,Nat.reduceAdd, *]; done) | (simp only [DZ]; omega)) only [RUN]
 have g1 : M'.get (M.size + 1) = some (.row false (opR ⟨0,Hd.z,0,⟨Eid.z,0⟩,Eid.z,Lb.z,[]⟩ NIL)):=by rw [kp' _ (by omega)]; simp (maxSteps:=2000000) (disch:=first | omega | assumption | (simp only [DS,Nat.reduceAdd, *]; done) | (simp only [DZ]; omega)) only [RUN]
 have oa:=sm'.one
 have ca:=sm'.cells
 have rl:=zAT sm'.rl (Nat.le_refl M'.size)
 have z0 : M.size < M'.size:=by omega
 have z1 : M.size + 1 < M'.size:=by omega
 simp (maxSteps:=2000000) (disch:=first | omega | assumption | (simp only [DS,Nat.reduceAdd, *]; done) | (simp only [DZ]; omega)) only [RUN,RU,zA2,zA1,zA0,zAA,slot,lay,reduceIte,Nat.reduceEqDiff,Nat.reduceAdd,g0,g1,ca]
 have kM' : Kept M M':=⟨wf',by omega,fun j hj=>by rw [kp' j (by omega),zAF (wf.add _) _ _ (by rw [zA7]; omega),zAF wf _ _ hj],wm',di'⟩
 refine k a' _ ((kM'.upd hw (Nat.le_refl _) _).upd hw (by omega) _) (sm'.keep fun j hj=>?_) (fun id h=>by have:=new' id h; omega)
 have:=new' j hj
 simp (maxSteps:=2000000) (disch:=first | omega | assumption | (simp only [DS,Nat.reduceAdd, *]; done) | (simp only [DZ]; omega)) only [RUN]
def Spn.ids (s : Spn) : List Eid:=(List.range s.n.toNat).map fun (i : Nat)=>s.at i
theorem zZ8 {s : Spn} (hs : s.ok) (hm : s.may = true) (i : Nat) (hi : i < s.n.toNat) : (s.at i).ok:=by
 have:=Spn.may_le hm
 exact ⟨hs.1.1,by show -9223372036854775808 ≤ s.f.c + i; omega,by show s.f.c + i ≤ _; omega⟩
set_option maxHeartbeats 4000000 in
theorem zI9 {s : Spn} (hs : s.ok) (hm : s.may = true) (hf : 100 < fuel) : ∃ r,Sl 4 zKR r s.ids ∧ ∀ M,zAE Tryz.prog (fsT tbl) fuel (d + 6) (.fn 75) [spA s] M = some (r,M):=by
 have hb:=Spn.may_le hm
 obtain ⟨m,hmn⟩ : ∃ m : Nat,s.n = m:=⟨s.n.toNat,by omega⟩
 have ei : s.ids = (List.range m).map fun (i : Nat)=>s.at i:=by unfold Spn.ids; rw [hmn]; rfl
 have hat:=fun n M=>@zI4 fuel d s n M
 simp only [hm,if_true] at hat
 rw [ei]
 refine zF8 tf75 rfl (fun M=>by simp only [icyL,zAY (zP6 s) (show 1 < 12 by omega)]) ?_
 refine zAJ tf75 rfl (by simp only [icyL,zAY (zP6 s) (show 1 < 12 by omega)]) (by simp [a75]) fun b' ht hx=>?_
 have h0:=hx 0 _ rfl
 clear hx
 simp only [a75,c75,zz3,zzm] at ht ⊢
 simp (maxSteps:=2000000) (disch:=first | omega | assumption | (simp only [DS,Nat.reduceAdd, *]; done) | (simp only [DZ]; omega)) only [RUN,RU,zA2,zA1,reduceIte,Nat.reduceEqDiff,h0,hmn]
 refine zBF (I:=fun n t N => ∃ (i : Nat) (o : AV),n = m - i ∧ i ≤ m ∧ nth zA6 t 1 = .ptr 0 0 ∧ nth zA6 t 2 = o ∧ nth zA6 t 7 = I64 m ∧ nth zA6 t 8 = I64 i ∧ Wf N ∧ N.get 0 = some (.row false (spR s)) ∧ SlM N 4 zKR o ((List.range i).map fun (j : Nat)=>s.at j) ∧ (∀ j,rowOf o = some j → 0 < j)) (n:=m) (by omega) ?_ ?_
 ·refine ⟨0,NIL,rfl,Nat.zero_le _, ?_, ?_, ?_, ?_,Wf.mem0.add _,by simp (maxSteps:=2000000) (disch:=first | omega | assumption | (simp only [DS,Nat.reduceAdd, *]; done) | (simp only [DZ]; omega)) only [RUN],SlM.nil,(fun _ h=>by cases h)⟩ <;> simp (maxSteps:=2000000) (disch:=first | omega | assumption | (simp only [DS,Nat.reduceAdd, *]; done) | (simp only [DZ]; omega)) only [RUN,reduceIte,Nat.reduceEqDiff]
  all_goals first | rfl | assumption | done
 ·rintro n t N hlt ⟨i,o,rfl,hi,g1,g2,g7,g8,w,g,sm,ro⟩
  simp only [ht] at hlt ⊢
  by_cases hc : i < m
  ·have q1 : decide ((i : Int) < m) = true:=decide_eq_true (by omega)
   have hi' : ¬((i : Int) < 0 ∨ s.n ≤ i):=by omega
   have hat:=fun M=>hat i M
   simp only [hi',if_false] at hat
   have ok:=zZ8 hs hm i (by omega)
   have lN:=Mem.get_lt g
   have w1 : IntKind.i64.wrap ((i : Int) + 1) = ((i + 1 : Nat) : Int):=by rw [wrap_i64] <;> omega
   have oo:=sm.one
   have co:=sm.cells
   simp (maxSteps:=2000000) (disch:=first | omega | assumption | (simp only [DS,Nat.reduceAdd, *]; done) | (simp only [DZ]; omega)) only [RUN,RU,zA2,zA1,slot,lay,zAI,zAB,reduceIte,Nat.reduceEqDiff,Nat.reduceBEq,Nat.reduceAdd,g1,g2,g7,g8,q1,g,hat]
   refine ⟨zAT sm.rl (by omega), ?_⟩
   refine app1 ((w.add _).upd _ _) (sm.keep fun j hj=>?_) zLV (x:=s.at i) ⟨rfl,ok⟩ rfl (by omega) (by simp; omega) (by simp; omega) fun o' M' m' w' le' kp' nw' wm' rl' on' oc'=>?_
   ·have:=sm.lt j hj
    simp (maxSteps:=2000000) (disch:=first | omega | assumption | (simp only [DS,Nat.reduceAdd, *]; done) | (simp only [DZ]; omega)) only [RUN]
   simp only [zAC,zA7] at le' kp' nw'
   simp (maxSteps:=2000000) (disch:=first | omega | assumption | (simp only [DS,Nat.reduceAdd, *]; done) | (simp only [DZ]; omega)) only [RUN,RU,zA2,zA1,reduceIte,Nat.reduceEqDiff,g1,g2,g7,g8,w1]
   refine ⟨hlt,m - (i + 1),by omega,i + 1,o',rfl,by omega,rfl,rfl,w', ?_, ?_,fun j hj=>?_⟩
   ·rw [kp' 0 (by omega) (fun e=>by have:=ro 0 e; omega)]
    simp (maxSteps:=2000000) (disch:=first | omega | assumption | (simp only [DS,Nat.reduceAdd, *]; done) | (simp only [DZ]; omega)) only [RUN,g]
   ·rw [List.range_succ,List.map_append]; exact m'
   ·rcases nw' j hj with h | h
    ·exact ro j h
    ·omega
  ·obtain rfl : i = m:=by omega
   have q1 : decide ((i : Int) < i) = false:=decide_eq_false (by omega)
   obtain ⟨rr,hz,hr⟩:=sm.frz zLV.cel (k:=12) (by omega)
   simp (maxSteps:=2000000) (disch:=first | omega | assumption | (simp only [DS,Nat.reduceAdd, *]; done) | (simp only [DZ]; omega)) only [RUN,RU,zA2,zA1,zA0,zAA,frzL,reduceIte,Nat.reduceEqDiff,g2,g7,g8,hz]
   exact ⟨rr,hr,rfl⟩
end Go.Proofs.YtebloodpblgncaaGreat
namespace Go.Proofs.YtebloodpblgncaaGreat
open Go Go.Ax
variable {fuel : Nat} {M : Mem} {Q : AV → Mem → Prop} {d : Nat}
def cM1 : ACode:=(.region [⟨some 8,.alloc 25 (.agg #[(.int .u8 0),(.int .u32 0)]),none,[]⟩,⟨none,.store 2 (.tmp 8) (.tmp 17),none,[]⟩] false)
def cM2 : ACode:=(.block 1 (.seq (.region [⟨some 18,.load 1 false (.tmp 7),none,[1]⟩,⟨some 19,.load 2 true (.tmp 8),none,[0]⟩,⟨some 20,.call (.func 74) [(.tmp 18),(.tmp 19)],none,[]⟩,⟨some 21,.pur (mkO (.unOp .not 4 (.tmp 20)) 4),none,[]⟩] false) (.cond (.tmp 21) (.region [⟨some 22,.load 1 false (.tmp 7),none,[1,2]⟩,⟨some 23,.load 2 true (.tmp 8),none,[0]⟩,⟨some 24,.bsl 25 2 (.agg #[(.int .u8 0),(.int .u32 0)]) 1 [(0,2,(.tmp 23))],none,[0]⟩,⟨some 25,.app 25 2 8 (.agg #[(.int .u8 0),(.int .u32 0)]) (.tmp 22) (.tmp 24),none,[]⟩,⟨none,.store 1 (.tmp 7) (.tmp 25),none,[]⟩] false) .skip)))
def addL (out : List Lb) (x : Lb) : List Lb:=if out.any (fun y=>decide (x = y)) then out else out ++ [x]
structure MI (M : Mem) (tm : List AV) (a : AV) (x : Eid) (v : Lb) (o : AV) (out : List Lb) : Prop where
 wf : Wf M
 sz : 9 ≤ M.size
 g3 : M.get 3 = some (.row false [o])
 g4 : M.get 4 = some (.row false [a])
 g5 : M.get 5 = some (.row false (idR x))
 g6 : M.get 6 = some (.row false (lbR v))
 g7 : M.get 7 = some (.dfr false)
 g8 : M.get 8 = some (.loop .ready none tm [17] cM1 cM2 7)
 sm : SlM M 2 isLb o out
 ro : ∀ j,rowOf o = some j → j = 2 ∨ 9 ≤ j
variable {tm : List AV} {a o : AV} {x : Eid} {v : Lb} {out : List Lb}
theorem MI.keep {N : Mem} (h : MI M tm a x v o out) (wf : Wf N) (hs : M.size ≤ N.size) (k : ∀ j,j < M.size → N.get j = M.get j) : MI N tm a x v o out:=by
 have:=h.sz
 exact ⟨wf,by omega,(k 3 (by omega)).trans h.g3,(k 4 (by omega)).trans h.g4,(k 5 (by omega)).trans h.g5,(k 6 (by omega)).trans h.g6,(k 7 (by omega)).trans h.g7,(k 8 (by omega)).trans h.g8,h.sm.keep fun j hj=>k j (h.sm.lt j hj),h.ro⟩
theorem MI.back {X : Mem} {o' : AV} {out' : List Lb} (h : MI M tm a x v o out) (wX : Wf X) (hs : M.size ≤ X.size) (x3 : X.get 3 = some (.row false [o'])) (gX : ∀ j,j < 9 → j ≠ 2 → j ≠ 3 → j ≠ 8 → X.get j = M.get j) (sm : SlM X 2 isLb o' out') (ro : ∀ j,rowOf o' = some j → j = 2 ∨ 9 ≤ j) : MI (X.upd 8 (.loop .ready none tm [17] cM1 cM2 7)) tm a x v o' out':=by
 have:=h.sz
 have u : ∀ j,j ≠ 8 → (X.upd 8 (.loop .ready none tm [17] cM1 cM2 7)).get j = X.get j:=fun j hj=>zA4 wX _ _ _ (fun e=>hj e.symm)
 exact ⟨wX.upd _ _,by rw [zAC]; omega,(u 3 (by omega)).trans x3,((u 4 (by omega)).trans (gX 4 (by omega) (by omega) (by omega) (by omega))).trans h.g4,((u 5 (by omega)).trans (gX 5 (by omega) (by omega) (by omega) (by omega))).trans h.g5,((u 6 (by omega)).trans (gX 6 (by omega) (by omega) (by omega) (by omega))).trans h.g6,((u 7 (by omega)).trans (gX 7 (by omega) (by omega) (by omega) (by omega))).trans h.g7,zAG wX _ _ (by omega),sm.keep fun j hj=>u j (by have:=ro j hj; omega),ro⟩
set_option maxHeartbeats 8000000 in
theorem ze2 {to : Lb} (h : MI M tm a x v o out) (h7 : nth zA6 tm 7 = .ptr 3 0) (hlen : tm.length = 27) (ht : to.ok) (hn : out.length ≤ 100000) (hf : out.length < fuel)
  (k : ∀ o' N,MI N tm a x v o' (addL out to) → M.size ≤ N.size → Q (BL true) N) :
  W3 (zAE Tryz.prog (fsT tbl) fuel (d + 3) (.yl 8) [lbA to] M) Q:=by
 have l3:=Mem.get_lt h.g3
 have g3:=h.g3
 have g8:=h.g8
 have wf:=h.wf
 have sz:=h.sz
 have sm:=h.sm
 have ro:=h.ro
 have oo:=sm.one
 have oc:=sm.cells
 refine za7 h.g8 rfl ?_
 have e1 : zFH tm [17] [lbA to] = St tm [(17,lbA to)]:=rfl
 rw [e1]
 unfold cM1 cM2
 simp (maxSteps:=2000000) (disch:=first | omega | assumption | (simp only [DS,Nat.reduceAdd, *]; done) | (simp only [DZ]; omega)) only [RUN,RU,zA2,zA1,lay,reduceIte,Nat.reduceEqDiff,Nat.reduceAdd,h7,wf]
 refine ⟨tm,[17],_,_,7,g8, ?_⟩
 generalize hX : ((M.add _).upd M.size _).upd 8 _ = X
 have wX : Wf X:=by rw [← hX]; exact ((wf.add _).upd _ _).upd _ _
 have sX : X.size = M.size + 1:=by rw [← hX]; rfl
 have gX : ∀ j,j < M.size → j ≠ 8 → X.get j = M.get j:=fun j a b=>by
  rw [← hX,zA4 ((wf.add _).upd _ _) _ _ _ (fun e=>b e.symm),zA4 (wf.add _) _ _ _ (by omega),zAF wf _ _ a]
 have x8 : X.get 8 = some (.loop .busy none tm [17] cM1 cM2 7):=by
  rw [← hX,zAG ((wf.add _).upd _ _) _ _ (by rw [zAC,zA7]; omega)]
 have xM : X.get M.size = some (.row false (lbR to)):=by
  rw [← hX,zA4 ((wf.add _).upd _ _) _ _ _ (by omega),zAG (wf.add _) _ _ (by rw [zA7]; omega)]
 have lM : M.size < X.size:=by omega
 have l3' : 3 < X.size:=by omega
 have x3 : X.get 3 = some (.row false [o]):=(gX 3 l3 (by omega)).trans g3
 have smX : SlM X 2 isLb o out:=sm.keep fun j hj=>gX j (sm.lt j hj) (by have:=ro j hj; omega)
 have hcn:=zWP (P:=Tryz.prog) (fs:=fsT tbl) (fuel:=fuel) (n:=d) (v:=lbR to) tf74 tf94 zT0 smX wX (by omega) (by omega) (by omega) (zEJ to) rfl @pLbE (p:=fun y=>decide (to = y)) (fun dd r y hy _=>by rw [hy.1]; exact zES dd to.lv to.cats y.lv y.cats)
 unfold addL at k
 cases hb : out.any (fun y=>decide (to = y)) with
 | true =>
  rw [hb] at hcn k
  simp (maxSteps:=2000000) (disch:=first | omega | assumption | (simp only [DS,Nat.reduceAdd, *]; done) | (simp only [DZ]; omega)) only [RUN,RU,zA2,zA1,slot,reduceIte,Nat.reduceEqDiff,g3,xM,hcn]
  rw [if_pos rfl] at k
  exact ⟨wX,_,_,_,_,_,_,_,x8,k o _ (h.back wX (by omega) x3 (fun j a b c e=>gX j (by omega) e) smX ro) (by rw [zAC]; omega)⟩
 | false =>
  rw [hb] at hcn k
  rw [if_neg (by decide)] at k
  simp (maxSteps:=2000000) (disch:=first | omega | assumption | (simp only [DS,Nat.reduceAdd, *]; done) | (simp only [DZ]; omega)) only [RUN,RU,zA2,zA1,slot,lay,zAI,zAB,reduceIte,Nat.reduceEqDiff,Nat.reduceBEq,Nat.reduceAdd,h7,g3,x3,xM,hcn]
  refine ⟨zAT smX.rl (by omega), ?_⟩
  refine app1 wX smX zT0 (x:=to) ⟨rfl,ht⟩ rfl (by omega) (by omega) (by omega) fun o' M' m' w' le' kp' nw' wm' rl' on' oc'=>?_
  have ro' : ∀ j,rowOf o' = some j → j = 2 ∨ 9 ≤ j:=fun j hj=>by
   rcases nw' j hj with h | h
   ·exact ro j h
   ·omega
  have z3 : M'.get 3 = some (.row false [o]):=(kp' 3 (by omega) (fun e=>by have:=ro 3 e; omega)).trans x3
  have z8:=(kp' 8 (by omega) (fun e=>by have:=ro 8 e; omega)).trans x8
  have l3 : 3 < M'.size:=by omega
  simp (maxSteps:=2000000) (disch:=first | omega | assumption | (simp only [DS,Nat.reduceAdd, *]; done) | (simp only [DZ]; omega)) only [RUN,RU,zA2,zA1,lay,reduceIte,Nat.reduceEqDiff,h7,z3,z8,w',oc']
  refine ⟨_,_,_,_,_,_,_,rfl,k o' _ (h.back (w'.upd _ _) (by rw [zAC]; omega) (zAG w' _ _ (by omega)) (fun j a b c e=>?_) (m'.keep fun j hj=>zA4 w' _ _ _ (by have:=ro' j hj; omega)) ro') (by simp only [zAC]; omega)⟩
  rw [zA4 w' _ _ _ (fun e=>c e.symm),kp' j (by omega) (fun e=>by have:=ro j e; omega)]
  exact gX j (by omega) e
end Go.Proofs.YtebloodpblgncaaGreat
namespace Go.Proofs.YtebloodpblgncaaGreat
open Go Go.Ax
variable {fuel : Nat} {M : Mem} {Q : AV → Mem → Prop} {d : Nat} {tm : List AV} {a o : AV} {x : Eid} {v : Lb} {out : List Lb} {l : List Op}
def zCA (x : Eid) (v : Lb) (o : Op) : Bool:=decide (o.kd = 3) && (o.sp.has x).isSome && o.hd.lb.leq v
def zC2 (l : List Op) (x : Eid) (v : Lb) : List Lb:=(l.filter (zCA x v)).map (·.to)
def made (l : List Op) (x : Eid) (v : Lb) : List Lb:=(zC2 l x v).foldl addL [x.hd.lb]
theorem zVB (out : List Lb) (x : Lb) : (addL out x).length ≤ out.length + 1:=by
 unfold addL
 split
 ·omega
 ·simp
theorem zKE : ∀ (r : List Lb) (out : List Lb),(r.foldl addL out).length ≤ out.length + r.length
 | [],out=>by simp
 | y :: r,out=>by
  have h1:=zKE r (addL out y)
  have h2:=zVB out y
  simp only [List.foldl_cons,List.length_cons]
  omega
theorem zJQ (l : List Op) (x : Eid) (v : Lb) : (zC2 l x v).length ≤ l.length:=by
 unfold zC2
 rw [List.length_map]
 exact List.length_filter_le _ _
theorem take_snoc {α : Type} (l : List α) (i : Nat) (h : i < l.length) : l.take (i + 1) = l.take i ++ [l[i]]:=by
 rw [List.take_add_one,List.getElem?_eq_getElem h]; rfl
theorem zOB (l : List Op) (o : Op) (x : Eid) (v : Lb) : zC2 (l ++ [o]) x v = zC2 l x v ++ (if zCA x v o then [o.to] else []):=by
 unfold zC2
 rw [List.filter_append,List.map_append]
 cases h : zCA x v o <;> simp [h]
set_option maxHeartbeats 8000000 in
theorem zUC {o0 : AV} (hS : Sl 17 isOp a l) (hl : l.length ≤ 50000) (hn : out.length ≤ 50000) (hf : l.length + out.length < fuel) (h : MI M tm a x v o0 out) (h7 : nth zA6 tm 7 = .ptr 3 0) (hlen : tm.length = 27)
  (k : ∀ u o' N,MI N tm a x v o' ((zC2 l x v).foldl addL out) → Q u N) :
  W3 (zAE Tryz.prog (fsT tbl) fuel (d + 6) (.fn 93) [.yl 8,.ptr 4 0,.ptr 5 0,.ptr 6 0] M) Q:=by
 have ll:=hS.len
 have g4':=h.g4
 have l4:=Mem.get_lt g4'
 refine zB7 tf93 rfl (by simp [a93]) fun b' ht hx=>?_
 have h0:=hx 0 _ rfl
 have h1:=hx 1 _ rfl
 have h2:=hx 2 _ rfl
 have h3:=hx 3 _ rfl
 clear hx
 simp only [a93,c93,zz5,zzm,zzg] at ht ⊢
 simp (maxSteps:=2000000) (disch:=first | omega | assumption | (simp only [DS,Nat.reduceAdd, *]; done) | (simp only [DZ]; omega)) only [RUN,RU,zA2,zA1,reduceIte,h1,g4',ll]
 refine zBF (I:=fun n t N => ∃ (i : Nat) (o : AV),n = l.length - i ∧ i ≤ l.length ∧ nth zA6 t 0 = .yl 8 ∧ nth zA6 t 1 = .ptr 4 0 ∧ nth zA6 t 2 = .ptr 5 0 ∧ nth zA6 t 3 = .ptr 6 0 ∧ nth zA6 t 9 = a ∧ nth zA6 t 10 = I64 l.length ∧ nth zA6 t 11 = I64 i ∧ MI N tm a x v o ((zC2 (l.take i) x v).foldl addL out)) (n:=l.length) (by omega) ?_ ?_
 ·refine ⟨0,o0,rfl,Nat.zero_le _, ?_, ?_, ?_, ?_, ?_, ?_, ?_,h⟩ <;> simp (maxSteps:=2000000) (disch:=first | omega | assumption | (simp only [DS,Nat.reduceAdd, *]; done) | (simp only [DZ]; omega)) only [RUN,reduceIte,Nat.reduceEqDiff,h0,h1,h2,h3]
  all_goals first | rfl | assumption | done
 ·rintro n t N hlt ⟨i,o,rfl,hi,g0,g1,g2,g3,g9,g10,g11,m⟩
  simp only [ht] at hlt ⊢
  clear h0 h1 h2 h3 ht b'
  by_cases hc : i < l.length
  ·have q1 : decide ((i : Int) < l.length) = true:=decide_eq_true (by omega)
   have w1 : IntKind.i64.wrap ((i : Int) + 1) = ((i + 1 : Nat) : Int):=by rw [wrap_i64] <;> omega
   obtain ⟨r,hiad,hr,hrl⟩:=hS.iad i hc
   have hsn:=zOB (l.take i) l[i] x v
   rw [← take_snoc l i hc] at hsn
   have b1:=zKE (zC2 (l.take i) x v) out
   have b2:=zJQ (l.take i) x v
   rw [List.length_take] at b2
   generalize l[i] = e at *
   obtain ⟨ra,rfl,hra,hok⟩:=hr
   have ora:=hra.one
   have wf:=m.wf
   have sz:=m.sz
   have m5:=m.g5
   have m6:=m.g6
   have l5:=Mem.get_lt m5
   have l6:=Mem.get_lt m6
   have hh:=fun M=>@zNU fuel d e.sp x M
   have hle:=fun M=>@zGR fuel (d + 4) e.hd.lb v M
   have mA : MI ((N.add (.row false (opR ⟨0,Hd.z,0,⟨Eid.z,0⟩,Eid.z,Lb.z,[]⟩ NIL))).upd N.size (.row false (opR e ra))) tm a x v o ((zC2 (l.take i) x v).foldl addL out):=m.keep ((wf.add _).upd _ _) (by rw [zAC,zA7]; omega) (fun j hj=>by rw [zA4 (wf.add _) _ _ _ (by omega),zAF wf _ _ hj])
   cases c1 : decide (e.kd = 3) with
   | false =>
    have hcc : zCA x v e = false:=by unfold zCA; rw [c1]; rfl
    rw [hcc,if_neg (by decide),List.append_nil] at hsn
    cases c2 : (e.sp.has x).isSome <;> rw [c2] at hh
    all_goals
     simp (maxSteps:=2000000) (disch:=first | omega | assumption | (simp only [DS,Nat.reduceAdd, *]; done) | (simp only [DZ]; omega)) only [RUN,RU,zA2,zA1,slot,lay,reduceIte,Nat.reduceEqDiff,Nat.reduceAdd,g0,g1,g2,g3,g9,g10,g11,q1,hiad,m5,hh,c1,w1]
     exact ⟨hlt,l.length - (i + 1),by omega,i + 1,o,rfl,by omega,rfl,by rw [hsn]; exact mA⟩
   | true =>
    cases c2 : (e.sp.has x).isSome <;> rw [c2] at hh
    ·have hcc : zCA x v e = false:=by unfold zCA; rw [c1,c2]; rfl
     rw [hcc,if_neg (by decide),List.append_nil] at hsn
     simp (maxSteps:=2000000) (disch:=first | omega | assumption | (simp only [DS,Nat.reduceAdd, *]; done) | (simp only [DZ]; omega)) only [RUN,RU,zA2,zA1,slot,lay,reduceIte,Nat.reduceEqDiff,Nat.reduceAdd,g0,g1,g2,g3,g9,g10,g11,q1,hiad,m5,hh,c1,w1]
     exact ⟨hlt,l.length - (i + 1),by omega,i + 1,o,rfl,by omega,rfl,by rw [hsn]; exact mA⟩
    ·cases c3 : e.hd.lb.leq v <;> rw [c3] at hle
     ·have hcc : zCA x v e = false:=by unfold zCA; rw [c1,c2,c3]; rfl
      rw [hcc,if_neg (by decide),List.append_nil] at hsn
      simp (maxSteps:=2000000) (disch:=first | omega | assumption | (simp only [DS,Nat.reduceAdd, *]; done) | (simp only [DZ]; omega)) only [RUN,RU,zA2,zA1,slot,lay,reduceIte,Nat.reduceEqDiff,Nat.reduceAdd,g0,g1,g2,g3,g9,g10,g11,q1,hiad,m5,m6,hh,c1,hle,w1]
      exact ⟨hlt,l.length - (i + 1),by omega,i + 1,o,rfl,by omega,rfl,by rw [hsn]; exact mA⟩
     ·have hcc : zCA x v e = true:=by unfold zCA; rw [c1,c2,c3]; rfl
      rw [hcc,if_pos rfl] at hsn
      simp (maxSteps:=2000000) (disch:=first | omega | assumption | (simp only [DS,Nat.reduceAdd, *]; done) | (simp only [DZ]; omega)) only [RUN,RU,zA2,zA1,slot,lay,reduceIte,Nat.reduceEqDiff,Nat.reduceAdd,g0,g2,g3,g9,g10,g11,q1,hiad,m5,m6,hh,c1,hle]
      refine ze2 (d:=d + 2) mA h7 hlen hok.2.2.2.2.2.1 (by omega) (by omega) fun o' N' m' le'=>?_
      simp (maxSteps:=2000000) (disch:=first | omega | assumption | (simp only [DS,Nat.reduceAdd, *]; done) | (simp only [DZ]; omega)) only [RUN,RU,zA2,zA1,reduceIte,Nat.reduceEqDiff,g0,g1,g2,g3,g9,g10,g11,w1]
      exact ⟨hlt,l.length - (i + 1),by omega,i + 1,o',rfl,by omega,rfl,by rw [hsn,List.foldl_append]; exact m'⟩
  ·obtain rfl : i = l.length:=by omega
   have q1 : decide ((l.length : Int) < l.length) = false:=decide_eq_false (by omega)
   rw [List.take_length] at m
   simp (maxSteps:=2000000) (disch:=first | omega | assumption | (simp only [DS,Nat.reduceAdd, *]; done) | (simp only [DZ]; omega)) only [RUN,RU,zA2,zA1,zA0,zAA,reduceIte,g10,g11]
   exact k _ _ _ m
end Go.Proofs.YtebloodpblgncaaGreat
namespace Go.Proofs.YtebloodpblgncaaGreat
open Go Go.Ax
variable {fuel : Nat} {M : Mem} {Q : AV → Mem → Prop} {d : Nat} {a o : AV} {x : Eid} {v : Lb} {l : List Op}
theorem zY4 (hS : Sl 17 isOp a l) (wf : Wf M) (k : Q (.fn 93 [] [.ptr M.size 0,.ptr (M.size + 1) 0,.ptr (M.size + 1 + 1) 0]) (((M.add (.row false [a])).add (.row false (idR x))).add (.row false (lbR v)))) :
  W3 (zAE Tryz.prog (fsT tbl) fuel (d + 1) (.fn 73) [a,idA x,lbA v] M) Q:=by
 have oa:=hS.one
 refine zB7 tf73 rfl (by simp [a73]) fun b' ht hx=>?_
 have h0:=hx 0 _ rfl
 have h1:=hx 1 _ rfl
 have h2:=hx 2 _ rfl
 clear hx
 simp only [a73,c73,zzm] at ht ⊢
 simp (maxSteps:=2000000) (disch:=first | omega | assumption | (simp only [DS,Nat.reduceAdd, *]; done) | (simp only [DZ]; omega)) only [RUN,RU,zA2,zA1,zA0,zAA,reduceIte,Nat.reduceEqDiff,h0,h1,h2,hS.fz.cells]
 exact k
theorem zRA {X : Mem} {tm : List AV} {o0 : AV} {out : List Lb} (hS : Sl 17 isOp a l) (hl : l.length ≤ 50000) (hn : out.length ≤ 50000) (hf : l.length + out.length < fuel) (w : Wf X) (h7 : nth zA6 tm 7 = .ptr 3 0) (hlen : tm.length = 27) (hX : X.size = 7) (g3 : X.get 3 = some (.row false [o0])) (g4 : X.get 4 = some (.row false [a])) (g5 : X.get 5 = some (.row false (idR x))) (g6 : X.get 6 = some (.row false (lbR v))) (sm : SlM X 2 isLb o0 out) (ro : ∀ j,rowOf o0 = some j → j = 2)
  (k : ∀ u o' N,MI N tm a x v o' ((zC2 l x v).foldl addL out) → Q u N) :
  W3 (zAE Tryz.prog (fsT tbl) fuel (d + 6) (.fn 93) ([] ++ [.yl (X.size + 1)] ++ [.ptr 4 0,.ptr 5 0,.ptr 6 0]) ((X.add (.dfr false)).add (.loop .ready none tm [17] cM1 cM2 X.size))) Q:=by
 have w1:=w.add (.dfr false)
 have u : ∀ j,j < 7 → ((X.add (.dfr false)).add (.loop .ready none tm [17] cM1 cM2 X.size)).get j = X.get j:=fun j hj=>by
  rw [zAF w1 _ _ (by rw [zA7]; omega),zAF w _ _ (by omega)]
 have e : X.size + 1 = 8:=by omega
 have key:=zUC (d:=d) (fuel:=fuel) (Q:=Q) (M:=(X.add (.dfr false)).add (.loop .ready none tm [17] cM1 cM2 X.size)) (x:=x) (v:=v) (o0:=o0) (out:=out) hS hl hn hf ⟨w1.add _,by simp only [zA7]; omega,(u 3 (by omega)).trans g3,(u 4 (by omega)).trans g4,(u 5 (by omega)).trans g5,(u 6 (by omega)).trans g6,by rw [zAF w1 _ _ (by rw [zA7]; omega),← hX]; exact zAH w _ _ (Nat.le_refl _) (Nat.lt_succ_self _),by
   have:=zAH w1 (.loop .ready none tm [17] cM1 cM2 X.size) 8 (by rw [zA7]; omega) (by rw [zA7]; omega)
   rw [hX] at this ⊢
   exact this,sm.keep fun j hj=>u j (by have:=ro j hj; omega),fun j hj => .inl (ro j hj)⟩ h7 hlen k
 rw [← e] at key
 exact key
set_option maxHeartbeats 8000000 in
theorem zPJ (hS : Sl 17 isOp a l) (hl : l.length ≤ 40000) (hf : l.length + 100 < fuel) (hx : x.ok) : ∃ r,Sl 2 isLb r (made l x v) ∧ ∀ M,zAE Tryz.prog (fsT tbl) fuel (d + 7) (.fn 48) [a,idA x,lbA v] M = some (r,M):=by
 have oa:=hS.one
 refine zF8 tf48 rfl (fun M=>by simp only [icyL,fun M=>hS.icy M 12 (by omega),zAY (zEI x) (show 1 < 12 by omega),zAY (zEJ v) (show 1 < 12 by omega)]) ?_
 refine zAJ tf48 rfl (by simp only [icyL,fun M=>hS.icy M 12 (by omega),zAY (zEI x) (show 1 < 12 by omega),zAY (zEJ v) (show 1 < 12 by omega)]) (by simp [a48]) fun b' ht hx=>?_
 have h0:=hx 0 _ rfl
 have h1:=hx 1 _ rfl
 have h2:=hx 2 _ rfl
 clear hx
 simp only [a48,c48,zz4,zzm] at ht ⊢
 simp (maxSteps:=2000000) (disch:=first | omega | assumption | (simp only [DS,Nat.reduceAdd, *]; done) | (simp only [DZ]; omega)) only [RUN,RU,zA2,zA1,slot,lay,zAI,zAB,reduceIte,Nat.reduceEqDiff,Nat.reduceBEq,Nat.reduceAdd,h0,h1,h2]
 refine zY4 hS (by simp (maxSteps:=2000000) (disch:=first | omega | assumption | (simp only [DS,Nat.reduceAdd, *]; done) | (simp only [DZ]; omega)) only [RUN]) ?_
 simp (maxSteps:=2000000) (disch:=first | omega | assumption | (simp only [DS,Nat.reduceAdd, *]; done) | (simp only [DZ]; omega)) only [RUN,RU,Nat.reduceAdd]
 refine zcL (g:=93) (first:=[]) (cap:=[.ptr 4 0,.ptr 5 0,.ptr 6 0]) (by simp (maxSteps:=2000000) (disch:=first | omega | assumption | (simp only [DS,Nat.reduceAdd, *]; done) | (simp only [DZ]; omega)) only [RUN]) (by simp (maxSteps:=2000000) (disch:=first | omega | assumption | (simp only [DS,Nat.reduceAdd, *]; done) | (simp only [DZ]; omega)) only [RUN,reduceIte,Nat.reduceEqDiff]) ?_
 refine zRA (x:=x) (v:=v) (out:=[x.hd.lb]) (o0:=.sl 2 0 1 (some 1) 2) (d:=d) hS (by omega) (by simp) (by simp; omega) ?_ ?_ ?_ ?_ ?_ ?_ ?_ ?_ ?_ ?_ fun u o N m=>?_
 ·simp (maxSteps:=2000000) (disch:=first | omega | assumption | (simp only [DS,Nat.reduceAdd, *]; done) | (simp only [DZ]; omega)) only [RUN]
 ·simp (maxSteps:=2000000) (disch:=first | omega | assumption | (simp only [DS,Nat.reduceAdd, *]; done) | (simp only [DZ]; omega)) only [RUN,reduceIte,Nat.reduceEqDiff]
 ·rw [zLJ]; exact ht
 ·simp (maxSteps:=2000000) (disch:=first | omega | assumption | (simp only [DS,Nat.reduceAdd, *]; done) | (simp only [DZ]; omega)) only [RUN,RU,Nat.reduceAdd]
 ·simp (maxSteps:=2000000) (disch:=first | omega | assumption | (simp only [DS,Nat.reduceAdd, *]; done) | (simp only [DZ]; omega)) only [RUN]
 ·simp (maxSteps:=2000000) (disch:=first | omega | assumption | (simp only [DS,Nat.reduceAdd, *]; done) | (simp only [DZ]; omega)) only [RUN]
 ·simp (maxSteps:=2000000) (disch:=first | omega | assumption | (simp only [DS,Nat.reduceAdd, *]; done) | (simp only [DZ]; omega)) only [RUN]
 ·simp (maxSteps:=2000000) (disch:=first | omega | assumption | (simp only [DS,Nat.reduceAdd, *]; done) | (simp only [DZ]; omega)) only [RUN]
 ·refine .inr ⟨2,[lbR x.hd.lb],some 1,rfl,.inr rfl, ?_,.cons ⟨rfl,hx.1.1⟩ .nil,by simp⟩
  simp (maxSteps:=2000000) (disch:=first | omega | assumption | (simp only [DS,Nat.reduceAdd, *]; done) | (simp only [DZ]; omega)) only [RUN]
  rfl
 ·rintro j ⟨⟩
  rfl
 ·have g3:=m.g3
  have l3:=Mem.get_lt g3
  have g7:=m.g7
  have wf:=m.wf
  have sm:=m.sm
  have ro:=m.ro
  have oo:=sm.one
  have sz:=m.sz
  refine ⟨wf,by have:=m.sz; simp only [zA7,zAC,zBH]; omega,_,_,_,_,_,m.g8, ?_⟩
  generalize hX : N.upd _ _ = X
  have wX : Wf X:=by rw [← hX]; exact wf.upd _ _
  have gX : ∀ j,j ≠ 8 → X.get j = N.get j:=fun j hj=>by rw [← hX]; exact zA4 wf _ _ _ (fun e=>hj e.symm)
  have x3:=(gX 3 (by omega)).trans g3
  have x7:=(gX 7 (by omega)).trans g7
  have l3':=Mem.get_lt x3
  have l7':=Mem.get_lt x7
  simp (maxSteps:=2000000) (disch:=first | omega | assumption | (simp only [DS,Nat.reduceAdd, *]; done) | (simp only [DZ]; omega)) only [RUN,RU,zA2,zA1,reduceIte,Nat.reduceEqDiff,Nat.reduceAdd,x3]
  refine zKC wX x7 ?_
  obtain ⟨rr,hz,hr⟩:=(sm.keep fun j hj=>by rw [zA4 wX _ _ _ (by have:=ro j hj; omega)]; exact gX j (by have:=ro j hj; omega) : SlM (X.upd 7 (.dfr true)) 2 isLb o _).frz zT0.cel (k:=12) (by omega)
  simp (maxSteps:=2000000) (disch:=first | omega | assumption | (simp only [DS,Nat.reduceAdd, *]; done) | (simp only [DZ]; omega)) only [RUN,zA0,zAA,frzL,reduceIte,Nat.reduceEqDiff,hz]
  exact ⟨rr,hr,rfl⟩
end Go.Proofs.YtebloodpblgncaaGreat
namespace Go.Proofs.YtebloodpblgncaaGreat
open Go Go.Ax
variable {fuel : Nat} {M : Mem} {Q : AV → Mem → Prop} {d : Nat} {a : AV} {x : Eid} {v : Lb} {l : List Op}
def zHY (ls : List Lb) (b : Lb) : Bool:=ls.any fun y=>decide (b = y)
def zDR (pre : List Op) (o : Op) : Bool:=if o.kd = 3 then o.hd.lb.leq o.to && (o.sp.ids.all fun id=>zHY (made pre id o.hd.lb) o.hd.lb) else true
theorem may_sp {o : Op} (h : o.may = true) : o.sp.may = true:=by
 unfold Op.may at h
 simp only [Bool.and_eq_true] at h
 exact h.1.2
theorem zPI (l : List Op) (x : Eid) (v : Lb) : (made l x v).length ≤ l.length + 1:=by
 have h1:=zKE (zC2 l x v) [x.hd.lb]
 have h2:=zJQ l x v
 unfold made
 simp only [List.length_singleton] at h1
 omega
theorem zKN (s : Spn) : s.ids.length = s.n.toNat:=(List.length_map _).trans List.length_range
theorem zNT (s : Spn) (i : Nat) (h : i < s.ids.length) : s.ids[i] = s.at i:=(List.getElem_map _).trans (by rw [List.getElem_range])
set_option maxHeartbeats 8000000 in
theorem zOZ {o : Op} {ra : AV} (hS : Sl 17 isOp a l) (hl : l.length ≤ 40000) (hf : l.length + 200 < fuel) (hR : Sl 1 zB2 ra o.rs) (ho : o.ok) (hm : o.may = true) (M : Mem) : zAE Tryz.prog (fsT tbl) fuel (d + 8) (.fn 55) [a,.agg (opR o ra)] M = some (BL (zDR l o),M):=by
 have ora:=hR.one
 have hsm:=may_sp hm
 have hb:=Spn.may_le hsm
 obtain ⟨m,hmn⟩ : ∃ m : Nat,o.sp.n = m:=⟨o.sp.n.toNat,by omega⟩
 have il : o.sp.ids.length = m:=by rw [zKN,hmn]; rfl
 have hat:=fun n M=>@zI4 fuel (d + 2) o.sp n M
 simp only [hsm,if_true] at hat
 have hle:=fun M=>@zGR fuel (d + 6) o.hd.lb o.to M
 apply zBG
 refine zK3 tf55 rfl (by simp only [icyL,fun M=>hS.icy M 12 (by omega),zIH hR.fz]) (by simp [a55]) fun b' ht hx=>?_
 have h0:=hx 0 _ rfl
 have h1:=hx 1 _ rfl
 clear hx
 simp only [a55,c55,zz3,zzm] at ht ⊢
 unfold zDR
 by_cases q3 : o.kd = 3
 ·have k3 : decide (o.kd = 3) = true:=decide_eq_true q3
  rw [if_pos q3]
  simp (maxSteps:=2000000) (disch:=first | omega | assumption | (simp only [DS,Nat.reduceAdd, *]; done) | (simp only [DZ]; omega)) only [RUN,RU,zA2,zA1,slot,reduceIte,Nat.reduceEqDiff,Nat.reduceAdd,h1,k3,hle,hmn]
  refine zBF (I:=fun n t N => ∃ (i : Nat),n = m - i ∧ i ≤ m ∧ nth zA6 t 0 = a ∧ nth zA6 t 3 = .ptr 0 0 ∧ nth zA6 t 5 = BL (o.hd.lb.leq o.to && (o.sp.ids.take i).all fun id=>zHY (made l id o.hd.lb) o.hd.lb) ∧ nth zA6 t 20 = I64 m ∧ nth zA6 t 21 = I64 i ∧ Wf N ∧ N.get 0 = some (.row false (opR o ra))) (n:=m) (by omega) ?_ ?_
  ·refine ⟨0,rfl,Nat.zero_le _, ?_, ?_, ?_, ?_, ?_,Wf.mem0.add _,by simp (maxSteps:=2000000) (disch:=first | omega | assumption | (simp only [DS,Nat.reduceAdd, *]; done) | (simp only [DZ]; omega)) only [RUN]⟩ <;> simp (maxSteps:=2000000) (disch:=first | omega | assumption | (simp only [DS,Nat.reduceAdd, *]; done) | (simp only [DZ]; omega)) only [RUN,RU,reduceIte,Nat.reduceEqDiff,h0]
   all_goals first | rfl | assumption | done
  ·rintro n t N hlt ⟨i,rfl,hi,g0,g3,g5,g20,g21,w,g⟩
   simp only [ht] at hlt ⊢
   by_cases hc : i < m
   ·have q1 : decide ((i : Int) < m) = true:=decide_eq_true (by omega)
    have hi' : ¬((i : Int) < 0 ∨ o.sp.n ≤ i):=by omega
    have hat:=fun M=>hat i M
    simp only [hi',if_false] at hat
    have ok:=zZ8 ho.2.2.2.1 hsm i (by omega)
    have lN:=Mem.get_lt g
    have w1 : IntKind.i64.wrap ((i : Int) + 1) = ((i + 1 : Nat) : Int):=by rw [wrap_i64] <;> omega
    obtain ⟨r,hr,hmade⟩:=zPJ (fuel:=fuel) (d:=d) (x:=o.sp.at i) (v:=o.hd.lb) hS hl (by omega) ok
    have hml:=zPI l (o.sp.at i) o.hd.lb
    have hcn : ∀ M,zAE Tryz.prog (fsT tbl) fuel (d + 7) (.fn 74) [r,lbA o.hd.lb] M = some (BL (zHY (made l (o.sp.at i) o.hd.lb) o.hd.lb),M):=fun M=>zT6 (P:=Tryz.prog) (fs:=fsT tbl) (fuel:=fuel) (n:=d + 5) (v:=lbR o.hd.lb) tf74 tf94 zT0 hr (by omega) (by omega) (by omega) (zEJ o.hd.lb) rfl @pLbE (p:=fun y=>decide (o.hd.lb = y)) (fun dd r y hy _=>by rw [hy.1]; exact zES dd o.hd.lb.lv o.hd.lb.cats y.lv y.cats) M
    have hsn : (o.sp.ids.take (i + 1)).all (fun id=>zHY (made l id o.hd.lb) o.hd.lb) = ((o.sp.ids.take i).all (fun id=>zHY (made l id o.hd.lb) o.hd.lb) && zHY (made l (o.sp.at i) o.hd.lb) o.hd.lb):=by
     rw [take_snoc _ i (by omega),List.all_append,zNT]; simp
    have hall : ∀ b,b = (o.hd.lb.leq o.to && (o.sp.ids.take (i + 1)).all fun id=>zHY (made l id o.hd.lb) o.hd.lb) → b = false → (o.hd.lb.leq o.to && o.sp.ids.all fun id=>zHY (made l id o.hd.lb) o.hd.lb) = false:=by
     intro b hb1 hb2
     rw [hb2] at hb1
     rw [← List.take_append_drop (i + 1) o.sp.ids,List.all_append,← Bool.and_assoc,← hb1,Bool.false_and]
    have orr:=hr.one
    cases hb : (o.hd.lb.leq o.to && (o.sp.ids.take i).all fun id=>zHY (made l id o.hd.lb) o.hd.lb) with
    | false =>
     rw [hb] at g5
     have hal:=hall _ rfl (by rw [hsn,← Bool.and_assoc,hb,Bool.false_and])
     simp (maxSteps:=2000000) (disch:=first | omega | assumption | (simp only [DS,Nat.reduceAdd, *]; done) | (simp only [DZ]; omega)) only [RUN,RU,zA2,zA1,zA0,zAA,frzL,slot,lay,reduceIte,Nat.reduceEqDiff,Nat.reduceAdd,g3,g5,g20,g21,q1,g,hat,zL9]
     rw [hal]
    | true =>
     rw [hb] at g5
     cases hcc : zHY (made l (o.sp.at i) o.hd.lb) o.hd.lb with
     | false =>
      rw [hcc] at hcn
      have hal:=hall _ rfl (by rw [hsn,hcc,Bool.and_false,Bool.and_false])
      simp (maxSteps:=2000000) (disch:=first | omega | assumption | (simp only [DS,Nat.reduceAdd, *]; done) | (simp only [DZ]; omega)) only [RUN,RU,zA2,zA1,zA0,zAA,frzL,slot,lay,reduceIte,Nat.reduceEqDiff,Nat.reduceBEq,Nat.reduceAdd,g0,g3,g5,g20,g21,q1,g,hat,hmade,hcn,zL9]
      rw [hal]
     | true =>
      rw [hcc] at hcn
      have hal : (o.hd.lb.leq o.to && (o.sp.ids.take (i + 1)).all fun id=>zHY (made l id o.hd.lb) o.hd.lb) = true:=by rw [hsn,hcc,Bool.and_true]; exact hb
      simp (maxSteps:=2000000) (disch:=first | omega | assumption | (simp only [DS,Nat.reduceAdd, *]; done) | (simp only [DZ]; omega)) only [RUN,RU,zA2,zA1,slot,lay,reduceIte,Nat.reduceEqDiff,Nat.reduceBEq,Nat.reduceAdd,g0,g3,g5,g20,g21,q1,w,g,hat,hmade,hcn,w1]
      exact ⟨hlt,m - (i + 1),by omega,i + 1,rfl,by omega,by rw [hal],rfl⟩
   ·obtain rfl : i = m:=by omega
    have q1 : decide ((i : Int) < i) = false:=decide_eq_false (by omega)
    have et : o.sp.ids.take i = o.sp.ids:=List.take_of_length_le (by omega)
    rw [et] at g5
    simp (maxSteps:=2000000) (disch:=first | omega | assumption | (simp only [DS,Nat.reduceAdd, *]; done) | (simp only [DZ]; omega)) only [RUN,RU,zA2,zA1,zA0,zAA,frzL,reduceIte,Nat.reduceEqDiff,g5,g20,g21,zL9]
 ·have k3 : decide (o.kd = 3) = false:=decide_eq_false q3
  rw [if_neg q3]
  simp (maxSteps:=2000000) (disch:=first | omega | assumption | (simp only [DS,Nat.reduceAdd, *]; done) | (simp only [DZ]; omega)) only [RUN,RU,zA2,zA1,zA0,zAA,frzL,reduceIte,Nat.reduceEqDiff,h1,k3,zL9]
end Go.Proofs.YtebloodpblgncaaGreat
namespace Go.Proofs.YtebloodpblgncaaGreat
open Go Go.Ax
variable {fuel : Nat} {M : Mem} {Q : AV → Mem → Prop} {d : Nat} {a : AV} {x : Eid} {v : Lb} {l : List Op}
def zH8 : List Op → List Op → Bool
 | _,[]=>true
 | pre,o :: l=>o.may && zDR pre o && zH8 (pre ++ [o]) l
def zCM (l : List Op) : Int:=if 2048 < l.length then 4 else err (zH8 [] l)
theorem drop_step {α : Type} (l : List α) (i : Nat) (h : i < l.length) : l.drop i = l[i] :: l.drop (i + 1):=List.drop_eq_getElem_cons h
set_option maxHeartbeats 8000000 in
theorem zHX (hS : Sl 17 isOp a l) (hl : l.length ≤ 40000) (hf : l.length + 200 < fuel) (M : Mem) : zAE Tryz.prog (fsT tbl) fuel (d + 9) (.fn 54) [a] M = some (I64 (zCM l),M):=by
 have ll:=hS.len
 apply zBG
 refine zK3 tf54 rfl (by simp only [icyL,fun M=>hS.icy M 12 (by omega)]) (by simp [a54]) fun b' ht hx=>?_
 have h0:=hx 0 _ rfl
 clear hx
 simp only [a54,c54,zz5,zzm] at ht ⊢
 unfold zCM
 by_cases q0 : 2048 < l.length
 ·have q1 : decide ((2048 : Int) < l.length) = true:=decide_eq_true (by omega)
  simp (maxSteps:=2000000) (disch:=first | omega | assumption | (simp only [DS,Nat.reduceAdd, *]; done) | (simp only [DZ]; omega)) only [RUN,RU,zA2,zA1,zA0,zAA,frzL,reduceIte,Nat.reduceEqDiff,h0,ll,q1,q0,if_true,zL9]
 ·have q1 : decide ((2048 : Int) < l.length) = false:=decide_eq_false (by omega)
  simp (maxSteps:=2000000) (disch:=first | omega | assumption | (simp only [DS,Nat.reduceAdd, *]; done) | (simp only [DZ]; omega)) only [RUN,RU,zA2,zA1,reduceIte,Nat.reduceEqDiff,h0,ll,q1,q0,if_false]
  refine zBF (I:=fun n t N => ∃ (i : Nat),n = l.length - i ∧ i ≤ l.length ∧ nth zA6 t 0 = a ∧ nth zA6 t 8 = a ∧ nth zA6 t 9 = I64 l.length ∧ nth zA6 t 10 = I64 i ∧ Wf N ∧ zH8 [] l = zH8 (l.take i) (l.drop i)) (n:=l.length) (by omega) ?_ ?_
  ·refine ⟨0,rfl,Nat.zero_le _, ?_, ?_, ?_, ?_,Wf.mem0,rfl⟩ <;> simp (maxSteps:=2000000) (disch:=first | omega | assumption | (simp only [DS,Nat.reduceAdd, *]; done) | (simp only [DZ]; omega)) only [RUN,reduceIte,Nat.reduceEqDiff,h0]
   all_goals first | rfl | assumption | done
  ·rintro n t N hlt ⟨i,rfl,hi,g0,g8,g9,g10,w,inv⟩
   simp only [ht] at hlt ⊢
   by_cases hc : i < l.length
   ·have q2 : decide ((i : Int) < l.length) = true:=decide_eq_true (by omega)
    have w1 : IntKind.i64.wrap ((i : Int) + 1) = ((i + 1 : Nat) : Int):=by rw [wrap_i64] <;> omega
    obtain ⟨r,hiad,hr,hrl⟩:=hS.iad i hc
    obtain ⟨p,hp1,hp2⟩:=zc6 hS (j:=i) (by omega)
    rw [drop_step l i hc,zH8,← take_snoc l i hc] at inv
    have hkeep : l.take i ++ l[i] :: l.drop (i + 1) = l:=by rw [← drop_step l i hc,List.take_append_drop]
    generalize l[i] = e at *
    obtain ⟨ra,rfl,hra,hok⟩:=hr
    have ora:=hra.one
    have hck:=fun M=>@zDE fuel (d + 1) e ra hra hok (by omega) M
    cases hm : e.may with
    | false =>
     rw [hm] at hck
     simp only [hm,Bool.false_and] at inv
     rw [inv]
     simp (maxSteps:=2000000) (disch:=first | omega | assumption | (simp only [DS,Nat.reduceAdd, *]; done) | (simp only [DZ]; omega)) only [RUN,RU,zA2,zA1,zA0,zAA,frzL,slot,lay,reduceIte,Nat.reduceEqDiff,Nat.reduceAdd,Int.reduceEq,g8,g9,g10,q2,hiad,hck,zBE,zL9]
    | true =>
     rw [hm] at hck
     have hfi:=fun M=>zOZ (fuel:=fuel) (d:=d) hp2 (by simp; omega) (by simp; omega) hra hok hm M
     cases hr' : zDR (l.take i) e with
     | false =>
      rw [hr'] at hfi
      simp only [hm,hr',Bool.false_and,Bool.and_false] at inv
      rw [inv]
      simp (maxSteps:=2000000) (disch:=first | omega | assumption | (simp only [DS,Nat.reduceAdd, *]; done) | (simp only [DZ]; omega)) only [RUN,RU,zA2,zA1,zA0,zAA,frzL,slot,lay,reduceIte,Nat.reduceEqDiff,Nat.reduceBEq,Nat.reduceAdd,g0,g8,g9,g10,hS.fz.rows,q2,hiad,hck,zAV,zBE,hp1,hfi,zL9]
     | true =>
      rw [hr'] at hfi
      simp only [hm,hr',Bool.true_and] at inv
      simp (maxSteps:=2000000) (disch:=first | omega | assumption | (simp only [DS,Nat.reduceAdd, *]; done) | (simp only [DZ]; omega)) only [RUN,RU,zA2,zA1,slot,lay,reduceIte,Nat.reduceEqDiff,Nat.reduceBEq,Nat.reduceAdd,g0,g8,g9,g10,hS.fz.rows,q2,hiad,w,hck,zAV,hp1,hfi,w1]
      exact ⟨hlt,l.length - (i + 1),by omega,i + 1,rfl,by omega,rfl,inv⟩
   ·obtain rfl : i = l.length:=by omega
    have q1 : decide ((l.length : Int) < l.length) = false:=decide_eq_false (by omega)
    rw [List.drop_length,zH8] at inv
    rw [inv]
    simp (maxSteps:=2000000) (disch:=first | omega | assumption | (simp only [DS,Nat.reduceAdd, *]; done) | (simp only [DZ]; omega)) only [RUN,RU,zA2,zA1,zA0,zAA,frzL,reduceIte,Nat.reduceEqDiff,g9,g10,zAV,zL9]
end Go.Proofs.YtebloodpblgncaaGreat
namespace Go.Proofs.YtebloodpblgncaaGreat
open Go Go.Ax
variable {fuel : Nat} {M : Mem} {Q : AV → Mem → Prop} {d : Nat} {a : AV} {x : Eid} {v : Lb} {l : List Op}
def chfE (l : List Op) (o : Op) : Int:=if zCM l = 0 then err o.may else zCM l
def chfB (l : List Op) (o : Op) : Bool:=decide (chfE l o = 0) && zDR l o
set_option maxHeartbeats 4000000 in
theorem zW1 {o : Op} {ra : AV} (hS : Rd M 17 isOp a l) (hl : l.length ≤ 40000) (hf : l.length + 200 < fuel) (hR : Sl 1 zB2 ra o.rs) (ho : o.ok) (wf : Wf M) (k : ∀ N,Kept M N → Q (.tup [BL (chfB l o),I64 (chfE l o)]) N) :
  W3 (zAE Tryz.prog (fsT tbl) fuel (d + 10) (.fn 34) [a,.agg (opR o ra)] M) Q:=by
 have ora:=hR.one
 have wA:=wf.add (.row false (opR o ra))
 have hS' : Rd (M.add (.row false (opR o ra))) 17 isOp a l:=hS.keep fun j hj=>zAF wf _ _ (by
  rcases hS with h | h
  ·rcases h with ⟨rfl,_⟩ | ⟨_,_,rfl,_⟩ <;> cases hj
  ·exact h.lt j hj)
 have hch:=zdX (P:=Tryz.prog) (fs:=fsT tbl) (fuel:=fuel) (n:=d + 8) (N:=M.add (.row false (opR o ra))) tf54 rfl zKI hS' wA (fun a' h M=>zHX (d:=d) h hl hf M)
 have hck:=fun M=>@zDE fuel (d + 2) o ra hR ho (by omega) M
 unfold chfB at k
 unfold chfE at k
 refine zB7 tf34 rfl (by simp [a34]) fun b' ht hx=>?_
 have h0:=hx 0 _ rfl
 have h1:=hx 1 _ rfl
 clear hx
 simp only [a34,c34,zzm] at ht ⊢
 by_cases q0 : zCM l = 0
 ·rw [q0] at hch
  simp only [q0,if_true] at k
  cases hm : o.may with
  | false =>
   rw [hm] at hck k
   simp (maxSteps:=2000000) (disch:=first | omega | assumption | (simp only [DS,Nat.reduceAdd, *]; done) | (simp only [DZ]; omega)) only [RUN,RU,zA2,zA1,zA0,zAA,slot,reduceIte,Nat.reduceEqDiff,Int.reduceEq,h0,h1,hch,hck,zBE]
   exact k _ ((Kept.refl wf).add _)
  | true =>
   have hfi:=zZL (P:=Tryz.prog) (fs:=fsT tbl) (fuel:=fuel) (n:=d + 8) (N:=M.add (.row false (opR o ra))) (y:=.agg (opR o ra)) tf55 rfl zKI hS' wA (zIH hR.fz) (fun a' h M=>zOZ (d:=d + 1) h hl hf hR ho hm M)
   rw [hm] at hck k
   simp (maxSteps:=2000000) (disch:=first | omega | assumption | (simp only [DS,Nat.reduceAdd, *]; done) | (simp only [DZ]; omega)) only [RUN,RU,zA2,zA1,zA0,zAA,slot,reduceIte,Nat.reduceEqDiff,h0,h1,hch,hck,zAV,hfi]
   exact k _ ((Kept.refl wf).add _)
 ·have q1 : decide (zCM l = 0) = false:=decide_eq_false q0
  simp only [q0,if_false,decide_false,Bool.false_and] at k
  simp (maxSteps:=2000000) (disch:=first | omega | assumption | (simp only [DS,Nat.reduceAdd, *]; done) | (simp only [DZ]; omega)) only [RUN,RU,zA2,zA1,zA0,zAA,reduceIte,Nat.reduceEqDiff,h0,h1,hch,q1]
  exact k _ ((Kept.refl wf).add _)
end Go.Proofs.YtebloodpblgncaaGreat
namespace Go.Proofs.YtebloodpblgncaaGreat
open Go Go.Ax
variable {fuel : Nat} {M : Mem} {Q : AV → Mem → Prop} {d : Nat} {x : Eid} {l : List Op}
def idV (x : Eid) : List Value:=[.int .u8 x.hd.lb.lv,.int .u32 x.hd.lb.cats,.int .u8 x.hd.num,.int .i64 x.c]
theorem zZ7 (x : Eid) : PT.iss [.st [.st [.int .u8,.int .u32],.int .u8],.int .i64] (idV x):=by
 simp only [PT.iss,PT.is]
 exact ⟨[.int .u8 x.hd.lb.lv,.int .u32 x.hd.lb.cats,.int .u8 x.hd.num],[.int .i64 x.c],rfl,⟨[.int .u8 x.hd.lb.lv,.int .u32 x.hd.lb.cats],[.int .u8 x.hd.num],rfl,⟨[.int .u8 x.hd.lb.lv],[.int .u32 x.hd.lb.cats],rfl,⟨_,rfl⟩,⟨[.int .u32 x.hd.lb.cats],[],rfl,⟨_,rfl⟩,rfl⟩⟩,⟨[.int .u8 x.hd.num],[],rfl,⟨_,rfl⟩,rfl⟩⟩,⟨[.int .i64 x.c],[],rfl,⟨_,rfl⟩,rfl⟩⟩
theorem zaY (x y : Eid) : idV x = idV y ↔ x = y:=by
 obtain ⟨⟨⟨a,b⟩,c⟩,e⟩:=x
 obtain ⟨⟨⟨a',b'⟩,c'⟩,e'⟩:=y
 simp [idV,and_assoc]
theorem id_ck (b : Bool) (n1 n2 n3 n4 : Int) : (zAK Tryz.prog (Instr.checkKey b 10000 31 (.agg #[.int .u8 n1,.int .u32 n2,.int .u8 n3,.int .i64 n4]))).isSome = true:=by
 cases b <;> kernel_rfl
def zKM : KeyT Tryz.prog 31 idA where
 val x:=.agg (idV x).toArray
 hval x:=rfl
 ck b x:=id_ck b _ _ _ _
 eq x y:=by
  obtain ⟨r,h1,h2⟩:=PT.eq (P:=Tryz.prog) (.st [.st [.st [.int .u8,.int .u32],.int .u8],.int .i64]) 31 10000 (by kernel_rfl) (by decide) (xs:=idV x) (ys:=idV y) (by simpa only [PT.is] using zZ7 x) (by simpa only [PT.is] using zZ7 y)
  have e : r = decide (x = y):=by
   rw [Bool.eq_iff_iff,h2,zaY]
   simp
  rw [← e]
  exact h1
 same x:=by simp [Instr.sameBits,idV]
end Go.Proofs.YtebloodpblgncaaGreat
namespace Go.Proofs.YtebloodpblgncaaGreat
open Go Go.Ax
variable {fuel : Nat} {M : Mem} {Q : AV → Mem → Prop} {d : Nat} {x : Eid} {l : List Op} {o : Op} {ra ops : AV} {B id m : Nat}
def zAP (l : List Op) : List Eid:=l.flatMap fun o=>if o.kd = 1 then o.sp.ids else []
structure IsHist (N : Mem) (B id m : Nat) (ops : AV) (l : List Op) : Prop where
 hg : N.get id = some (.row false [ops,.mp m])
 sm : SlM N 17 isOp ops l
 mg : ∃ obj,N.get m = some obj ∧ zHL idA (BL true) obj (zAP l)
 ib : B ≤ id
 mb : B ≤ m
 ob : ∀ j,rowOf ops = some j → B ≤ j
 ne : id ≠ m
 n1 : rowOf ops ≠ some id
 n2 : rowOf ops ≠ some m
theorem IsHist.keep {N : Mem} (h : IsHist M B id m ops l) (k : ∀ j,j < M.size → N.get j = M.get j) : IsHist N B id m ops l:=by
 obtain ⟨obj,h1,h2⟩:=h.mg
 exact ⟨(k _ (Mem.get_lt h.hg)).trans h.hg,h.sm.keep fun j hj=>k j (h.sm.lt j hj),⟨obj,(k _ (Mem.get_lt h1)).trans h1,h2⟩,h.ib,h.mb,h.ob,h.ne,h.n1,h.n2⟩
def zEV (l : List Op) (o : Op) (x : Eid) : Bool:=decide (x ∈ zAP l) && x.hd.lb.leq o.hd.lb
theorem zZI (p : Prop) [Decidable p] : (if p then BL true else .sc (.bool false)) = BL (decide p):=by
 by_cases h : p <;> simp [h]
theorem zZU (hH : IsHist M B id m ops l) (hR : Sl 1 zB2 ra o.rs) (wf : Wf M) (hw : M.wm ≤ M.size) (k : ∀ N,Kept M N → Q (BL (zEV l o x)) N) :
  W3 (zAE Tryz.prog (fsT tbl) fuel (d + 2) (.fn 104) [.ptr id 0,.agg (opR o ra),idA x] M) Q:=by
 have ora:=hR.one
 have hg:=hH.hg
 obtain ⟨obj,mg,hset⟩:=hH.mg
 have li:=Mem.get_lt hg
 have lm:=Mem.get_lt mg
 have om:=hH.sm.one
 have mg2 : ((M.add (.row false (opR o ra))).add (.row false (idR x))).get m = some obj:=by
  rw [zAF (wf.add _) _ _ (by rw [zA7]; omega),zAF wf _ _ lm]; exact mg
 have hlk:=zPH zKM (z:=.bool false) mg2 hset x
 rw [zZI] at hlk
 have hle:=fun M=>@zGR fuel d x.hd.lb o.hd.lb M
 have one_mp : oneA (.mp m) = true:=rfl
 have kk:=(((Kept.refl wf).add (.row false (opR o ra))).add (.row false (idR x)))
 unfold zEV at k
 refine zB7 tf104 rfl (by simp [a104]) fun b' ht hx=>?_
 have h0:=hx 0 _ rfl
 have h1:=hx 1 _ rfl
 have h2:=hx 2 _ rfl
 clear hx
 simp only [a104,c104,zzm] at ht ⊢
 cases q : decide (x ∈ zAP l) with
 | false =>
  rw [q] at hlk
  simp only [q,Bool.false_and] at k
  simp (maxSteps:=2000000) (disch:=first | omega | assumption | (simp only [DS,Nat.reduceAdd, *]; done) | (simp only [DZ]; omega)) only [RUN,RU,zA2,zA1,zA0,zAA,slot,reduceIte,Nat.reduceEqDiff,Nat.reduceBEq,Nat.reduceAdd,h0,h1,h2,hg,x_lk,hlk]
  exact k _ kk
 | true =>
  rw [q] at hlk
  simp only [q,Bool.true_and] at k
  simp (maxSteps:=2000000) (disch:=first | omega | assumption | (simp only [DS,Nat.reduceAdd, *]; done) | (simp only [DZ]; omega)) only [RUN,RU,zA2,zA1,zA0,zAA,slot,reduceIte,Nat.reduceEqDiff,Nat.reduceBEq,Nat.reduceAdd,h0,h1,h2,hg,x_lk,hlk,hle]
  exact k _ kk
theorem zcX {bh bo : Nat} (hH : IsHist M B id m ops l) (hR : Sl 1 zB2 ra o.rs) (wf : Wf M) (hw : M.wm ≤ M.size) (hb : M.get bh = some (.row false [.ptr id 0])) (hbo : M.get bo = some (.row false (opR o ra))) (k : ∀ N,Kept M N → Q (BL (!zEV l o x)) N) :
  W3 (zAE Tryz.prog (fsT tbl) fuel (d + 3) (.fn 121) [idA x,.ptr bh 0,.ptr bo 0] M) Q:=by
 have ora:=hR.one
 have lb:=Mem.get_lt hb
 have lbo:=Mem.get_lt hbo
 have li:=Mem.get_lt hH.hg
 refine zB7 tf121 rfl (by simp [a121]) fun b' ht hx=>?_
 have h0:=hx 0 _ rfl
 have h1:=hx 1 _ rfl
 have h2:=hx 2 _ rfl
 clear hx
 simp only [a121,c121,zzm] at ht ⊢
 simp (maxSteps:=2000000) (disch:=first | omega | assumption | (simp only [DS,Nat.reduceAdd, *]; done) | (simp only [DZ]; omega)) only [RUN,RU,zA2,zA1,slot,reduceIte,Nat.reduceEqDiff,h0,h1,h2,hb,hbo]
 refine zZU (d:=d) (B:=B) (m:=m) (ops:=ops) (hH.keep fun j hj=>zAF wf _ _ hj) hR (wf.add _) (by rw [zA7]; show M.wm ≤ _; omega) fun N hN=>?_
 simp (maxSteps:=2000000) (disch:=first | omega | assumption | (simp only [DS,Nat.reduceAdd, *]; done) | (simp only [DZ]; omega)) only [RUN,RU,zA2,zA1,zA0,zAA,reduceIte,Nat.reduceEqDiff]
 exact k _ (((Kept.refl wf).add _).trans hN)
def allB (l : List Op) (o : Op) : Bool:=o.sp.ids.all fun x=>zEV l o x
theorem zVF {α : Type} (p : α → Bool) (l : List α) : (l.any fun x => !p x) = !l.all p:=by
 induction l with
 | nil=>rfl
 | cons x l ih=>simp only [List.any_cons,List.all_cons,ih,Bool.not_and]
theorem zcY (hH : IsHist M B id m ops l) (hR : Sl 1 zB2 ra o.rs) (ho : o.ok) (hm : o.may = true) (hf : 300 < fuel) (wf : Wf M) (hw : M.wm ≤ M.size) (k : ∀ N,Kept M N → Q (BL (allB l o)) N) :
  W3 (zAE Tryz.prog (fsT tbl) fuel (d + 7) (.fn 107) [.ptr id 0,.agg (opR o ra)] M) Q:=by
 have ora:=hR.one
 have li:=Mem.get_lt hH.hg
 have hb:=Spn.may_le (may_sp hm)
 obtain ⟨r,hr,hn⟩:=zI9 (fuel:=fuel) (d:=d) ho.2.2.2.1 (may_sp hm) (by omega)
 have il:=zKN o.sp
 have ea : (o.sp.ids.any fun x => !zEV l o x) = !allB l o:=zVF _ _
 refine zB7 tf107 rfl (by simp [a107]) fun b' ht hx=>?_
 have h0:=hx 0 _ rfl
 have h1:=hx 1 _ rfl
 clear hx
 simp only [a107,c107,zzm] at ht ⊢
 simp (maxSteps:=2000000) (disch:=first | omega | assumption | (simp only [DS,Nat.reduceAdd, *]; done) | (simp only [DZ]; omega)) only [RUN,RU,zA2,zA1,slot,reduceIte,Nat.reduceEqDiff,h0,h1,hn]
 have kA:=((Kept.refl wf).add (.row false [.ptr id 0])).add (.row false (opR o ra))
 have wA:=kA.wf
 have gA : ((M.add (.row false [.ptr id 0])).add (.row false (opR o ra))).get M.size = some (.row false [.ptr id 0]):=by simp (maxSteps:=2000000) (disch:=first | omega | assumption | (simp only [DS,Nat.reduceAdd, *]; done) | (simp only [DZ]; omega)) only [RUN]
 have gB : ((M.add (.row false [.ptr id 0])).add (.row false (opR o ra))).get (M.size + 1) = some (.row false (opR o ra)):=by simp (maxSteps:=2000000) (disch:=first | omega | assumption | (simp only [DS,Nat.reduceAdd, *]; done) | (simp only [DZ]; omega)) only [RUN]
 have sA : ((M.add (.row false [.ptr id 0])).add (.row false (opR o ra))).size = M.size + 2:=rfl
 generalize (M.add (.row false [.ptr id 0])).add (.row false (opR o ra)) = X at *
 refine zT7 (st:=4) (ag:=true) (n:=d + 4) (first:=[]) (cap:=[.ptr M.size 0,.ptr (M.size + 1) 0]) tf105 tf120 (by simp) zLV hr (by omega) (by omega) (p:=fun x => !zEV l o x) wA (fun n hn=>by rw [sA] at hn; simp (maxSteps:=2000000) (disch:=first | omega | assumption | (simp only [DS,Nat.reduceAdd, *]; done) | (simp only [DZ]; omega)) only [RUN,RU]) (fun r x hr _ N Q' hk hQ=>?_) fun N hk=>?_
 ·obtain ⟨rfl,_⟩:=hr
  refine zcX (d:=d + 1) (B:=B) (m:=m) (ops:=ops) (hH.keep fun j hj=>(hk.get j (by omega)).trans (kA.get j hj)) hR hk.wf (by rw [hk.wm,kA.wm]; have:=hk.le; omega) ((hk.get _ (by omega)).trans gA) ((hk.get _ (by omega)).trans gB) fun N' hk'=>hQ N' (hk.trans hk')
 ·rw [ea]
  simp (maxSteps:=2000000) (disch:=first | omega | assumption | (simp only [DS,Nat.reduceAdd, *]; done) | (simp only [DZ]; omega)) only [RUN,RU,zA2,zA1,zA0,zAA,reduceIte,Nat.reduceEqDiff]
  rw [Bool.not_not]
  exact k _ (kA.trans hk)
end Go.Proofs.YtebloodpblgncaaGreat
namespace Go.Proofs.YtebloodpblgncaaGreat
open Go Go.Ax
variable {fuel : Nat} {M : Mem} {Q : AV → Mem → Prop} {d : Nat} {x : Eid} {l : List Op} {o : Op} {ra ops : AV} {B id m : Nat}
def remE (l : List Op) (o : Op) : Int:=if allB l o then (if o.sp.f.hd.lb = o.hd.lb then 0 else 2) else 6
def raiE (l : List Op) (o : Op) : Int:=if allB l o then (if chfE l o = 0 ∧ chfB l o = true then 0 else 2) else 6
set_option maxHeartbeats 4000000 in
theorem zY5 (hH : IsHist M B id m ops l) (hR : Sl 1 zB2 ra o.rs) (ho : o.ok) (hm : o.may = true) (hf : 300 < fuel) (wf : Wf M) (hw : M.wm ≤ M.size) (k : ∀ N,Kept M N → Q (I64 (remE l o)) N) :
  W3 (zAE Tryz.prog (fsT tbl) fuel (d + 8) (.fn 78) [.ptr id 0,.agg (opR o ra)] M) Q:=by
 have ora:=hR.one
 have li:=Mem.get_lt hH.hg
 unfold remE at k
 refine zB7 tf78 rfl (by simp [a78]) fun b' ht hx=>?_
 have h0:=hx 0 _ rfl
 have h1:=hx 1 _ rfl
 clear hx
 simp only [a78,c78,zzm] at ht ⊢
 simp (maxSteps:=2000000) (disch:=first | omega | assumption | (simp only [DS,Nat.reduceAdd, *]; done) | (simp only [DZ]; omega)) only [RUN,RU,zA2,zA1,slot,reduceIte,Nat.reduceEqDiff,h0,h1]
 refine zcY (d:=d) (B:=B) (m:=m) (ops:=ops) (hH.keep fun j hj=>zAF wf _ _ hj) hR ho hm hf (wf.add _) (by rw [zA7]; show M.wm ≤ _; omega) fun N hN=>?_
 have hg:=hN.get M.size (by rw [zA7]; omega)
 rw [zAH wf _ _ (Nat.le_refl _) (Nat.lt_succ_self _)] at hg
 have lg:=Mem.get_lt hg
 have kN:=((Kept.refl wf).add _).trans hN
 cases q1 : allB l o <;> simp only [q1,if_true,Bool.false_eq_true,if_false] at k
 ·simp (maxSteps:=2000000) (disch:=first | omega | assumption | (simp only [DS,Nat.reduceAdd, *]; done) | (simp only [DZ]; omega)) only [RUN,RU,zA2,zA1,zA0,zAA,reduceIte,Nat.reduceEqDiff]
  exact k _ kN
 ·cases q2 : decide (o.sp.f.hd.lb = o.hd.lb)
  ·rw [if_neg (of_decide_eq_false q2)] at k
   simp (maxSteps:=2000000) (disch:=first | omega | assumption | (simp only [DS,Nat.reduceAdd, *]; done) | (simp only [DZ]; omega)) only [RUN,RU,zA2,zA1,zA0,zAA,slot,reduceIte,Nat.reduceEqDiff,hg,↓pLbN,zGA,ETA,q2]
   exact k _ kN
  ·rw [if_pos (of_decide_eq_true q2)] at k
   simp (maxSteps:=2000000) (disch:=first | omega | assumption | (simp only [DS,Nat.reduceAdd, *]; done) | (simp only [DZ]; omega)) only [RUN,RU,zA2,zA1,zA0,zAA,slot,reduceIte,Nat.reduceEqDiff,hg,↓pLbN,zGA,ETA,q2]
   exact k _ kN
set_option maxHeartbeats 4000000 in
theorem zbV (hH : IsHist M B id m ops l) (hl : l.length ≤ 40000) (hR : Sl 1 zB2 ra o.rs) (ho : o.ok) (hm : o.may = true) (hf : l.length + 300 < fuel) (wf : Wf M) (hw : M.wm ≤ M.size) (k : ∀ N,Kept M N → Q (I64 (raiE l o)) N) :
  W3 (zAE Tryz.prog (fsT tbl) fuel (d + 11) (.fn 79) [.ptr id 0,.agg (opR o ra)] M) Q:=by
 have ora:=hR.one
 have li:=Mem.get_lt hH.hg
 unfold raiE at k
 refine zB7 tf79 rfl (by simp [a79]) fun b' ht hx=>?_
 have h0:=hx 0 _ rfl
 have h1:=hx 1 _ rfl
 clear hx
 simp only [a79,c79,zzm,zzg] at ht ⊢
 simp (maxSteps:=2000000) (disch:=first | omega | assumption | (simp only [DS,Nat.reduceAdd, *]; done) | (simp only [DZ]; omega)) only [RUN,RU,zA2,zA1,slot,reduceIte,Nat.reduceEqDiff,h0,h1]
 refine zcY (d:=d + 3) (B:=B) (m:=m) (ops:=ops) (hH.keep fun j hj=>zAF wf _ _ hj) hR ho hm (by omega) (wf.add _) (by rw [zA7]; show M.wm ≤ _; omega) fun N hN=>?_
 have hg:=hN.get M.size (by rw [zA7]; omega)
 rw [zAH wf _ _ (Nat.le_refl _) (Nat.lt_succ_self _)] at hg
 have lg:=Mem.get_lt hg
 have kN:=((Kept.refl wf).add _).trans hN
 have hH' : IsHist N B id m ops l:=hH.keep fun j hj=>kN.get j hj
 have hg2:=hH'.hg
 have li':=Mem.get_lt hg2
 cases q1 : allB l o <;> simp only [q1,if_true,Bool.false_eq_true,if_false] at k
 ·simp (maxSteps:=2000000) (disch:=first | omega | assumption | (simp only [DS,Nat.reduceAdd, *]; done) | (simp only [DZ]; omega)) only [RUN,RU,zA2,zA1,zA0,zAA,reduceIte,Nat.reduceEqDiff]
  exact k _ kN
 ·simp (maxSteps:=2000000) (disch:=first | omega | assumption | (simp only [DS,Nat.reduceAdd, *]; done) | (simp only [DZ]; omega)) only [RUN,RU,zA2,zA1,slot,reduceIte,Nat.reduceEqDiff,Nat.reduceBEq,Nat.reduceAdd,h0,hg,hg2]
  refine zW1 (d:=d) (l:=l) (.inr (hH'.sm.keep fun j hj=>rfl)) hl (by omega) hR ho (by rw [zR4]; exact hN.wf) fun N2 hN2=>?_
  have k2:=kN.trans hN2.bk
  have hd : N2.dirty = false:=hN2.di
  by_cases q2 : chfE l o = 0
  ·cases q3 : chfB l o
   ·rw [if_neg (by simp [q2,q3])] at k
    simp (maxSteps:=2000000) (disch:=first | omega | assumption | (simp only [DS,Nat.reduceAdd, *]; done) | (simp only [DZ]; omega)) only [RUN,RU,zA2,zA1,zA0,zAA,reduceIte,Nat.reduceEqDiff,Nat.reduceBEq,Nat.reduceAdd,hd,q2]
    exact k _ k2
   ·rw [if_pos ⟨q2,q3⟩] at k
    simp (maxSteps:=2000000) (disch:=first | omega | assumption | (simp only [DS,Nat.reduceAdd, *]; done) | (simp only [DZ]; omega)) only [RUN,RU,zA2,zA1,zA0,zAA,reduceIte,Nat.reduceEqDiff,Nat.reduceBEq,Nat.reduceAdd,hd,q2]
    exact k _ k2
  ·rw [if_neg (by simp [q2])] at k
   have q2' : decide (chfE l o = 0) = false:=decide_eq_false q2
   simp (maxSteps:=2000000) (disch:=first | omega | assumption | (simp only [DS,Nat.reduceAdd, *]; done) | (simp only [DZ]; omega)) only [RUN,RU,zA2,zA1,zA0,zAA,reduceIte,Nat.reduceEqDiff,Nat.reduceBEq,Nat.reduceAdd,hd,q2']
   exact k _ k2
end Go.Proofs.YtebloodpblgncaaGreat
namespace Go.Proofs.YtebloodpblgncaaGreat
open Go Go.Ax
variable {fuel : Nat} {M : Mem} {Q : AV → Mem → Prop} {d : Nat} {x : Eid} {l : List Op} {o : Op} {ra ops : AV} {B id m : Nat}
theorem zZ9 {bh : Nat} (hH : IsHist M B id m ops l) (wf : Wf M) (hb : M.get bh = some (.row false [.ptr id 0])) (k : ∀ N,Kept M N → Q (BL (decide (x ∈ zAP l))) N) :
  W3 (zAE Tryz.prog (fsT tbl) fuel (d + 1) (.fn 106) [idA x,.ptr bh 0] M) Q:=by
 have lb:=Mem.get_lt hb
 have hg:=hH.hg
 have li:=Mem.get_lt hg
 obtain ⟨obj,mg,hset⟩:=hH.mg
 have lm:=Mem.get_lt mg
 have mg2 : (M.add (.row false (idR x))).get m = some obj:=by
  rw [zAF wf _ _ lm]; exact mg
 have hlk:=zPH zKM (z:=.bool false) mg2 hset x
 rw [zZI] at hlk
 have one_mp : oneA (.mp m) = true:=rfl
 refine zB7 tf106 rfl (by simp [a106]) fun b' ht hx=>?_
 have h0:=hx 0 _ rfl
 have h1:=hx 1 _ rfl
 clear hx
 simp only [a106,c106,zzm] at ht ⊢
 simp (maxSteps:=2000000) (disch:=first | omega | assumption | (simp only [DS,Nat.reduceAdd, *]; done) | (simp only [DZ]; omega)) only [RUN,RU,zA2,zA1,zA0,zAA,slot,reduceIte,Nat.reduceEqDiff,Nat.reduceBEq,Nat.reduceAdd,h0,h1,hb,hg,x_lk,hlk]
 exact k _ ((Kept.refl wf).add _)
def insE (l : List Op) (o : Op) : Int :=
 if o.af ≠ Eid.z ∧ zEV l o o.af = false then 6
 else if rofE o ≠ 0 ∨ (o.sp.ids.any fun x=>decide (x ∈ zAP l)) = true then 2
 else if 8192 < ((zAP l).length : Int) + o.sp.n then 4 else 0
theorem zUI {o : Op} {r : AV} (h : rofK o r) : ∃ rn ra,r = .tup [.agg (rnR rn ra),I64 (rofE o)] ∧ oneA ra = true ∧ cellsA ra = [ra]:=by
 unfold rofK at h
 split at h
 ·rename_i h0
  obtain ⟨ra,rfl,hr⟩:=h
  exact ⟨_,ra,by rw [h0],hr.one,hr.cells⟩
 ·exact ⟨⟨⟨Eid.z,0⟩,Eid.z,[]⟩,NIL,h,rfl,rfl⟩
set_option maxHeartbeats 8000000 in
theorem zWZ (hH : IsHist M B id m ops l) (htl : (zAP l).length ≤ 1000000) (hR : Sl 1 zB2 ra o.rs) (ho : o.ok) (hm : o.may = true) (hf : 300 < fuel) (wf : Wf M) (hw : M.wm ≤ M.size) (k : ∀ N,Kept M N → Q (I64 (insE l o)) N) :
  W3 (zAE Tryz.prog (fsT tbl) fuel (d + 9) (.fn 77) [.ptr id 0,.agg (opR o ra)] M) Q:=by
 have ora:=hR.one
 have li:=Mem.get_lt hH.hg
 have hb:=Spn.may_le (may_sp hm)
 obtain ⟨r,hr,hn⟩:=zI9 (fuel:=fuel) (d:=d + 2) ho.2.2.2.1 (may_sp hm) (by omega)
 obtain ⟨rr,hk,hof⟩:=zMT (fuel:=fuel) (d:=d) hR ho (by omega)
 obtain ⟨rn,r2,rfl,o2,c2⟩:=zUI hk
 have il:=zKN o.sp
 have kA:=((Kept.refl wf).add (.row false [.ptr id 0])).add (.row false (opR o ra))
 have wA:=kA.wf
 have gA : ((M.add (.row false [.ptr id 0])).add (.row false (opR o ra))).get M.size = some (.row false [.ptr id 0]):=by simp (maxSteps:=2000000) (disch:=first | omega | assumption | (simp only [DS,Nat.reduceAdd, *]; done) | (simp only [DZ]; omega)) only [RUN]
 have gB : ((M.add (.row false [.ptr id 0])).add (.row false (opR o ra))).get (M.size + 1) = some (.row false (opR o ra)):=by simp (maxSteps:=2000000) (disch:=first | omega | assumption | (simp only [DS,Nat.reduceAdd, *]; done) | (simp only [DZ]; omega)) only [RUN]
 have sA : ((M.add (.row false [.ptr id 0])).add (.row false (opR o ra))).size = M.size + 2:=rfl
 unfold insE at k
 refine zB7 tf77 rfl (by simp [a77]) fun b' ht hx=>?_
 have h0:=hx 0 _ rfl
 have h1:=hx 1 _ rfl
 clear hx
 simp only [a77,c77,zz1,zz3,zzm] at ht ⊢
 cases qz : decide (o.af = Eid.z) with
 | false =>
  simp (maxSteps:=2000000) (disch:=first | omega | assumption | (simp only [DS,Nat.reduceAdd, *]; done) | (simp only [DZ]; omega)) only [RUN,RU,zA2,zA1,slot,zAI,reduceIte,Nat.reduceEqDiff,h0,h1,↓pIdN,zBC,ETA,qz]
  generalize (M.add (.row false [.ptr id 0])).add (.row false (opR o ra)) = X at *
  refine zZU (d:=d + 6) (B:=B) (m:=m) (ops:=ops) (hH.keep fun j hj=>kA.get j hj) hR wA (by rw [kA.wm]; omega) fun N hN=>?_
  cases qs : zEV l o o.af with
  | false =>
   rw [if_pos ⟨of_decide_eq_false qz,qs⟩] at k
   simp (maxSteps:=2000000) (disch:=first | omega | assumption | (simp only [DS,Nat.reduceAdd, *]; done) | (simp only [DZ]; omega)) only [RUN,RU,zA2,zA1,zA0,zAA,reduceIte,Nat.reduceEqDiff]
   exact k _ (kA.trans hN)
  | true =>
   rw [if_neg (by simp [qs])] at k
   have wN:=hN.wf
   have g0:=(hN.get M.size (by omega)).trans gA
   have g1:=(hN.get (M.size + 1) (by omega)).trans gB
   have kN:=kA.trans hN
   have l0:=Mem.get_lt g0
   have l1:=Mem.get_lt g1
   simp (maxSteps:=2000000) (disch:=first | omega | assumption | (simp only [DS,Nat.reduceAdd, *]; done) | (simp only [DZ]; omega)) only [RUN,RU,zA2,zA1,slot,lay,reduceIte,Nat.reduceEqDiff,Nat.reduceAdd,g1,hof]
   by_cases q1 : rofE o = 0
   ·have k2:=(kN.add (.row false (rnR ⟨⟨Eid.z,0⟩,Eid.z,[]⟩ NIL))).upd hw kN.le (.row false (rnR rn r2))
    have z0 : ((N.add (.row false (rnR ⟨⟨Eid.z,0⟩,Eid.z,[]⟩ NIL))).upd N.size (.row false (rnR rn r2))).get M.size = some (.row false [.ptr id 0]):=by
     rw [zA4 (wN.add _) _ _ _ (by omega),zAF wN _ _ l0]; exact g0
    have z1 : ((N.add (.row false (rnR ⟨⟨Eid.z,0⟩,Eid.z,[]⟩ NIL))).upd N.size (.row false (rnR rn r2))).get (M.size + 1) = some (.row false (opR o ra)):=by
     rw [zA4 (wN.add _) _ _ _ (by omega),zAF wN _ _ l1]; exact g1
    have q1' : decide (rofE o = 0) = true:=decide_eq_true q1
    simp (maxSteps:=2000000) (disch:=first | omega | assumption | (simp only [DS,Nat.reduceAdd, *]; done) | (simp only [DZ]; omega)) only [RUN,RU,zA2,zA1,slot,reduceIte,Nat.reduceEqDiff,g1,q1',hn]
    generalize ((N.add (.row false (rnR ⟨⟨Eid.z,0⟩,Eid.z,[]⟩ NIL))).upd N.size (.row false (rnR rn r2))) = X2 at *
    have w2:=k2.wf
    have s2:=k2.le
    have hH2 : IsHist X2 B id m ops l:=hH.keep fun j hj=>k2.get j hj
    have m0:=Mem.get_lt z0
    refine zT7 (st:=4) (ag:=true) (n:=d + 6) (first:=[]) (cap:=[.ptr M.size 0]) tf105 tf120 (by simp) zLV hr (by omega) (by omega) (p:=fun x=>decide (x ∈ zAP l)) w2 (fun n hn=>by simp (maxSteps:=2000000) (disch:=first | omega | assumption | (simp only [DS,Nat.reduceAdd, *]; done) | (simp only [DZ]; omega)) only [RUN,RU]) (fun r x hr _ N Q' hk hQ=>?_) fun N3 h3=>?_
    ·obtain ⟨rfl,_⟩:=hr
     refine zZ9 (d:=d + 5) (B:=B) (m:=m) (ops:=ops) (hH2.keep fun j hj=>hk.get j hj) hk.wf ((hk.get _ m0).trans z0) fun N' hk'=>hQ N' (hk.trans hk')
    ·have k3:=k2.trans h3
     have y0:=(h3.get _ m0).trans z0
     have y1:=(h3.get _ (Mem.get_lt z1)).trans z1
     have w3:=h3.wf
     have hH3 : IsHist N3 B id m ops l:=hH.keep fun j hj=>k3.get j hj
     have hg3:=hH3.hg
     have li3:=Mem.get_lt hg3
     have n0:=Mem.get_lt y0
     have n1:=Mem.get_lt y1
     obtain ⟨obj,mg,hset⟩:=hH3.mg
     have lm:=Mem.get_lt mg
     have hml:=zZM mg hset
     cases q2 : o.sp.ids.any fun x=>decide (x ∈ zAP l) with
     | true =>
      rw [if_pos (.inr q2)] at k
      simp (maxSteps:=2000000) (disch:=first | omega | assumption | (simp only [DS,Nat.reduceAdd, *]; done) | (simp only [DZ]; omega)) only [RUN,RU,zA2,zA1,zA0,zAA,reduceIte,Nat.reduceEqDiff]
      exact k _ k3
     | false =>
      rw [if_neg (by simp [q1,q2])] at k
      have w1 : IntKind.i64.wrap (((zAP l).length : Int) + o.sp.n) = ((zAP l).length : Int) + o.sp.n:=wrap_i64 (by omega) (by omega)
      by_cases q3 : 8192 < ((zAP l).length : Int) + o.sp.n
      ·rw [if_pos q3] at k
       have q3':=decide_eq_true q3
       simp (maxSteps:=2000000) (disch:=first | omega | assumption | (simp only [DS,Nat.reduceAdd, *]; done) | (simp only [DZ]; omega)) only [RUN,RU,zA2,zA1,zA0,zAA,reduceIte,Nat.reduceEqDiff,Nat.reduceBEq,Nat.reduceAdd,y0,y1,hg3,x_ml,hml,w1,q3']
       exact k _ k3
      ·rw [if_neg q3] at k
       have q3':=decide_eq_false q3
       simp (maxSteps:=2000000) (disch:=first | omega | assumption | (simp only [DS,Nat.reduceAdd, *]; done) | (simp only [DZ]; omega)) only [RUN,RU,zA2,zA1,zA0,zAA,reduceIte,Nat.reduceEqDiff,Nat.reduceBEq,Nat.reduceAdd,y0,y1,hg3,x_ml,hml,w1,q3']
       exact k _ k3
   ·have q1' : decide (rofE o = 0) = false:=decide_eq_false q1
    rw [if_pos (.inl q1)] at k
    simp (maxSteps:=2000000) (disch:=first | omega | assumption | (simp only [DS,Nat.reduceAdd, *]; done) | (simp only [DZ]; omega)) only [RUN,RU,zA2,zA1,zA0,zAA,reduceIte,Nat.reduceEqDiff,q1']
    exact k _ ((kN.add _).upd hw kN.le _)
 | true =>
  rw [if_neg (fun h=>h.1 (of_decide_eq_true qz))] at k
  simp (maxSteps:=2000000) (disch:=first | omega | assumption | (simp only [DS,Nat.reduceAdd, *]; done) | (simp only [DZ]; omega)) only [RUN,RU,zA2,zA1,slot,zAI,reduceIte,Nat.reduceEqDiff,h0,h1,↓pIdN,zBC,ETA,qz]
  generalize (M.add (.row false [.ptr id 0])).add (.row false (opR o ra)) = N at *
  have wN:=wA
  have g0:=gA
  have g1:=gB
  have kN:=kA
  have qs:=qz
  have l0:=Mem.get_lt g0
  have l1:=Mem.get_lt g1
  simp (maxSteps:=2000000) (disch:=first | omega | assumption | (simp only [DS,Nat.reduceAdd, *]; done) | (simp only [DZ]; omega)) only [RUN,RU,zA2,zA1,lay,reduceIte,Nat.reduceEqDiff,Nat.reduceAdd,hof]
  by_cases q1 : rofE o = 0
  ·have k2:=(kN.add (.row false (rnR ⟨⟨Eid.z,0⟩,Eid.z,[]⟩ NIL))).upd hw kN.le (.row false (rnR rn r2))
   have z0 : ((N.add (.row false (rnR ⟨⟨Eid.z,0⟩,Eid.z,[]⟩ NIL))).upd N.size (.row false (rnR rn r2))).get M.size = some (.row false [.ptr id 0]):=by
    rw [zA4 (wN.add _) _ _ _ (by omega),zAF wN _ _ l0]; exact g0
   have z1 : ((N.add (.row false (rnR ⟨⟨Eid.z,0⟩,Eid.z,[]⟩ NIL))).upd N.size (.row false (rnR rn r2))).get (M.size + 1) = some (.row false (opR o ra)):=by
    rw [zA4 (wN.add _) _ _ _ (by omega),zAF wN _ _ l1]; exact g1
   have q1' : decide (rofE o = 0) = true:=decide_eq_true q1
   simp (maxSteps:=2000000) (disch:=first | omega | assumption | (simp only [DS,Nat.reduceAdd, *]; done) | (simp only [DZ]; omega)) only [RUN,RU,zA2,zA1,slot,reduceIte,Nat.reduceEqDiff,g1,q1',hn]
   generalize ((N.add (.row false (rnR ⟨⟨Eid.z,0⟩,Eid.z,[]⟩ NIL))).upd N.size (.row false (rnR rn r2))) = X2 at *
   have w2:=k2.wf
   have s2:=k2.le
   have hH2 : IsHist X2 B id m ops l:=hH.keep fun j hj=>k2.get j hj
   have m0:=Mem.get_lt z0
   refine zT7 (st:=4) (ag:=true) (n:=d + 6) (first:=[]) (cap:=[.ptr M.size 0]) tf105 tf120 (by simp) zLV hr (by omega) (by omega) (p:=fun x=>decide (x ∈ zAP l)) w2 (fun n hn=>by simp (maxSteps:=2000000) (disch:=first | omega | assumption | (simp only [DS,Nat.reduceAdd, *]; done) | (simp only [DZ]; omega)) only [RUN,RU]) (fun r x hr _ N Q' hk hQ=>?_) fun N3 h3=>?_
   ·obtain ⟨rfl,_⟩:=hr
    refine zZ9 (d:=d + 5) (B:=B) (m:=m) (ops:=ops) (hH2.keep fun j hj=>hk.get j hj) hk.wf ((hk.get _ m0).trans z0) fun N' hk'=>hQ N' (hk.trans hk')
   ·have k3:=k2.trans h3
    have y0:=(h3.get _ m0).trans z0
    have y1:=(h3.get _ (Mem.get_lt z1)).trans z1
    have w3:=h3.wf
    have hH3 : IsHist N3 B id m ops l:=hH.keep fun j hj=>k3.get j hj
    have hg3:=hH3.hg
    have li3:=Mem.get_lt hg3
    have n0:=Mem.get_lt y0
    have n1:=Mem.get_lt y1
    obtain ⟨obj,mg,hset⟩:=hH3.mg
    have lm:=Mem.get_lt mg
    have hml:=zZM mg hset
    cases q2 : o.sp.ids.any fun x=>decide (x ∈ zAP l) with
    | true =>
     rw [if_pos (.inr q2)] at k
     simp (maxSteps:=2000000) (disch:=first | omega | assumption | (simp only [DS,Nat.reduceAdd, *]; done) | (simp only [DZ]; omega)) only [RUN,RU,zA2,zA1,zA0,zAA,reduceIte,Nat.reduceEqDiff]
     exact k _ k3
    | false =>
     rw [if_neg (by simp [q1,q2])] at k
     have w1 : IntKind.i64.wrap (((zAP l).length : Int) + o.sp.n) = ((zAP l).length : Int) + o.sp.n:=wrap_i64 (by omega) (by omega)
     by_cases q3 : 8192 < ((zAP l).length : Int) + o.sp.n
     ·rw [if_pos q3] at k
      have q3':=decide_eq_true q3
      simp (maxSteps:=2000000) (disch:=first | omega | assumption | (simp only [DS,Nat.reduceAdd, *]; done) | (simp only [DZ]; omega)) only [RUN,RU,zA2,zA1,zA0,zAA,reduceIte,Nat.reduceEqDiff,Nat.reduceBEq,Nat.reduceAdd,y0,y1,hg3,x_ml,hml,w1,q3']
      exact k _ k3
     ·rw [if_neg q3] at k
      have q3':=decide_eq_false q3
      simp (maxSteps:=2000000) (disch:=first | omega | assumption | (simp only [DS,Nat.reduceAdd, *]; done) | (simp only [DZ]; omega)) only [RUN,RU,zA2,zA1,zA0,zAA,reduceIte,Nat.reduceEqDiff,Nat.reduceBEq,Nat.reduceAdd,y0,y1,hg3,x_ml,hml,w1,q3']
      exact k _ k3
  ·have q1' : decide (rofE o = 0) = false:=decide_eq_false q1
   rw [if_pos (.inl q1)] at k
   simp (maxSteps:=2000000) (disch:=first | omega | assumption | (simp only [DS,Nat.reduceAdd, *]; done) | (simp only [DZ]; omega)) only [RUN,RU,zA2,zA1,zA0,zAA,reduceIte,Nat.reduceEqDiff,q1']
   exact k _ ((kN.add _).upd hw kN.le _)
end Go.Proofs.YtebloodpblgncaaGreat
namespace Go.Proofs.YtebloodpblgncaaGreat
open Go Go.Ax
variable {fuel : Nat} {M : Mem} {Q : AV → Mem → Prop} {d : Nat} {x : Eid} {l : List Op} {o : Op} {ra ops : AV} {B id m : Nat}
def zDQ (l : List Op) (o : Op) : Int:=if o.kd = 1 then insE l o else if o.kd = 2 then remE l o else raiE l o
def fitE (l : List Op) (o : Op) : Int:=if zDQ l o = 0 then (if 2048 ≤ l.length then 4 else 0) else zDQ l o
theorem ze1 {o : Op} (h : o.may = true) (ho : o.ok) : o.kd = 1 ∨ o.kd = 2 ∨ o.kd = 3:=by
 unfold Op.may at h
 simp only [Bool.and_eq_true,Bool.not_eq_true',decide_eq_false_iff_not] at h
 have:=ho.1
 omega
set_option maxHeartbeats 8000000 in
theorem zYY (hH : IsHist M B id m ops l) (htl : (zAP l).length ≤ 1000000) (hl : l.length ≤ 40000) (hR : Sl 1 zB2 ra o.rs) (ho : o.ok) (hm : o.may = true) (hf : l.length + 300 < fuel) (wf : Wf M) (hw : M.wm ≤ M.size) (k : ∀ N,Kept M N → Q (I64 (fitE l o)) N) :
  W3 (zAE Tryz.prog (fsT tbl) fuel (d + 12) (.fn 51) [.ptr id 0,.agg (opR o ra)] M) Q:=by
 have ora:=hR.one
 have li:=Mem.get_lt hH.hg
 have wA:=wf.add (.row false (opR o ra))
 have gA : (M.add (.row false (opR o ra))).get M.size = some (.row false (opR o ra)):=zAH wf _ _ (Nat.le_refl _) (Nat.lt_succ_self _)
 have hHA : IsHist (M.add (.row false (opR o ra))).lo B id m ops l:=hH.keep fun j hj=>zAF wf _ _ hj
 have onf : oneA (.sc .nilFunc) = true:=rfl
 have tail : ∀ N2,Kept (M.add (.row false (opR o ra))).lo N2 → True:=fun _ _=>trivial
 clear tail
 have done : ∀ N2,Kept (M.add (.row false (opR o ra))).lo N2 → Kept M ((M.add (.row false (opR o ra))).bk N2):=fun N2 h=>((Kept.refl wf).add _).trans h.bk
 have kq : ∀ N2,Kept (M.add (.row false (opR o ra))).lo N2 → IsHist ((M.add (.row false (opR o ra))).bk N2) B id m ops l:=fun N2 h=>hH.keep fun j hj=>(done N2 h).get j hj
 unfold fitE at k
 refine zB7 tf51 rfl (by simp [a51]) fun b' ht hx=>?_
 have h0:=hx 0 _ rfl
 have h1:=hx 1 _ rfl
 clear hx
 simp only [a51,c51,zzm,zzg] at ht ⊢
 have hw' : (M.add (.row false (opR o ra))).lo.wm ≤ (M.add (.row false (opR o ra))).lo.size:=Nat.le_refl _
 rcases ze1 hm ho with hk | hk | hk
 ·have n1 : zDC (U8 o.kd) = some 1:=by rw [hk]; rfl
  have ep : zDQ l o = insE l o:=by unfold zDQ; rw [if_pos hk]
  rw [ep] at k
  simp (maxSteps:=2000000) (disch:=first | omega | assumption | (simp only [DS,Nat.reduceAdd, *]; done) | (simp only [DZ]; omega)) only [RUN,RU,zA2,zA1,slot,lay,zAI,reduceIte,Nat.reduceEqDiff,Nat.reduceBEq,Nat.reduceAdd,Nat.reduceMul,h0,h1,n1,zRJ,zGO]
  refine zWZ (d:=d + 2) hHA htl hR ho hm (by omega) wA hw' fun N2 hN2=>?_
  have hd : N2.dirty = false:=hN2.di
  have hq:=kq N2 hN2
  have kN:=done N2 hN2
  have hg : N2.get id = some (.row false [ops,.mp m]):=hq.hg
  have lg : id < N2.size:=Mem.get_lt hg
  have ll:=hq.sm.len
  by_cases q1 : insE l o = 0
  ·rw [if_pos q1] at k
   have q1' : decide (insE l o = 0) = true:=decide_eq_true q1
   by_cases q2 : 2048 ≤ l.length
   ·rw [if_pos q2] at k
    have q2' : decide ((2048 : Int) ≤ l.length) = true:=decide_eq_true (by omega)
    simp (maxSteps:=2000000) (disch:=first | omega | assumption | (simp only [DS,Nat.reduceAdd, *]; done) | (simp only [DZ]; omega)) only [RUN,RU,zA2,zA1,zA0,zAA,reduceIte,Nat.reduceEqDiff,Nat.reduceAdd,h0,hd,q1',hg,ll,q2']
    exact k _ kN
   ·rw [if_neg q2] at k
    have q2' : decide ((2048 : Int) ≤ l.length) = false:=decide_eq_false (by omega)
    simp (maxSteps:=2000000) (disch:=first | omega | assumption | (simp only [DS,Nat.reduceAdd, *]; done) | (simp only [DZ]; omega)) only [RUN,RU,zA2,zA1,zA0,zAA,reduceIte,Nat.reduceEqDiff,Nat.reduceAdd,h0,hd,hg,ll,q2',q1]
    exact k _ kN
  ·rw [if_neg q1] at k
   have q1' : decide (insE l o = 0) = false:=decide_eq_false q1
   simp (maxSteps:=2000000) (disch:=first | omega | assumption | (simp only [DS,Nat.reduceAdd, *]; done) | (simp only [DZ]; omega)) only [RUN,RU,zA2,zA1,zA0,zAA,reduceIte,Nat.reduceEqDiff,Nat.reduceAdd,hd,q1']
   exact k _ kN
 ·have n1 : zDC (U8 o.kd) = some 2:=by rw [hk]; rfl
  have ep : zDQ l o = remE l o:=by unfold zDQ; rw [if_neg (by omega),if_pos hk]
  rw [ep] at k
  simp (maxSteps:=2000000) (disch:=first | omega | assumption | (simp only [DS,Nat.reduceAdd, *]; done) | (simp only [DZ]; omega)) only [RUN,RU,zA2,zA1,slot,lay,zAI,reduceIte,Nat.reduceEqDiff,Nat.reduceBEq,Nat.reduceAdd,Nat.reduceMul,h0,h1,n1,zRJ,zGO]
  refine zY5 (d:=d + 3) hHA hR ho hm (by omega) wA hw' fun N2 hN2=>?_
  have hd : N2.dirty = false:=hN2.di
  have hq:=kq N2 hN2
  have kN:=done N2 hN2
  have hg : N2.get id = some (.row false [ops,.mp m]):=hq.hg
  have lg : id < N2.size:=Mem.get_lt hg
  have ll:=hq.sm.len
  by_cases q1 : remE l o = 0
  ·rw [if_pos q1] at k
   have q1' : decide (remE l o = 0) = true:=decide_eq_true q1
   by_cases q2 : 2048 ≤ l.length
   ·rw [if_pos q2] at k
    have q2' : decide ((2048 : Int) ≤ l.length) = true:=decide_eq_true (by omega)
    simp (maxSteps:=2000000) (disch:=first | omega | assumption | (simp only [DS,Nat.reduceAdd, *]; done) | (simp only [DZ]; omega)) only [RUN,RU,zA2,zA1,zA0,zAA,reduceIte,Nat.reduceEqDiff,Nat.reduceAdd,h0,hd,q1',hg,ll,q2']
    exact k _ kN
   ·rw [if_neg q2] at k
    have q2' : decide ((2048 : Int) ≤ l.length) = false:=decide_eq_false (by omega)
    simp (maxSteps:=2000000) (disch:=first | omega | assumption | (simp only [DS,Nat.reduceAdd, *]; done) | (simp only [DZ]; omega)) only [RUN,RU,zA2,zA1,zA0,zAA,reduceIte,Nat.reduceEqDiff,Nat.reduceAdd,h0,hd,hg,ll,q2',q1]
    exact k _ kN
  ·rw [if_neg q1] at k
   have q1' : decide (remE l o = 0) = false:=decide_eq_false q1
   simp (maxSteps:=2000000) (disch:=first | omega | assumption | (simp only [DS,Nat.reduceAdd, *]; done) | (simp only [DZ]; omega)) only [RUN,RU,zA2,zA1,zA0,zAA,reduceIte,Nat.reduceEqDiff,Nat.reduceAdd,hd,q1']
   exact k _ kN
 ·have n1 : zDC (U8 o.kd) = some 3:=by rw [hk]; rfl
  have ep : zDQ l o = raiE l o:=by unfold zDQ; rw [if_neg (by omega),if_neg (by omega)]
  rw [ep] at k
  simp (maxSteps:=2000000) (disch:=first | omega | assumption | (simp only [DS,Nat.reduceAdd, *]; done) | (simp only [DZ]; omega)) only [RUN,RU,zA2,zA1,slot,lay,zAI,reduceIte,Nat.reduceEqDiff,Nat.reduceBEq,Nat.reduceAdd,Nat.reduceMul,h0,h1,n1,zRJ,zGO]
  refine zbV (d:=d) hHA hl hR ho hm (by omega) wA hw' fun N2 hN2=>?_
  have hd : N2.dirty = false:=hN2.di
  have hq:=kq N2 hN2
  have kN:=done N2 hN2
  have hg : N2.get id = some (.row false [ops,.mp m]):=hq.hg
  have lg : id < N2.size:=Mem.get_lt hg
  have ll:=hq.sm.len
  by_cases q1 : raiE l o = 0
  ·rw [if_pos q1] at k
   have q1' : decide (raiE l o = 0) = true:=decide_eq_true q1
   by_cases q2 : 2048 ≤ l.length
   ·rw [if_pos q2] at k
    have q2' : decide ((2048 : Int) ≤ l.length) = true:=decide_eq_true (by omega)
    simp (maxSteps:=2000000) (disch:=first | omega | assumption | (simp only [DS,Nat.reduceAdd, *]; done) | (simp only [DZ]; omega)) only [RUN,RU,zA2,zA1,zA0,zAA,reduceIte,Nat.reduceEqDiff,Nat.reduceAdd,h0,hd,q1',hg,ll,q2']
    exact k _ kN
   ·rw [if_neg q2] at k
    have q2' : decide ((2048 : Int) ≤ l.length) = false:=decide_eq_false (by omega)
    simp (maxSteps:=2000000) (disch:=first | omega | assumption | (simp only [DS,Nat.reduceAdd, *]; done) | (simp only [DZ]; omega)) only [RUN,RU,zA2,zA1,zA0,zAA,reduceIte,Nat.reduceEqDiff,Nat.reduceAdd,h0,hd,hg,ll,q2',q1]
    exact k _ kN
  ·rw [if_neg q1] at k
   have q1' : decide (raiE l o = 0) = false:=decide_eq_false q1
   simp (maxSteps:=2000000) (disch:=first | omega | assumption | (simp only [DS,Nat.reduceAdd, *]; done) | (simp only [DZ]; omega)) only [RUN,RU,zA2,zA1,zA0,zAA,reduceIte,Nat.reduceEqDiff,Nat.reduceAdd,hd,q1']
   exact k _ kN
end Go.Proofs.YtebloodpblgncaaGreat
namespace Go.Proofs.YtebloodpblgncaaGreat
open Go Go.Ax
variable {fuel : Nat} {M : Mem} {Q : AV → Mem → Prop} {d : Nat} {x : Eid} {l : List Op} {o : Op} {ra ops a : AV} {B id m : Nat}
def zAR : List Op → List Op → Bool
 | _,[]=>true
 | pre,o :: l=>o.may && decide (fitE pre o = 0) && zAR (pre ++ [o]) l
theorem zSU {pre : List Op} {o : Op} (h : fitE pre o = 0) (hk : o.kd = 1) : ∀ x ∈ o.sp.ids,x ∉ zAP pre:=by
 have h1 : zDQ pre o = 0:=by
  unfold fitE at h
  split at h
  ·assumption
  ·exact h
 unfold zDQ at h1
 rw [if_pos hk] at h1
 unfold insE at h1
 intro x hx hin
 split at h1
 ·cases h1
 ·split at h1
  ·cases h1
  ·rename_i h2
   exact h2 (.inr (List.any_eq_true.2 ⟨x,hx,decide_eq_true hin⟩))
theorem zJT (l : List Op) (o : Op) : zAP (l ++ [o]) = zAP l ++ (if o.kd = 1 then o.sp.ids else []):=by
 unfold zAP
 rw [List.flatMap_append]
 simp
structure HS (N : Mem) (B id m : Nat) (ops : AV) (l : List Op) (S : List Eid) : Prop where
 hg : N.get id = some (.row false [ops,.mp m])
 sm : SlM N 17 isOp ops l
 mg : ∃ obj,N.get m = some obj ∧ zHL idA (BL true) obj S
 ib : B ≤ id
 mb : B ≤ m
 ob : ∀ j,rowOf ops = some j → B ≤ j
 ne : id ≠ m
 n1 : rowOf ops ≠ some id
 n2 : rowOf ops ≠ some m
theorem HS.keep {N : Mem} {S : List Eid} (h : HS M B id m ops l S) (k : ∀ j,j < M.size → N.get j = M.get j) : HS N B id m ops l S:=by
 obtain ⟨obj,h1,h2⟩:=h.mg
 exact ⟨(k _ (Mem.get_lt h.hg)).trans h.hg,h.sm.keep fun j hj=>k j (h.sm.lt j hj),⟨obj,(k _ (Mem.get_lt h1)).trans h1,h2⟩,h.ib,h.mb,h.ob,h.ne,h.n1,h.n2⟩
theorem HS.of (h : IsHist M B id m ops l) : HS M B id m ops l (zAP l):=⟨h.hg,h.sm,h.mg,h.ib,h.mb,h.ob,h.ne,h.n1,h.n2⟩
theorem HS.to {S : List Eid} (h : HS M B id m ops l S) (e : S = zAP l) : IsHist M B id m ops l:=by
 subst e; exact ⟨h.hg,h.sm,h.mg,h.ib,h.mb,h.ob,h.ne,h.n1,h.n2⟩
set_option maxHeartbeats 8000000 in
theorem of_0 (hS : Sl 17 isOp a l) (hl : l.length ≤ 10000) (hf : l.length + 400 < fuel) (wf : Wf M) (hw : M.wm ≤ M.size)
  (kf : ∀ N,Wf N → M.size ≤ N.size → (∀ j,j < M.size → N.get j = M.get j) → zAR [] l = false → Q (.tup [.sc (.pointer none),BL false]) N)
  (kt : ∀ N ops,Wf N → M.size + 2 ≤ N.size → N.wm = M.wm → (∀ j,j < M.size → N.get j = M.get j) → zAR [] l = true → IsHist N M.size (M.size + 1) M.size ops l → (zAP l).length ≤ 64 * l.length → Q (.tup [.ptr (M.size + 1) 0,BL true]) N) :
  W3 (zAE Tryz.prog (fsT tbl) fuel (d + 13) (.fn 49) [a] M) Q:=by
 have ll:=hS.len
 have one_mp : oneA (.mp M.size) = true:=rfl
 have cmp : cellsA (.mp M.size) = [.mp M.size]:=rfl
 refine zB7 tf49 rfl (by simp [a49]) fun b' ht hx=>?_
 have h0:=hx 0 _ rfl
 clear hx
 simp only [a49,c49,zz3,zz5,zzm] at ht ⊢
 have hH0 : IsHist ((M.add (.map [] 0)).add (.row false [NIL,.mp M.size])) M.size (M.size + 1) M.size NIL []:=⟨by simp (maxSteps:=2000000) (disch:=first | omega | assumption | (simp only [DS,Nat.reduceAdd, *]; done) | (simp only [DZ]; omega)) only [RUN],SlM.nil,⟨.map [] 0,by simp (maxSteps:=2000000) (disch:=first | omega | assumption | (simp only [DS,Nat.reduceAdd, *]; done) | (simp only [DZ]; omega)) only [RUN],zHL.nil _ _⟩,by omega,by omega,fun j hj=>(by cases hj),by omega,fun hj=>(by cases hj),fun hj=>(by cases hj)⟩
 simp (maxSteps:=2000000) (disch:=first | omega | assumption | (simp only [DS,Nat.reduceAdd, *]; done) | (simp only [DZ]; omega)) only [RUN,RU,zA2,zA1,lay,zAI,reduceIte,Nat.reduceEqDiff,Nat.reduceBEq,Nat.reduceAdd,h0,ll,zV8,cmp]
 refine zBF (I:=fun n t N => ∃ (i : Nat) (ops : AV),n = l.length - i ∧ i ≤ l.length ∧ nth zA6 t 4 = .ptr (M.size + 1) 0 ∧ nth zA6 t 12 = a ∧ nth zA6 t 13 = I64 l.length ∧ nth zA6 t 14 = I64 i ∧ Wf N ∧ M.size + 2 ≤ N.size ∧ N.wm = M.wm ∧ (∀ j,j < M.size → N.get j = M.get j) ∧ IsHist N M.size (M.size + 1) M.size ops (l.take i) ∧ zAR [] l = zAR (l.take i) (l.drop i) ∧ (zAP (l.take i)).length ≤ 64 * i) (n:=l.length) (by omega) ?_ ?_
 ·refine ⟨0,NIL,rfl,Nat.zero_le _, ?_, ?_, ?_, ?_,(wf.add _).add _,by simp only [zA7]; omega,rfl,fun j hj=>by rw [zAF (wf.add _) _ _ (by rw [zA7]; omega),zAF wf _ _ hj],hH0,rfl,Nat.le_refl 0⟩ <;> simp (maxSteps:=2000000) (disch:=first | omega | assumption | (simp only [DS,Nat.reduceAdd, *]; done) | (simp only [DZ]; omega)) only [RUN,reduceIte,Nat.reduceEqDiff]
  all_goals first | rfl | assumption | done
 ·rintro n t N hlt ⟨i,ops,rfl,hi,g4,g12,g13,g14,w,sz,wm,kp,hH,inv,tl⟩
  simp only [ht] at hlt ⊢
  by_cases hc : i < l.length
  ·have q2 : decide ((i : Int) < l.length) = true:=decide_eq_true (by omega)
   have w1 : IntKind.i64.wrap ((i : Int) + 1) = ((i + 1 : Nat) : Int):=by rw [wrap_i64] <;> omega
   obtain ⟨r,hiad,hr,hrl⟩:=hS.iad i hc
   rw [drop_step l i hc,zAR,← take_snoc l i hc] at inv
   have hts:=zJT (l.take i) l[i]
   have hsn:=take_snoc l i hc
   rw [← hsn] at hts
   generalize l[i] = e at *
   obtain ⟨ra,rfl,hra,hok⟩:=hr
   have ora:=hra.one
   have hck:=fun M=>@zDE fuel (d + 5) e ra hra hok (by omega) M
   cases hm : e.may with
   | false =>
    rw [hm] at hck
    simp only [hm,Bool.false_and] at inv
    simp (maxSteps:=2000000) (disch:=first | omega | assumption | (simp only [DS,Nat.reduceAdd, *]; done) | (simp only [DZ]; omega)) only [RUN,RU,zA2,zA1,zA0,zAA,slot,lay,reduceIte,Nat.reduceEqDiff,Nat.reduceAdd,Int.reduceEq,g12,g13,g14,q2,hiad,hck,zBE]
    exact kf _ ((w.add _).upd _ _) (by simp only [zAC,zA7]; omega) (fun j hj=>by rw [zA4 (w.add _) _ _ _ (by omega),zAF w _ _ (by omega)]; exact kp j hj) inv
   | true =>
    rw [hm] at hck
    simp (maxSteps:=2000000) (disch:=first | omega | assumption | (simp only [DS,Nat.reduceAdd, *]; done) | (simp only [DZ]; omega)) only [RUN,RU,zA2,zA1,slot,lay,reduceIte,Nat.reduceEqDiff,Nat.reduceAdd,g4,g12,g13,g14,q2,hiad,hck,zAV]
    have hwN : N.wm ≤ N.size:=by omega
    have kX:=((Kept.refl w).add (.row false (opR ⟨0,Hd.z,0,⟨Eid.z,0⟩,Eid.z,Lb.z,[]⟩ NIL))).upd hwN (Nat.le_refl _) (.row false (opR e ra))
    have hli : (l.take i).length = i:=by rw [List.length_take]; omega
    refine zYY (d:=d) (B:=M.size) (m:=M.size) (ops:=ops) (l:=l.take i) (hH.keep kX.get) (by omega) (by omega) hra hok hm (by omega) kX.wf (kX.wml hwN) fun N2 hN2=>?_
    have kN:=kX.trans hN2
    have gE : N2.get N.size = some (.row false (opR e ra)):=by
     rw [hN2.get _ (by rw [zAC,zA7]; omega)]
     exact zAG (w.add _) _ _ (by rw [zA7]; omega)
    have lE:=Mem.get_lt gE
    have w2:=kN.wf
    have hH2:=hH.keep kN.get
    have hg2:=hH2.hg
    have lg2:=Mem.get_lt hg2
    have sm2:=hH2.sm
    have oo2:=sm2.one
    have oc2:=sm2.cells
    have rl2:=sm2.rl
    have le2:=kN.le
    by_cases q3 : fitE (l.take i) e = 0
    ·have q3' : decide (fitE (l.take i) e = 0) = true:=decide_eq_true q3
     simp only [hm,q3',Bool.true_and] at inv
     simp (maxSteps:=2000000) (disch:=first | omega | assumption | (simp only [DS,Nat.reduceAdd, *]; done) | (simp only [DZ]; omega)) only [RUN,RU,zA2,zA1,slot,lay,zAI,zAB,reduceIte,Nat.reduceEqDiff,Nat.reduceBEq,Nat.reduceAdd,g4,q3',gE,hg2]
     refine ⟨zAT rl2 (by omega), ?_⟩
     refine app1 w2 sm2 zKI (x:=e) ⟨ra,rfl,hra,hok⟩ rfl (by omega) (by omega) (by omega) fun ops' M3 m3 w3 le3 kp3 nw3 wm3 rl3 on3 oc3=>?_
     have gH3 : M3.get (M.size + 1) = some (.row false [ops,.mp M.size]):=(kp3 _ lg2 hH2.n1).trans hg2
     have gE3 : M3.get N.size = some (.row false (opR e ra)):=(kp3 _ lE (fun h=>by have:=hH.sm.lt _ h; omega)).trans gE
     have l3:=Mem.get_lt gH3
     have lE3:=Mem.get_lt gE3
     simp (maxSteps:=2000000) (disch:=first | omega | assumption | (simp only [DS,Nat.reduceAdd, *]; done) | (simp only [DZ]; omega)) only [RUN,RU,zA2,zA1,lay,reduceIte,Nat.reduceEqDiff,Nat.reduceBEq,Nat.reduceAdd,gH3,gE3,oc3]
     have ob' : ∀ j,rowOf ops' = some j → j ≠ M.size + 1 ∧ j ≠ M.size ∧ M.size ≤ j:=fun j hj=>by
      rcases nw3 j hj with h | h
      ·exact ⟨fun e=>hH.n1 (e ▸ h),fun e=>hH.n2 (e ▸ h),hH.ob j h⟩
      ·omega
     have hS4 : HS (M3.upd (M.size + 1) (.row false [ops',.mp M.size])) M.size (M.size + 1) M.size ops' (l.take (i + 1)) (zAP (l.take i)):=by
      obtain ⟨obj,mg,hset⟩:=hH2.mg
      refine ⟨zAG w3 _ _ l3, ?_,⟨obj, ?_,hset⟩,by omega,by omega,fun j hj=>(ob' j hj).2.2,by omega,fun hj=>(ob' _ hj).1 rfl,fun hj=>(ob' _ hj).2.1 rfl⟩
      ·rw [hsn]
       exact m3.keep fun j hj=>zA4 w3 _ _ _ (fun e=>(ob' j hj).1 e.symm)
      ·rw [zA4 w3 _ _ _ (by omega),kp3 _ (Mem.get_lt mg) hH2.n2]; exact mg
     have kp4 : ∀ j,j < M.size → (M3.upd (M.size + 1) (.row false [ops',.mp M.size])).get j = M.get j:=fun j hj=>by
      rw [zA4 w3 _ _ _ (by omega),kp3 j (by omega) (fun h=>by have:=hH.ob j h; omega),kN.get j (by omega)]; exact kp j hj
     have w4:=w3.upd (M.size + 1) (.row false [ops',.mp M.size])
     have wm4 : (M3.upd (M.size + 1) (.row false [ops',.mp M.size])).wm = M.wm:=by
      show M3.wm = M.wm
      rw [wm3,kN.wm,wm]
     have gE4 : (M3.upd (M.size + 1) (.row false [ops',.mp M.size])).get N.size = some (.row false (opR e ra)):=by rw [zA4 w3 _ _ _ (by omega)]; exact gE3
     have sz4 : M.size + 2 ≤ (M3.upd (M.size + 1) (.row false [ops',.mp M.size])).size:=by rw [zAC]; omega
     have lE4 : N.size < (M3.upd (M.size + 1) (.row false [ops',.mp M.size])).size:=by rw [zAC]; exact lE3
     generalize M3.upd (M.size + 1) (.row false [ops',.mp M.size]) = X4 at *
     by_cases q4 : e.kd = 1
     ·have q4' : decide (e.kd = 1) = true:=decide_eq_true q4
      rw [if_pos q4] at hts
      obtain ⟨r,hr,hn⟩:=zI9 (fuel:=fuel) (d:=d + 6) hok.2.2.2.1 (may_sp hm) (by omega)
      have hbn:=Spn.may_le (may_sp hm)
      have il:=zKN e.sp
      have rlen:=hr.len
      simp (maxSteps:=2000000) (disch:=first | omega | assumption | (simp only [DS,Nat.reduceAdd, *]; done) | (simp only [DZ]; omega)) only [RUN,RU,zA2,zA1,slot,reduceIte,Nat.reduceEqDiff,q4',gE4,hn,rlen]
      refine zBF (I:=fun nk tk Nk => ∃ (ik : Nat),nk = e.sp.ids.length - ik ∧ ik ≤ e.sp.ids.length ∧ nth zA6 tk 4 = .ptr (M.size + 1) 0 ∧ nth zA6 tk 12 = a ∧ nth zA6 tk 13 = I64 l.length ∧ nth zA6 tk 14 = I64 i ∧ nth zA6 tk 42 = r ∧ nth zA6 tk 43 = I64 e.sp.ids.length ∧ nth zA6 tk 44 = I64 ik ∧ Wf Nk ∧ M.size + 2 ≤ Nk.size ∧ Nk.wm = M.wm ∧ (∀ j,j < M.size → Nk.get j = M.get j) ∧ HS Nk M.size (M.size + 1) M.size ops' (l.take (i + 1)) (zAP (l.take i) ++ e.sp.ids.take ik)) (n:=e.sp.ids.length) (by omega) ?_ ?_
      ·refine ⟨0,rfl,Nat.zero_le _, ?_, ?_, ?_, ?_, ?_, ?_, ?_,w4,sz4,wm4,kp4,(by rw [List.take_zero,List.append_nil]; exact hS4)⟩ <;> simp (maxSteps:=2000000) (disch:=first | omega | assumption | (simp only [DS,Nat.reduceAdd, *]; done) | (simp only [DZ]; omega)) only [RUN,reduceIte,Nat.reduceEqDiff,g4,g12,g13,g14]
       all_goals first | rfl | assumption | done
      ·rintro nk tk Nk hltk ⟨ik,rfl,hik,gk4,gk12,gk13,gk14,gk42,gk43,gk44,wk,szk,wmk,kpk,hSk⟩
       simp only [hlt] at hltk ⊢
       by_cases hck : ik < e.sp.ids.length
       ·have q5 : decide ((ik : Int) < e.sp.ids.length) = true:=decide_eq_true (by omega)
        have w1k : IntKind.i64.wrap ((ik : Int) + 1) = ((ik + 1 : Nat) : Int):=by rw [wrap_i64] <;> omega
        obtain ⟨rx,hiadx,hrx,hrlx⟩:=hr.iad ik hck
        have fr : e.sp.ids[ik] ∉ zAP (l.take i) ++ e.sp.ids.take ik:=by
         intro hin
         rcases List.mem_append.1 hin with h | h
         ·exact zSU q3 q4 _ (List.getElem_mem hck) h
         ·obtain ⟨j,hj,he⟩:=List.getElem_of_mem h
          rw [List.getElem_take] at he
          rw [List.length_take] at hj
          rw [zNT,zNT] at he
          have:=congrArg Eid.c he
          simp only [Spn.at] at this
          omega
        have sn:=take_snoc e.sp.ids ik hck
        generalize e.sp.ids[ik] = x at *
        obtain ⟨rfl,hxo⟩:=hrx
        have gk:=hSk.hg
        obtain ⟨obj,mgk,hset⟩:=hSk.mg
        have lk:=Mem.get_lt gk
        have lmk:=Mem.get_lt mgk
        simp (maxSteps:=2000000) (disch:=first | omega | assumption | (simp only [DS,Nat.reduceAdd, *]; done) | (simp only [DZ]; omega)) only [RUN,RU,zA2,zA1,slot,lay,reduceIte,Nat.reduceEqDiff,Nat.reduceBEq,Nat.reduceAdd,gk4,gk42,gk43,gk44,q5,hiadx,gk,x_mu]
        have wk2:=(wk.add (.row false (idR ⟨⟨⟨0,0⟩,0⟩,0⟩))).upd Nk.size (.row false (idR x))
        have keep2 : ∀ j,j < Nk.size → ((Nk.add (.row false (idR ⟨⟨⟨0,0⟩,0⟩,0⟩))).upd Nk.size (.row false (idR x))).get j = Nk.get j:=fun j hj=>by
         rw [zA4 (wk.add _) _ _ _ (by omega),zAF wk _ _ hj]
        refine zM8 zKM (l:=zAP (l.take i) ++ e.sp.ids.take ik) wk2 (by simp only [zAC,zA7]; omega) ((keep2 _ lmk).trans mgk) hset x fun o' hs'=>?_
        rw [if_neg fr] at hs'
        have hS5 : HS (((Nk.add (.row false (idR ⟨⟨⟨0,0⟩,0⟩,0⟩))).upd Nk.size (.row false (idR x))).upd M.size o') M.size (M.size + 1) M.size ops' (l.take (i + 1)) (zAP (l.take i) ++ e.sp.ids.take (ik + 1)):=by
         have u : ∀ j,j < Nk.size → j ≠ M.size → (((Nk.add (.row false (idR ⟨⟨⟨0,0⟩,0⟩,0⟩))).upd Nk.size (.row false (idR x))).upd M.size o').get j = Nk.get j:=fun j hj hne=>by
          rw [zA4 wk2 _ _ _ (fun e=>hne e.symm),keep2 j hj]
         refine ⟨(u _ lk (by omega)).trans gk,hSk.sm.keep fun j hj=>u j (hSk.sm.lt j hj) (fun e=>hSk.n2 (e ▸ hj)),⟨o',zAG wk2 _ _ (by simp only [zAC,zA7]; omega), ?_⟩,hSk.ib,hSk.mb,hSk.ob,hSk.ne,hSk.n1,hSk.n2⟩
         rw [sn,← List.append_assoc]
         exact hs'
        have wm5 : (((Nk.add (.row false (idR ⟨⟨⟨0,0⟩,0⟩,0⟩))).upd Nk.size (.row false (idR x))).upd M.size o').wm = M.wm:=wmk
        have kp5 : ∀ j,j < M.size → (((Nk.add (.row false (idR ⟨⟨⟨0,0⟩,0⟩,0⟩))).upd Nk.size (.row false (idR x))).upd M.size o').get j = M.get j:=fun j hj=>by
         rw [zA4 wk2 _ _ _ (by omega),keep2 j (by omega)]; exact kpk j hj
        have wk5:=wk2.upd M.size o'
        have sz5 : M.size + 2 ≤ (((Nk.add (.row false (idR ⟨⟨⟨0,0⟩,0⟩,0⟩))).upd Nk.size (.row false (idR x))).upd M.size o').size:=by simp only [zAC,zA7]; omega
        simp (maxSteps:=2000000) (disch:=first | omega | assumption | (simp only [DS,Nat.reduceAdd, *]; done) | (simp only [DZ]; omega)) only [RUN,RU,zA2,zA1,reduceIte,Nat.reduceEqDiff,Nat.reduceAdd,Nat.reduceLeDiff,gk4,gk12,gk13,gk14,gk42,gk43,gk44,w1k]
        exact ⟨hltk,e.sp.ids.length - (ik + 1),by omega,ik + 1,rfl,by omega,rfl,wk,by omega,wm5,kp5,hS5⟩
       ·obtain rfl : ik = e.sp.ids.length:=by omega
        have q5 : decide ((e.sp.ids.length : Int) < e.sp.ids.length) = false:=decide_eq_false (by omega)
        rw [List.take_length] at hSk
        simp (maxSteps:=2000000) (disch:=first | omega | assumption | (simp only [DS,Nat.reduceAdd, *]; done) | (simp only [DZ]; omega)) only [RUN,RU,zA2,zA1,reduceIte,Nat.reduceEqDiff,gk4,gk12,gk13,gk14,gk43,gk44,w1]
        exact ⟨hltk,l.length - (i + 1),by omega,i + 1,ops',rfl,by omega,rfl,wk,szk,wmk,kpk,hSk.to hts.symm,inv,by rw [hts,List.length_append]; omega⟩
     ·have q4' : decide (e.kd = 1) = false:=decide_eq_false q4
      rw [if_neg q4,List.append_nil] at hts
      simp (maxSteps:=2000000) (disch:=first | omega | assumption | (simp only [DS,Nat.reduceAdd, *]; done) | (simp only [DZ]; omega)) only [RUN,RU,zA2,zA1,reduceIte,Nat.reduceEqDiff,g4,g12,g13,g14,q4',w1]
      exact ⟨hlt,l.length - (i + 1),by omega,i + 1,ops',rfl,by omega,rfl,w4,sz4,wm4,kp4,hS4.to hts.symm,inv,by rw [hts]; omega⟩
    ·have q3' : decide (fitE (l.take i) e = 0) = false:=decide_eq_false q3
     simp only [hm,q3',Bool.false_and,Bool.and_false] at inv
     simp (maxSteps:=2000000) (disch:=first | omega | assumption | (simp only [DS,Nat.reduceAdd, *]; done) | (simp only [DZ]; omega)) only [RUN,RU,zA2,zA1,zA0,zAA,reduceIte,Nat.reduceEqDiff,q3']
     exact kf _ w2 (by omega) (fun j hj=>(kN.get j (by omega)).trans (kp j hj)) inv
  ·obtain rfl : i = l.length:=by omega
   have q1 : decide ((l.length : Int) < l.length) = false:=decide_eq_false (by omega)
   rw [List.drop_length,zAR] at inv
   rw [List.take_length] at hH tl
   simp (maxSteps:=2000000) (disch:=first | omega | assumption | (simp only [DS,Nat.reduceAdd, *]; done) | (simp only [DZ]; omega)) only [RUN,RU,zA2,zA1,zA0,zAA,reduceIte,Nat.reduceEqDiff,g4,g13,g14]
   exact kt _ _ w sz wm kp inv hH tl
end Go.Proofs.YtebloodpblgncaaGreat
namespace Go.Proofs.YtebloodpblgncaaGreat
open Go Go.Ax
theorem im88 : imax 8 8 = 8:=by decide
theorem im80 : imax 8 0 = 8:=by decide
theorem im08 : imax 0 8 = 8:=by decide
theorem im00 : imax 0 0 = 0:=by decide
theorem IMX : type_of% (And.intro im88 (And.intro im80 (And.intro im08 im00))):=And.intro im88 (And.intro im80 (And.intro im08 im00))
end Go.Proofs.YtebloodpblgncaaGreat
namespace Go.Proofs.YtebloodpblgncaaGreat
open Go Go.Ax
variable {fuel : Nat} {M : Mem} {Q : AV → Mem → Prop} {d : Nat} {x : Eid} {l : List Op} {o : Op} {ra ops a : AV} {B id m : Nat} {v : Lb}
abbrev opH (o : Op) : List AV:=[U8 o.kd,U8 o.hd.lb.lv,U32 o.hd.lb.cats,U8 o.hd.num,I64 o.sr,U8 o.sp.f.hd.lb.lv,U32 o.sp.f.hd.lb.cats,U8 o.sp.f.hd.num,I64 o.sp.f.c,I64 o.sp.n,U8 o.af.hd.lb.lv,U32 o.af.hd.lb.cats,U8 o.af.hd.num,I64 o.af.c,U8 o.to.lv,U32 o.to.cats]
def opK : NK Op Int where
 st:=17
 H:=opH
 f:=Op.rs
 T:=zB2
 ok:=Op.ok
 hl:=fun _=>rfl
 hz:=fun o y hy=>by
  simp only [opH,List.mem_cons,List.not_mem_nil,or_false] at hy
  rcases hy with rfl | rfl | rfl | rfl | rfl | rfl | rfl | rfl | rfl | rfl | rfl | rfl | rfl | rfl | rfl | rfl
  all_goals exact zC7 _ _
 ft:=zFB
theorem ze8 (h : Sl opK.st opK.is a l) : Sl 17 isOp a l:=h
theorem zDJ (hS : Sl 17 isOp a l) (hl : l.length ≤ 10000) (hf : l.length + 400 < fuel) (M : Mem) : zAE Tryz.prog (fsT tbl) fuel (d + 14) (.fn 36) [a] M = some (I64 (err (zAR [] l)),M):=by
 apply zBG
 refine zAJ tf36 rfl (by simp only [icyL,fun M=>hS.icy M 12 (by omega)]) (by simp [a36]) fun b' ht hx=>?_
 have h0:=hx 0 _ rfl
 clear hx
 simp only [a36,c36,zzm] at ht ⊢
 simp (maxSteps:=2000000) (disch:=first | omega | assumption | (simp only [DS,Nat.reduceAdd, *]; done) | (simp only [DZ]; omega)) only [RUN,RU,zA2,zA1,reduceIte,Nat.reduceEqDiff,h0]
 refine of_0 (d:=d) hS hl hf Wf.mem0 (Nat.le_refl _) (fun N w s k hh=>?_) (fun N ops w s wm k hh _ _=>?_)
 ·rw [hh]
  simp (maxSteps:=2000000) (disch:=first | omega | assumption | (simp only [DS,Nat.reduceAdd, *]; done) | (simp only [DZ]; omega)) only [RUN,RU,zA2,zA1,zA0,zAA,frzL,reduceIte,Nat.reduceEqDiff,zBE]
 ·rw [hh]
  simp (maxSteps:=2000000) (disch:=first | omega | assumption | (simp only [DS,Nat.reduceAdd, *]; done) | (simp only [DZ]; omega)) only [RUN,RU,zA2,zA1,zA0,zAA,frzL,reduceIte,Nat.reduceEqDiff,zAV]
def zFO (l : List Op) (v : Lb) : Int:=err (zAR [] l && v.may)
def lowL (l : List Op) (v : Lb) : List Op:=l.filter fun o=>o.hd.lb.leq v
theorem zKX (l : List Op) (o : Op) (v : Lb) : lowL (l ++ [o]) v = lowL l v ++ (if o.hd.lb.leq v then [o] else []):=by
 unfold lowL
 rw [List.filter_append]
 cases h : o.hd.lb.leq v <;> simp [h]
theorem zKW (l : List Op) (v : Lb) : (lowL l v).length ≤ l.length:=List.length_filter_le _ _
def ze7 (l : List Op) (v : Lb) (r : AV) : Prop:=∃ r1,r = .tup [r1,I64 (zFO l v)] ∧ Sl 17 isOp r1 (if zFO l v = 0 then lowL l v else [])
set_option maxHeartbeats 8000000 in
theorem zXK (hS : Sl 17 isOp a l) (hl : l.length ≤ 10000) (hf : l.length + 400 < fuel) (hd : ∀ o ∈ l,o.rs.length ≤ 1000000000) : ∃ r,ze7 l v r ∧ ∀ M,zAE Tryz.prog (fsT tbl) fuel (d + 15) (.fn 19) [a,lbA v] M = some (r,M):=by
 have ll:=hS.len
 have hck:=fun M=>zDJ (fuel:=fuel) (d:=d) hS hl hf M
 have hlc:=fun M=>@zF3 fuel (d + 13) v M
 refine zF8 tf19 rfl (fun M=>by simp only [icyL,fun M=>hS.icy M 12 (by omega),zAY (zEJ v) (show 1 < 12 by omega)]) ?_
 refine zAJ tf19 rfl (by simp only [icyL,fun M=>hS.icy M 12 (by omega),zAY (zEJ v) (show 1 < 12 by omega)]) (by simp [a19]) fun b' ht hx=>?_
 have h0:=hx 0 _ rfl
 have h1:=hx 1 _ rfl
 clear hx
 simp only [a19,c19,zz5,zzm] at ht ⊢
 unfold ze7 zFO
 cases q1 : zAR [] l with
 | false =>
  rw [q1] at hck
  cases q2 : v.may <;> rw [q2] at hlc
  all_goals
   simp (maxSteps:=2000000) (disch:=first | omega | assumption | (simp only [DS,Nat.reduceAdd, *]; done) | (simp only [DZ]; omega)) only [RUN,RU,zA2,zA1,zA0,zAA,frzL,slot,reduceIte,Nat.reduceEqDiff,Nat.reduceBEq,Nat.reduceAdd,Int.reduceEq,h0,h1,hck,hlc,zAV,zBE,zBX,BMM,IMX]
   exact ⟨_,⟨NIL,rfl,.inl ⟨rfl,rfl⟩⟩,rfl⟩
 | true =>
  rw [q1] at hck
  cases q2 : v.may <;> rw [q2] at hlc
  ·simp (maxSteps:=2000000) (disch:=first | omega | assumption | (simp only [DS,Nat.reduceAdd, *]; done) | (simp only [DZ]; omega)) only [RUN,RU,zA2,zA1,zA0,zAA,frzL,slot,reduceIte,Nat.reduceEqDiff,Nat.reduceBEq,Nat.reduceAdd,Int.reduceEq,h0,h1,hck,hlc,zAV,zBE,zBX,BMM,IMX]
   exact ⟨_,⟨NIL,rfl,.inl ⟨rfl,rfl⟩⟩,rfl⟩
  ·simp (maxSteps:=2000000) (disch:=first | omega | assumption | (simp only [DS,Nat.reduceAdd, *]; done) | (simp only [DZ]; omega)) only [RUN,RU,zA2,zA1,slot,reduceIte,Nat.reduceEqDiff,Nat.reduceBEq,Nat.reduceAdd,h0,h1,hck,hlc,zAV,zBX,BMM,IMX,ll]
   refine zBF (I:=fun n t N => ∃ (i : Nat) (out : AV),n = l.length - i ∧ i ≤ l.length ∧ nth zA6 t 3 = .ptr 0 0 ∧ nth zA6 t 4 = out ∧ nth zA6 t 17 = a ∧ nth zA6 t 18 = I64 l.length ∧ nth zA6 t 19 = I64 i ∧ Wf N ∧ N.get 0 = some (.row false (lbR v)) ∧ N.wm = 0 ∧ opK.NN N 1 out (lowL (l.take i) v)) (n:=l.length) (by omega) ?_ ?_
   ·refine ⟨0,NIL,rfl,Nat.zero_le _, ?_, ?_, ?_, ?_, ?_,Wf.mem0.add _,by simp (maxSteps:=2000000) (disch:=first | omega | assumption | (simp only [DS,Nat.reduceAdd, *]; done) | (simp only [DZ]; omega)) only [RUN],rfl,NK.NN.nil _ _⟩ <;> simp (maxSteps:=2000000) (disch:=first | omega | assumption | (simp only [DS,Nat.reduceAdd, *]; done) | (simp only [DZ]; omega)) only [RUN,reduceIte,Nat.reduceEqDiff]
    all_goals first | rfl | assumption | done
   ·rintro n t N hlt ⟨i,out,rfl,hi,g3,g4,g17,g18,g19,w,g,wm,hN⟩
    simp only [ht] at hlt ⊢
    by_cases hc : i < l.length
    ·have q3 : decide ((i : Int) < l.length) = true:=decide_eq_true (by omega)
     have w1 : IntKind.i64.wrap ((i : Int) + 1) = ((i + 1 : Nat) : Int):=by rw [wrap_i64] <;> omega
     obtain ⟨r,hiad,hr,hrl⟩:=hS.iad i hc
     have hls:=zKX (l.take i) l[i] v
     rw [← take_snoc l i hc] at hls
     have hlo:=hd l[i] (List.getElem_mem hc)
     have hll:=zKW (l.take i) v
     rw [List.length_take] at hll
     generalize l[i] = e at *
     obtain ⟨ra,rfl,hra,hok⟩:=hr
     have ora:=hra.one
     have lN:=Mem.get_lt g
     have hle:=fun M=>@zGR fuel (d + 13) e.hd.lb v M
     have kX:=((Kept.refl w).add (.row false (opR ⟨0,Hd.z,0,⟨Eid.z,0⟩,Eid.z,Lb.z,[]⟩ NIL))).upd (by omega) (Nat.le_refl _) (.row false (opR e ra))
     cases q4 : e.hd.lb.leq v with
     | false =>
      rw [q4] at hle
      rw [q4,if_neg (by decide),List.append_nil] at hls
      simp (maxSteps:=2000000) (disch:=first | omega | assumption | (simp only [DS,Nat.reduceAdd, *]; done) | (simp only [DZ]; omega)) only [RUN,RU,zA2,zA1,slot,lay,reduceIte,Nat.reduceEqDiff,Nat.reduceAdd,g3,g4,g17,g18,g19,q3,hiad,w,g,hle,w1]
      exact ⟨hlt,l.length - (i + 1),by omega,i + 1,out,rfl,by omega,rfl,rfl,wm,by rw [hls]; exact hN.keep fun j a b=>kX.get j b⟩
     | true =>
      rw [q4] at hle
      rw [q4,if_pos rfl] at hls
      have oo:=hN.one
      have oc:=hN.cells
      simp (maxSteps:=2000000) (disch:=first | omega | assumption | (simp only [DS,Nat.reduceAdd, *]; done) | (simp only [DZ]; omega)) only [RUN,RU,zA2,zA1,slot,lay,reduceIte,Nat.reduceEqDiff,Nat.reduceAdd,g3,g4,g17,g18,g19,q3,hiad,g,hle]
      refine zXP (d:=d + 12) hra hlo kX.wf (by rw [kX.wm]; omega) fun a' N2 hN2 sm2 nw2=>?_
      have k2:=kX.trans hN2
      have w2:=k2.wf
      have oa:=sm2.one
      have ca:=sm2.cells
      have rl2:=zAT sm2.rl (Nat.le_refl N2.size)
      have rr2:=hN.rows (show N.size ≤ N2.size + 1 by have:=k2.le; omega)
      simp (maxSteps:=2000000) (disch:=first | omega | assumption | (simp only [DS,Nat.reduceAdd, *]; done) | (simp only [DZ]; omega)) only [RUN,RU,zA2,zA1,lay,zAI,zAB,reduceIte,Nat.reduceEqDiff,Nat.reduceBEq,Nat.reduceAdd,rr2]
      have hsz : N.size + 1 ≤ N2.size:=hN2.le
      refine NK.NN.app (K:=opK) (B:=1) (l:=lowL (l.take i) v) (x:=e) (ra:=a') w2 (hN.keep fun j a b=>k2.get j b) ⟨rfl,oa,ca⟩ ⟨sm2,fun j hj=>by have:=nw2 j hj; simp only [zAC,zA7] at this; omega,hok⟩ (fun j hj hj2=>by have h1:=hN.lt j hj; have h2:=nw2 j hj2; simp only [zAC,zA7] at h2; omega) (by omega) (by omega) (by omega) fun o' M' hN' w' le' kp' nw' wm'=>?_
      simp (maxSteps:=2000000) (disch:=first | omega | assumption | (simp only [DS,Nat.reduceAdd, *]; done) | (simp only [DZ]; omega)) only [RUN,RU,zA2,zA1,reduceIte,Nat.reduceEqDiff,g3,g4,g17,g18,g19,w1]
      refine ⟨hlt,l.length - (i + 1),by omega,i + 1,o',rfl,by omega,rfl,rfl,w', ?_, ?_,by rw [hls]; exact hN'⟩
      ·rw [kp' 0 (by omega) (fun h=>by have:=hN.lt 0 h; omega),k2.get 0 lN]; exact g
      ·rw [wm',k2.wm]; exact wm
    ·obtain rfl : i = l.length:=by omega
     have q3 : decide ((l.length : Int) < l.length) = false:=decide_eq_false (by omega)
     rw [List.take_length] at hN
     obtain ⟨o',hz,hs⟩:=hN.frz (k:=11) (by omega)
     have hz:=hz N (fun _ _=>rfl)
     simp (maxSteps:=2000000) (disch:=first | omega | assumption | (simp only [DS,Nat.reduceAdd, *]; done) | (simp only [DZ]; omega)) only [RUN,RU,zA2,zA1,zA0,zAA,frzL,reduceIte,Nat.reduceEqDiff,g4,g18,g19,hz]
     exact ⟨_,⟨o',rfl,ze8 hs⟩,rfl⟩
end Go.Proofs.YtebloodpblgncaaGreat
namespace Go.Proofs.YtebloodpblgncaaGreat
open Go Go.Ax
theorem zKL : ∀ {pre l : List Op},zAR pre l = true → ∀ o ∈ l,o.may = true
 | _,[],_,_,h=>by cases h
 | pre,o :: l,h,p,hp=>by
  simp only [zAR,Bool.and_eq_true] at h
  rcases List.mem_cons.1 hp with rfl | hp
  ·exact h.1.1
  ·exact zKL h.2 p hp
end Go.Proofs.YtebloodpblgncaaGreat
namespace Go.Proofs.YtebloodpblgncaaGreat
open Go Go.Ax
theorem zGQ (a b : Int) : zTK a b = 0 ↔ BitVec.ofInt 32 a &&& ~~~ BitVec.ofInt 32 b = 0#32:=by
 have e : zTK a b = ((BitVec.ofInt 32 a &&& ~~~ BitVec.ofInt 32 b).toNat : Int):=by
  have:=(BitVec.ofInt 32 a &&& ~~~ BitVec.ofInt 32 b).isLt
  unfold zTK
  generalize (BitVec.ofInt 32 a &&& ~~~ BitVec.ofInt 32 b).toNat = z at *
  simp [IntKind.wrap,IntKind.bits,IntKind.signed]
  omega
 rw [e,← BitVec.toNat_inj]
 simp
theorem zQI (x y z : BitVec 32) (h1 : x &&& ~~~ y = 0#32) (h2 : y &&& ~~~ z = 0#32) : x &&& ~~~ z = 0#32:=by
 apply BitVec.eq_of_getLsbD_eq
 intro i hi
 have a1:=congrArg (fun v=>BitVec.getLsbD v i) h1
 have a2:=congrArg (fun v=>BitVec.getLsbD v i) h2
 simp only [BitVec.getLsbD_and,BitVec.getLsbD_not,hi,BitVec.getLsbD_zero,decide_true,Bool.true_and] at a1 a2 ⊢
 cases hx : x.getLsbD i <;> cases hy : y.getLsbD i <;> cases hz : z.getLsbD i <;> simp_all
theorem zI8 {a b c : Lb} (h1 : a.leq b = true) (h2 : b.leq c = true) : a.leq c = true:=by
 unfold Lb.leq at *
 simp only [Bool.and_eq_true,decide_eq_true_eq,zGQ] at *
 exact ⟨Int.le_trans h1.1 h2.1,zQI _ _ _ h1.2 h2.2⟩
theorem zG6 (a : Lb) : a.leq a = true:=by
 unfold Lb.leq
 simp only [Bool.and_eq_true,decide_eq_true_eq,zGQ]
 refine ⟨Int.le_refl _, ?_⟩
 apply BitVec.eq_of_getLsbD_eq
 intro i hi
 simp only [BitVec.getLsbD_and,BitVec.getLsbD_not,hi,BitVec.getLsbD_zero,decide_true,Bool.true_and]
 cases (BitVec.ofInt 32 a.cats).getLsbD i <;> rfl
/-! ### Raises -/
theorem zRB (l : List Op) (v u : Lb) (h : u.leq v = true) (x : Eid) : zC2 (lowL l v) x u = zC2 l x u:=by
 unfold zC2 lowL
 rw [List.filter_filter]
 congr 1
 apply List.filter_congr
 intro o _
 cases hc : zCA x u o with
 | false=>rfl
 | true =>
  have hl : o.hd.lb.leq u = true:=by
   unfold zCA at hc
   simp only [Bool.and_eq_true] at hc
   exact hc.2
  rw [zI8 hl h]; rfl
theorem zX9 (l : List Op) (v u : Lb) (h : u.leq v = true) (x : Eid) : made (lowL l v) x u = made l x u:=by
 unfold made
 rw [zRB l v u h]
theorem zOE (l : List Op) (v : Lb) (o : Op) (h : o.hd.lb.leq v = true) : zDR (lowL l v) o = zDR l o:=by
 unfold zDR
 simp only [zX9 l v _ h]
/-! ### A history is right -/
theorem zSV {pre : List Op} {o : Op} (h : fitE pre o = 0) : pre.length < 2048:=by
 unfold fitE at h
 split at h
 ·split at h
  ·cases h
  ·omega
 ·rename_i h1; exact absurd h h1
theorem zHE {pre : List Op} {o : Op} (h : fitE pre o = 0) : zDQ pre o = 0:=by
 unfold fitE at h
 split at h
 ·assumption
 ·exact h
theorem zSW {pre : List Op} {o : Op} (hm : o.may = true) (h : fitE pre o = 0) : zDR pre o = true:=by
 by_cases hk : o.kd = 3
 ·have h1:=zHE h
  unfold zDQ at h1
  rw [if_neg (by omega),if_neg (by omega)] at h1
  unfold raiE at h1
  split at h1
  ·split at h1
   ·rename_i h2
    have:=h2.2
    unfold chfB at this
    simp only [Bool.and_eq_true] at this
    exact this.2
   ·cases h1
  ·cases h1
 ·unfold zDR
  rw [if_neg hk]
theorem zJG : ∀ {pre l : List Op},zAR pre l = true → zH8 pre l = true
 | _,[],_=>rfl
 | pre,o :: l,h=>by
  simp only [zAR,Bool.and_eq_true,decide_eq_true_eq] at h
  simp only [zH8,Bool.and_eq_true]
  exact ⟨⟨h.1.1,zSW h.1.1 h.1.2⟩,zJG h.2⟩
theorem zP8 : ∀ {pre l : List Op},zAR pre l = true → l ≠ [] → pre.length + l.length ≤ 2048
 | _,[],_,h=>absurd rfl h
 | pre,[o],h,_=>by
  simp only [zAR,Bool.and_eq_true,decide_eq_true_eq] at h
  have:=zSV h.1.2
  simp only [List.length_singleton]
  omega
 | pre,o :: p :: l,h,_=>by
  simp only [zAR,Bool.and_eq_true] at h
  have:=zP8 (pre:=pre ++ [o]) (l:=p :: l) (by simp only [zAR,Bool.and_eq_true]; exact h.2) (by simp)
  simp only [List.length_append,List.length_cons,List.length_nil] at this ⊢
  omega
theorem zDY {l : List Op} (h : zAR [] l = true) : zCM l = 0:=by
 have h1 : ¬2048 < l.length:=by
  by_cases e : l = []
  ·subst e; simp
  ·have:=zP8 h e
   simp only [List.length_nil] at this
   omega
 unfold zCM
 rw [if_neg h1,zJG h]
 rfl
end Go.Proofs.YtebloodpblgncaaGreat
namespace Go.Proofs.YtebloodpblgncaaGreat
open Go Go.Ax
theorem zFN {o : Op} (h : o.may = true) (hk : o.kd = 1) : o.sp.f.hd = o.hd ∧ (o.rs.length : Int) = o.sp.n:=by
 unfold Op.may Op.part at h
 rw [if_pos hk] at h
 simp only [Bool.and_eq_true,decide_eq_true_eq] at h
 exact ⟨h.2.1.1.2,h.2.1.2⟩
theorem zKY {s : Spn} {x : Eid} (h : x ∈ s.ids) : x.hd = s.f.hd:=by
 unfold Spn.ids at h
 obtain ⟨i,_,rfl⟩:=List.mem_map.1 h
 rfl
theorem zM6 {l : List Op} {x : Eid} : x ∈ zAP l ↔ ∃ o ∈ l,o.kd = 1 ∧ x ∈ o.sp.ids:=by
 unfold zAP
 rw [List.mem_flatMap]
 constructor
 ·rintro ⟨o,ho,h⟩
  split at h
  ·exact ⟨o,ho,by assumption,h⟩
  ·cases h
 ·rintro ⟨o,ho,hk,h⟩
  exact ⟨o,ho,by rw [if_pos hk]; exact h⟩
theorem zJ4 {l : List Op} (hm : ∀ o ∈ l,o.may = true) {v : Lb} {x : Eid} (hx : x.hd.lb.leq v = true) : x ∈ zAP (lowL l v) ↔ x ∈ zAP l:=by
 rw [zM6,zM6]
 constructor
 ·rintro ⟨o,ho,h⟩
  exact ⟨o,(List.mem_filter.1 ho).1,h⟩
 ·rintro ⟨o,ho,hk,h⟩
  refine ⟨o,List.mem_filter.2 ⟨ho, ?_⟩,hk,h⟩
  have:=zKY h
  rw [← (zFN (hm o ho) hk).1,← this]
  exact hx
theorem zLF (l : List Op) (v : Lb) : (zAP (lowL l v)).length ≤ (zAP l).length:=by
 induction l with
 | nil=>exact Nat.le_refl _
 | cons o l ih =>
  unfold lowL zAP at *
  rw [List.filter_cons]
  split
  ·simp only [List.flatMap_cons,List.length_append]; omega
  ·simp only [List.flatMap_cons,List.length_append]; omega
section
variable {pre : List Op} {o : Op} {v : Lb}
theorem zQ2 (hm : ∀ o ∈ pre,o.may = true) (ho : o.hd.lb.leq v = true) (x : Eid) : zEV (lowL pre v) o x = zEV pre o x:=by
 unfold zEV
 cases h : x.hd.lb.leq o.hd.lb with
 | false=>simp
 | true =>
  have:=zJ4 hm (zI8 h ho)
  rw [decide_eq_decide.2 this]
theorem zRT (hm : ∀ o ∈ pre,o.may = true) (ho : o.hd.lb.leq v = true) : allB (lowL pre v) o = allB pre o:=by
 unfold allB
 congr 1
 funext x
 exact zQ2 hm ho x
theorem zX2 (hm : ∀ o ∈ pre,o.may = true) (ho : o.hd.lb.leq v = true) (hom : o.may = true) (hc : zCM pre = 0) (hc2 : zCM (lowL pre v) = 0) (hb : o.kd = 1 → ¬8192 < ((zAP pre).length : Int) + o.sp.n) : zDQ (lowL pre v) o = zDQ pre o:=by
 unfold zDQ
 by_cases hk : o.kd = 1
 ·rw [if_pos hk,if_pos hk]
  unfold insE
  have h1 : (o.sp.ids.any fun x=>decide (x ∈ zAP (lowL pre v))) = (o.sp.ids.any fun x=>decide (x ∈ zAP pre)):=by
   rw [Bool.eq_iff_iff,List.any_eq_true,List.any_eq_true]
   constructor
   ·rintro ⟨x,hx,h⟩
    refine ⟨x,hx, ?_⟩
    rw [decide_eq_true_eq] at h ⊢
    exact (zJ4 hm (by rw [zKY hx,(zFN hom hk).1]; exact ho)).1 h
   ·rintro ⟨x,hx,h⟩
    refine ⟨x,hx, ?_⟩
    rw [decide_eq_true_eq] at h ⊢
    exact (zJ4 hm (by rw [zKY hx,(zFN hom hk).1]; exact ho)).2 h
  have:=zLF pre v
  have hb:=hb hk
  rw [zQ2 hm ho,h1,if_neg (show ¬8192 < ((zAP (lowL pre v)).length : Int) + o.sp.n by omega),if_neg hb]
 ·rw [if_neg hk,if_neg hk]
  split
  ·unfold remE
   rw [zRT hm ho]
  ·unfold raiE chfB chfE
   rw [zRT hm ho,hc,hc2,zOE pre v o ho]
theorem zWX (h : zDQ pre o = 0) : o.kd = 1 → ¬8192 < ((zAP pre).length : Int) + o.sp.n:=by
 intro hk hb
 unfold zDQ insE at h
 rw [if_pos hk] at h
 split at h
 ·cases h
 ·split at h
  ·cases h
  ·first | (rw [if_pos hb] at h; cases h) | cases h
theorem zQV (hm : ∀ o ∈ pre,o.may = true) (ho : o.hd.lb.leq v = true) (hom : o.may = true) (hc : zCM pre = 0) (hc2 : zCM (lowL pre v) = 0) (hb : o.kd = 1 → ¬8192 < ((zAP pre).length : Int) + o.sp.n) (hl : pre.length < 2048) : fitE (lowL pre v) o = fitE pre o:=by
 have:=zKW pre v
 unfold fitE
 rw [zX2 hm ho hom hc hc2 hb,if_neg (show ¬2048 ≤ pre.length by omega),if_neg (show ¬2048 ≤ (lowL pre v).length by omega)]
theorem zaJ (hm : ∀ o ∈ pre,o.may = true) (ho : o.hd.lb.leq v = true) (hom : o.may = true) (hc : zCM pre = 0) (hc2 : zCM (lowL pre v) = 0) (h : fitE pre o = 0) : fitE (lowL pre v) o = 0:=by
 rw [zQV hm ho hom hc hc2 (zWX (zHE h)) (zSV h)]
 exact h
end
theorem zG4 : ∀ (pre a b : List Op),zAR pre (a ++ b) = (zAR pre a && zAR (pre ++ a) b)
 | pre,[],b=>by simp [zAR]
 | pre,o :: a,b=>by
  simp only [List.cons_append,zAR]
  rw [zG4 (pre ++ [o]) a b,List.append_assoc]
  simp only [List.cons_append,List.nil_append,Bool.and_assoc]
theorem zKK (v : Lb) : ∀ (l pre : List Op),zAR [] pre = true → zAR [] (lowL pre v) = true → zAR pre l = true → zAR (lowL pre v) (lowL l v) = true
 | [],pre,_,_,_=>rfl
 | o :: l,pre,hp,hq,h=>by
  simp only [zAR,Bool.and_eq_true,decide_eq_true_eq] at h
  have hp' : zAR [] (pre ++ [o]) = true:=by
   rw [zG4,hp]
   simp only [List.nil_append,zAR,h.1.1,h.1.2,decide_true,Bool.and_self]
  have hs:=zKX pre o v
  unfold lowL at hs ⊢
  rw [List.filter_cons]
  cases ho : o.hd.lb.leq v with
  | false =>
   rw [ho,if_neg (by decide),List.append_nil] at hs
   have:=zKK v l (pre ++ [o]) hp' (by unfold lowL; rw [hs]; exact hq) h.2
   unfold lowL at this
   rw [hs] at this
   simpa using this
  | true =>
   rw [ho,if_pos rfl] at hs
   have hf:=zaJ (zKL hp) ho h.1.1 (zDY hp) (zDY hq) h.1.2
   unfold lowL at hf
   have hq' : zAR [] (lowL (pre ++ [o]) v) = true:=by
    unfold lowL
    rw [hs,zG4]
    unfold lowL at hq
    rw [hq]
    simp only [List.nil_append,zAR,h.1.1,hf,decide_true,Bool.and_self]
   have:=zKK v l (pre ++ [o]) hp' hq' h.2
   unfold lowL at this
   rw [hs] at this
   simp only [if_true,zAR,h.1.1,hf,decide_true,Bool.true_and]
   exact this
theorem zDA {l : List Op} (v : Lb) (h : zAR [] l = true) : zAR [] (lowL l v) = true:=zKK v l [] rfl rfl h
end Go.Proofs.YtebloodpblgncaaGreat
namespace Go.Proofs.YtebloodpblgncaaGreat
open Go Go.Ax
variable {fuel : Nat} {M : Mem} {Q : AV → Mem → Prop} {d : Nat} {l : List Op} {a ra : AV} {v : Lb} {o : Op}
def zSH (l : List Op) (o : Op) : Int:=if zAR [] l = true then (if o.may = true then fitE l o else 8) else 8
set_option maxHeartbeats 4000000 in
theorem zNG (hS : Sl 17 isOp a l) (hl : l.length ≤ 10000) (hf : l.length + 400 < fuel) (hR : Sl 1 zB2 ra o.rs) (ho : o.ok) (M : Mem) : zAE Tryz.prog (fsT tbl) fuel (d + 14) (.fn 26) [a,.agg (opR o ra)] M = some (I64 (zSH l o),M):=by
 have ora:=hR.one
 have hck:=fun M=>@zDE fuel (d + 6) o ra hR ho (by omega) M
 apply zBG
 refine zK3 tf26 rfl (by simp only [icyL,fun M=>hS.icy M 12 (by omega),zIH hR.fz]) (by simp [a26]) fun b' ht hx=>?_
 have h0:=hx 0 _ rfl
 have h1:=hx 1 _ rfl
 clear hx
 simp only [a26,c26,zzm] at ht ⊢
 unfold zSH
 simp (maxSteps:=2000000) (disch:=first | omega | assumption | (simp only [DS,Nat.reduceAdd, *]; done) | (simp only [DZ]; omega)) only [RUN,RU,zA2,zA1,reduceIte,Nat.reduceEqDiff,h0,h1]
 refine of_0 (d:=d) hS hl hf (Wf.mem0.add _) (Nat.zero_le _) (fun N w s k hh=>?_) (fun N ops w s wm k hh hH htl=>?_)
 ·rw [if_neg (by rw [hh]; decide)]
  simp (maxSteps:=2000000) (disch:=first | omega | assumption | (simp only [DS,Nat.reduceAdd, *]; done) | (simp only [DZ]; omega)) only [RUN,RU,zA2,zA1,zA0,zAA,frzL,reduceIte,Nat.reduceEqDiff]
  all_goals exact ⟨_,rfl⟩
 ·rw [if_pos hh]
  have g0 : N.get 0 = some (.row false (opR o ra)):=by rw [k 0 (by simp (maxSteps:=2000000) (disch:=first | omega | assumption | (simp only [DS,Nat.reduceAdd, *]; done) | (simp only [DZ]; omega)) only [RUN,RU,Nat.reduceLT])]; simp (maxSteps:=2000000) (disch:=first | omega | assumption | (simp only [DS,Nat.reduceAdd, *]; done) | (simp only [DZ]; omega)) only [RUN]
  have l0:=Mem.get_lt g0
  cases hm : o.may with
  | false =>
   rw [hm] at hck
   simp (maxSteps:=2000000) (disch:=first | omega | assumption | (simp only [DS,Nat.reduceAdd, *]; done) | (simp only [DZ]; omega)) only [RUN,RU,zA2,zA1,zA0,zAA,frzL,slot,reduceIte,Nat.reduceEqDiff,Nat.reduceAdd,Int.reduceEq,g0,hck,zBE,Bool.false_eq_true,if_false]
   all_goals exact ⟨_,rfl⟩
  | true =>
   rw [hm] at hck
   simp (maxSteps:=2000000) (disch:=first | omega | assumption | (simp only [DS,Nat.reduceAdd, *]; done) | (simp only [DZ]; omega)) only [RUN,RU,zA2,zA1,slot,reduceIte,Nat.reduceEqDiff,Nat.reduceAdd,g0,hck,zAV,if_true]
   refine zYY (d:=d + 1) hH (by omega) (by omega) hR ho hm (by omega) w (by rw [wm]; exact Nat.zero_le _) fun N2 hN2=>?_
   simp (maxSteps:=2000000) (disch:=first | omega | assumption | (simp only [DS,Nat.reduceAdd, *]; done) | (simp only [DZ]; omega)) only [RUN,RU,zA2,zA1,zA0,zAA,frzL,reduceIte,Nat.reduceEqDiff]
   all_goals exact ⟨_,rfl⟩
end Go.Proofs.YtebloodpblgncaaGreat
namespace Go.Proofs.YtebloodpblgncaaGreat
open Go Go.Ax
variable {fuel : Nat} {M : Mem} {Q : AV → Mem → Prop} {d : Nat} {l : List Op} {a : AV} {v : Lb}
theorem zP5 (x : Hd) : ∀ y ∈ hdR x,Fz y:=fun y hy=>by
 simp only [hdR,List.mem_cons,List.not_mem_nil,or_false] at hy
 rcases hy with rfl | rfl | rfl <;> exact zC7 _ _
def edE (l : List Op) (h : Hd) (s : Int) : Int:=if zAR [] l = true ∧ h.may = true then (if s < 1 ∨ 16777152 ≤ s then 2 else 0) else 8
theorem ed_z {h : Hd} {s : Int} (e : edE l h s = 0) : zAR [] l = true ∧ h.may = true ∧ 1 ≤ s ∧ s < 16777152:=by
 unfold edE at e
 split at e
 ·rename_i h1
  split at e
  ·cases e
  ·exact ⟨h1.1,h1.2,by omega,by omega⟩
 ·cases e
set_option maxHeartbeats 4000000 in
theorem zQO {h : Hd} {s : Int} (hS : Sl 17 isOp a l) (hl : l.length ≤ 10000) (hf : l.length + 400 < fuel) (M : Mem) : zAE Tryz.prog (fsT tbl) fuel (d + 15) (.fn 16) [a,hdA h,I64 s] M = some (I64 (edE l h s),M):=by
 have hck:=fun M=>zDJ (fuel:=fuel) (d:=d) hS hl hf M
 have hch:=fun M=>@zEA fuel (d + 12) h M
 apply zBG
 refine zAJ tf16 rfl (by simp only [icyL,fun M=>hS.icy M 12 (by omega),zAY (zP5 h) (show 1 < 12 by omega),zJ6]) (by simp [a16]) fun b' ht hx=>?_
 have h0:=hx 0 _ rfl
 have h1:=hx 1 _ rfl
 have h2:=hx 2 _ rfl
 clear hx
 simp only [a16,c16,zzm,zzg] at ht ⊢
 unfold edE
 cases q1 : zAR [] l <;> cases q2 : h.may <;> rw [q1] at hck <;> rw [q2] at hch
 ·simp (maxSteps:=2000000) (disch:=first | omega | assumption | (simp only [DS,Nat.reduceAdd, *]; done) | (simp only [DZ]; omega)) only [RUN,RU,zA2,zA1,zA0,zAA,frzL,slot,reduceIte,Nat.reduceEqDiff,Nat.reduceBEq,Nat.reduceAdd,Int.reduceEq,h0,h1,hck,hch,zBE,zBX,BMM,IMX]
  rfl
 ·simp (maxSteps:=2000000) (disch:=first | omega | assumption | (simp only [DS,Nat.reduceAdd, *]; done) | (simp only [DZ]; omega)) only [RUN,RU,zA2,zA1,zA0,zAA,frzL,slot,reduceIte,Nat.reduceEqDiff,Nat.reduceBEq,Nat.reduceAdd,Int.reduceEq,h0,h1,hck,hch,zAV,zBE,zBX,BMM,IMX]
  rfl
 ·simp (maxSteps:=2000000) (disch:=first | omega | assumption | (simp only [DS,Nat.reduceAdd, *]; done) | (simp only [DZ]; omega)) only [RUN,RU,zA2,zA1,zA0,zAA,frzL,slot,reduceIte,Nat.reduceEqDiff,Nat.reduceBEq,Nat.reduceAdd,Int.reduceEq,h0,h1,hck,hch,zAV,zBE,zBX,BMM,IMX]
  rfl
 ·by_cases q3 : s < 1
  ·have q3':=decide_eq_true q3
   simp (maxSteps:=2000000) (disch:=first | omega | assumption | (simp only [DS,Nat.reduceAdd, *]; done) | (simp only [DZ]; omega)) only [RUN,RU,zA2,zA1,zA0,zAA,frzL,slot,reduceIte,Nat.reduceEqDiff,Nat.reduceBEq,Nat.reduceAdd,h0,h1,h2,hck,hch,zAV,zBX,BMM,IMX,q3']
   rw [if_pos (Or.inl q3)]
  ·have q3':=decide_eq_false q3
   by_cases q4 : 16777152 ≤ s
   ·have q4':=decide_eq_true q4
    simp (maxSteps:=2000000) (disch:=first | omega | assumption | (simp only [DS,Nat.reduceAdd, *]; done) | (simp only [DZ]; omega)) only [RUN,RU,zA2,zA1,zA0,zAA,frzL,slot,reduceIte,Nat.reduceEqDiff,Nat.reduceBEq,Nat.reduceAdd,h0,h1,h2,hck,hch,zAV,zBX,BMM,IMX,q3',q4']
    rw [if_pos (Or.inr q4)]
   ·have q4':=decide_eq_false q4
    simp (maxSteps:=2000000) (disch:=first | omega | assumption | (simp only [DS,Nat.reduceAdd, *]; done) | (simp only [DZ]; omega)) only [RUN,RU,zA2,zA1,zA0,zAA,frzL,slot,reduceIte,Nat.reduceEqDiff,Nat.reduceBEq,Nat.reduceAdd,h0,h1,h2,hck,hch,zAV,zBX,BMM,IMX,q3',q4']
    rw [if_neg (by omega)]
set_option maxHeartbeats 8000000 in
theorem zQH {b : AV} {m : List Op} (hS : Sl 17 isOp a l) (hM : Sl 17 isOp b m) (hl : l.length ≤ 1000) (hml : m.length ≤ 1000) (hf : 10000 < fuel) (hfit : ∀ i (hi : i < m.length),zSH (l ++ m.take i) m[i] = 0) : ∃ r,Sl 17 isOp r (l ++ m) ∧ ∀ M,zAE Tryz.prog (fsT tbl) fuel (d + 15) (.fn 8) [a,b] M = some (.tup [r,BL true],M):=by
 have lm:=hM.len
 refine zF8 tf8 rfl (fun M=>by simp only [icyL,fun M=>hS.icy M 12 (by omega),fun M=>hM.icy M 12 (by omega)]) ?_
 refine zAJ tf8 rfl (by simp only [icyL,fun M=>hS.icy M 12 (by omega),fun M=>hM.icy M 12 (by omega)]) (by simp [a8]) fun b' ht hx=>?_
 have h0:=hx 0 _ rfl
 have h1:=hx 1 _ rfl
 clear hx
 simp only [a8,c8,zz5,zzm] at ht ⊢
 simp (maxSteps:=2000000) (disch:=first | omega | assumption | (simp only [DS,Nat.reduceAdd, *]; done) | (simp only [DZ]; omega)) only [RUN,RU,zA2,zA1,reduceIte,Nat.reduceEqDiff,h0,hS.fz.rows]
 refine zZW (bytes:=112) Wf.mem0 SlM.nil zKI.cel hS (by omega) (by simp; omega) (by simp; omega) fun o1 M1 m1 w1 le1 sz1 kp1 nw1 wm1 rl1 on1 oc1=>?_
 rw [List.nil_append] at m1
 simp (maxSteps:=2000000) (disch:=first | omega | assumption | (simp only [DS,Nat.reduceAdd, *]; done) | (simp only [DZ]; omega)) only [RUN,RU,zA2,zA1,reduceIte,Nat.reduceEqDiff]
 clear kp1 nw1 rl1
 refine zBF (I:=fun n t N => ∃ (i : Nat) (o : AV),n = m.length - i ∧ i ≤ m.length ∧ nth zA6 t 0 = a ∧ nth zA6 t 1 = b ∧ nth zA6 t 6 = o ∧ nth zA6 t 7 = I64 i ∧ Wf N ∧ N.wm = 0 ∧ SlM N 17 isOp o (l ++ m.take i)) (n:=m.length) (by omega) ?_ ?_
 ·refine ⟨0,o1,rfl,Nat.zero_le _, ?_, ?_, ?_, ?_,w1,wm1,(by simpa using m1)⟩ <;> simp (maxSteps:=2000000) (disch:=first | omega | assumption | (simp only [DS,Nat.reduceAdd, *]; done) | (simp only [DZ]; omega)) only [RUN,reduceIte,Nat.reduceEqDiff,h0,h1]
  all_goals first | rfl | assumption | done
 ·rintro n t N hlt ⟨i,o,rfl,hi,g0,g1,g6,g7,w,wm,sm⟩
  simp only [ht] at hlt ⊢
  have oo:=sm.one
  have oc:=sm.cells
  have hll : (l ++ m.take i).length ≤ 2000:=by rw [List.length_append,List.length_take]; omega
  by_cases hc : i < m.length
  ·have q1 : decide ((i : Int) < m.length) = true:=decide_eq_true (by omega)
   have e1 : IntKind.i64.wrap ((i : Int) + 1) = ((i + 1 : Nat) : Int):=by rw [wrap_i64] <;> omega
   obtain ⟨r,hiad,hr,hrl⟩:=hM.iad i hc
   have hft:=hfit i hc
   have hts:=take_snoc m i hc
   generalize m[i] = e at *
   obtain ⟨ra,rfl,hra,hok⟩:=hr
   have ora:=hra.one
   have hfits:=zZL (P:=Tryz.prog) (fs:=fsT tbl) (fuel:=fuel) (n:=d + 13) (N:=N) (y:=.agg (opR e ra)) tf26 rfl zKI (.inr sm) w (fun M=>zIH hra.fz M) (fun a' h M=>by
    have:=zNG (fuel:=fuel) (d:=d) h (by omega) (by omega) hra hok M
    rw [hft] at this
    exact this)
   have rlo:=zAT sm.rl (Nat.le_refl N.size)
   have rlo':=zAT sm.rl (Nat.le_succ N.size)
   simp (maxSteps:=2000000) (disch:=first | omega | assumption | (simp only [DS,Nat.reduceAdd, *]; done) | (simp only [DZ]; omega)) only [RUN,RU,zA2,zA1,slot,lay,zAI,zAB,reduceIte,Nat.reduceEqDiff,Nat.reduceBEq,Nat.reduceAdd,g1,g6,g7,lm,q1,hiad,hfits,rlo']
   refine app1 (bytes:=112) (x:=e) w sm zKI ⟨ra,rfl,hra,hok⟩ rfl (by omega) (by omega) (by omega) fun o2 M2 m2 w2 le2 kp2 nw2 wm2 rl2 on2 oc2=>?_
   simp (maxSteps:=2000000) (disch:=first | omega | assumption | (simp only [DS,Nat.reduceAdd, *]; done) | (simp only [DZ]; omega)) only [RUN,RU,zA2,zA1,reduceIte,Nat.reduceEqDiff,g0,g1,g6,g7,w2,e1]
   exact ⟨hlt,m.length - (i + 1),by omega,i + 1,o2,rfl,by omega,rfl,rfl,wm2.trans wm,by rw [hts,← List.append_assoc]; exact m2⟩
  ·obtain rfl : i = m.length:=by omega
   have q1 : decide ((m.length : Int) < m.length) = false:=decide_eq_false (by omega)
   rw [List.take_length] at sm
   obtain ⟨ro,hz,hs⟩:=sm.frz zKI.cel (k:=12) (by omega)
   simp (maxSteps:=2000000) (disch:=first | omega | assumption | (simp only [DS,Nat.reduceAdd, *]; done) | (simp only [DZ]; omega)) only [RUN,RU,zA2,zA1,zA0,zAA,frzL,reduceIte,Nat.reduceEqDiff,g1,g6,g7,lm,hz]
   exact ⟨_,hs,rfl⟩
end Go.Proofs.YtebloodpblgncaaGreat
namespace Go.Proofs.YtebloodpblgncaaGreat
structure CellV where
 id : Eid
 ch : Int
 deriving DecidableEq
end Go.Proofs.YtebloodpblgncaaGreat
namespace Go.Proofs.YtebloodpblgncaaGreat
open Go Go.Ax
abbrev zFY (x : CellV) : List AV:=[U8 x.id.hd.lb.lv,U32 x.id.hd.lb.cats,U8 x.id.hd.num,I64 x.id.c,I32 x.ch]
abbrev zd3 (x : CellV) : AV:=.agg (zFY x)
def zEK (r : List AV) (x : CellV) : Prop:=r = zFY x ∧ x.id.ok
theorem zWK (x : CellV) : ∀ y ∈ zFY x,Fz y:=fun y hy=>by
 simp only [zFY,List.mem_cons,List.not_mem_nil,or_false] at hy
 rcases hy with rfl | rfl | rfl | rfl | rfl <;> exact zC7 _ _
theorem zKH : FzT zEK:=fun r x h=>by rw [h.1]; exact zWK x
theorem CellV.eta (x : CellV) : CellV.mk x.id x.ch = x:=rfl
theorem zZA (a0 : Int) (a1 : Int) (a2 : Int) (a3 : Int) (a4 : Int) : PT.iss [.st [.st [.st [.int .u8,.int .u32],.int .u8],.int .i64],.int .i32] [.int .u8 a0,.int .u32 a1,.int .u8 a2,.int .i64 a3,.int .i32 a4]:=by
 simp only [PT.iss,PT.is]
 exact ⟨[.int .u8 a0,.int .u32 a1,.int .u8 a2,.int .i64 a3],[.int .i32 a4],rfl,⟨[.int .u8 a0,.int .u32 a1,.int .u8 a2],[.int .i64 a3],rfl,⟨[.int .u8 a0,.int .u32 a1],[.int .u8 a2],rfl,⟨[.int .u8 a0],[.int .u32 a1],rfl,⟨_,rfl⟩,⟨[.int .u32 a1],[],rfl,⟨_,rfl⟩,rfl⟩⟩,⟨[.int .u8 a2],[],rfl,⟨_,rfl⟩,rfl⟩⟩,⟨[.int .i64 a3],[],rfl,⟨_,rfl⟩,rfl⟩⟩,⟨[.int .i32 a4],[],rfl,⟨_,rfl⟩,rfl⟩⟩
def zXT (d : Option AV) (u v : AV) : Option AV:=match u,v with
 | .agg [.sc (.int .u8 a0),.sc (.int .u32 a1),.sc (.int .u8 a2),.sc (.int .i64 a3),.sc (.int .i32 a4)],.agg [.sc (.int .u8 b0),.sc (.int .u32 b1),.sc (.int .u8 b2),.sc (.int .i64 b3),.sc (.int .i32 b4)]=>some (BL (!(decide (a0 = b0) && decide (a1 = b1) && decide (a2 = b2) && decide (a3 = b3) && decide (a4 = b4))))
 | _,_=>d
theorem pCeN {t : List AV} (i j : Nat) : zB4 Tryz.prog t (mkO (.binOp .neq 48 (.tmp i) (.tmp j) 48) 4) = zXT (zD6 Tryz.prog t (mkO (.binOp .neq 48 (.tmp i) (.tmp j) 48) 4)) (zA9 t (.tmp i)) (zA9 t (.tmp j)):=by
 unfold zXT
 split
 ·rename_i a0 a1 a2 a3 a4 b0 b1 b2 b3 b4 h1 h2
  obtain ⟨r,hr,he⟩:=pEqS (P:=Tryz.prog) [.st [.st [.st [.int .u8,.int .u32],.int .u8],.int .i64],.int .i32] true 48 48 4 i j (by kernel_rfl) (by decide) (by kernel_rfl) h1 h2 rfl rfl (zZA _ _ _ _ _) (zZA _ _ _ _ _)
  have e : r = (decide (a0 = b0) && decide (a1 = b1) && decide (a2 = b2) && decide (a3 = b3) && decide (a4 = b4)):=by
   rw [Bool.eq_iff_iff,he]
   simp [and_assoc]
  rw [← e]
  exact hr
 ·rfl
theorem zMM (d : Option AV) (a0 a1 a2 a3 a4 : Int) (b0 b1 b2 b3 b4 : Int) : zXT d (.agg [.sc (.int .u8 a0),.sc (.int .u32 a1),.sc (.int .u8 a2),.sc (.int .i64 a3),.sc (.int .i32 a4)]) (.agg [.sc (.int .u8 b0),.sc (.int .u32 b1),.sc (.int .u8 b2),.sc (.int .i64 b3),.sc (.int .i32 b4)]) = some (BL (!decide ((⟨⟨⟨⟨a0,a1⟩,a2⟩,a3⟩,a4⟩ : CellV) = ⟨⟨⟨⟨b0,b1⟩,b2⟩,b3⟩,b4⟩))):=by
 simp only [zXT]
 congr 4
 rw [Bool.eq_iff_iff]
 simp [and_assoc]
end Go.Proofs.YtebloodpblgncaaGreat
