/-
  Texts joined: Tc In SaA SaB SbD SaD SaE SaF RnMay SbG SaG SaH SaC SaI SaJ SaK SaL SaM SaN SaO SbP SaQ SaR SaS SaT SaU SbI SaV VuB VuC.
-/
import Derived.Test.YtklfocnoenjgdaaGreatTb
import Derived.Test.YtklfocnoenjgdaaGreatRows
import Derived.Test.YtklfocnoenjgdaaGreatEf
import Derived.KernelRfl
set_option linter.unusedSimpArgs false
set_option linter.unusedVariables false
set_option maxRecDepth 100000
namespace Go.Proofs.YtklfocnoenjgdaaGreat
open Go Go.Ax
theorem zfS : (tbl.map noX).map clr = msk (tbl.map noX) (zFL Tryz.prog 122 0):=by kernel_rfl
theorem tabOK : zQQ Glob.any Tryz.prog (fsT tbl):=zYP zfS (by kernel_rfl)
end Go.Proofs.YtklfocnoenjgdaaGreat
namespace Go.Proofs.YtklfocnoenjgdaaGreat
open Go.Ax
theorem ovlOK : zQP Tryz.prog :=
 zXW (g:=84) (tS:=63) (tR:=4) (by kernel_rfl) Tryz.func84 (by kernel_rfl) (by kernel_rfl) (by kernel_rfl) (by kernel_rfl) (by kernel_rfl)
theorem insFn : InsO (zZZ Tryz.prog 59) 3 4 :=
 ⟨by kernel_rfl,by kernel_rfl,by kernel_rfl,by kernel_rfl,by kernel_rfl,by kernel_rfl,by kernel_rfl,by kernel_rfl,by kernel_rfl,by kernel_rfl,by kernel_rfl⟩
theorem zb9 : zJY Tryz.prog :=
 zR8 (g:=59) (t0:=63) (e0:=82) (ti0:=(Tryz.prog.info? 82).getD default) (O:=zZZ Tryz.prog 59) (g':=85)
  (z:=(zeroOf Tryz.prog 82).getD default) (tint:=3) (tb:=4) (by kernel_rfl) Tryz.func59 (by kernel_rfl) (by kernel_rfl) (by kernel_rfl) (by kernel_rfl) (by kernel_rfl) insFn (by kernel_rfl) (by kernel_rfl) (by kernel_rfl)
theorem insOK : zNB Glob.any Tryz.prog:=zX3 ovlOK zb9
end Go.Proofs.YtklfocnoenjgdaaGreat
namespace Go.Proofs.YtklfocnoenjgdaaGreat
open Go Go.Ax
abbrev U32 (n : Int) : AV:=.sc (.int .u32 n)
structure Lb where
 lv : Int
 cats : Int
 deriving DecidableEq
structure Hd where
 lb : Lb
 num : Int
 deriving DecidableEq
structure Eid where
 hd : Hd
 c : Int
 deriving DecidableEq
structure Spn where
 f : Eid
 n : Int
 deriving DecidableEq
structure Op where
 kd : Int
 hd : Hd
 sr : Int
 sp : Spn
 af : Eid
 to : Lb
 rs : List Int
 deriving DecidableEq
structure Rn where
 sp : Spn
 af : Eid
 rs : List Int
 deriving DecidableEq
abbrev Lb.z : Lb:=⟨0,0⟩
abbrev Hd.z : Hd:=⟨⟨0,0⟩,0⟩
abbrev Eid.z : Eid:=⟨⟨⟨0,0⟩,0⟩,0⟩
def i64R (x : Int) : Prop:=-9223372036854775808 ≤ x ∧ x ≤ 9223372036854775807
def Lb.ok (x : Lb) : Prop:=0 ≤ x.lv ∧ x.lv ≤ 255 ∧ 0 ≤ x.cats ∧ x.cats < 4294967296
def Hd.ok (x : Hd) : Prop:=x.lb.ok ∧ 0 ≤ x.num ∧ x.num ≤ 255
def Eid.ok (x : Eid) : Prop:=x.hd.ok ∧ i64R x.c
def Spn.ok (x : Spn) : Prop:=x.f.ok ∧ i64R x.n
def i32s (l : List Int) : Prop:=∀ x ∈ l, -2147483648 ≤ x ∧ x ≤ 2147483647
def Op.ok (o : Op) : Prop:=(0 ≤ o.kd ∧ o.kd ≤ 255) ∧ o.hd.ok ∧ i64R o.sr ∧ o.sp.ok ∧ o.af.ok ∧ o.to.ok ∧ i32s o.rs
def Rn.ok (o : Rn) : Prop:=o.sp.ok ∧ o.af.ok ∧ i32s o.rs
theorem Lb.z_ok : Lb.z.ok:=by unfold Lb.ok; decide
theorem Hd.z_ok : Hd.z.ok:=⟨Lb.z_ok,by decide,by decide⟩
theorem Eid.z_ok : Eid.z.ok:=⟨Hd.z_ok,by decide,by decide⟩
abbrev lbR (x : Lb) : List AV:=[U8 x.lv,U32 x.cats]
abbrev hdR (x : Hd) : List AV:=[U8 x.lb.lv,U32 x.lb.cats,U8 x.num]
abbrev idR (x : Eid) : List AV:=[U8 x.hd.lb.lv,U32 x.hd.lb.cats,U8 x.hd.num,I64 x.c]
abbrev spR (x : Spn) : List AV:=[U8 x.f.hd.lb.lv,U32 x.f.hd.lb.cats,U8 x.f.hd.num,I64 x.f.c,I64 x.n]
abbrev opR (o : Op) (ra : AV) : List AV:=[U8 o.kd,U8 o.hd.lb.lv,U32 o.hd.lb.cats,U8 o.hd.num,I64 o.sr,U8 o.sp.f.hd.lb.lv,U32 o.sp.f.hd.lb.cats,U8 o.sp.f.hd.num,I64 o.sp.f.c,I64 o.sp.n,U8 o.af.hd.lb.lv,U32 o.af.hd.lb.cats,U8 o.af.hd.num,I64 o.af.c,U8 o.to.lv,U32 o.to.cats,ra]
abbrev rnR (o : Rn) (ra : AV) : List AV:=[U8 o.sp.f.hd.lb.lv,U32 o.sp.f.hd.lb.cats,U8 o.sp.f.hd.num,I64 o.sp.f.c,I64 o.sp.n,U8 o.af.hd.lb.lv,U32 o.af.hd.lb.cats,U8 o.af.hd.num,I64 o.af.c,ra]
abbrev lbA (x : Lb) : AV:=.agg (lbR x)
abbrev hdA (x : Hd) : AV:=.agg (hdR x)
abbrev idA (x : Eid) : AV:=.agg (idR x)
abbrev spA (x : Spn) : AV:=.agg (spR x)
def zAT (r : List AV) (x : Int) : Prop:=r = [I32 x]
def isLb (r : List AV) (x : Lb) : Prop:=r = lbR x ∧ x.ok
def zKQ (r : List AV) (x : Eid) : Prop:=r = idR x ∧ x.ok
def isOp (r : List AV) (x : Op) : Prop:=∃ ra,r = opR x ra ∧ Sl 1 zAT ra x.rs ∧ x.ok
def isRn (r : List AV) (x : Rn) : Prop:=∃ ra,r = rnR x ra ∧ Sl 1 zAT ra x.rs ∧ x.ok
theorem zF1 : FzT zAT:=fun r x h y hy=>by
 rw [h,List.mem_singleton] at hy; subst hy; exact zCR _ _
theorem zCD (x : Lb) : ∀ y ∈ lbR x,Fz y:=fun y hy=>by
 simp only [lbR,List.mem_cons,List.not_mem_nil,or_false] at hy
 rcases hy with rfl | rfl <;> exact zCR _ _
theorem zE9 (x : Eid) : ∀ y ∈ idR x,Fz y:=fun y hy=>by
 simp only [idR,List.mem_cons,List.not_mem_nil,or_false] at hy
 rcases hy with rfl | rfl | rfl | rfl <;> exact zCR _ _
theorem zPB (x : Spn) : ∀ y ∈ spR x,Fz y:=fun y hy=>by
 simp only [spR,List.mem_cons,List.not_mem_nil,or_false] at hy
 rcases hy with rfl | rfl | rfl | rfl | rfl <;> exact zCR _ _
theorem zZA {o : Op} {ra : AV} (h : Fz ra) : ∀ y ∈ opR o ra,Fz y:=fun y hy=>by
 simp only [opR,List.mem_cons,List.not_mem_nil,or_false] at hy
 rcases hy with rfl | rfl | rfl | rfl | rfl | rfl | rfl | rfl | rfl | rfl | rfl | rfl | rfl | rfl | rfl | rfl | rfl
 all_goals first | exact zCR _ _ | exact h
theorem zZB {o : Rn} {ra : AV} (h : Fz ra) : ∀ y ∈ rnR o ra,Fz y:=fun y hy=>by
 simp only [rnR,List.mem_cons,List.not_mem_nil,or_false] at hy
 rcases hy with rfl | rfl | rfl | rfl | rfl | rfl | rfl | rfl | rfl | rfl
 all_goals first | exact zCR _ _ | exact h
theorem zT6 : FzT isLb:=fun r x h=>by rw [h.1]; exact zCD x
theorem zLT : FzT zKQ:=fun r x h=>by rw [h.1]; exact zE9 x
theorem zI9 : FzT isOp:=fun r x h=>by
 obtain ⟨ra,rfl,hr,_⟩:=h
 exact zZA hr.fz
theorem zCZ : FzT isRn:=fun r x h=>by
 obtain ⟨ra,rfl,hr,_⟩:=h
 exact zZB hr.fz
theorem Lb.eta (x : Lb) : Lb.mk x.lv x.cats = x:=rfl
theorem Hd.eta (x : Hd) : Hd.mk x.lb x.num = x:=rfl
theorem Eid.eta (x : Eid) : Eid.mk x.hd x.c = x:=rfl
theorem Spn.eta (x : Spn) : Spn.mk x.f x.n = x:=rfl
theorem ETA : type_of% (And.intro @Lb.eta (And.intro @Hd.eta (And.intro @Eid.eta @Spn.eta))):=And.intro @Lb.eta (And.intro @Hd.eta (And.intro @Eid.eta @Spn.eta))
theorem zZN (a0 : Int) (a1 : Int) : PT.iss [.int .u8,.int .u32] [.int .u8 a0,.int .u32 a1]:=by
 simp only [PT.iss,PT.is]
 exact ⟨[.int .u8 a0],[.int .u32 a1],rfl,⟨_,rfl⟩,⟨[.int .u32 a1],[],rfl,⟨_,rfl⟩,rfl⟩⟩
def zY8 (d : Option AV) (u v : AV) : Option AV:=match u,v with
 | .agg [.sc (.int .u8 a0),.sc (.int .u32 a1)],.agg [.sc (.int .u8 b0),.sc (.int .u32 b1)]=>some (BL (decide (a0 = b0) && decide (a1 = b1)))
 | _,_=>d
theorem pLbE {t : List AV} (i j : Nat) : zBB Tryz.prog t (mkO (.binOp .eql 25 (.tmp i) (.tmp j) 25) 4) = zY8 (zDM Tryz.prog t (mkO (.binOp .eql 25 (.tmp i) (.tmp j) 25) 4)) (zA8 t (.tmp i)) (zA8 t (.tmp j)):=by
 unfold zY8
 split
 ·rename_i a0 a1 b0 b1 h1 h2
  obtain ⟨r,hr,he⟩:=pEqS (P:=Tryz.prog) [.int .u8,.int .u32] false 25 25 4 i j (by kernel_rfl) (by decide) (by kernel_rfl) h1 h2 rfl rfl (zZN _ _) (zZN _ _)
  have e : r = (decide (a0 = b0) && decide (a1 = b1)):=by
   rw [Bool.eq_iff_iff,he]
   simp []
  rw [← e]
  exact hr
 ·rfl
theorem zDC (d : Option AV) (a0 a1 : Int) (b0 b1 : Int) : zY8 d (.agg [.sc (.int .u8 a0),.sc (.int .u32 a1)]) (.agg [.sc (.int .u8 b0),.sc (.int .u32 b1)]) = some (BL (decide ((⟨a0,a1⟩ : Lb) = ⟨b0,b1⟩))):=by
 simp only [zY8]
 congr 4
 rw [Bool.eq_iff_iff]
 simp []
theorem zZO (a0 : Int) (a1 : Int) : PT.iss [.int .u8,.int .u32] [.int .u8 a0,.int .u32 a1]:=by
 simp only [PT.iss,PT.is]
 exact ⟨[.int .u8 a0],[.int .u32 a1],rfl,⟨_,rfl⟩,⟨[.int .u32 a1],[],rfl,⟨_,rfl⟩,rfl⟩⟩
def zY9 (d : Option AV) (u v : AV) : Option AV:=match u,v with
 | .agg [.sc (.int .u8 a0),.sc (.int .u32 a1)],.agg [.sc (.int .u8 b0),.sc (.int .u32 b1)]=>some (BL (!(decide (a0 = b0) && decide (a1 = b1))))
 | _,_=>d
theorem pLbN {t : List AV} (i j : Nat) : zBB Tryz.prog t (mkO (.binOp .neq 25 (.tmp i) (.tmp j) 25) 4) = zY9 (zDM Tryz.prog t (mkO (.binOp .neq 25 (.tmp i) (.tmp j) 25) 4)) (zA8 t (.tmp i)) (zA8 t (.tmp j)):=by
 unfold zY9
 split
 ·rename_i a0 a1 b0 b1 h1 h2
  obtain ⟨r,hr,he⟩:=pEqS (P:=Tryz.prog) [.int .u8,.int .u32] true 25 25 4 i j (by kernel_rfl) (by decide) (by kernel_rfl) h1 h2 rfl rfl (zZO _ _) (zZO _ _)
  have e : r = (decide (a0 = b0) && decide (a1 = b1)):=by
   rw [Bool.eq_iff_iff,he]
   simp []
  rw [← e]
  exact hr
 ·rfl
theorem zG7 (d : Option AV) (a0 a1 : Int) (b0 b1 : Int) : zY9 d (.agg [.sc (.int .u8 a0),.sc (.int .u32 a1)]) (.agg [.sc (.int .u8 b0),.sc (.int .u32 b1)]) = some (BL (!decide ((⟨a0,a1⟩ : Lb) = ⟨b0,b1⟩))):=by
 simp only [zY9]
 congr 4
 rw [Bool.eq_iff_iff]
 simp []
theorem zZK (a0 : Int) (a1 : Int) (a2 : Int) : PT.iss [.st [.int .u8,.int .u32],.int .u8] [.int .u8 a0,.int .u32 a1,.int .u8 a2]:=by
 simp only [PT.iss,PT.is]
 exact ⟨[.int .u8 a0,.int .u32 a1],[.int .u8 a2],rfl,⟨[.int .u8 a0],[.int .u32 a1],rfl,⟨_,rfl⟩,⟨[.int .u32 a1],[],rfl,⟨_,rfl⟩,rfl⟩⟩,⟨[.int .u8 a2],[],rfl,⟨_,rfl⟩,rfl⟩⟩
def zY5 (d : Option AV) (u v : AV) : Option AV:=match u,v with
 | .agg [.sc (.int .u8 a0),.sc (.int .u32 a1),.sc (.int .u8 a2)],.agg [.sc (.int .u8 b0),.sc (.int .u32 b1),.sc (.int .u8 b2)]=>some (BL (decide (a0 = b0) && decide (a1 = b1) && decide (a2 = b2)))
 | _,_=>d
theorem pHdE {t : List AV} (i j : Nat) : zBB Tryz.prog t (mkO (.binOp .eql 35 (.tmp i) (.tmp j) 35) 4) = zY5 (zDM Tryz.prog t (mkO (.binOp .eql 35 (.tmp i) (.tmp j) 35) 4)) (zA8 t (.tmp i)) (zA8 t (.tmp j)):=by
 unfold zY5
 split
 ·rename_i a0 a1 a2 b0 b1 b2 h1 h2
  obtain ⟨r,hr,he⟩:=pEqS (P:=Tryz.prog) [.st [.int .u8,.int .u32],.int .u8] false 35 35 4 i j (by kernel_rfl) (by decide) (by kernel_rfl) h1 h2 rfl rfl (zZK _ _ _) (zZK _ _ _)
  have e : r = (decide (a0 = b0) && decide (a1 = b1) && decide (a2 = b2)):=by
   rw [Bool.eq_iff_iff,he]
   simp [and_assoc]
  rw [← e]
  exact hr
 ·rfl
theorem zDB (d : Option AV) (a0 a1 a2 : Int) (b0 b1 b2 : Int) : zY5 d (.agg [.sc (.int .u8 a0),.sc (.int .u32 a1),.sc (.int .u8 a2)]) (.agg [.sc (.int .u8 b0),.sc (.int .u32 b1),.sc (.int .u8 b2)]) = some (BL (decide ((⟨⟨a0,a1⟩,a2⟩ : Hd) = ⟨⟨b0,b1⟩,b2⟩))):=by
 simp only [zY5]
 congr 4
 rw [Bool.eq_iff_iff]
 simp [and_assoc]
theorem zZL (a0 : Int) (a1 : Int) (a2 : Int) (a3 : Int) : PT.iss [.st [.st [.int .u8,.int .u32],.int .u8],.int .i64] [.int .u8 a0,.int .u32 a1,.int .u8 a2,.int .i64 a3]:=by
 simp only [PT.iss,PT.is]
 exact ⟨[.int .u8 a0,.int .u32 a1,.int .u8 a2],[.int .i64 a3],rfl,⟨[.int .u8 a0,.int .u32 a1],[.int .u8 a2],rfl,⟨[.int .u8 a0],[.int .u32 a1],rfl,⟨_,rfl⟩,⟨[.int .u32 a1],[],rfl,⟨_,rfl⟩,rfl⟩⟩,⟨[.int .u8 a2],[],rfl,⟨_,rfl⟩,rfl⟩⟩,⟨[.int .i64 a3],[],rfl,⟨_,rfl⟩,rfl⟩⟩
def zY6 (d : Option AV) (u v : AV) : Option AV:=match u,v with
 | .agg [.sc (.int .u8 a0),.sc (.int .u32 a1),.sc (.int .u8 a2),.sc (.int .i64 a3)],.agg [.sc (.int .u8 b0),.sc (.int .u32 b1),.sc (.int .u8 b2),.sc (.int .i64 b3)]=>some (BL (decide (a0 = b0) && decide (a1 = b1) && decide (a2 = b2) && decide (a3 = b3)))
 | _,_=>d
theorem pIdE {t : List AV} (i j : Nat) : zBB Tryz.prog t (mkO (.binOp .eql 37 (.tmp i) (.tmp j) 37) 4) = zY6 (zDM Tryz.prog t (mkO (.binOp .eql 37 (.tmp i) (.tmp j) 37) 4)) (zA8 t (.tmp i)) (zA8 t (.tmp j)):=by
 unfold zY6
 split
 ·rename_i a0 a1 a2 a3 b0 b1 b2 b3 h1 h2
  obtain ⟨r,hr,he⟩:=pEqS (P:=Tryz.prog) [.st [.st [.int .u8,.int .u32],.int .u8],.int .i64] false 37 37 4 i j (by kernel_rfl) (by decide) (by kernel_rfl) h1 h2 rfl rfl (zZL _ _ _ _) (zZL _ _ _ _)
  have e : r = (decide (a0 = b0) && decide (a1 = b1) && decide (a2 = b2) && decide (a3 = b3)):=by
   rw [Bool.eq_iff_iff,he]
   simp [and_assoc]
  rw [← e]
  exact hr
 ·rfl
theorem zAS (d : Option AV) (a0 a1 a2 a3 : Int) (b0 b1 b2 b3 : Int) : zY6 d (.agg [.sc (.int .u8 a0),.sc (.int .u32 a1),.sc (.int .u8 a2),.sc (.int .i64 a3)]) (.agg [.sc (.int .u8 b0),.sc (.int .u32 b1),.sc (.int .u8 b2),.sc (.int .i64 b3)]) = some (BL (decide ((⟨⟨⟨a0,a1⟩,a2⟩,a3⟩ : Eid) = ⟨⟨⟨b0,b1⟩,b2⟩,b3⟩))):=by
 simp only [zY6]
 congr 4
 rw [Bool.eq_iff_iff]
 simp [and_assoc]
theorem zZM (a0 : Int) (a1 : Int) (a2 : Int) (a3 : Int) : PT.iss [.st [.st [.int .u8,.int .u32],.int .u8],.int .i64] [.int .u8 a0,.int .u32 a1,.int .u8 a2,.int .i64 a3]:=by
 simp only [PT.iss,PT.is]
 exact ⟨[.int .u8 a0,.int .u32 a1,.int .u8 a2],[.int .i64 a3],rfl,⟨[.int .u8 a0,.int .u32 a1],[.int .u8 a2],rfl,⟨[.int .u8 a0],[.int .u32 a1],rfl,⟨_,rfl⟩,⟨[.int .u32 a1],[],rfl,⟨_,rfl⟩,rfl⟩⟩,⟨[.int .u8 a2],[],rfl,⟨_,rfl⟩,rfl⟩⟩,⟨[.int .i64 a3],[],rfl,⟨_,rfl⟩,rfl⟩⟩
def zY7 (d : Option AV) (u v : AV) : Option AV:=match u,v with
 | .agg [.sc (.int .u8 a0),.sc (.int .u32 a1),.sc (.int .u8 a2),.sc (.int .i64 a3)],.agg [.sc (.int .u8 b0),.sc (.int .u32 b1),.sc (.int .u8 b2),.sc (.int .i64 b3)]=>some (BL (!(decide (a0 = b0) && decide (a1 = b1) && decide (a2 = b2) && decide (a3 = b3))))
 | _,_=>d
theorem pIdN {t : List AV} (i j : Nat) : zBB Tryz.prog t (mkO (.binOp .neq 37 (.tmp i) (.tmp j) 37) 4) = zY7 (zDM Tryz.prog t (mkO (.binOp .neq 37 (.tmp i) (.tmp j) 37) 4)) (zA8 t (.tmp i)) (zA8 t (.tmp j)):=by
 unfold zY7
 split
 ·rename_i a0 a1 a2 a3 b0 b1 b2 b3 h1 h2
  obtain ⟨r,hr,he⟩:=pEqS (P:=Tryz.prog) [.st [.st [.int .u8,.int .u32],.int .u8],.int .i64] true 37 37 4 i j (by kernel_rfl) (by decide) (by kernel_rfl) h1 h2 rfl rfl (zZM _ _ _ _) (zZM _ _ _ _)
  have e : r = (decide (a0 = b0) && decide (a1 = b1) && decide (a2 = b2) && decide (a3 = b3)):=by
   rw [Bool.eq_iff_iff,he]
   simp [and_assoc]
  rw [← e]
  exact hr
 ·rfl
theorem zB5 (d : Option AV) (a0 a1 a2 a3 : Int) (b0 b1 b2 b3 : Int) : zY7 d (.agg [.sc (.int .u8 a0),.sc (.int .u32 a1),.sc (.int .u8 a2),.sc (.int .i64 a3)]) (.agg [.sc (.int .u8 b0),.sc (.int .u32 b1),.sc (.int .u8 b2),.sc (.int .i64 b3)]) = some (BL (!decide ((⟨⟨⟨a0,a1⟩,a2⟩,a3⟩ : Eid) = ⟨⟨⟨b0,b1⟩,b2⟩,b3⟩))):=by
 simp only [zY7]
 congr 4
 rw [Bool.eq_iff_iff]
 simp [and_assoc]
theorem zZP (a0 : Int) (a1 : Int) (a2 : Int) (a3 : Int) (a4 : Int) : PT.iss [.st [.st [.st [.int .u8,.int .u32],.int .u8],.int .i64],.int .i64] [.int .u8 a0,.int .u32 a1,.int .u8 a2,.int .i64 a3,.int .i64 a4]:=by
 simp only [PT.iss,PT.is]
 exact ⟨[.int .u8 a0,.int .u32 a1,.int .u8 a2,.int .i64 a3],[.int .i64 a4],rfl,⟨[.int .u8 a0,.int .u32 a1,.int .u8 a2],[.int .i64 a3],rfl,⟨[.int .u8 a0,.int .u32 a1],[.int .u8 a2],rfl,⟨[.int .u8 a0],[.int .u32 a1],rfl,⟨_,rfl⟩,⟨[.int .u32 a1],[],rfl,⟨_,rfl⟩,rfl⟩⟩,⟨[.int .u8 a2],[],rfl,⟨_,rfl⟩,rfl⟩⟩,⟨[.int .i64 a3],[],rfl,⟨_,rfl⟩,rfl⟩⟩,⟨[.int .i64 a4],[],rfl,⟨_,rfl⟩,rfl⟩⟩
def zYA (d : Option AV) (u v : AV) : Option AV:=match u,v with
 | .agg [.sc (.int .u8 a0),.sc (.int .u32 a1),.sc (.int .u8 a2),.sc (.int .i64 a3),.sc (.int .i64 a4)],.agg [.sc (.int .u8 b0),.sc (.int .u32 b1),.sc (.int .u8 b2),.sc (.int .i64 b3),.sc (.int .i64 b4)]=>some (BL (decide (a0 = b0) && decide (a1 = b1) && decide (a2 = b2) && decide (a3 = b3) && decide (a4 = b4)))
 | _,_=>d
theorem pSpE {t : List AV} (i j : Nat) : zBB Tryz.prog t (mkO (.binOp .eql 39 (.tmp i) (.tmp j) 39) 4) = zYA (zDM Tryz.prog t (mkO (.binOp .eql 39 (.tmp i) (.tmp j) 39) 4)) (zA8 t (.tmp i)) (zA8 t (.tmp j)):=by
 unfold zYA
 split
 ·rename_i a0 a1 a2 a3 a4 b0 b1 b2 b3 b4 h1 h2
  obtain ⟨r,hr,he⟩:=pEqS (P:=Tryz.prog) [.st [.st [.st [.int .u8,.int .u32],.int .u8],.int .i64],.int .i64] false 39 39 4 i j (by kernel_rfl) (by decide) (by kernel_rfl) h1 h2 rfl rfl (zZP _ _ _ _ _) (zZP _ _ _ _ _)
  have e : r = (decide (a0 = b0) && decide (a1 = b1) && decide (a2 = b2) && decide (a3 = b3) && decide (a4 = b4)):=by
   rw [Bool.eq_iff_iff,he]
   simp [and_assoc]
  rw [← e]
  exact hr
 ·rfl
theorem zDD (d : Option AV) (a0 a1 a2 a3 a4 : Int) (b0 b1 b2 b3 b4 : Int) : zYA d (.agg [.sc (.int .u8 a0),.sc (.int .u32 a1),.sc (.int .u8 a2),.sc (.int .i64 a3),.sc (.int .i64 a4)]) (.agg [.sc (.int .u8 b0),.sc (.int .u32 b1),.sc (.int .u8 b2),.sc (.int .i64 b3),.sc (.int .i64 b4)]) = some (BL (decide ((⟨⟨⟨⟨a0,a1⟩,a2⟩,a3⟩,a4⟩ : Spn) = ⟨⟨⟨⟨b0,b1⟩,b2⟩,b3⟩,b4⟩))):=by
 simp only [zYA]
 congr 4
 rw [Bool.eq_iff_iff]
 simp [and_assoc]
end Go.Proofs.YtklfocnoenjgdaaGreat
namespace Go.Proofs.YtklfocnoenjgdaaGreat
open Go Go.Ax
variable {fuel : Nat} {M : Mem} {Q : AV → Mem → Prop} {d : Nat}
def zTN (a b : Int) : Int:=IntKind.u32.wrap ((BitVec.ofInt 32 a &&& ~~~ BitVec.ofInt 32 b).toNat : Nat)
def Lb.leq (a b : Lb) : Bool:=decide (a.lv ≤ b.lv) && decide (zTN a.cats b.cats = 0)
def Lb.may (a : Lb) : Bool:=!decide (15 < a.lv)
def Hd.may (h : Hd) : Bool:=h.lb.may && decide (h.num < 8)
def Eid.may (x : Eid) : Bool:=x.hd.may && decide (1 ≤ x.c) && decide (x.c ≤ 1099511627776)
def Spn.may (s : Spn) : Bool:=s.f.may && decide (1 ≤ s.n) && decide (s.n ≤ 64) && decide (s.f.c + s.n ≤ 1099511627777)
def err (b : Bool) : Int:=if b then 0 else 8
theorem zB3 : err true = 0:=rfl
theorem zBH : err false = 8:=rfl
theorem zVK (P : Program) (ty : TypeId) (a b : Int) : binV P .andNot ty .u32 a .u32 b = some (.int .u32 (zTN a b)):=by
 simp only [binV,binOp,ne_eq,not_true_eq_false,if_false,Op.intBits]
 rfl
theorem zGS (a b : Lb) (M : Mem) : zAE Tryz.prog (fsT tbl) fuel (d + 1) (.fn 19) [lbA a,lbA b] M = some (BL (a.leq b),M):=by
 apply zBI
 refine zAI tf19 rfl (by simp (maxSteps:=2000000) (disch:=first | omega | assumption | (simp only [DS,Nat.reduceAdd, *]; done) | (simp only [DZ]; omega)) only [RUN,icyL,Nat.reduceSub]) (by simp [a19]) fun b' ht hx=>?_
 have h0:=hx 0 _ rfl
 have h1:=hx 1 _ rfl
 clear hx
 simp only [a19,c19,zzm] at ht ⊢
 unfold Lb.leq
 by_cases q : a.lv ≤ b.lv
 ·have q1 : decide (a.lv ≤ b.lv) = true:=decide_eq_true q
  simp (maxSteps:=2000000) (disch:=first | omega | assumption | (simp only [DS,Nat.reduceAdd, *]; done) | (simp only [DZ]; omega)) only [RUN,RU,zA2,zA1,zA0,zAB,frzL,reduceIte,Nat.reduceEqDiff,Nat.reduceAdd,h0,h1,q1,zVK]
 ·have q1 : decide (a.lv ≤ b.lv) = false:=decide_eq_false q
  simp (maxSteps:=2000000) (disch:=first | omega | assumption | (simp only [DS,Nat.reduceAdd, *]; done) | (simp only [DZ]; omega)) only [RUN,RU,zA2,zA1,zA0,zAB,frzL,reduceIte,Nat.reduceEqDiff,Nat.reduceAdd,h0,h1,q1,Bool.false_and]
theorem zDT (a : Lb) (M : Mem) : zAE Tryz.prog (fsT tbl) fuel (d + 1) (.fn 18) [lbA a] M = some (I64 (err a.may),M):=by
 apply zBI
 refine zAI tf18 rfl (by simp (maxSteps:=2000000) (disch:=first | omega | assumption | (simp only [DS,Nat.reduceAdd, *]; done) | (simp only [DZ]; omega)) only [RUN,icyL,Nat.reduceSub]) (by simp [a18]) fun b' ht hx=>?_
 have h0:=hx 0 _ rfl
 clear hx
 simp only [a18,c18] at ht ⊢
 unfold Lb.may
 cases q : decide (15 < a.lv) <;> simp (maxSteps:=2000000) (disch:=first | omega | assumption | (simp only [DS,Nat.reduceAdd, *]; done) | (simp only [DZ]; omega)) only [RUN,RU,zA2,zA1,zA0,zAB,frzL,reduceIte,Nat.reduceEqDiff,h0,q,zB3,zBH]
theorem zIW (b : Bool) (M : Mem) : zAE Tryz.prog (fsT tbl) fuel (d + 1) (.fn 86) [BL b] M = some (I64 (err b),M):=by
 apply zBI
 refine zAI tf86 rfl (by simp (maxSteps:=2000000) (disch:=first | omega | assumption | (simp only [DS,Nat.reduceAdd, *]; done) | (simp only [DZ]; omega)) only [RUN,icyL]) (by simp [a86]) fun b' ht hx=>?_
 have h0:=hx 0 _ rfl
 clear hx
 simp only [a86,c86,zzm] at ht ⊢
 cases b <;> simp (maxSteps:=2000000) (disch:=first | omega | assumption | (simp only [DS,Nat.reduceAdd, *]; done) | (simp only [DZ]; omega)) only [RUN,RU,zA2,zA1,zA0,zAB,frzL,reduceIte,Nat.reduceEqDiff,h0,zB3,zBH]
theorem zI2 (h : Hd) (M : Mem) : zAE Tryz.prog (fsT tbl) fuel (d + 2) (.fn 68) [hdA h] M = some (I64 (err h.may),M):=by
 have hl:=fun M=>@zDT fuel d h.lb M
 have hr:=fun b M=>@zIW fuel d b M
 apply zBI
 refine zAI tf68 rfl (by simp (maxSteps:=2000000) (disch:=first | omega | assumption | (simp only [DS,Nat.reduceAdd, *]; done) | (simp only [DZ]; omega)) only [RUN,icyL,Nat.reduceSub]) (by simp [a68]) fun b' ht hx=>?_
 have h0:=hx 0 _ rfl
 clear hx
 simp only [a68,c68,zzm] at ht ⊢
 unfold Hd.may
 cases hm : h.lb.may <;> rw [hm] at hl
 ·simp (maxSteps:=2000000) (disch:=first | omega | assumption | (simp only [DS,Nat.reduceAdd, *]; done) | (simp only [DZ]; omega)) only [RUN,RU,zA2,zA1,zA0,zAB,frzL,slot,reduceIte,Nat.reduceEqDiff,Int.reduceEq,h0,hl,hr,zBH,Bool.false_and]
 ·simp (maxSteps:=2000000) (disch:=first | omega | assumption | (simp only [DS,Nat.reduceAdd, *]; done) | (simp only [DZ]; omega)) only [RUN,RU,zA2,zA1,zA0,zAB,frzL,slot,reduceIte,Nat.reduceEqDiff,h0,hl,hr,zB3]
theorem zK3 (x : Eid) (M : Mem) : zAE Tryz.prog (fsT tbl) fuel (d + 3) (.fn 64) [idA x] M = some (I64 (err x.may),M):=by
 have hl:=fun M=>@zI2 fuel d x.hd M
 have hr:=fun b M=>@zIW fuel (d + 1) b M
 apply zBI
 refine zAI tf64 rfl (by simp (maxSteps:=2000000) (disch:=first | omega | assumption | (simp only [DS,Nat.reduceAdd, *]; done) | (simp only [DZ]; omega)) only [RUN,icyL,Nat.reduceSub]) (by simp [a64]) fun b' ht hx=>?_
 have h0:=hx 0 _ rfl
 clear hx
 simp only [a64,c64,zzm] at ht ⊢
 unfold Eid.may
 cases hm : x.hd.may <;> rw [hm] at hl
 ·simp (maxSteps:=2000000) (disch:=first | omega | assumption | (simp only [DS,Nat.reduceAdd, *]; done) | (simp only [DZ]; omega)) only [RUN,RU,zA2,zA1,zA0,zAB,frzL,slot,reduceIte,Nat.reduceEqDiff,Int.reduceEq,h0,hl,hr,zBH,Bool.false_and]
 ·cases q : decide (1 ≤ x.c)
  ·simp (maxSteps:=2000000) (disch:=first | omega | assumption | (simp only [DS,Nat.reduceAdd, *]; done) | (simp only [DZ]; omega)) only [RUN,RU,zA2,zA1,zA0,zAB,frzL,slot,reduceIte,Nat.reduceEqDiff,h0,hl,hr,zB3,q,Bool.false_and]
  ·simp (maxSteps:=2000000) (disch:=first | omega | assumption | (simp only [DS,Nat.reduceAdd, *]; done) | (simp only [DZ]; omega)) only [RUN,RU,zA2,zA1,zA0,zAB,frzL,slot,reduceIte,Nat.reduceEqDiff,h0,hl,hr,zB3,q]
theorem zFT (s : Spn) (M : Mem) : zAE Tryz.prog (fsT tbl) fuel (d + 4) (.fn 61) [spA s] M = some (I64 (err s.may),M):=by
 have hl:=fun M=>@zK3 fuel d s.f M
 have hr:=fun b M=>@zIW fuel (d + 2) b M
 apply zBI
 refine zAI tf61 rfl (by simp (maxSteps:=2000000) (disch:=first | omega | assumption | (simp only [DS,Nat.reduceAdd, *]; done) | (simp only [DZ]; omega)) only [RUN,icyL,Nat.reduceSub]) (by simp [a61]) fun b' ht hx=>?_
 have h0:=hx 0 _ rfl
 clear hx
 simp only [a61,c61,zzm] at ht ⊢
 unfold Spn.may
 cases hm : s.f.may <;> rw [hm] at hl
 ·simp (maxSteps:=2000000) (disch:=first | omega | assumption | (simp only [DS,Nat.reduceAdd, *]; done) | (simp only [DZ]; omega)) only [RUN,RU,zA2,zA1,zA0,zAB,frzL,slot,reduceIte,Nat.reduceEqDiff,Int.reduceEq,h0,hl,hr,zBH,Bool.false_and]
 ·cases q1 : decide (1 ≤ s.n)
  ·simp (maxSteps:=2000000) (disch:=first | omega | assumption | (simp only [DS,Nat.reduceAdd, *]; done) | (simp only [DZ]; omega)) only [RUN,RU,zA2,zA1,zA0,zAB,frzL,slot,reduceIte,Nat.reduceEqDiff,h0,hl,hr,zB3,q1,Bool.false_and]
  ·cases q2 : decide (s.n ≤ 64)
   ·simp (maxSteps:=2000000) (disch:=first | omega | assumption | (simp only [DS,Nat.reduceAdd, *]; done) | (simp only [DZ]; omega)) only [RUN,RU,zA2,zA1,zA0,zAB,frzL,slot,reduceIte,Nat.reduceEqDiff,h0,hl,hr,zB3,q1,q2,Bool.false_and]
   ·have w : IntKind.i64.wrap (IntKind.i64.wrap (s.f.c + s.n) - 1) = s.f.c + s.n - 1:=by
     unfold Eid.may at hm
     simp only [Bool.and_eq_true,decide_eq_true_eq] at hm q1 q2
     rw [wrap_i64 (n:=s.f.c + s.n) (by omega) (by omega),wrap_i64 (by omega) (by omega)]
    have q3 : decide (s.f.c + s.n - 1 ≤ 1099511627776) = decide (s.f.c + s.n ≤ 1099511627777):=by
     rw [Bool.eq_iff_iff,decide_eq_true_iff,decide_eq_true_iff]; omega
    simp (maxSteps:=2000000) (disch:=first | omega | assumption | (simp only [DS,Nat.reduceAdd, *]; done) | (simp only [DZ]; omega)) only [RUN,RU,zA2,zA1,zA0,zAB,frzL,slot,reduceIte,Nat.reduceEqDiff,h0,hl,hr,zB3,q1,q2,w,q3]
end Go.Proofs.YtklfocnoenjgdaaGreat
namespace Go.Proofs.YtklfocnoenjgdaaGreat
open Go Go.Ax
variable {fuel : Nat} {M : Mem} {Q : AV → Mem → Prop} {d : Nat}
def zV7 (x : Int) : Bool:=(decide (0 ≤ x) && decide (x < 55296)) || (decide (57343 < x) && decide (x ≤ 1114111))
def okR (x : Int) : Bool:=decide (x = -1) || zV7 x
def chkR (l : List Int) : Int:=if 64 < l.length then 4 else err (l.all okR)
theorem zV8 (x : Int) (M : Mem) : zAE Tryz.prog (fsT tbl) fuel (d + 1) (.fn 105) [I32 x] M = some (BL (zV7 x),M):=by
 apply zBI
 refine zAI tf105 rfl (by simp (maxSteps:=2000000) (disch:=first | omega | assumption | (simp only [DS,Nat.reduceAdd, *]; done) | (simp only [DZ]; omega)) only [RUN,icyL]) (by simp [a105]) fun b' ht hx=>?_
 have h0:=hx 0 _ rfl
 clear hx
 simp only [a105,c105,zzm,zzg] at ht ⊢
 unfold zV7
 cases q1 : decide (0 ≤ x) <;> cases q2 : decide (x < 55296) <;> cases q3 : decide (57343 < x) <;> cases q4 : decide (x ≤ 1114111)
 all_goals simp (maxSteps:=2000000) (disch:=first | omega | assumption | (simp only [DS,Nat.reduceAdd, *]; done) | (simp only [DZ]; omega)) only [RUN,RU,zA2,zA1,zA0,zAB,frzL,reduceIte,Nat.reduceEqDiff,h0,q1,q2,q3,q4]
theorem zVD (x : Int) (M : Mem) : zAE Tryz.prog (fsT tbl) fuel (d + 2) (.fn 104) [I32 x] M = some (BL (!okR x),M):=by
 have hv:=fun M=>@zV8 fuel d x M
 apply zBI
 refine zAI tf104 rfl (by simp (maxSteps:=2000000) (disch:=first | omega | assumption | (simp only [DS,Nat.reduceAdd, *]; done) | (simp only [DZ]; omega)) only [RUN,icyL]) (by simp [a104]) fun b' ht hx=>?_
 have h0:=hx 0 _ rfl
 clear hx
 simp only [a104,c104,zzm,zzg] at ht ⊢
 unfold okR
 cases q : decide (x = -1) <;> simp (maxSteps:=2000000) (disch:=first | omega | assumption | (simp only [DS,Nat.reduceAdd, *]; done) | (simp only [DZ]; omega)) only [RUN,RU,zA2,zA1,zA0,zAB,frzL,reduceIte,Nat.reduceEqDiff,h0,q,hv]
theorem zS5 {α : Type} (p : α → Bool) (l : List α) : (l.any fun x => !p x) = !l.all p:=by
 induction l with
 | nil=>rfl
 | cons x l ih=>simp only [List.any_cons,List.all_cons,ih,Bool.not_and]
theorem zJS {a : AV} {l : List Int} (hS : Sl 1 zAT a l) (hf : 100 < fuel) (M : Mem) : zAE Tryz.prog (fsT tbl) fuel (d + 5) (.fn 73) [a] M = some (I64 (chkR l),M):=by
 have ll:=hS.len
 apply zBI
 refine zAI tf73 rfl (by simp (maxSteps:=2000000) (disch:=first | omega | assumption | (simp only [DS,Nat.reduceAdd, *]; done) | (simp only [DZ]; omega)) only [icyL,hS.fz.icy]) (by simp [a73]) fun b' ht hx=>?_
 have h0:=hx 0 _ rfl
 clear hx
 simp only [a73,c73,zzm] at ht ⊢
 unfold chkR
 by_cases q : 64 < l.length
 ·have q1 : decide ((64 : Int) < l.length) = true:=decide_eq_true (by omega)
  simp (maxSteps:=2000000) (disch:=first | omega | assumption | (simp only [DS,Nat.reduceAdd, *]; done) | (simp only [DZ]; omega)) only [RUN,RU,zA2,zA1,zA0,zAB,frzL,reduceIte,Nat.reduceEqDiff,h0,ll,q1,q,if_true]
 ·have q1 : decide ((64 : Int) < l.length) = false:=decide_eq_false (by omega)
  have hh:=fun M=>ze1 (P:=Tryz.prog) (fs:=fsT tbl) (fuel:=fuel) (l:=l) (ag:=false) (n:=d + 2) tf106 tf118 (fun _=>rfl) zF1 hS (by omega) (by omega) (zZ9 104) (p:=fun x => !okR x) (fun r x hr _ M=>by
   obtain rfl:=hr
   exact @zVD fuel d x M) M
  rw [zS5] at hh
  cases hb : l.all okR <;> rw [hb] at hh <;> simp (maxSteps:=2000000) (disch:=first | omega | assumption | (simp only [DS,Nat.reduceAdd, *]; done) | (simp only [DZ]; omega)) only [RUN,RU,zA2,zA1,zA0,zAB,frzL,reduceIte,Nat.reduceEqDiff,h0,ll,q1,q,hh,if_false,zB3,zBH]
theorem zL2 {a : AV} {l : List Int} (hS : Sl 1 zAT a l) (hl : l.length ≤ 1000000000) (wf : Wf M)
  (k : ∀ a' M',Wf M' → M.size ≤ M'.size → (∀ j,j < M.size → M'.get j = M.get j) → SlM M' 1 zAT a' l → (∀ id,rowOf a' = some id → M.size ≤ id) → M'.wm = M.wm → M'.dirty = M.dirty → Q a' M') : W3 (zAE Tryz.prog (fsT tbl) fuel (d + 1) (.fn 35) [a] M) Q :=
 zaI zF1.cel tf35 Tryz.underlying40 hS (by omega) (by omega) wf k
end Go.Proofs.YtklfocnoenjgdaaGreat
namespace Go.Proofs.YtklfocnoenjgdaaGreat
open Go Go.Ax
variable {fuel : Nat} {M : Mem} {Q : AV → Mem → Prop} {d : Nat}
theorem zTO (M : Mem) : zAE Tryz.prog (fsT tbl) fuel (d + 1) (.fn 92) [] M = some (lbA Lb.z,M):=by
 apply zBI
 refine zAI tf92 rfl (by simp (maxSteps:=2000000) (disch:=first | omega | assumption | (simp only [DS,Nat.reduceAdd, *]; done) | (simp only [DZ]; omega)) only [icyL]) (by simp [a92]) fun b' ht hx=>?_
 clear hx
 simp only [a92,c92,zz4] at ht ⊢
 simp (maxSteps:=2000000) (disch:=first | omega | assumption | (simp only [DS,Nat.reduceAdd, *]; done) | (simp only [DZ]; omega)) only [RUN,RU,zA2,zA1,zA0,zAB,frzL,slot,lay,zAJ,reduceIte,Nat.reduceEqDiff,Nat.reduceAdd,Nat.reduceSub]
theorem zH8 {o : Op} {ra : AV} (h : Fz ra) (M : Mem) : icy 12 M (.agg (opR o ra)) = some (.agg (opR o ra),M):=zAV (zZA h) (by omega) M
def Op.bare (o : Op) : Bool:=decide (o.af = Eid.z) && decide ((o.rs.length : Int) = 0)
def Op.part (o : Op) : Bool :=
 if o.kd = 1 then decide (o.to = Lb.z) && (decide (o.af = Eid.z) || o.af.may) && decide (o.sp.f.hd = o.hd) && decide ((o.rs.length : Int) = o.sp.n) && decide (chkR o.rs = 0)
 else if o.kd = 2 then decide (o.to = Lb.z) && o.bare
 else o.bare && o.to.may
def Op.may (o : Op) : Bool:=!decide (o.kd = 0) && !decide (4 ≤ o.kd) && o.hd.may && !decide (o.sr < 1) && !decide (16777216 ≤ o.sr) && o.sp.may && o.part
theorem zZ1 {o : Op} {ra : AV} (hS : Sl 1 zAT ra o.rs) (wf : Wf M) (k : ∀ N,Kept M N → Q (BL o.bare) N) : W3 (zAE Tryz.prog (fsT tbl) fuel (d + 1) (.fn 90) [.agg (opR o ra)] M) Q:=by
 have pIdE:=@pIdE
 have ll:=hS.len
 unfold Op.bare at k
 refine zAZ tf90 rfl (by simp [a90]) fun b' ht hx=>?_
 have h0:=hx 0 _ rfl
 clear hx
 simp only [a90,c90,zz3,zzm] at ht ⊢
 cases q : decide (o.af = Eid.z) <;> rw [q] at k <;> simp only [Bool.false_and,Bool.true_and] at k <;> simp (maxSteps:=2000000) (disch:=first | omega | assumption | (simp only [DS,Nat.reduceAdd, *]; done) | (simp only [DZ]; omega)) only [RUN,RU,zA2,zA1,zA0,zAB,slot,zAJ,reduceIte,Nat.reduceEqDiff,h0,↓pIdE,zAS,ETA,q,ll]
 all_goals exact k _ ((Kept.refl wf).add _)
theorem zPK {o : Op} {ra : AV} (hS : Sl 1 zAT ra o.rs) (wf : Wf M) (k : ∀ N,Kept M N → Q (BL (decide (o.to = Lb.z))) N) : W3 (zAE Tryz.prog (fsT tbl) fuel (d + 2) (.fn 91) [.agg (opR o ra)] M) Q:=by
 have pLbE:=@pLbE
 have hl:=fun M=>@zTO fuel d M
 refine zAZ tf91 rfl (by simp [a91]) fun b' ht hx=>?_
 have h0:=hx 0 _ rfl
 clear hx
 simp only [a91,c91,zzm] at ht ⊢
 simp (maxSteps:=2000000) (disch:=first | omega | assumption | (simp only [DS,Nat.reduceAdd, *]; done) | (simp only [DZ]; omega)) only [RUN,RU,zA2,zA1,zA0,zAB,slot,reduceIte,Nat.reduceEqDiff,Nat.reduceBEq,Nat.reduceAdd,h0,↓pLbE,zDC,ETA,hl]
 exact k _ ((Kept.refl wf).add _)
end Go.Proofs.YtklfocnoenjgdaaGreat
namespace Go.Proofs.YtklfocnoenjgdaaGreat
open Go Go.Ax
variable {fuel : Nat} {M : Mem} {Q : AV → Mem → Prop} {d : Nat}
set_option maxHeartbeats 4000000 in
theorem zfH {o : Op} {ra : AV} {x : Nat} (hS : Sl 1 zAT ra o.rs) (hk1 : o.kd = 1) (hf : 100 < fuel) (wf : Wf M) (hx1 : M.get x = some (.row false [.fn 91 [] []])) (k : ∀ N,Kept M N → Q (BL o.part) N) :
  W3 (zAE Tryz.prog (fsT tbl) fuel (d + 6) (.fn 93) [.agg (opR o ra),.ptr x 0] M) Q:=by
 have ll:=hS.len
 have lx:=Mem.get_lt hx1
 have hc:=fun M=>@zK3 fuel (d + 2) o.af M
 have hr:=fun M=>zJS (fuel:=fuel) (d:=d) hS hf M
 have z4 : decide ((4 : Int) = 0) = false:=rfl
 unfold Op.part at k
 rw [if_pos hk1] at k
 have kept:=fun cs=>(Kept.refl wf).add (.row false cs)
 have key : ∀ b : Bool,((decide (o.af = Eid.z) || o.af.may) = b) → True:=fun _ _=>trivial
 refine zAZ tf93 rfl (by simp [a93]) fun b' ht hx=>?_
 have h0:=hx 0 _ rfl
 have h1:=hx 1 _ rfl
 clear hx
 simp only [a93,c93,zz3,zzm,zzg] at ht ⊢
 have tail : ∀ b : Bool,(decide (o.af = Eid.z) || o.af.may) = b → ∀ t : List AV,t.length = b'.length → True:=fun _ _ _ _=>trivial
 clear tail key
 cases q : decide (o.af = Eid.z) <;> cases q' : o.af.may <;> rw [q'] at hc <;> simp only [q,q',Bool.or_false,Bool.or_true,Bool.false_and,Bool.and_false,Bool.and_true] at k
 all_goals
  (simp (maxSteps:=2000000) (disch:=first | omega | assumption | (simp only [DS,Nat.reduceAdd, *]; done) | (simp only [DZ]; omega)) only [RUN,RU,zA2,zA1,slot,zAJ,reduceIte,Nat.reduceEqDiff,Int.reduceEq,h0,h1,↓pIdE,zAS,ETA,q,hc,zB3,zBH,hx1])
  refine zPK hS (by simp (maxSteps:=2000000) (disch:=first | omega | assumption | (simp only [DS,Nat.reduceAdd, *]; done) | (simp only [DZ]; omega)) only [RUN,wf]) fun N hN=>?_
  have hg:=hN.get M.size (by rw [zA6]; omega)
  rw [zAH wf _ _ (Nat.le_refl _) (Nat.lt_succ_self _)] at hg
  have lg:=Mem.get_lt hg
  have kN:=((Kept.refl wf).add _).trans hN
  cases q1 : decide (o.to = Lb.z) <;> (try simp only [q1,Bool.false_and,Bool.true_and] at k)
  all_goals (simp (maxSteps:=2000000) (disch:=first | omega | assumption | (simp only [DS,Nat.reduceAdd, *]; done) | (simp only [DZ]; omega)) only [RUN,RU,zA2,zA1,zA0,zAB,slot,reduceIte,Nat.reduceEqDiff,hg,↓pHdE,zDB,ETA])
  all_goals first | exact k _ kN | skip
 all_goals
  cases q2 : decide (o.sp.f.hd = o.hd) <;> (try simp only [q2,Bool.false_and,Bool.true_and] at k)
  all_goals (simp (maxSteps:=2000000) (disch:=first | omega | assumption | (simp only [DS,Nat.reduceAdd, *]; done) | (simp only [DZ]; omega)) only [RUN,RU,zA2,zA1,zA0,zAB,reduceIte,Nat.reduceEqDiff,hg])
  all_goals first | exact k _ kN | skip
 all_goals
  cases q3 : decide ((o.rs.length : Int) = o.sp.n) <;> (try simp only [q3,Bool.false_and,Bool.true_and] at k)
  all_goals (simp (maxSteps:=2000000) (disch:=first | omega | assumption | (simp only [DS,Nat.reduceAdd, *]; done) | (simp only [DZ]; omega)) only [RUN,RU,zA2,zA1,zA0,zAB,reduceIte,Nat.reduceEqDiff,Nat.reduceAdd,hg,ll,q3,hr])
  all_goals exact k _ kN
end Go.Proofs.YtklfocnoenjgdaaGreat
namespace Go.Proofs.YtklfocnoenjgdaaGreat
open Go Go.Ax
variable {fuel : Nat} {M : Mem} {Q : AV → Mem → Prop} {d : Nat}
theorem zfE {o : Op} {ra : AV} {x y : Nat} (hS : Sl 1 zAT ra o.rs) (wf : Wf M) (hx1 : M.get x = some (.row false [.fn 91 [] []])) (hy1 : M.get y = some (.row false [.fn 90 [] []])) (k : ∀ N,Kept M N → Q (BL (decide (o.to = Lb.z) && o.bare)) N) :
  W3 (zAE Tryz.prog (fsT tbl) fuel (d + 3) (.fn 95) [.agg (opR o ra),.ptr x 0,.ptr y 0] M) Q:=by
 have lx:=Mem.get_lt hx1
 have ly:=Mem.get_lt hy1
 refine zAZ tf95 rfl (by simp [a95]) fun b' ht hx=>?_
 have h0:=hx 0 _ rfl
 have h1:=hx 1 _ rfl
 have h2:=hx 2 _ rfl
 clear hx
 simp only [a95,c95,zzm] at ht ⊢
 simp (maxSteps:=2000000) (disch:=first | omega | assumption | (simp only [DS,Nat.reduceAdd, *]; done) | (simp only [DZ]; omega)) only [RUN,RU,zA2,zA1,slot,reduceIte,Nat.reduceEqDiff,h0,h1,hx1]
 refine zPK hS (by simp (maxSteps:=2000000) (disch:=first | omega | assumption | (simp only [DS,Nat.reduceAdd, *]; done) | (simp only [DZ]; omega)) only [RUN,wf]) fun N hN=>?_
 have hg:=hN.get M.size (by rw [zA6]; omega)
 rw [zAH wf _ _ (Nat.le_refl _) (Nat.lt_succ_self _)] at hg
 have lg:=Mem.get_lt hg
 have gy:=(hN.get y (by rw [zA6]; omega)).trans ((zAF wf _ _ ly).trans hy1)
 have lgy:=Mem.get_lt gy
 have kN:=((Kept.refl wf).add _).trans hN
 cases q1 : decide (o.to = Lb.z) <;> simp only [q1,Bool.false_and,Bool.true_and] at k <;> simp (maxSteps:=2000000) (disch:=first | omega | assumption | (simp only [DS,Nat.reduceAdd, *]; done) | (simp only [DZ]; omega)) only [RUN,RU,zA2,zA1,zA0,zAB,slot,reduceIte,Nat.reduceEqDiff,h2,hg,gy]
 ·exact k _ kN
 ·refine zZ1 hS hN.wf fun N' hN'=>?_
  simp (maxSteps:=2000000) (disch:=first | omega | assumption | (simp only [DS,Nat.reduceAdd, *]; done) | (simp only [DZ]; omega)) only [RUN,RU,zA2,zA1,zA0,zAB,reduceIte,Nat.reduceEqDiff]
  exact k _ (kN.trans hN')
theorem zYC {o : Op} {ra : AV} {y : Nat} (hS : Sl 1 zAT ra o.rs) (wf : Wf M) (hy1 : M.get y = some (.row false [.fn 90 [] []])) (k : ∀ N,Kept M N → Q (BL (o.bare && o.to.may)) N) :
  W3 (zAE Tryz.prog (fsT tbl) fuel (d + 2) (.fn 97) [.agg (opR o ra),.ptr y 0] M) Q:=by
 have ly:=Mem.get_lt hy1
 have hl:=fun M=>@zDT fuel d o.to M
 refine zAZ tf97 rfl (by simp [a97]) fun b' ht hx=>?_
 have h0:=hx 0 _ rfl
 have h1:=hx 1 _ rfl
 clear hx
 simp only [a97,c97,zzm] at ht ⊢
 simp (maxSteps:=2000000) (disch:=first | omega | assumption | (simp only [DS,Nat.reduceAdd, *]; done) | (simp only [DZ]; omega)) only [RUN,RU,zA2,zA1,slot,reduceIte,Nat.reduceEqDiff,h0,h1,hy1]
 refine zZ1 hS (by simp (maxSteps:=2000000) (disch:=first | omega | assumption | (simp only [DS,Nat.reduceAdd, *]; done) | (simp only [DZ]; omega)) only [RUN,wf]) fun N hN=>?_
 have hg:=hN.get M.size (by rw [zA6]; omega)
 rw [zAH wf _ _ (Nat.le_refl _) (Nat.lt_succ_self _)] at hg
 have lg:=Mem.get_lt hg
 have kN:=((Kept.refl wf).add _).trans hN
 cases q1 : o.bare <;> simp only [q1,Bool.false_and,Bool.true_and] at k
 ·simp (maxSteps:=2000000) (disch:=first | omega | assumption | (simp only [DS,Nat.reduceAdd, *]; done) | (simp only [DZ]; omega)) only [RUN,RU,zA2,zA1,zA0,zAB,reduceIte,Nat.reduceEqDiff]
  exact k _ kN
 ·cases q2 : o.to.may <;> rw [q2] at hl k <;> simp (maxSteps:=2000000) (disch:=first | omega | assumption | (simp only [DS,Nat.reduceAdd, *]; done) | (simp only [DZ]; omega)) only [RUN,RU,zA2,zA1,zA0,zAB,slot,reduceIte,Nat.reduceEqDiff,Int.reduceEq,hg,hl,zB3,zBH] <;> exact k _ kN
theorem zbX (wf : Wf M) (hw : M.wm ≤ M.size) (k : ∀ N x y,Kept M N → N.get x = some (.row false [.fn 91 [] []]) → N.get y = some (.row false [.fn 90 [] []]) → M.size ≤ x → M.size ≤ y → Q (.agg [.sc .nilFunc,.sc .nilFunc,.fn 93 [] [.ptr x 0],.fn 94 [] [],.fn 95 [] [.ptr x 0,.ptr y 0],.fn 96 [] [],.fn 97 [] [.ptr y 0],.fn 98 [] []]) N) :
  W3 (zAE Tryz.prog (fsT tbl) fuel (d + 1) (.fn 69) [] M) Q:=by
 have onf : oneA (.sc .nilFunc) = true:=rfl
 have sn : scs Value.nilFunc = [.sc .nilFunc]:=rfl
 refine zAZ tf69 rfl (by simp [a69]) fun b' ht hx=>?_
 clear hx
 simp only [a69,c69,zz6] at ht ⊢
 simp (maxSteps:=2000000) (disch:=first | omega | assumption | (simp only [DS,Nat.reduceAdd, *]; done) | (simp only [DZ]; omega)) only [RUN,RU,zA2,zA1,zA0,zAB,slot,lay,zAJ,reduceIte,Nat.reduceEqDiff,Nat.reduceBEq,Nat.reduceAdd,sn]
 refine k _ (M.size + 1 + 1) (M.size + 1) ((((((Kept.refl wf).add _).add _).upd hw (by omega) _).add _).upd hw (by omega) _ |>.upd hw (by omega) _) ?_ ?_ (by omega) (by omega)
 ·simp (maxSteps:=2000000) (disch:=first | omega | assumption | (simp only [DS,Nat.reduceAdd, *]; done) | (simp only [DZ]; omega)) only [RUN]
 ·simp (maxSteps:=2000000) (disch:=first | omega | assumption | (simp only [DS,Nat.reduceAdd, *]; done) | (simp only [DZ]; omega)) only [RUN]
set_option maxHeartbeats 4000000 in
theorem zE5 {o : Op} {ra : AV} (hS : Sl 1 zAT ra o.rs) (ho : o.ok) (hf : 100 < fuel) (M : Mem) : zAE Tryz.prog (fsT tbl) fuel (d + 7) (.fn 48) [.agg (opR o ra)] M = some (I64 (err o.may),M):=by
 have hh:=fun M=>@zI2 fuel (d + 4) o.hd M
 have hs:=fun M=>@zFT fuel (d + 2) o.sp M
 apply zBI
 refine zAI tf48 rfl (by simp only [icyL,zH8 hS.fz]) (by simp [a48]) fun b' ht hx=>?_
 have h0:=hx 0 _ rfl
 clear hx
 simp only [a48,c48,zzm] at ht ⊢
 unfold Op.may
 cases q1 : decide (o.kd = 0)
 ·cases q2 : decide (4 ≤ o.kd)
  ·cases q3 : o.hd.may <;> rw [q3] at hh
   ·simp (maxSteps:=2000000) (disch:=first | omega | assumption | (simp only [DS,Nat.reduceAdd, *]; done) | (simp only [DZ]; omega)) only [RUN,RU,zA2,zA1,zA0,zAB,frzL,slot,reduceIte,Nat.reduceEqDiff,Nat.reduceAdd,Int.reduceEq,h0,q1,q2,hh,zBH,Bool.false_and,Bool.and_false]
   ·cases q4 : decide (o.sr < 1)
    ·cases q5 : decide (16777216 ≤ o.sr)
     ·cases q6 : o.sp.may <;> rw [q6] at hs
      ·simp (maxSteps:=2000000) (disch:=first | omega | assumption | (simp only [DS,Nat.reduceAdd, *]; done) | (simp only [DZ]; omega)) only [RUN,RU,zA2,zA1,zA0,zAB,frzL,slot,reduceIte,Nat.reduceEqDiff,Nat.reduceAdd,Int.reduceEq,h0,q1,q2,q4,q5,hh,hs,zB3,zBH,Bool.false_and,Bool.and_false]
      ·simp (maxSteps:=2000000) (disch:=first | omega | assumption | (simp only [DS,Nat.reduceAdd, *]; done) | (simp only [DZ]; omega)) only [RUN,RU,zA2,zA1,slot,reduceIte,Nat.reduceEqDiff,Nat.reduceAdd,h0,q1,q2,q4,q5,hh,hs,zB3]
       refine zbX (by simp (maxSteps:=2000000) (disch:=first | omega | assumption | (simp only [DS,Nat.reduceAdd, *]; done) | (simp only [DZ]; omega)) only [RUN]) (by simp only [zD9]; exact Nat.le_refl _) fun N x y hN gx gy lx ly=>?_
       have hd : N.dirty = false:=hN.di
       have hsz : 1 ≤ N.size:=hN.le
       have g0 : N.get 0 = some (.row false (opR o ra)):=hN.get 0 (by show 0 < 1; omega)
       have wN:=hN.wf
       have hk : o.kd = 1 ∨ o.kd = 2 ∨ o.kd = 3:=by
        have:=ho.1
        simp only [decide_eq_false_iff_not] at q1 q2
        omega
       rcases hk with hk | hk | hk
       ·have n1 : zCV (U8 o.kd) = some 1:=by rw [hk]; rfl
        have ep : o.part = o.part:=rfl
        rw [ep]
        simp (maxSteps:=2000000) (disch:=first | omega | assumption | (simp only [DS,Nat.reduceAdd, *]; done) | (simp only [DZ]; omega)) only [RUN,RU,zA2,slot,reduceIte,Nat.reduceEqDiff,Nat.reduceBEq,Nat.reduceAdd,Nat.reduceMul,hd,g0,n1,zRT,zGQ]
        refine ⟨rfl,rfl,rfl, ?_⟩
        refine zfH hS hk hf (by simp (maxSteps:=2000000) (disch:=first | omega | assumption | (simp only [DS,Nat.reduceAdd, *]; done) | (simp only [DZ]; omega)) only [RUN]; exact wN) (by simp (maxSteps:=2000000) (disch:=first | omega | assumption | (simp only [DS,Nat.reduceAdd, *]; done) | (simp only [DZ]; omega)) only [RUN,gx])  fun N' hN'=>?_
        have hd' : N'.dirty = false:=hN'.di
        cases qp : o.part <;> simp (maxSteps:=2000000) (disch:=first | omega | assumption | (simp only [DS,Nat.reduceAdd, *]; done) | (simp only [DZ]; omega)) only [RUN,RU,zA2,zA1,zA0,zAB,frzL,reduceIte,Nat.reduceEqDiff,Nat.reduceAdd,hd',zB3,zBH]
       ·have n1 : zCV (U8 o.kd) = some 2:=by rw [hk]; rfl
        have ep : o.part = (decide (o.to = Lb.z) && o.bare):=by unfold Op.part; rw [if_neg (by omega),if_pos hk]
        rw [ep]
        simp (maxSteps:=2000000) (disch:=first | omega | assumption | (simp only [DS,Nat.reduceAdd, *]; done) | (simp only [DZ]; omega)) only [RUN,RU,zA2,slot,reduceIte,Nat.reduceEqDiff,Nat.reduceBEq,Nat.reduceAdd,Nat.reduceMul,hd,g0,n1,zRT,zGQ]
        refine ⟨rfl,rfl,rfl, ?_⟩
        refine zfE hS (by simp (maxSteps:=2000000) (disch:=first | omega | assumption | (simp only [DS,Nat.reduceAdd, *]; done) | (simp only [DZ]; omega)) only [RUN]; exact wN) (by simp (maxSteps:=2000000) (disch:=first | omega | assumption | (simp only [DS,Nat.reduceAdd, *]; done) | (simp only [DZ]; omega)) only [RUN,gx]) (by simp (maxSteps:=2000000) (disch:=first | omega | assumption | (simp only [DS,Nat.reduceAdd, *]; done) | (simp only [DZ]; omega)) only [RUN,gy])  fun N' hN'=>?_
        have hd' : N'.dirty = false:=hN'.di
        cases qp : (decide (o.to = Lb.z) && o.bare) <;> simp (maxSteps:=2000000) (disch:=first | omega | assumption | (simp only [DS,Nat.reduceAdd, *]; done) | (simp only [DZ]; omega)) only [RUN,RU,zA2,zA1,zA0,zAB,frzL,reduceIte,Nat.reduceEqDiff,Nat.reduceAdd,hd',zB3,zBH]
       ·have n1 : zCV (U8 o.kd) = some 3:=by rw [hk]; rfl
        have ep : o.part = (o.bare && o.to.may):=by unfold Op.part; rw [if_neg (by omega),if_neg (by omega)]
        rw [ep]
        simp (maxSteps:=2000000) (disch:=first | omega | assumption | (simp only [DS,Nat.reduceAdd, *]; done) | (simp only [DZ]; omega)) only [RUN,RU,zA2,slot,reduceIte,Nat.reduceEqDiff,Nat.reduceBEq,Nat.reduceAdd,Nat.reduceMul,hd,g0,n1,zRT,zGQ]
        refine ⟨rfl,rfl,rfl, ?_⟩
        refine zYC hS (by simp (maxSteps:=2000000) (disch:=first | omega | assumption | (simp only [DS,Nat.reduceAdd, *]; done) | (simp only [DZ]; omega)) only [RUN]; exact wN) (by simp (maxSteps:=2000000) (disch:=first | omega | assumption | (simp only [DS,Nat.reduceAdd, *]; done) | (simp only [DZ]; omega)) only [RUN,gy])  fun N' hN'=>?_
        have hd' : N'.dirty = false:=hN'.di
        cases qp : (o.bare && o.to.may) <;> simp (maxSteps:=2000000) (disch:=first | omega | assumption | (simp only [DS,Nat.reduceAdd, *]; done) | (simp only [DZ]; omega)) only [RUN,RU,zA2,zA1,zA0,zAB,frzL,reduceIte,Nat.reduceEqDiff,Nat.reduceAdd,hd',zB3,zBH]
     ·simp (maxSteps:=2000000) (disch:=first | omega | assumption | (simp only [DS,Nat.reduceAdd, *]; done) | (simp only [DZ]; omega)) only [RUN,RU,zA2,zA1,zA0,zAB,frzL,slot,reduceIte,Nat.reduceEqDiff,Nat.reduceAdd,h0,q1,q2,q4,q5,hh,zB3,zBH,Bool.false_and,Bool.and_false]
    ·simp (maxSteps:=2000000) (disch:=first | omega | assumption | (simp only [DS,Nat.reduceAdd, *]; done) | (simp only [DZ]; omega)) only [RUN,RU,zA2,zA1,zA0,zAB,frzL,slot,reduceIte,Nat.reduceEqDiff,Nat.reduceAdd,h0,q1,q2,q4,hh,zB3,zBH,Bool.false_and,Bool.and_false]
  ·simp (maxSteps:=2000000) (disch:=first | omega | assumption | (simp only [DS,Nat.reduceAdd, *]; done) | (simp only [DZ]; omega)) only [RUN,RU,zA2,zA1,zA0,zAB,frzL,reduceIte,Nat.reduceEqDiff,Nat.reduceAdd,h0,q1,q2,zBH,Bool.false_and,Bool.and_false]
 ·simp (maxSteps:=2000000) (disch:=first | omega | assumption | (simp only [DS,Nat.reduceAdd, *]; done) | (simp only [DZ]; omega)) only [RUN,RU,zA2,zA1,zA0,zAB,frzL,reduceIte,Nat.reduceEqDiff,Nat.reduceAdd,h0,q1,zBH,Bool.false_and]
end Go.Proofs.YtklfocnoenjgdaaGreat
namespace Go.Proofs.YtklfocnoenjgdaaGreat
open Go Go.Ax
def Rn.may (r : Rn) : Bool:=r.sp.may && (decide (r.af = Eid.z) || (r.af.may && decide (r.af.c < r.sp.f.c))) && decide ((r.rs.length : Int) = r.sp.n) && decide (chkR r.rs = 0)
theorem zCJ {o : Rn} {ra : AV} (h : Fz ra) (M : Mem) : icy 12 M (.agg (rnR o ra)) = some (.agg (rnR o ra),M):=zAV (zZB h) (by omega) M
end Go.Proofs.YtklfocnoenjgdaaGreat
namespace Go.Proofs.YtklfocnoenjgdaaGreat
open Go Go.Ax
variable {fuel : Nat} {M : Mem} {Q : AV → Mem → Prop} {d : Nat}
set_option maxHeartbeats 4000000 in
theorem zC1 {o : Rn} {ra : AV} (hS : Sl 1 zAT ra o.rs) (hf : 100 < fuel) (M : Mem) : zAE Tryz.prog (fsT tbl) fuel (d + 6) (.fn 51) [.agg (rnR o ra)] M = some (I64 (err o.may),M):=by
 have ll:=hS.len
 have hc:=fun M=>@zK3 fuel (d + 2) o.af M
 have hs:=fun M=>@zFT fuel (d + 1) o.sp M
 have hr:=fun M=>zJS (fuel:=fuel) (d:=d) hS hf M
 apply zBI
 refine zAI tf51 rfl (by simp only [icyL,zCJ hS.fz]) (by simp [a51]) fun b' ht hx=>?_
 have h0:=hx 0 _ rfl
 clear hx
 simp only [a51,c51,zz3,zzm,zzg] at ht ⊢
 unfold Rn.may
 cases q0 : o.sp.may <;> rw [q0] at hs <;> simp only [Bool.false_and,Bool.true_and]
 all_goals
  cases q1 : decide (o.af = Eid.z)
  ·cases q2 : o.af.may <;> rw [q2] at hc
   ·simp (maxSteps:=2000000) (disch:=first | omega | assumption | (simp only [DS,Nat.reduceAdd, *]; done) | (simp only [DZ]; omega)) only [RUN,RU,zA2,zA1,zA0,zAB,frzL,slot,zAJ,reduceIte,Nat.reduceEqDiff,Int.reduceEq,h0,↓pIdE,zAS,ETA,q1,hc,hs,zB3,zBH,Bool.false_and]
   ·cases q3 : decide (o.af.c < o.sp.f.c)
    ·simp (maxSteps:=2000000) (disch:=first | omega | assumption | (simp only [DS,Nat.reduceAdd, *]; done) | (simp only [DZ]; omega)) only [RUN,RU,zA2,zA1,zA0,zAB,frzL,slot,zAJ,reduceIte,Nat.reduceEqDiff,Nat.reduceAdd,Int.reduceEq,h0,↓pIdE,zAS,ETA,q1,hc,hs,q3,zB3,zBH,Bool.false_and]
    ·cases q4 : decide ((o.rs.length : Int) = o.sp.n)
     ·simp (maxSteps:=2000000) (disch:=first | omega | assumption | (simp only [DS,Nat.reduceAdd, *]; done) | (simp only [DZ]; omega)) only [RUN,RU,zA2,zA1,zA0,zAB,frzL,slot,zAJ,reduceIte,Nat.reduceEqDiff,Nat.reduceAdd,Int.reduceEq,h0,↓pIdE,zAS,ETA,q1,hc,hs,q3,q4,ll,zB3,zBH,Bool.false_and]
     ·cases q5 : decide (chkR o.rs = 0)
      ·simp (maxSteps:=2000000) (disch:=first | omega | assumption | (simp only [DS,Nat.reduceAdd, *]; done) | (simp only [DZ]; omega)) only [RUN,RU,zA2,zA1,zA0,zAB,frzL,slot,zAJ,reduceIte,Nat.reduceEqDiff,Nat.reduceAdd,Int.reduceEq,h0,↓pIdE,zAS,ETA,q1,hc,hs,q3,q4,q5,ll,hr,zB3,zBH]
      ·simp (maxSteps:=2000000) (disch:=first | omega | assumption | (simp only [DS,Nat.reduceAdd, *]; done) | (simp only [DZ]; omega)) only [RUN,RU,zA2,zA1,zA0,zAB,frzL,slot,zAJ,reduceIte,Nat.reduceEqDiff,Nat.reduceAdd,Int.reduceEq,h0,↓pIdE,zAS,ETA,q1,hc,hs,q3,q4,q5,ll,hr,zB3,zBH]
  ·cases q4 : decide ((o.rs.length : Int) = o.sp.n)
   ·simp (maxSteps:=2000000) (disch:=first | omega | assumption | (simp only [DS,Nat.reduceAdd, *]; done) | (simp only [DZ]; omega)) only [RUN,RU,zA2,zA1,zA0,zAB,frzL,slot,zAJ,reduceIte,Nat.reduceEqDiff,Int.reduceEq,h0,↓pIdE,zAS,ETA,q1,hs,q4,ll,zB3,zBH,Bool.false_and]
   ·cases q5 : decide (chkR o.rs = 0)
    ·simp (maxSteps:=2000000) (disch:=first | omega | assumption | (simp only [DS,Nat.reduceAdd, *]; done) | (simp only [DZ]; omega)) only [RUN,RU,zA2,zA1,zA0,zAB,frzL,slot,zAJ,reduceIte,Nat.reduceEqDiff,Int.reduceEq,h0,↓pIdE,zAS,ETA,q1,hs,q4,q5,ll,hr,zB3,zBH]
    ·simp (maxSteps:=2000000) (disch:=first | omega | assumption | (simp only [DS,Nat.reduceAdd, *]; done) | (simp only [DZ]; omega)) only [RUN,RU,zA2,zA1,zA0,zAB,frzL,slot,zAJ,reduceIte,Nat.reduceEqDiff,Int.reduceEq,h0,↓pIdE,zAS,ETA,q1,hs,q4,q5,ll,hr,zB3,zBH]
end Go.Proofs.YtklfocnoenjgdaaGreat
namespace Go.Proofs.YtklfocnoenjgdaaGreat
open Go Go.Ax
variable {fuel : Nat} {M : Mem} {Q : AV → Mem → Prop} {d : Nat}
def Op.rn (o : Op) : Rn:=⟨o.sp,o.af,o.rs⟩
def rnZ : AV:=.agg (rnR ⟨⟨Eid.z,0⟩,Eid.z,[]⟩ NIL)
def rofE (o : Op) : Int:=if o.may = true then (if o.kd = 1 ∧ o.rn.may = true then 0 else 2) else 8
def rofK (o : Op) (r : AV) : Prop:=if rofE o = 0 then ∃ ra,r = .tup [.agg (rnR o.rn ra),I64 0] ∧ Sl 1 zAT ra o.rs else r = .tup [rnZ,I64 (rofE o)]
theorem zSM {l : List Int} (h : chkR l = 0) : l.length ≤ 64:=by
 unfold chkR at h
 by_cases hc : 64 < l.length
 ·rw [if_pos hc] at h
  cases h
 ·omega
theorem may_len {o : Op} (h : o.may = true) : o.rs.length ≤ 64:=by
 unfold Op.may Op.part Op.bare at h
 simp only [Bool.and_eq_true] at h
 have h:=h.2
 split at h
 ·simp only [Bool.and_eq_true,decide_eq_true_eq] at h
  exact zSM h.2
 ·split at h <;> simp only [Bool.and_eq_true,decide_eq_true_eq] at h <;> omega
end Go.Proofs.YtklfocnoenjgdaaGreat
namespace Go.Proofs.YtklfocnoenjgdaaGreat
open Go Go.Ax
variable {fuel : Nat} {M : Mem} {Q : AV → Mem → Prop} {d : Nat}
set_option maxHeartbeats 4000000 in
theorem zMW {o : Op} {ra : AV} (hS : Sl 1 zAT ra o.rs) (ho : o.ok) (hf : 100 < fuel) : ∃ r,rofK o r ∧ ∀ M,zAE Tryz.prog (fsT tbl) fuel (d + 8) (.fn 36) [.agg (opR o ra)] M = some (r,M):=by
 have hc:=fun M=>@zE5 fuel d o ra hS ho hf M
 refine zEC tf36 rfl (fun M=>by simp only [icyL,zH8 hS.fz]) ?_
 refine zAI tf36 rfl (by simp only [icyL,zH8 hS.fz]) (by simp [a36]) fun b' ht hx=>?_
 have h0:=hx 0 _ rfl
 clear hx
 simp only [a36,c36,zz1,zzm] at ht ⊢
 unfold rofK rofE
 cases q1 : o.may with
 | false =>
  rw [q1] at hc
  simp (maxSteps:=2000000) (disch:=first | omega | assumption | (simp only [DS,Nat.reduceAdd, *]; done) | (simp only [DZ]; omega)) only [RUN,RU,zA2,zA1,zA0,zAB,frzL,slot,lay,zAJ,reduceIte,Nat.reduceEqDiff,Nat.reduceAdd,Nat.reduceSub,Int.reduceEq,h0,hc,zBH,Bool.false_eq_true,if_false]
  exact ⟨_,rfl,rfl⟩
 | true =>
  rw [q1] at hc
  have hl:=may_len q1
  simp (maxSteps:=2000000) (disch:=first | omega | assumption | (simp only [DS,Nat.reduceAdd, *]; done) | (simp only [DZ]; omega)) only [RUN,RU,zA2,zA1,slot,reduceIte,Nat.reduceEqDiff,Nat.reduceBEq,Nat.reduceAdd,h0,hc,zB3,if_true]
  refine zL2 hS (by omega) (by simp (maxSteps:=2000000) (disch:=first | omega | assumption | (simp only [DS,Nat.reduceAdd, *]; done) | (simp only [DZ]; omega)) only [RUN]) fun a' M' wf' le' kp' sm' new' wm' di'=>?_
  have hd : M'.dirty = false:=di'
  have hsz : 2 ≤ M'.size:=le'
  have g0 : M'.get 0 = some (.row false (opR o ra)):=by rw [kp' 0 (by show 0 < 2; omega)]; simp (maxSteps:=2000000) (disch:=first | omega | assumption | (simp only [DS,Nat.reduceAdd, *]; done) | (simp only [DZ]; omega)) only [RUN]
  have g1 : M'.get 1 = some (.row false (rnR ⟨⟨Eid.z,0⟩,Eid.z,[]⟩ NIL)):=by rw [kp' 1 (by show 1 < 2; omega)]; simp (maxSteps:=2000000) (disch:=first | omega | assumption | (simp only [DS,Nat.reduceAdd, *]; done) | (simp only [DZ]; omega)) only [RUN]
  have oa:=sm'.one
  have ca:=sm'.cells
  have rl : ∀ j,rowOf a' = some j → 2 ≤ j:=new'
  have hz : ∀ y ∈ spR o.sp ++ idR o.af,Fz y:=fun y hy=>(List.mem_append.1 hy).elim (zPB o.sp y) (zE9 o.af y)
  have rr:=fun a2 b2 M=>@zC1 fuel (d + 1) o.rn a2 b2 hf M
  simp (maxSteps:=2000000) (disch:=first | omega | assumption | (simp only [DS,Nat.reduceAdd, *]; done) | (simp only [DZ]; omega)) only [RUN,RU,zA2,zA1,lay,zAJ,reduceIte,Nat.reduceEqDiff,Nat.reduceBEq,Nat.reduceAdd,hd,g0,ca]
  refine ⟨rfl, ?_⟩
  cases q2 : decide (o.kd = 1) with
  | false =>
   have q2':=of_decide_eq_false q2
   simp (maxSteps:=2000000) (disch:=first | omega | assumption | (simp only [DS,Nat.reduceAdd, *]; done) | (simp only [DZ]; omega)) only [RUN,RU,zA2,zA1,zA0,zAB,frzL,slot,lay,zAJ,reduceIte,Nat.reduceEqDiff,Nat.reduceAdd,Nat.reduceSub,g1]
   rw [if_neg (fun h=>q2' h.1)]
   simp only [show ((2 : Int) = 0) = False by decide,if_false]
   exact ⟨_,rfl,rfl⟩
  | true =>
   have q2':=of_decide_eq_true q2
   simp (maxSteps:=2000000) (disch:=first | omega | assumption | (simp only [DS,Nat.reduceAdd, *]; done) | (simp only [DZ]; omega)) only [RUN,RU,zA2,zA1,slot,reduceIte,Nat.reduceEqDiff]
   refine zRQ (spR o.sp ++ idR o.af) a' (n:=d + 6) tf51 rfl hz (sm'.keep fun j hj=>?_) (by simp (maxSteps:=2000000) (disch:=first | omega | assumption | (simp only [DS,Nat.reduceAdd, *]; done) | (simp only [DZ]; omega)) only [RUN,wf']) zF1 (fun a2 b2 M=>rr a2 b2 M) fun a2 N2 b2 w2 s2 k2 r2 f2=>?_
   ·have:=sm'.lt j hj
    simp (maxSteps:=2000000) (disch:=first | omega | assumption | (simp only [DS,Nat.reduceAdd, *]; done) | (simp only [DZ]; omega)) only [RUN]
   have z1 : N2.get 1 = some (.row false (rnR ⟨⟨Eid.z,0⟩,Eid.z,[]⟩ NIL)):=by
    rw [k2 1 (fun e=>by have:=rl 1 e; omega)]
    simp (maxSteps:=2000000) (disch:=first | omega | assumption | (simp only [DS,Nat.reduceAdd, *]; done) | (simp only [DZ]; omega)) only [RUN,g1]
   have z5 : N2.get M'.size = some (.row false (rnR o.rn a')):=by
    rw [k2 _ (fun e=>by have:=sm'.lt _ e; omega)]
    simp (maxSteps:=2000000) (disch:=first | omega | assumption | (simp only [DS,Nat.reduceAdd, *]; done) | (simp only [DZ]; omega)) only [RUN]
    rfl
   have hs2 : M'.size < N2.size:=by rw [s2]; simp (maxSteps:=2000000) (disch:=first | omega | assumption | (simp only [DS,Nat.reduceAdd, *]; done) | (simp only [DZ]; omega)) only [RUN]; omega
   have e2:=f2 (N2.upd 1 (.row false (rnR o.rn a'))) 11 (by omega) (fun j hj=>zA3 w2 _ _ _ (fun e=>by have:=rl j hj; omega))
   cases q3 : o.rn.may with
   | false =>
    simp (maxSteps:=2000000) (disch:=first | omega | assumption | (simp only [DS,Nat.reduceAdd, *]; done) | (simp only [DZ]; omega)) only [RUN,RU,zA2,zA1,zA0,zAB,frzL,slot,lay,zAJ,reduceIte,Nat.reduceEqDiff,Nat.reduceAdd,Nat.reduceSub,Int.reduceEq,z1,zBH,Bool.false_eq_true,and_false,if_false]
    exact ⟨_,rfl,rfl⟩
   | true =>
    simp (maxSteps:=2000000) (disch:=first | omega | assumption | (simp only [DS,Nat.reduceAdd, *]; done) | (simp only [DZ]; omega)) only [RUN,RU,zA2,zA1,zA0,zAB,frzL,slot,lay,reduceIte,Nat.reduceEqDiff,Nat.reduceAdd,Nat.reduceSub,z1,z5,zB3,q2',if_true,e2]
    exact ⟨_,⟨a2,rfl,b2⟩,rfl⟩
end Go.Proofs.YtklfocnoenjgdaaGreat
namespace Go.Proofs.YtklfocnoenjgdaaGreat
open Go Go.Ax
variable {fuel : Nat} {M : Mem} {Q : AV → Mem → Prop} {d : Nat}
def Spn.at (s : Spn) (n : Int) : Eid:=⟨s.f.hd,s.f.c + n⟩
theorem zPT (x : Eid) (n : Int) (M : Mem) : zAE Tryz.prog (fsT tbl) fuel (d + 1) (.fn 62) [idA x,I64 n] M = some (idA ⟨x.hd,IntKind.i64.wrap (x.c + n)⟩,M):=by
 apply zBI
 refine zAI tf62 rfl (by simp (maxSteps:=2000000) (disch:=first | omega | assumption | (simp only [DS,Nat.reduceAdd, *]; done) | (simp only [DZ]; omega)) only [RUN,icyL,Nat.reduceSub]) (by simp [a62]) fun b' ht hx=>?_
 have h0:=hx 0 _ rfl
 have h1:=hx 1 _ rfl
 clear hx
 simp only [a62,c62,zz3] at ht ⊢
 simp (maxSteps:=2000000) (disch:=first | omega | assumption | (simp only [DS,Nat.reduceAdd, *]; done) | (simp only [DZ]; omega)) only [RUN,RU,zA2,zA1,zA0,zAB,frzL,slot,lay,reduceIte,Nat.reduceEqDiff,Nat.reduceAdd,Nat.reduceSub,h0,h1]
def Spn.has (s : Spn) (x : Eid) : Option Int:=if s.may = true ∧ x.hd = s.f.hd ∧ s.f.c ≤ x.c ∧ x.c < s.f.c + s.n then some (x.c - s.f.c) else none
theorem Spn.may_le {s : Spn} (h : s.may = true) : 1 ≤ s.f.c ∧ s.f.c ≤ 1099511627776 ∧ 1 ≤ s.n ∧ s.n ≤ 64 ∧ s.f.c + s.n ≤ 1099511627777:=by
 unfold Spn.may Eid.may at h
 simp only [Bool.and_eq_true,decide_eq_true_eq] at h
 omega
theorem zNZ (s : Spn) (x : Eid) (M : Mem) : zAE Tryz.prog (fsT tbl) fuel (d + 5) (.fn 40) [spA s,idA x] M = some (.tup [I64 ((s.has x).getD 0),BL (s.has x).isSome],M):=by
 have hc:=fun M=>@zFT fuel d s M
 have hn:=fun x n M=>@zPT fuel (d + 3) x n M
 have pIdN:=@pIdN
 apply zBI
 refine zAI tf40 rfl (by simp (maxSteps:=2000000) (disch:=first | omega | assumption | (simp only [DS,Nat.reduceAdd, *]; done) | (simp only [DZ]; omega)) only [RUN,icyL,Nat.reduceSub]) (by simp [a40]) fun b' ht hx=>?_
 have h0:=hx 0 _ rfl
 have h1:=hx 1 _ rfl
 clear hx
 simp only [a40,c40,zzm,zzg] at ht ⊢
 cases hm : s.may with
 | false =>
  rw [hm] at hc
  have e : s.has x = none:=by unfold Spn.has; rw [if_neg (by simp [hm])]
  simp (maxSteps:=2000000) (disch:=first | omega | assumption | (simp only [DS,Nat.reduceAdd, *]; done) | (simp only [DZ]; omega)) only [RUN,RU,zA2,zA1,zA0,zAB,frzL,slot,reduceIte,Nat.reduceEqDiff,Nat.reduceAdd,Int.reduceEq,h0,h1,hc,zBH,e,Option.getD_none,Option.isSome_none]
 | true =>
  rw [hm] at hc
  have hb:=Spn.may_le hm
  generalize hw : IntKind.i64.wrap (x.c - s.f.c) = n at *
  by_cases q1 : n < 0
  ·have e : s.has x = none:=by
    unfold Spn.has
    rw [if_neg]
    rintro ⟨_,_,h1,h2⟩
    rw [wrap_i64 (by omega) (by omega)] at hw
    omega
   have q : decide (n < 0) = true:=decide_eq_true q1
   simp (maxSteps:=2000000) (disch:=first | omega | assumption | (simp only [DS,Nat.reduceAdd, *]; done) | (simp only [DZ]; omega)) only [RUN,RU,zA2,zA1,zA0,zAB,frzL,slot,reduceIte,Nat.reduceEqDiff,Nat.reduceAdd,h0,h1,hc,zB3,hw,q,e,Option.getD_none,Option.isSome_none]
  ·by_cases q2 : s.n ≤ n
   ·have e : s.has x = none:=by
     unfold Spn.has
     rw [if_neg]
     rintro ⟨_,_,h1,h2⟩
     rw [wrap_i64 (by omega) (by omega)] at hw
     omega
    have q : decide (n < 0) = false:=decide_eq_false q1
    have q' : decide (s.n ≤ n) = true:=decide_eq_true q2
    simp (maxSteps:=2000000) (disch:=first | omega | assumption | (simp only [DS,Nat.reduceAdd, *]; done) | (simp only [DZ]; omega)) only [RUN,RU,zA2,zA1,zA0,zAB,frzL,slot,reduceIte,Nat.reduceEqDiff,Nat.reduceBEq,Nat.reduceAdd,h0,h1,hc,zB3,hw,q,q',e,Option.getD_none,Option.isSome_none]
   ·have q : decide (n < 0) = false:=decide_eq_false q1
    have q' : decide (s.n ≤ n) = false:=decide_eq_false q2
    have w2 : IntKind.i64.wrap (s.f.c + n) = s.f.c + n:=wrap_i64 (by omega) (by omega)
    by_cases q3 : x = ⟨s.f.hd,s.f.c + n⟩
    ·have e : s.has x = some n:=by
      unfold Spn.has
      rw [if_pos ⟨hm,by rw [q3],by rw [q3]; show s.f.c ≤ s.f.c + n; omega,by rw [q3]; show s.f.c + n < _; omega⟩,q3]
      congr 1
      show s.f.c + n - s.f.c = n
      omega
     have q4 : decide (x = ⟨s.f.hd,s.f.c + n⟩) = true:=decide_eq_true q3
     simp (maxSteps:=2000000) (disch:=first | omega | assumption | (simp only [DS,Nat.reduceAdd, *]; done) | (simp only [DZ]; omega)) only [RUN,RU,zA2,zA1,zA0,zAB,frzL,slot,reduceIte,Nat.reduceEqDiff,Nat.reduceBEq,Nat.reduceAdd,h0,h1,hc,zB3,hw,q,q',hn,w2,↓pIdN,zB5,ETA,q4,e,Option.getD_some,Option.isSome_some]
    ·have e : s.has x = none:=by
      unfold Spn.has
      rw [if_neg]
      rintro ⟨_,h0,h1,h2⟩
      rw [wrap_i64 (by omega) (by omega)] at hw
      apply q3
      obtain ⟨xh,xc⟩:=x
      simp only at h0 hw ⊢
      rw [h0,← hw]
      congr 1
      omega
     have q4 : decide (x = ⟨s.f.hd,s.f.c + n⟩) = false:=decide_eq_false q3
     simp (maxSteps:=2000000) (disch:=first | omega | assumption | (simp only [DS,Nat.reduceAdd, *]; done) | (simp only [DZ]; omega)) only [RUN,RU,zA2,zA1,zA0,zAB,frzL,slot,reduceIte,Nat.reduceEqDiff,Nat.reduceBEq,Nat.reduceAdd,h0,h1,hc,zB3,hw,q,q',hn,w2,↓pIdN,zB5,ETA,q4,e,Option.getD_none,Option.isSome_none]
theorem zIA (s : Spn) (n : Int) (M : Mem) : zAE Tryz.prog (fsT tbl) fuel (d + 5) (.fn 54) [spA s,I64 n] M = some (if s.may then (if n < 0 ∨ s.n ≤ n then .tup [idA Eid.z,I64 2] else .tup [idA (s.at n),I64 0]) else .tup [idA Eid.z,I64 8],M):=by
 have hc:=fun M=>@zFT fuel d s M
 have hn:=fun x n M=>@zPT fuel (d + 3) x n M
 apply zBI
 refine zAI tf54 rfl (by simp (maxSteps:=2000000) (disch:=first | omega | assumption | (simp only [DS,Nat.reduceAdd, *]; done) | (simp only [DZ]; omega)) only [RUN,icyL,Nat.reduceSub]) (by simp [a54]) fun b' ht hx=>?_
 have h0:=hx 0 _ rfl
 have h1:=hx 1 _ rfl
 clear hx
 simp only [a54,c54,zz3,zzm] at ht ⊢
 cases hm : s.may with
 | false =>
  rw [hm] at hc
  simp (maxSteps:=2000000) (disch:=first | omega | assumption | (simp only [DS,Nat.reduceAdd, *]; done) | (simp only [DZ]; omega)) only [RUN,RU,zA2,zA1,zA0,zAB,frzL,slot,lay,zAJ,reduceIte,Nat.reduceEqDiff,Nat.reduceAdd,Nat.reduceSub,Int.reduceEq,h0,hc,zBH,Bool.false_eq_true,if_false]
 | true =>
  rw [hm] at hc
  have hb:=Spn.may_le hm
  by_cases q1 : n < 0
  ·have q : decide (n < 0) = true:=decide_eq_true q1
   simp (maxSteps:=2000000) (disch:=first | omega | assumption | (simp only [DS,Nat.reduceAdd, *]; done) | (simp only [DZ]; omega)) only [RUN,RU,zA2,zA1,zA0,zAB,frzL,slot,lay,zAJ,reduceIte,Nat.reduceEqDiff,Nat.reduceAdd,Nat.reduceSub,h0,h1,hc,zB3,q1,true_or,if_true]
  ·have q : decide (n < 0) = false:=decide_eq_false q1
   by_cases q2 : s.n ≤ n
   ·have q' : decide (s.n ≤ n) = true:=decide_eq_true q2
    simp (maxSteps:=2000000) (disch:=first | omega | assumption | (simp only [DS,Nat.reduceAdd, *]; done) | (simp only [DZ]; omega)) only [RUN,RU,zA2,zA1,zA0,zAB,frzL,slot,lay,zAJ,reduceIte,Nat.reduceEqDiff,Nat.reduceAdd,Nat.reduceSub,h0,h1,hc,zB3,q1,q2,or_true,if_true]
   ·have q' : decide (s.n ≤ n) = false:=decide_eq_false q2
    have w2 : IntKind.i64.wrap (s.f.c + n) = s.f.c + n:=wrap_i64 (by omega) (by omega)
    unfold Spn.at
    simp (maxSteps:=2000000) (disch:=first | omega | assumption | (simp only [DS,Nat.reduceAdd, *]; done) | (simp only [DZ]; omega)) only [RUN,RU,zA2,zA1,zA0,zAB,frzL,slot,lay,Nat.reduceEqDiff,Nat.reduceAdd,Nat.reduceSub,h0,h1,hc,zB3,q1,q2,or_self,if_true,if_false,hn,w2]
end Go.Proofs.YtklfocnoenjgdaaGreat
namespace Go.Proofs.YtklfocnoenjgdaaGreat
open Go Go.Ax
variable {fuel : Nat} {M : Mem} {Q : AV → Mem → Prop} {d : Nat}
theorem zKY {o : Op} {ra : AV} (hS : Sl 1 zAT ra o.rs) (hl : o.rs.length ≤ 1000000000) (wf : Wf M) (hw : M.wm ≤ M.size) (k : ∀ a' N,Kept M N → SlM N 1 zAT a' o.rs → (∀ id,rowOf a' = some id → M.size ≤ id) → Q (.agg (opR o a')) N) :
  W3 (zAE Tryz.prog (fsT tbl) fuel (d + 2) (.fn 20) [.agg (opR o ra)] M) Q:=by
 refine zAZ tf20 rfl (by simp [a20]) fun b' ht hx=>?_
 have h0:=hx 0 _ rfl
 clear hx
 simp only [a20,c20,zz5] at ht ⊢
 simp (maxSteps:=2000000) (disch:=first | omega | assumption | (simp only [DS,Nat.reduceAdd, *]; done) | (simp only [DZ]; omega)) only [RUN,RU,zA2,zA1,reduceIte,Nat.reduceEqDiff,h0]
 refine zL2 hS hl (by simp (maxSteps:=2000000) (disch:=first | omega | assumption | (simp only [DS,Nat.reduceAdd, *]; done) | (simp only [DZ]; omega)) only [RUN,wf]) fun a' M' wf' le' kp' sm' new' wm' di'=>?_
 simp only [zA6] at le' kp' new'
 have g0 : M'.get M.size = some (.row false (opR o ra)):=by rw [kp' _ (by omega)]; simp (maxSteps:=2000000) (disch:=first | omega | assumption | (simp only [DS,Nat.reduceAdd, *]; done) | (simp only [DZ]; omega)) only [RUN]
 have g1 : M'.get (M.size + 1) = some (.row false (opR ⟨0,Hd.z,0,⟨Eid.z,0⟩,Eid.z,Lb.z,[]⟩ NIL)):=by rw [kp' _ (by omega)]; simp (maxSteps:=2000000) (disch:=first | omega | assumption | (simp only [DS,Nat.reduceAdd, *]; done) | (simp only [DZ]; omega)) only [RUN]
 have oa:=sm'.one
 have ca:=sm'.cells
 have rl:=zAW sm'.rl (Nat.le_refl M'.size)
 have z0 : M.size < M'.size:=by omega
 have z1 : M.size + 1 < M'.size:=by omega
 simp (maxSteps:=2000000) (disch:=first | omega | assumption | (simp only [DS,Nat.reduceAdd, *]; done) | (simp only [DZ]; omega)) only [RUN,RU,zA2,zA1,zA0,zAB,slot,lay,reduceIte,Nat.reduceEqDiff,Nat.reduceAdd,g0,g1,ca]
 have kM' : Kept M M':=⟨wf',by omega,fun j hj=>by rw [kp' j (by omega),zAF (wf.add _) _ _ (by rw [zA6]; omega),zAF wf _ _ hj],wm',di'⟩
 refine k a' _ ((kM'.upd hw (Nat.le_refl _) _).upd hw (by omega) _) (sm'.keep fun j hj=>?_) (fun id h=>by have:=new' id h; omega)
 have:=new' j hj
 simp (maxSteps:=2000000) (disch:=first | omega | assumption | (simp only [DS,Nat.reduceAdd, *]; done) | (simp only [DZ]; omega)) only [RUN]
def Spn.ids (s : Spn) : List Eid:=(List.range s.n.toNat).map fun (i : Nat)=>s.at i
theorem zZH {s : Spn} (hs : s.ok) (hm : s.may = true) (i : Nat) (hi : i < s.n.toNat) : (s.at i).ok:=by
 have:=Spn.may_le hm
 exact ⟨hs.1.1,by show -9223372036854775808 ≤ s.f.c + i; omega,by show s.f.c + i ≤ _; omega⟩
set_option maxHeartbeats 4000000 in
theorem zIF {s : Spn} (hs : s.ok) (hm : s.may = true) (hf : 100 < fuel) : ∃ r,Sl 4 zKQ r s.ids ∧ ∀ M,zAE Tryz.prog (fsT tbl) fuel (d + 6) (.fn 50) [spA s] M = some (r,M):=by
 have hb:=Spn.may_le hm
 obtain ⟨m,hmn⟩ : ∃ m : Nat,s.n = m:=⟨s.n.toNat,by omega⟩
 have ei : s.ids = (List.range m).map fun (i : Nat)=>s.at i:=by unfold Spn.ids; rw [hmn]; rfl
 have hat:=fun n M=>@zIA fuel d s n M
 simp only [hm,if_true] at hat
 rw [ei]
 refine zEC tf50 rfl (fun M=>by simp only [icyL,zAV (zPB s) (show 1 < 12 by omega)]) ?_
 refine zAI tf50 rfl (by simp only [icyL,zAV (zPB s) (show 1 < 12 by omega)]) (by simp [a50]) fun b' ht hx=>?_
 have h0:=hx 0 _ rfl
 clear hx
 simp only [a50,c50,zz3,zzm] at ht ⊢
 simp (maxSteps:=2000000) (disch:=first | omega | assumption | (simp only [DS,Nat.reduceAdd, *]; done) | (simp only [DZ]; omega)) only [RUN,RU,zA2,zA1,reduceIte,Nat.reduceEqDiff,h0,hmn]
 refine zB8 (I:=fun n t N => ∃ (i : Nat) (o : AV),n = m - i ∧ i ≤ m ∧ nth zA5 t 1 = .ptr 0 0 ∧ nth zA5 t 2 = o ∧ nth zA5 t 7 = I64 m ∧ nth zA5 t 8 = I64 i ∧ Wf N ∧ N.get 0 = some (.row false (spR s)) ∧ SlM N 4 zKQ o ((List.range i).map fun (j : Nat)=>s.at j) ∧ (∀ j,rowOf o = some j → 0 < j)) (n:=m) (by omega) ?_ ?_
 ·refine ⟨0,NIL,rfl,Nat.zero_le _, ?_, ?_, ?_, ?_,Wf.mem0.add _,by simp (maxSteps:=2000000) (disch:=first | omega | assumption | (simp only [DS,Nat.reduceAdd, *]; done) | (simp only [DZ]; omega)) only [RUN],SlM.nil,(fun _ h=>by cases h)⟩ <;> simp (maxSteps:=2000000) (disch:=first | omega | assumption | (simp only [DS,Nat.reduceAdd, *]; done) | (simp only [DZ]; omega)) only [RUN,reduceIte,Nat.reduceEqDiff]
  all_goals first | rfl | assumption | done
 ·rintro n t N hlt ⟨i,o,rfl,hi,g1,g2,g7,g8,w,g,sm,ro⟩
  simp only [ht] at hlt ⊢
  by_cases hc : i < m
  ·have q1 : decide ((i : Int) < m) = true:=decide_eq_true (by omega)
   have hi' : ¬((i : Int) < 0 ∨ s.n ≤ i):=by omega
   have hat:=fun M=>hat i M
   simp only [hi',if_false] at hat
   have ok:=zZH hs hm i (by omega)
   have lN:=Mem.get_lt g
   have w1 : IntKind.i64.wrap ((i : Int) + 1) = ((i + 1 : Nat) : Int):=by rw [wrap_i64] <;> omega
   have oo:=sm.one
   have co:=sm.cells
   simp (maxSteps:=2000000) (disch:=first | omega | assumption | (simp only [DS,Nat.reduceAdd, *]; done) | (simp only [DZ]; omega)) only [RUN,RU,zA2,zA1,slot,lay,zAJ,zAA,reduceIte,Nat.reduceEqDiff,Nat.reduceBEq,Nat.reduceAdd,g1,g2,g7,g8,q1,g,hat]
   refine ⟨zAW sm.rl (by omega), ?_⟩
   refine app1 ((w.add _).upd _ _) (sm.keep fun j hj=>?_) zLT (x:=s.at i) ⟨rfl,ok⟩ rfl (by omega) (by simp; omega) (by simp; omega) fun o' M' m' w' le' kp' nw' wm' rl' on' oc'=>?_
   ·have:=sm.lt j hj
    simp (maxSteps:=2000000) (disch:=first | omega | assumption | (simp only [DS,Nat.reduceAdd, *]; done) | (simp only [DZ]; omega)) only [RUN]
   simp only [zA9,zA6] at le' kp' nw'
   simp (maxSteps:=2000000) (disch:=first | omega | assumption | (simp only [DS,Nat.reduceAdd, *]; done) | (simp only [DZ]; omega)) only [RUN,RU,zA2,zA1,reduceIte,Nat.reduceEqDiff,g1,g2,g7,g8,w1]
   refine ⟨hlt,m - (i + 1),by omega,i + 1,o',rfl,by omega,rfl,rfl,w', ?_, ?_,fun j hj=>?_⟩
   ·rw [kp' 0 (by omega) (fun e=>by have:=ro 0 e; omega)]
    simp (maxSteps:=2000000) (disch:=first | omega | assumption | (simp only [DS,Nat.reduceAdd, *]; done) | (simp only [DZ]; omega)) only [RUN,g]
   ·rw [List.range_succ,List.map_append]; exact m'
   ·rcases nw' j hj with h | h
    ·exact ro j h
    ·omega
  ·obtain rfl : i = m:=by omega
   have q1 : decide ((i : Int) < i) = false:=decide_eq_false (by omega)
   obtain ⟨rr,hz,hr⟩:=sm.frz zLT.cel (k:=12) (by omega)
   simp (maxSteps:=2000000) (disch:=first | omega | assumption | (simp only [DS,Nat.reduceAdd, *]; done) | (simp only [DZ]; omega)) only [RUN,RU,zA2,zA1,zA0,zAB,frzL,reduceIte,Nat.reduceEqDiff,g2,g7,g8,hz]
   exact ⟨rr,hr,rfl⟩
end Go.Proofs.YtklfocnoenjgdaaGreat
namespace Go.Proofs.YtklfocnoenjgdaaGreat
open Go Go.Ax
variable {fuel : Nat} {M : Mem} {Q : AV → Mem → Prop} {d : Nat}
def cM1 : ACode:=(.region [⟨some 8,.alloc 25 (.agg #[(.int .u8 0),(.int .u32 0)]),none,[]⟩,⟨none,.store 2 (.tmp 8) (.tmp 17),none,[]⟩] false)
def cM2 : ACode:=(.block 1 (.seq (.region [⟨some 18,.load 1 false (.tmp 7),none,[1]⟩,⟨some 19,.load 2 true (.tmp 8),none,[0]⟩,⟨some 20,.call (.func 67) [(.tmp 18),(.tmp 19)],none,[]⟩,⟨some 21,.pur (mkO (.unOp .not 4 (.tmp 20)) 4),none,[]⟩] false) (.cond (.tmp 21) (.region [⟨some 22,.load 1 false (.tmp 7),none,[1,2]⟩,⟨some 23,.load 2 true (.tmp 8),none,[0]⟩,⟨some 24,.bsl 25 2 (.agg #[(.int .u8 0),(.int .u32 0)]) 1 [(0,2,(.tmp 23))],none,[0]⟩,⟨some 25,.app 25 2 8 (.agg #[(.int .u8 0),(.int .u32 0)]) (.tmp 22) (.tmp 24),none,[]⟩,⟨none,.store 1 (.tmp 7) (.tmp 25),none,[]⟩] false) .skip)))
def addL (out : List Lb) (x : Lb) : List Lb:=if out.any (fun y=>decide (x = y)) then out else out ++ [x]
structure MI (M : Mem) (tm : List AV) (a : AV) (x : Eid) (v : Lb) (o : AV) (out : List Lb) : Prop where
 wf : Wf M
 sz : 9 ≤ M.size
 g3 : M.get 3 = some (.row false [o])
 g4 : M.get 4 = some (.row false [a])
 g5 : M.get 5 = some (.row false (idR x))
 g6 : M.get 6 = some (.row false (lbR v))
 g7 : M.get 7 = some (.dfr false)
 g8 : M.get 8 = some (.loop .ready none tm [17] cM1 cM2 7)
 sm : SlM M 2 isLb o out
 ro : ∀ j,rowOf o = some j → j = 2 ∨ 9 ≤ j
variable {tm : List AV} {a o : AV} {x : Eid} {v : Lb} {out : List Lb}
theorem MI.keep {N : Mem} (h : MI M tm a x v o out) (wf : Wf N) (hs : M.size ≤ N.size) (k : ∀ j,j < M.size → N.get j = M.get j) : MI N tm a x v o out:=by
 have:=h.sz
 exact ⟨wf,by omega,(k 3 (by omega)).trans h.g3,(k 4 (by omega)).trans h.g4,(k 5 (by omega)).trans h.g5,(k 6 (by omega)).trans h.g6,(k 7 (by omega)).trans h.g7,(k 8 (by omega)).trans h.g8,h.sm.keep fun j hj=>k j (h.sm.lt j hj),h.ro⟩
theorem MI.back {X : Mem} {o' : AV} {out' : List Lb} (h : MI M tm a x v o out) (wX : Wf X) (hs : M.size ≤ X.size) (x3 : X.get 3 = some (.row false [o'])) (gX : ∀ j,j < 9 → j ≠ 2 → j ≠ 3 → j ≠ 8 → X.get j = M.get j) (sm : SlM X 2 isLb o' out') (ro : ∀ j,rowOf o' = some j → j = 2 ∨ 9 ≤ j) : MI (X.upd 8 (.loop .ready none tm [17] cM1 cM2 7)) tm a x v o' out':=by
 have:=h.sz
 have u : ∀ j,j ≠ 8 → (X.upd 8 (.loop .ready none tm [17] cM1 cM2 7)).get j = X.get j:=fun j hj=>zA3 wX _ _ _ (fun e=>hj e.symm)
 exact ⟨wX.upd _ _,by rw [zA9]; omega,(u 3 (by omega)).trans x3,((u 4 (by omega)).trans (gX 4 (by omega) (by omega) (by omega) (by omega))).trans h.g4,((u 5 (by omega)).trans (gX 5 (by omega) (by omega) (by omega) (by omega))).trans h.g5,((u 6 (by omega)).trans (gX 6 (by omega) (by omega) (by omega) (by omega))).trans h.g6,((u 7 (by omega)).trans (gX 7 (by omega) (by omega) (by omega) (by omega))).trans h.g7,zAG wX _ _ (by omega),sm.keep fun j hj=>u j (by have:=ro j hj; omega),ro⟩
set_option maxHeartbeats 8000000 in
theorem zeJ {to : Lb} (h : MI M tm a x v o out) (h7 : nth zA5 tm 7 = .ptr 3 0) (hlen : tm.length = 27) (ht : to.ok) (hn : out.length ≤ 100000) (hf : out.length < fuel)
  (k : ∀ o' N,MI N tm a x v o' (addL out to) → M.size ≤ N.size → Q (BL true) N) :
  W3 (zAE Tryz.prog (fsT tbl) fuel (d + 3) (.yl 8) [lbA to] M) Q:=by
 have l3:=Mem.get_lt h.g3
 have g3:=h.g3
 have g8:=h.g8
 have wf:=h.wf
 have sz:=h.sz
 have sm:=h.sm
 have ro:=h.ro
 have oo:=sm.one
 have oc:=sm.cells
 refine zaF h.g8 rfl ?_
 have e1 : zF7 tm [17] [lbA to] = St tm [(17,lbA to)]:=rfl
 rw [e1]
 unfold cM1 cM2
 simp (maxSteps:=2000000) (disch:=first | omega | assumption | (simp only [DS,Nat.reduceAdd, *]; done) | (simp only [DZ]; omega)) only [RUN,RU,zA2,zA1,lay,reduceIte,Nat.reduceEqDiff,Nat.reduceAdd,h7,wf]
 refine ⟨tm,[17],_,_,7,g8, ?_⟩
 generalize hX : ((M.add _).upd M.size _).upd 8 _ = X
 have wX : Wf X:=by rw [← hX]; exact ((wf.add _).upd _ _).upd _ _
 have sX : X.size = M.size + 1:=by rw [← hX]; rfl
 have gX : ∀ j,j < M.size → j ≠ 8 → X.get j = M.get j:=fun j a b=>by
  rw [← hX,zA3 ((wf.add _).upd _ _) _ _ _ (fun e=>b e.symm),zA3 (wf.add _) _ _ _ (by omega),zAF wf _ _ a]
 have x8 : X.get 8 = some (.loop .busy none tm [17] cM1 cM2 7):=by
  rw [← hX,zAG ((wf.add _).upd _ _) _ _ (by rw [zA9,zA6]; omega)]
 have xM : X.get M.size = some (.row false (lbR to)):=by
  rw [← hX,zA3 ((wf.add _).upd _ _) _ _ _ (by omega),zAG (wf.add _) _ _ (by rw [zA6]; omega)]
 have lM : M.size < X.size:=by omega
 have l3' : 3 < X.size:=by omega
 have x3 : X.get 3 = some (.row false [o]):=(gX 3 l3 (by omega)).trans g3
 have smX : SlM X 2 isLb o out:=sm.keep fun j hj=>gX j (sm.lt j hj) (by have:=ro j hj; omega)
 have hcn:=zWW (P:=Tryz.prog) (fs:=fsT tbl) (fuel:=fuel) (n:=d) (v:=lbR to) tf67 tf89 zT6 smX wX (by omega) (by omega) (by omega) (zCD to) rfl @pLbE (p:=fun y=>decide (to = y)) (fun dd r y hy _=>by rw [hy.1]; exact zDC dd to.lv to.cats y.lv y.cats)
 unfold addL at k
 cases hb : out.any (fun y=>decide (to = y)) with
 | true =>
  rw [hb] at hcn k
  simp (maxSteps:=2000000) (disch:=first | omega | assumption | (simp only [DS,Nat.reduceAdd, *]; done) | (simp only [DZ]; omega)) only [RUN,RU,zA2,zA1,slot,reduceIte,Nat.reduceEqDiff,g3,xM,hcn]
  rw [if_pos rfl] at k
  exact ⟨wX,_,_,_,_,_,_,_,x8,k o _ (h.back wX (by omega) x3 (fun j a b c e=>gX j (by omega) e) smX ro) (by rw [zA9]; omega)⟩
 | false =>
  rw [hb] at hcn k
  rw [if_neg (by decide)] at k
  simp (maxSteps:=2000000) (disch:=first | omega | assumption | (simp only [DS,Nat.reduceAdd, *]; done) | (simp only [DZ]; omega)) only [RUN,RU,zA2,zA1,slot,lay,zAJ,zAA,reduceIte,Nat.reduceEqDiff,Nat.reduceBEq,Nat.reduceAdd,h7,g3,x3,xM,hcn]
  refine ⟨zAW smX.rl (by omega), ?_⟩
  refine app1 wX smX zT6 (x:=to) ⟨rfl,ht⟩ rfl (by omega) (by omega) (by omega) fun o' M' m' w' le' kp' nw' wm' rl' on' oc'=>?_
  have ro' : ∀ j,rowOf o' = some j → j = 2 ∨ 9 ≤ j:=fun j hj=>by
   rcases nw' j hj with h | h
   ·exact ro j h
   ·omega
  have z3 : M'.get 3 = some (.row false [o]):=(kp' 3 (by omega) (fun e=>by have:=ro 3 e; omega)).trans x3
  have z8:=(kp' 8 (by omega) (fun e=>by have:=ro 8 e; omega)).trans x8
  have l3 : 3 < M'.size:=by omega
  simp (maxSteps:=2000000) (disch:=first | omega | assumption | (simp only [DS,Nat.reduceAdd, *]; done) | (simp only [DZ]; omega)) only [RUN,RU,zA2,zA1,lay,reduceIte,Nat.reduceEqDiff,h7,z3,z8,w',oc']
  refine ⟨_,_,_,_,_,_,_,rfl,k o' _ (h.back (w'.upd _ _) (by rw [zA9]; omega) (zAG w' _ _ (by omega)) (fun j a b c e=>?_) (m'.keep fun j hj=>zA3 w' _ _ _ (by have:=ro' j hj; omega)) ro') (by simp only [zA9]; omega)⟩
  rw [zA3 w' _ _ _ (fun e=>c e.symm),kp' j (by omega) (fun e=>by have:=ro j e; omega)]
  exact gX j (by omega) e
end Go.Proofs.YtklfocnoenjgdaaGreat
namespace Go.Proofs.YtklfocnoenjgdaaGreat
open Go Go.Ax
variable {fuel : Nat} {M : Mem} {Q : AV → Mem → Prop} {d : Nat} {tm : List AV} {a o : AV} {x : Eid} {v : Lb} {out : List Lb} {l : List Op}
def zCF (x : Eid) (v : Lb) (o : Op) : Bool:=decide (o.kd = 3) && (o.sp.has x).isSome && o.hd.lb.leq v
def zBR (l : List Op) (x : Eid) (v : Lb) : List Lb:=(l.filter (zCF x v)).map (·.to)
def made (l : List Op) (x : Eid) (v : Lb) : List Lb:=(zBR l x v).foldl addL [x.hd.lb]
theorem zVH (out : List Lb) (x : Lb) : (addL out x).length ≤ out.length + 1:=by
 unfold addL
 split
 ·omega
 ·simp
theorem zKE : ∀ (r : List Lb) (out : List Lb),(r.foldl addL out).length ≤ out.length + r.length
 | [],out=>by simp
 | y :: r,out=>by
  have h1:=zKE r (addL out y)
  have h2:=zVH out y
  simp only [List.foldl_cons,List.length_cons]
  omega
theorem zJR (l : List Op) (x : Eid) (v : Lb) : (zBR l x v).length ≤ l.length:=by
 unfold zBR
 rw [List.length_map]
 exact List.length_filter_le _ _
theorem take_snoc {α : Type} (l : List α) (i : Nat) (h : i < l.length) : l.take (i + 1) = l.take i ++ [l[i]]:=by
 rw [List.take_add_one,List.getElem?_eq_getElem h]; rfl
theorem zOE (l : List Op) (o : Op) (x : Eid) (v : Lb) : zBR (l ++ [o]) x v = zBR l x v ++ (if zCF x v o then [o.to] else []):=by
 unfold zBR
 rw [List.filter_append,List.map_append]
 cases h : zCF x v o <;> simp [h]
set_option maxHeartbeats 8000000 in
theorem zUD {o0 : AV} (hS : Sl 17 isOp a l) (hl : l.length ≤ 50000) (hn : out.length ≤ 50000) (hf : l.length + out.length < fuel) (h : MI M tm a x v o0 out) (h7 : nth zA5 tm 7 = .ptr 3 0) (hlen : tm.length = 27)
  (k : ∀ u o' N,MI N tm a x v o' ((zBR l x v).foldl addL out) → Q u N) :
  W3 (zAE Tryz.prog (fsT tbl) fuel (d + 6) (.fn 88) [.yl 8,.ptr 4 0,.ptr 5 0,.ptr 6 0] M) Q:=by
 have ll:=hS.len
 have g4':=h.g4
 have l4:=Mem.get_lt g4'
 refine zAZ tf88 rfl (by simp [a88]) fun b' ht hx=>?_
 have h0:=hx 0 _ rfl
 have h1:=hx 1 _ rfl
 have h2:=hx 2 _ rfl
 have h3:=hx 3 _ rfl
 clear hx
 simp only [a88,c88,zz5,zzm,zzg] at ht ⊢
 simp (maxSteps:=2000000) (disch:=first | omega | assumption | (simp only [DS,Nat.reduceAdd, *]; done) | (simp only [DZ]; omega)) only [RUN,RU,zA2,zA1,reduceIte,h1,g4',ll]
 refine zB8 (I:=fun n t N => ∃ (i : Nat) (o : AV),n = l.length - i ∧ i ≤ l.length ∧ nth zA5 t 0 = .yl 8 ∧ nth zA5 t 1 = .ptr 4 0 ∧ nth zA5 t 2 = .ptr 5 0 ∧ nth zA5 t 3 = .ptr 6 0 ∧ nth zA5 t 9 = a ∧ nth zA5 t 10 = I64 l.length ∧ nth zA5 t 11 = I64 i ∧ MI N tm a x v o ((zBR (l.take i) x v).foldl addL out)) (n:=l.length) (by omega) ?_ ?_
 ·refine ⟨0,o0,rfl,Nat.zero_le _, ?_, ?_, ?_, ?_, ?_, ?_, ?_,h⟩ <;> simp (maxSteps:=2000000) (disch:=first | omega | assumption | (simp only [DS,Nat.reduceAdd, *]; done) | (simp only [DZ]; omega)) only [RUN,reduceIte,Nat.reduceEqDiff,h0,h1,h2,h3]
  all_goals first | rfl | assumption | done
 ·rintro n t N hlt ⟨i,o,rfl,hi,g0,g1,g2,g3,g9,g10,g11,m⟩
  simp only [ht] at hlt ⊢
  clear h0 h1 h2 h3 ht b'
  by_cases hc : i < l.length
  ·have q1 : decide ((i : Int) < l.length) = true:=decide_eq_true (by omega)
   have w1 : IntKind.i64.wrap ((i : Int) + 1) = ((i + 1 : Nat) : Int):=by rw [wrap_i64] <;> omega
   obtain ⟨r,hiad,hr,hrl⟩:=hS.iad i hc
   have hsn:=zOE (l.take i) l[i] x v
   rw [← take_snoc l i hc] at hsn
   have b1:=zKE (zBR (l.take i) x v) out
   have b2:=zJR (l.take i) x v
   rw [List.length_take] at b2
   generalize l[i] = e at *
   obtain ⟨ra,rfl,hra,hok⟩:=hr
   have ora:=hra.one
   have wf:=m.wf
   have sz:=m.sz
   have m5:=m.g5
   have m6:=m.g6
   have l5:=Mem.get_lt m5
   have l6:=Mem.get_lt m6
   have hh:=fun M=>@zNZ fuel d e.sp x M
   have hle:=fun M=>@zGS fuel (d + 4) e.hd.lb v M
   have mA : MI ((N.add (.row false (opR ⟨0,Hd.z,0,⟨Eid.z,0⟩,Eid.z,Lb.z,[]⟩ NIL))).upd N.size (.row false (opR e ra))) tm a x v o ((zBR (l.take i) x v).foldl addL out):=m.keep ((wf.add _).upd _ _) (by rw [zA9,zA6]; omega) (fun j hj=>by rw [zA3 (wf.add _) _ _ _ (by omega),zAF wf _ _ hj])
   cases c1 : decide (e.kd = 3) with
   | false =>
    have hcc : zCF x v e = false:=by unfold zCF; rw [c1]; rfl
    rw [hcc,if_neg (by decide),List.append_nil] at hsn
    cases c2 : (e.sp.has x).isSome <;> rw [c2] at hh
    all_goals
     simp (maxSteps:=2000000) (disch:=first | omega | assumption | (simp only [DS,Nat.reduceAdd, *]; done) | (simp only [DZ]; omega)) only [RUN,RU,zA2,zA1,slot,lay,reduceIte,Nat.reduceEqDiff,Nat.reduceAdd,g0,g1,g2,g3,g9,g10,g11,q1,hiad,m5,hh,c1,w1]
     exact ⟨hlt,l.length - (i + 1),by omega,i + 1,o,rfl,by omega,rfl,by rw [hsn]; exact mA⟩
   | true =>
    cases c2 : (e.sp.has x).isSome <;> rw [c2] at hh
    ·have hcc : zCF x v e = false:=by unfold zCF; rw [c1,c2]; rfl
     rw [hcc,if_neg (by decide),List.append_nil] at hsn
     simp (maxSteps:=2000000) (disch:=first | omega | assumption | (simp only [DS,Nat.reduceAdd, *]; done) | (simp only [DZ]; omega)) only [RUN,RU,zA2,zA1,slot,lay,reduceIte,Nat.reduceEqDiff,Nat.reduceAdd,g0,g1,g2,g3,g9,g10,g11,q1,hiad,m5,hh,c1,w1]
     exact ⟨hlt,l.length - (i + 1),by omega,i + 1,o,rfl,by omega,rfl,by rw [hsn]; exact mA⟩
    ·cases c3 : e.hd.lb.leq v <;> rw [c3] at hle
     ·have hcc : zCF x v e = false:=by unfold zCF; rw [c1,c2,c3]; rfl
      rw [hcc,if_neg (by decide),List.append_nil] at hsn
      simp (maxSteps:=2000000) (disch:=first | omega | assumption | (simp only [DS,Nat.reduceAdd, *]; done) | (simp only [DZ]; omega)) only [RUN,RU,zA2,zA1,slot,lay,reduceIte,Nat.reduceEqDiff,Nat.reduceAdd,g0,g1,g2,g3,g9,g10,g11,q1,hiad,m5,m6,hh,c1,hle,w1]
      exact ⟨hlt,l.length - (i + 1),by omega,i + 1,o,rfl,by omega,rfl,by rw [hsn]; exact mA⟩
     ·have hcc : zCF x v e = true:=by unfold zCF; rw [c1,c2,c3]; rfl
      rw [hcc,if_pos rfl] at hsn
      simp (maxSteps:=2000000) (disch:=first | omega | assumption | (simp only [DS,Nat.reduceAdd, *]; done) | (simp only [DZ]; omega)) only [RUN,RU,zA2,zA1,slot,lay,reduceIte,Nat.reduceEqDiff,Nat.reduceAdd,g0,g2,g3,g9,g10,g11,q1,hiad,m5,m6,hh,c1,hle]
      refine zeJ (d:=d + 2) mA h7 hlen hok.2.2.2.2.2.1 (by omega) (by omega) fun o' N' m' le'=>?_
      simp (maxSteps:=2000000) (disch:=first | omega | assumption | (simp only [DS,Nat.reduceAdd, *]; done) | (simp only [DZ]; omega)) only [RUN,RU,zA2,zA1,reduceIte,Nat.reduceEqDiff,g0,g1,g2,g3,g9,g10,g11,w1]
      exact ⟨hlt,l.length - (i + 1),by omega,i + 1,o',rfl,by omega,rfl,by rw [hsn,List.foldl_append]; exact m'⟩
  ·obtain rfl : i = l.length:=by omega
   have q1 : decide ((l.length : Int) < l.length) = false:=decide_eq_false (by omega)
   rw [List.take_length] at m
   simp (maxSteps:=2000000) (disch:=first | omega | assumption | (simp only [DS,Nat.reduceAdd, *]; done) | (simp only [DZ]; omega)) only [RUN,RU,zA2,zA1,zA0,zAB,reduceIte,g10,g11]
   exact k _ _ _ m
end Go.Proofs.YtklfocnoenjgdaaGreat
namespace Go.Proofs.YtklfocnoenjgdaaGreat
open Go Go.Ax
variable {fuel : Nat} {M : Mem} {Q : AV → Mem → Prop} {d : Nat} {a o : AV} {x : Eid} {v : Lb} {l : List Op}
theorem zYE (hS : Sl 17 isOp a l) (wf : Wf M) (k : Q (.fn 88 [] [.ptr M.size 0,.ptr (M.size + 1) 0,.ptr (M.size + 1 + 1) 0]) (((M.add (.row false [a])).add (.row false (idR x))).add (.row false (lbR v)))) :
  W3 (zAE Tryz.prog (fsT tbl) fuel (d + 1) (.fn 66) [a,idA x,lbA v] M) Q:=by
 have oa:=hS.one
 refine zAZ tf66 rfl (by simp [a66]) fun b' ht hx=>?_
 have h0:=hx 0 _ rfl
 have h1:=hx 1 _ rfl
 have h2:=hx 2 _ rfl
 clear hx
 simp only [a66,c66,zzm] at ht ⊢
 simp (maxSteps:=2000000) (disch:=first | omega | assumption | (simp only [DS,Nat.reduceAdd, *]; done) | (simp only [DZ]; omega)) only [RUN,RU,zA2,zA1,zA0,zAB,reduceIte,Nat.reduceEqDiff,h0,h1,h2,hS.fz.cells]
 exact k
theorem zRJ {X : Mem} {tm : List AV} {o0 : AV} {out : List Lb} (hS : Sl 17 isOp a l) (hl : l.length ≤ 50000) (hn : out.length ≤ 50000) (hf : l.length + out.length < fuel) (w : Wf X) (h7 : nth zA5 tm 7 = .ptr 3 0) (hlen : tm.length = 27) (hX : X.size = 7) (g3 : X.get 3 = some (.row false [o0])) (g4 : X.get 4 = some (.row false [a])) (g5 : X.get 5 = some (.row false (idR x))) (g6 : X.get 6 = some (.row false (lbR v))) (sm : SlM X 2 isLb o0 out) (ro : ∀ j,rowOf o0 = some j → j = 2)
  (k : ∀ u o' N,MI N tm a x v o' ((zBR l x v).foldl addL out) → Q u N) :
  W3 (zAE Tryz.prog (fsT tbl) fuel (d + 6) (.fn 88) ([] ++ [.yl (X.size + 1)] ++ [.ptr 4 0,.ptr 5 0,.ptr 6 0]) ((X.add (.dfr false)).add (.loop .ready none tm [17] cM1 cM2 X.size))) Q:=by
 have w1:=w.add (.dfr false)
 have u : ∀ j,j < 7 → ((X.add (.dfr false)).add (.loop .ready none tm [17] cM1 cM2 X.size)).get j = X.get j:=fun j hj=>by
  rw [zAF w1 _ _ (by rw [zA6]; omega),zAF w _ _ (by omega)]
 have e : X.size + 1 = 8:=by omega
 have key:=zUD (d:=d) (fuel:=fuel) (Q:=Q) (M:=(X.add (.dfr false)).add (.loop .ready none tm [17] cM1 cM2 X.size)) (x:=x) (v:=v) (o0:=o0) (out:=out) hS hl hn hf ⟨w1.add _,by simp only [zA6]; omega,(u 3 (by omega)).trans g3,(u 4 (by omega)).trans g4,(u 5 (by omega)).trans g5,(u 6 (by omega)).trans g6,by rw [zAF w1 _ _ (by rw [zA6]; omega),← hX]; exact zAH w _ _ (Nat.le_refl _) (Nat.lt_succ_self _),by
   have:=zAH w1 (.loop .ready none tm [17] cM1 cM2 X.size) 8 (by rw [zA6]; omega) (by rw [zA6]; omega)
   rw [hX] at this ⊢
   exact this,sm.keep fun j hj=>u j (by have:=ro j hj; omega),fun j hj => .inl (ro j hj)⟩ h7 hlen k
 rw [← e] at key
 exact key
set_option maxHeartbeats 8000000 in
theorem zPP (hS : Sl 17 isOp a l) (hl : l.length ≤ 40000) (hf : l.length + 100 < fuel) (hx : x.ok) : ∃ r,Sl 2 isLb r (made l x v) ∧ ∀ M,zAE Tryz.prog (fsT tbl) fuel (d + 7) (.fn 44) [a,idA x,lbA v] M = some (r,M):=by
 have oa:=hS.one
 refine zEC tf44 rfl (fun M=>by simp only [icyL,fun M=>hS.icy M 12 (by omega),zAV (zE9 x) (show 1 < 12 by omega),zAV (zCD v) (show 1 < 12 by omega)]) ?_
 refine zAI tf44 rfl (by simp only [icyL,fun M=>hS.icy M 12 (by omega),zAV (zE9 x) (show 1 < 12 by omega),zAV (zCD v) (show 1 < 12 by omega)]) (by simp [a44]) fun b' ht hx=>?_
 have h0:=hx 0 _ rfl
 have h1:=hx 1 _ rfl
 have h2:=hx 2 _ rfl
 clear hx
 simp only [a44,c44,zz4,zzm] at ht ⊢
 simp (maxSteps:=2000000) (disch:=first | omega | assumption | (simp only [DS,Nat.reduceAdd, *]; done) | (simp only [DZ]; omega)) only [RUN,RU,zA2,zA1,slot,lay,zAJ,zAA,reduceIte,Nat.reduceEqDiff,Nat.reduceBEq,Nat.reduceAdd,h0,h1,h2]
 refine zYE hS (by simp (maxSteps:=2000000) (disch:=first | omega | assumption | (simp only [DS,Nat.reduceAdd, *]; done) | (simp only [DZ]; omega)) only [RUN]) ?_
 simp (maxSteps:=2000000) (disch:=first | omega | assumption | (simp only [DS,Nat.reduceAdd, *]; done) | (simp only [DZ]; omega)) only [RUN,RU,Nat.reduceAdd]
 refine zcZ (g:=88) (first:=[]) (cap:=[.ptr 4 0,.ptr 5 0,.ptr 6 0]) (by simp (maxSteps:=2000000) (disch:=first | omega | assumption | (simp only [DS,Nat.reduceAdd, *]; done) | (simp only [DZ]; omega)) only [RUN]) (by simp (maxSteps:=2000000) (disch:=first | omega | assumption | (simp only [DS,Nat.reduceAdd, *]; done) | (simp only [DZ]; omega)) only [RUN,reduceIte,Nat.reduceEqDiff]) ?_
 refine zRJ (x:=x) (v:=v) (out:=[x.hd.lb]) (o0:=.sl 2 0 1 (some 1) 2) (d:=d) hS (by omega) (by simp) (by simp; omega) ?_ ?_ ?_ ?_ ?_ ?_ ?_ ?_ ?_ ?_ fun u o N m=>?_
 ·simp (maxSteps:=2000000) (disch:=first | omega | assumption | (simp only [DS,Nat.reduceAdd, *]; done) | (simp only [DZ]; omega)) only [RUN]
 ·simp (maxSteps:=2000000) (disch:=first | omega | assumption | (simp only [DS,Nat.reduceAdd, *]; done) | (simp only [DZ]; omega)) only [RUN,reduceIte,Nat.reduceEqDiff]
 ·rw [zLI]; exact ht
 ·simp (maxSteps:=2000000) (disch:=first | omega | assumption | (simp only [DS,Nat.reduceAdd, *]; done) | (simp only [DZ]; omega)) only [RUN,RU,Nat.reduceAdd]
 ·simp (maxSteps:=2000000) (disch:=first | omega | assumption | (simp only [DS,Nat.reduceAdd, *]; done) | (simp only [DZ]; omega)) only [RUN]
 ·simp (maxSteps:=2000000) (disch:=first | omega | assumption | (simp only [DS,Nat.reduceAdd, *]; done) | (simp only [DZ]; omega)) only [RUN]
 ·simp (maxSteps:=2000000) (disch:=first | omega | assumption | (simp only [DS,Nat.reduceAdd, *]; done) | (simp only [DZ]; omega)) only [RUN]
 ·simp (maxSteps:=2000000) (disch:=first | omega | assumption | (simp only [DS,Nat.reduceAdd, *]; done) | (simp only [DZ]; omega)) only [RUN]
 ·refine .inr ⟨2,[lbR x.hd.lb],some 1,rfl,.inr rfl, ?_,.cons ⟨rfl,hx.1.1⟩ .nil,by simp⟩
  simp (maxSteps:=2000000) (disch:=first | omega | assumption | (simp only [DS,Nat.reduceAdd, *]; done) | (simp only [DZ]; omega)) only [RUN]
  rfl
 ·rintro j ⟨⟩
  rfl
 ·have g3:=m.g3
  have l3:=Mem.get_lt g3
  have g7:=m.g7
  have wf:=m.wf
  have sm:=m.sm
  have ro:=m.ro
  have oo:=sm.one
  have sz:=m.sz
  refine ⟨wf,by have:=m.sz; simp only [zA6,zA9,zBG]; omega,_,_,_,_,_,m.g8, ?_⟩
  generalize hX : N.upd _ _ = X
  have wX : Wf X:=by rw [← hX]; exact wf.upd _ _
  have gX : ∀ j,j ≠ 8 → X.get j = N.get j:=fun j hj=>by rw [← hX]; exact zA3 wf _ _ _ (fun e=>hj e.symm)
  have x3:=(gX 3 (by omega)).trans g3
  have x7:=(gX 7 (by omega)).trans g7
  have l3':=Mem.get_lt x3
  have l7':=Mem.get_lt x7
  simp (maxSteps:=2000000) (disch:=first | omega | assumption | (simp only [DS,Nat.reduceAdd, *]; done) | (simp only [DZ]; omega)) only [RUN,RU,zA2,zA1,reduceIte,Nat.reduceEqDiff,Nat.reduceAdd,x3]
  refine zKB wX x7 ?_
  obtain ⟨rr,hz,hr⟩:=(sm.keep fun j hj=>by rw [zA3 wX _ _ _ (by have:=ro j hj; omega)]; exact gX j (by have:=ro j hj; omega) : SlM (X.upd 7 (.dfr true)) 2 isLb o _).frz zT6.cel (k:=12) (by omega)
  simp (maxSteps:=2000000) (disch:=first | omega | assumption | (simp only [DS,Nat.reduceAdd, *]; done) | (simp only [DZ]; omega)) only [RUN,zA0,zAB,frzL,reduceIte,Nat.reduceEqDiff,hz]
  exact ⟨rr,hr,rfl⟩
end Go.Proofs.YtklfocnoenjgdaaGreat
namespace Go.Proofs.YtklfocnoenjgdaaGreat
open Go Go.Ax
variable {fuel : Nat} {M : Mem} {Q : AV → Mem → Prop} {d : Nat} {a : AV} {x : Eid} {v : Lb} {l : List Op}
def zI5 (ls : List Lb) (b : Lb) : Bool:=ls.any fun y=>decide (b = y)
def zDH (pre : List Op) (o : Op) : Bool:=if o.kd = 3 then o.hd.lb.leq o.to && (o.sp.ids.all fun id=>zI5 (made pre id o.hd.lb) o.hd.lb) else true
theorem may_sp {o : Op} (h : o.may = true) : o.sp.may = true:=by
 unfold Op.may at h
 simp only [Bool.and_eq_true] at h
 exact h.1.2
theorem zPO (l : List Op) (x : Eid) (v : Lb) : (made l x v).length ≤ l.length + 1:=by
 have h1:=zKE (zBR l x v) [x.hd.lb]
 have h2:=zJR l x v
 unfold made
 simp only [List.length_singleton] at h1
 omega
theorem zKM (s : Spn) : s.ids.length = s.n.toNat:=(List.length_map _).trans List.length_range
theorem zNY (s : Spn) (i : Nat) (h : i < s.ids.length) : s.ids[i] = s.at i:=(List.getElem_map _).trans (by rw [List.getElem_range])
set_option maxHeartbeats 8000000 in
theorem zP5 {o : Op} {ra : AV} (hS : Sl 17 isOp a l) (hl : l.length ≤ 40000) (hf : l.length + 200 < fuel) (hR : Sl 1 zAT ra o.rs) (ho : o.ok) (hm : o.may = true) (M : Mem) : zAE Tryz.prog (fsT tbl) fuel (d + 8) (.fn 87) [a,.agg (opR o ra)] M = some (BL (zDH l o),M):=by
 have ora:=hR.one
 have hsm:=may_sp hm
 have hb:=Spn.may_le hsm
 obtain ⟨m,hmn⟩ : ∃ m : Nat,o.sp.n = m:=⟨o.sp.n.toNat,by omega⟩
 have il : o.sp.ids.length = m:=by rw [zKM,hmn]; rfl
 have hat:=fun n M=>@zIA fuel (d + 2) o.sp n M
 simp only [hsm,if_true] at hat
 have hle:=fun M=>@zGS fuel (d + 6) o.hd.lb o.to M
 apply zBI
 refine zND tf87 rfl (by simp only [icyL,fun M=>hS.icy M 12 (by omega),zH8 hR.fz]) (by simp [a87]) fun b' ht hx=>?_
 have h0:=hx 0 _ rfl
 have h1:=hx 1 _ rfl
 clear hx
 simp only [a87,c87,zz3,zzm] at ht ⊢
 unfold zDH
 by_cases q3 : o.kd = 3
 ·have k3 : decide (o.kd = 3) = true:=decide_eq_true q3
  rw [if_pos q3]
  simp (maxSteps:=2000000) (disch:=first | omega | assumption | (simp only [DS,Nat.reduceAdd, *]; done) | (simp only [DZ]; omega)) only [RUN,RU,zA2,zA1,slot,reduceIte,Nat.reduceEqDiff,Nat.reduceAdd,h1,k3,hle,hmn]
  refine zB8 (I:=fun n t N => ∃ (i : Nat),n = m - i ∧ i ≤ m ∧ nth zA5 t 0 = a ∧ nth zA5 t 3 = .ptr 0 0 ∧ nth zA5 t 5 = BL (o.hd.lb.leq o.to && (o.sp.ids.take i).all fun id=>zI5 (made l id o.hd.lb) o.hd.lb) ∧ nth zA5 t 20 = I64 m ∧ nth zA5 t 21 = I64 i ∧ Wf N ∧ N.get 0 = some (.row false (opR o ra))) (n:=m) (by omega) ?_ ?_
  ·refine ⟨0,rfl,Nat.zero_le _, ?_, ?_, ?_, ?_, ?_,Wf.mem0.add _,by simp (maxSteps:=2000000) (disch:=first | omega | assumption | (simp only [DS,Nat.reduceAdd, *]; done) | (simp only [DZ]; omega)) only [RUN]⟩ <;> simp (maxSteps:=2000000) (disch:=first | omega | assumption | (simp only [DS,Nat.reduceAdd, *]; done) | (simp only [DZ]; omega)) only [RUN,RU,reduceIte,Nat.reduceEqDiff,h0]
   all_goals first | rfl | assumption | done
  ·rintro n t N hlt ⟨i,rfl,hi,g0,g3,g5,g20,g21,w,g⟩
   simp only [ht] at hlt ⊢
   by_cases hc : i < m
   ·have q1 : decide ((i : Int) < m) = true:=decide_eq_true (by omega)
    have hi' : ¬((i : Int) < 0 ∨ o.sp.n ≤ i):=by omega
    have hat:=fun M=>hat i M
    simp only [hi',if_false] at hat
    have ok:=zZH ho.2.2.2.1 hsm i (by omega)
    have lN:=Mem.get_lt g
    have w1 : IntKind.i64.wrap ((i : Int) + 1) = ((i + 1 : Nat) : Int):=by rw [wrap_i64] <;> omega
    obtain ⟨r,hr,hmade⟩:=zPP (fuel:=fuel) (d:=d) (x:=o.sp.at i) (v:=o.hd.lb) hS hl (by omega) ok
    have hml:=zPO l (o.sp.at i) o.hd.lb
    have hcn : ∀ M,zAE Tryz.prog (fsT tbl) fuel (d + 7) (.fn 67) [r,lbA o.hd.lb] M = some (BL (zI5 (made l (o.sp.at i) o.hd.lb) o.hd.lb),M):=fun M=>zTB (P:=Tryz.prog) (fs:=fsT tbl) (fuel:=fuel) (n:=d + 5) (v:=lbR o.hd.lb) tf67 tf89 zT6 hr (by omega) (by omega) (by omega) (zCD o.hd.lb) rfl @pLbE (p:=fun y=>decide (o.hd.lb = y)) (fun dd r y hy _=>by rw [hy.1]; exact zDC dd o.hd.lb.lv o.hd.lb.cats y.lv y.cats) M
    have hsn : (o.sp.ids.take (i + 1)).all (fun id=>zI5 (made l id o.hd.lb) o.hd.lb) = ((o.sp.ids.take i).all (fun id=>zI5 (made l id o.hd.lb) o.hd.lb) && zI5 (made l (o.sp.at i) o.hd.lb) o.hd.lb):=by
     rw [take_snoc _ i (by omega),List.all_append,zNY]; simp
    have hall : ∀ b,b = (o.hd.lb.leq o.to && (o.sp.ids.take (i + 1)).all fun id=>zI5 (made l id o.hd.lb) o.hd.lb) → b = false → (o.hd.lb.leq o.to && o.sp.ids.all fun id=>zI5 (made l id o.hd.lb) o.hd.lb) = false:=by
     intro b hb1 hb2
     rw [hb2] at hb1
     rw [← List.take_append_drop (i + 1) o.sp.ids,List.all_append,← Bool.and_assoc,← hb1,Bool.false_and]
    have orr:=hr.one
    cases hb : (o.hd.lb.leq o.to && (o.sp.ids.take i).all fun id=>zI5 (made l id o.hd.lb) o.hd.lb) with
    | false =>
     rw [hb] at g5
     have hal:=hall _ rfl (by rw [hsn,← Bool.and_assoc,hb,Bool.false_and])
     simp (maxSteps:=2000000) (disch:=first | omega | assumption | (simp only [DS,Nat.reduceAdd, *]; done) | (simp only [DZ]; omega)) only [RUN,RU,zA2,zA1,zA0,zAB,frzL,slot,lay,reduceIte,Nat.reduceEqDiff,Nat.reduceAdd,g3,g5,g20,g21,q1,g,hat,zL7]
     rw [hal]
    | true =>
     rw [hb] at g5
     cases hcc : zI5 (made l (o.sp.at i) o.hd.lb) o.hd.lb with
     | false =>
      rw [hcc] at hcn
      have hal:=hall _ rfl (by rw [hsn,hcc,Bool.and_false,Bool.and_false])
      simp (maxSteps:=2000000) (disch:=first | omega | assumption | (simp only [DS,Nat.reduceAdd, *]; done) | (simp only [DZ]; omega)) only [RUN,RU,zA2,zA1,zA0,zAB,frzL,slot,lay,reduceIte,Nat.reduceEqDiff,Nat.reduceBEq,Nat.reduceAdd,g0,g3,g5,g20,g21,q1,g,hat,hmade,hcn,zL7]
      rw [hal]
     | true =>
      rw [hcc] at hcn
      have hal : (o.hd.lb.leq o.to && (o.sp.ids.take (i + 1)).all fun id=>zI5 (made l id o.hd.lb) o.hd.lb) = true:=by rw [hsn,hcc,Bool.and_true]; exact hb
      simp (maxSteps:=2000000) (disch:=first | omega | assumption | (simp only [DS,Nat.reduceAdd, *]; done) | (simp only [DZ]; omega)) only [RUN,RU,zA2,zA1,slot,lay,reduceIte,Nat.reduceEqDiff,Nat.reduceBEq,Nat.reduceAdd,g0,g3,g5,g20,g21,q1,w,g,hat,hmade,hcn,w1]
      exact ⟨hlt,m - (i + 1),by omega,i + 1,rfl,by omega,by rw [hal],rfl⟩
   ·obtain rfl : i = m:=by omega
    have q1 : decide ((i : Int) < i) = false:=decide_eq_false (by omega)
    have et : o.sp.ids.take i = o.sp.ids:=List.take_of_length_le (by omega)
    rw [et] at g5
    simp (maxSteps:=2000000) (disch:=first | omega | assumption | (simp only [DS,Nat.reduceAdd, *]; done) | (simp only [DZ]; omega)) only [RUN,RU,zA2,zA1,zA0,zAB,frzL,reduceIte,Nat.reduceEqDiff,g5,g20,g21,zL7]
 ·have k3 : decide (o.kd = 3) = false:=decide_eq_false q3
  rw [if_neg q3]
  simp (maxSteps:=2000000) (disch:=first | omega | assumption | (simp only [DS,Nat.reduceAdd, *]; done) | (simp only [DZ]; omega)) only [RUN,RU,zA2,zA1,zA0,zAB,frzL,reduceIte,Nat.reduceEqDiff,h1,k3,zL7]
end Go.Proofs.YtklfocnoenjgdaaGreat
namespace Go.Proofs.YtklfocnoenjgdaaGreat
open Go Go.Ax
variable {fuel : Nat} {M : Mem} {Q : AV → Mem → Prop} {d : Nat} {a : AV} {x : Eid} {v : Lb} {l : List Op}
def zHC : List Op → List Op → Bool
 | _,[]=>true
 | pre,o :: l=>o.may && zDH pre o && zHC (pre ++ [o]) l
def zCI (l : List Op) : Int:=if 2048 < l.length then 4 else err (zHC [] l)
theorem drop_step {α : Type} (l : List α) (i : Nat) (h : i < l.length) : l.drop i = l[i] :: l.drop (i + 1):=List.drop_eq_getElem_cons h
set_option maxHeartbeats 8000000 in
theorem zI3 (hS : Sl 17 isOp a l) (hl : l.length ≤ 40000) (hf : l.length + 200 < fuel) (M : Mem) : zAE Tryz.prog (fsT tbl) fuel (d + 9) (.fn 63) [a] M = some (I64 (zCI l),M):=by
 have ll:=hS.len
 apply zBI
 refine zND tf63 rfl (by simp only [icyL,fun M=>hS.icy M 12 (by omega)]) (by simp [a63]) fun b' ht hx=>?_
 have h0:=hx 0 _ rfl
 clear hx
 simp only [a63,c63,zz5,zzm] at ht ⊢
 unfold zCI
 by_cases q0 : 2048 < l.length
 ·have q1 : decide ((2048 : Int) < l.length) = true:=decide_eq_true (by omega)
  simp (maxSteps:=2000000) (disch:=first | omega | assumption | (simp only [DS,Nat.reduceAdd, *]; done) | (simp only [DZ]; omega)) only [RUN,RU,zA2,zA1,zA0,zAB,frzL,reduceIte,Nat.reduceEqDiff,h0,ll,q1,q0,if_true,zL7]
 ·have q1 : decide ((2048 : Int) < l.length) = false:=decide_eq_false (by omega)
  simp (maxSteps:=2000000) (disch:=first | omega | assumption | (simp only [DS,Nat.reduceAdd, *]; done) | (simp only [DZ]; omega)) only [RUN,RU,zA2,zA1,reduceIte,Nat.reduceEqDiff,h0,ll,q1,q0,if_false]
  refine zB8 (I:=fun n t N => ∃ (i : Nat),n = l.length - i ∧ i ≤ l.length ∧ nth zA5 t 0 = a ∧ nth zA5 t 8 = a ∧ nth zA5 t 9 = I64 l.length ∧ nth zA5 t 10 = I64 i ∧ Wf N ∧ zHC [] l = zHC (l.take i) (l.drop i)) (n:=l.length) (by omega) ?_ ?_
  ·refine ⟨0,rfl,Nat.zero_le _, ?_, ?_, ?_, ?_,Wf.mem0,rfl⟩ <;> simp (maxSteps:=2000000) (disch:=first | omega | assumption | (simp only [DS,Nat.reduceAdd, *]; done) | (simp only [DZ]; omega)) only [RUN,reduceIte,Nat.reduceEqDiff,h0]
   all_goals first | rfl | assumption | done
  ·rintro n t N hlt ⟨i,rfl,hi,g0,g8,g9,g10,w,inv⟩
   simp only [ht] at hlt ⊢
   by_cases hc : i < l.length
   ·have q2 : decide ((i : Int) < l.length) = true:=decide_eq_true (by omega)
    have w1 : IntKind.i64.wrap ((i : Int) + 1) = ((i + 1 : Nat) : Int):=by rw [wrap_i64] <;> omega
    obtain ⟨r,hiad,hr,hrl⟩:=hS.iad i hc
    obtain ⟨p,hp1,hp2⟩:=zRP hS (j:=i) (by omega)
    rw [drop_step l i hc,zHC,← take_snoc l i hc] at inv
    have hkeep : l.take i ++ l[i] :: l.drop (i + 1) = l:=by rw [← drop_step l i hc,List.take_append_drop]
    generalize l[i] = e at *
    obtain ⟨ra,rfl,hra,hok⟩:=hr
    have ora:=hra.one
    have hck:=fun M=>@zE5 fuel (d + 1) e ra hra hok (by omega) M
    cases hm : e.may with
    | false =>
     rw [hm] at hck
     simp only [hm,Bool.false_and] at inv
     rw [inv]
     simp (maxSteps:=2000000) (disch:=first | omega | assumption | (simp only [DS,Nat.reduceAdd, *]; done) | (simp only [DZ]; omega)) only [RUN,RU,zA2,zA1,zA0,zAB,frzL,slot,lay,reduceIte,Nat.reduceEqDiff,Nat.reduceAdd,Int.reduceEq,g8,g9,g10,q2,hiad,hck,zBH,zL7]
    | true =>
     rw [hm] at hck
     have hfi:=fun M=>zP5 (fuel:=fuel) (d:=d) hp2 (by simp; omega) (by simp; omega) hra hok hm M
     cases hr' : zDH (l.take i) e with
     | false =>
      rw [hr'] at hfi
      simp only [hm,hr',Bool.false_and,Bool.and_false] at inv
      rw [inv]
      simp (maxSteps:=2000000) (disch:=first | omega | assumption | (simp only [DS,Nat.reduceAdd, *]; done) | (simp only [DZ]; omega)) only [RUN,RU,zA2,zA1,zA0,zAB,frzL,slot,lay,reduceIte,Nat.reduceEqDiff,Nat.reduceBEq,Nat.reduceAdd,g0,g8,g9,g10,hS.fz.rows,q2,hiad,hck,zB3,zBH,hp1,hfi,zL7]
     | true =>
      rw [hr'] at hfi
      simp only [hm,hr',Bool.true_and] at inv
      simp (maxSteps:=2000000) (disch:=first | omega | assumption | (simp only [DS,Nat.reduceAdd, *]; done) | (simp only [DZ]; omega)) only [RUN,RU,zA2,zA1,slot,lay,reduceIte,Nat.reduceEqDiff,Nat.reduceBEq,Nat.reduceAdd,g0,g8,g9,g10,hS.fz.rows,q2,hiad,w,hck,zB3,hp1,hfi,w1]
      exact ⟨hlt,l.length - (i + 1),by omega,i + 1,rfl,by omega,rfl,inv⟩
   ·obtain rfl : i = l.length:=by omega
    have q1 : decide ((l.length : Int) < l.length) = false:=decide_eq_false (by omega)
    rw [List.drop_length,zHC] at inv
    rw [inv]
    simp (maxSteps:=2000000) (disch:=first | omega | assumption | (simp only [DS,Nat.reduceAdd, *]; done) | (simp only [DZ]; omega)) only [RUN,RU,zA2,zA1,zA0,zAB,frzL,reduceIte,Nat.reduceEqDiff,g9,g10,zB3,zL7]
end Go.Proofs.YtklfocnoenjgdaaGreat
namespace Go.Proofs.YtklfocnoenjgdaaGreat
open Go Go.Ax
variable {fuel : Nat} {M : Mem} {Q : AV → Mem → Prop} {d : Nat} {a : AV} {x : Eid} {v : Lb} {l : List Op}
def chfE (l : List Op) (o : Op) : Int:=if zCI l = 0 then err o.may else zCI l
def chfB (l : List Op) (o : Op) : Bool:=decide (chfE l o = 0) && zDH l o
set_option maxHeartbeats 4000000 in
theorem zW6 {o : Op} {ra : AV} (hS : Rd M 17 isOp a l) (hl : l.length ≤ 40000) (hf : l.length + 200 < fuel) (hR : Sl 1 zAT ra o.rs) (ho : o.ok) (wf : Wf M) (k : ∀ N,Kept M N → Q (.tup [BL (chfB l o),I64 (chfE l o)]) N) :
  W3 (zAE Tryz.prog (fsT tbl) fuel (d + 10) (.fn 103) [a,.agg (opR o ra)] M) Q:=by
 have ora:=hR.one
 have wA:=wf.add (.row false (opR o ra))
 have hS' : Rd (M.add (.row false (opR o ra))) 17 isOp a l:=hS.keep fun j hj=>zAF wf _ _ (by
  rcases hS with h | h
  ·rcases h with ⟨rfl,_⟩ | ⟨_,_,rfl,_⟩ <;> cases hj
  ·exact h.lt j hj)
 have hch:=zeD (P:=Tryz.prog) (fs:=fsT tbl) (fuel:=fuel) (n:=d + 8) (N:=M.add (.row false (opR o ra))) tf63 rfl zI9 hS' wA (fun a' h M=>zI3 (d:=d) h hl hf M)
 have hck:=fun M=>@zE5 fuel (d + 2) o ra hR ho (by omega) M
 unfold chfB at k
 unfold chfE at k
 refine zAZ tf103 rfl (by simp [a103]) fun b' ht hx=>?_
 have h0:=hx 0 _ rfl
 have h1:=hx 1 _ rfl
 clear hx
 simp only [a103,c103,zzm] at ht ⊢
 by_cases q0 : zCI l = 0
 ·rw [q0] at hch
  simp only [q0,if_true] at k
  cases hm : o.may with
  | false =>
   rw [hm] at hck k
   simp (maxSteps:=2000000) (disch:=first | omega | assumption | (simp only [DS,Nat.reduceAdd, *]; done) | (simp only [DZ]; omega)) only [RUN,RU,zA2,zA1,zA0,zAB,slot,reduceIte,Nat.reduceEqDiff,Int.reduceEq,h0,h1,hch,hck,zBH]
   exact k _ ((Kept.refl wf).add _)
  | true =>
   have hfi:=zeE (P:=Tryz.prog) (fs:=fsT tbl) (fuel:=fuel) (n:=d + 8) (N:=M.add (.row false (opR o ra))) (y:=.agg (opR o ra)) tf87 rfl zI9 hS' wA (zH8 hR.fz) (fun a' h M=>zP5 (d:=d + 1) h hl hf hR ho hm M)
   rw [hm] at hck k
   simp (maxSteps:=2000000) (disch:=first | omega | assumption | (simp only [DS,Nat.reduceAdd, *]; done) | (simp only [DZ]; omega)) only [RUN,RU,zA2,zA1,zA0,zAB,slot,reduceIte,Nat.reduceEqDiff,h0,h1,hch,hck,zB3,hfi]
   exact k _ ((Kept.refl wf).add _)
 ·have q1 : decide (zCI l = 0) = false:=decide_eq_false q0
  simp only [q0,if_false,decide_false,Bool.false_and] at k
  simp (maxSteps:=2000000) (disch:=first | omega | assumption | (simp only [DS,Nat.reduceAdd, *]; done) | (simp only [DZ]; omega)) only [RUN,RU,zA2,zA1,zA0,zAB,reduceIte,Nat.reduceEqDiff,h0,h1,hch,q1]
  exact k _ ((Kept.refl wf).add _)
end Go.Proofs.YtklfocnoenjgdaaGreat
namespace Go.Proofs.YtklfocnoenjgdaaGreat
open Go Go.Ax
variable {fuel : Nat} {M : Mem} {Q : AV → Mem → Prop} {d : Nat} {x : Eid} {l : List Op}
def idV (x : Eid) : List Value:=[.int .u8 x.hd.lb.lv,.int .u32 x.hd.lb.cats,.int .u8 x.hd.num,.int .i64 x.c]
theorem zZG (x : Eid) : PT.iss [.st [.st [.int .u8,.int .u32],.int .u8],.int .i64] (idV x):=by
 simp only [PT.iss,PT.is]
 exact ⟨[.int .u8 x.hd.lb.lv,.int .u32 x.hd.lb.cats,.int .u8 x.hd.num],[.int .i64 x.c],rfl,⟨[.int .u8 x.hd.lb.lv,.int .u32 x.hd.lb.cats],[.int .u8 x.hd.num],rfl,⟨[.int .u8 x.hd.lb.lv],[.int .u32 x.hd.lb.cats],rfl,⟨_,rfl⟩,⟨[.int .u32 x.hd.lb.cats],[],rfl,⟨_,rfl⟩,rfl⟩⟩,⟨[.int .u8 x.hd.num],[],rfl,⟨_,rfl⟩,rfl⟩⟩,⟨[.int .i64 x.c],[],rfl,⟨_,rfl⟩,rfl⟩⟩
theorem zb8 (x y : Eid) : idV x = idV y ↔ x = y:=by
 obtain ⟨⟨⟨a,b⟩,c⟩,e⟩:=x
 obtain ⟨⟨⟨a',b'⟩,c'⟩,e'⟩:=y
 simp [idV,and_assoc]
theorem id_ck (b : Bool) (n1 n2 n3 n4 : Int) : (zAL Tryz.prog (Instr.checkKey b 10000 37 (.agg #[.int .u8 n1,.int .u32 n2,.int .u8 n3,.int .i64 n4]))).isSome = true:=by
 cases b <;> kernel_rfl
def zKL : KeyT Tryz.prog 37 idA where
 val x:=.agg (idV x).toArray
 hval x:=rfl
 ck b x:=id_ck b _ _ _ _
 eq x y:=by
  obtain ⟨r,h1,h2⟩:=PT.eq (P:=Tryz.prog) (.st [.st [.st [.int .u8,.int .u32],.int .u8],.int .i64]) 37 10000 (by kernel_rfl) (by decide) (xs:=idV x) (ys:=idV y) (by simpa only [PT.is] using zZG x) (by simpa only [PT.is] using zZG y)
  have e : r = decide (x = y):=by
   rw [Bool.eq_iff_iff,h2,zb8]
   simp
  rw [← e]
  exact h1
 same x:=by simp [Instr.sameBits,idV]
end Go.Proofs.YtklfocnoenjgdaaGreat
namespace Go.Proofs.YtklfocnoenjgdaaGreat
open Go Go.Ax
variable {fuel : Nat} {M : Mem} {Q : AV → Mem → Prop} {d : Nat} {x : Eid} {l : List Op} {o : Op} {ra ops : AV} {B id m : Nat}
def zAR (l : List Op) : List Eid:=l.flatMap fun o=>if o.kd = 1 then o.sp.ids else []
structure IsHist (N : Mem) (B id m : Nat) (ops : AV) (l : List Op) : Prop where
 hg : N.get id = some (.row false [ops,.mp m])
 sm : SlM N 17 isOp ops l
 mg : ∃ obj,N.get m = some obj ∧ zHR idA (BL true) obj (zAR l)
 ib : B ≤ id
 mb : B ≤ m
 ob : ∀ j,rowOf ops = some j → B ≤ j
 ne : id ≠ m
 n1 : rowOf ops ≠ some id
 n2 : rowOf ops ≠ some m
theorem IsHist.keep {N : Mem} (h : IsHist M B id m ops l) (k : ∀ j,j < M.size → N.get j = M.get j) : IsHist N B id m ops l:=by
 obtain ⟨obj,h1,h2⟩:=h.mg
 exact ⟨(k _ (Mem.get_lt h.hg)).trans h.hg,h.sm.keep fun j hj=>k j (h.sm.lt j hj),⟨obj,(k _ (Mem.get_lt h1)).trans h1,h2⟩,h.ib,h.mb,h.ob,h.ne,h.n1,h.n2⟩
def zEY (l : List Op) (o : Op) (x : Eid) : Bool:=decide (x ∈ zAR l) && x.hd.lb.leq o.hd.lb
theorem zZQ (p : Prop) [Decidable p] : (if p then BL true else .sc (.bool false)) = BL (decide p):=by
 by_cases h : p <;> simp [h]
theorem za0 (hH : IsHist M B id m ops l) (hR : Sl 1 zAT ra o.rs) (wf : Wf M) (hw : M.wm ≤ M.size) (k : ∀ N,Kept M N → Q (BL (zEY l o x)) N) :
  W3 (zAE Tryz.prog (fsT tbl) fuel (d + 2) (.fn 99) [.ptr id 0,.agg (opR o ra),idA x] M) Q:=by
 have ora:=hR.one
 have hg:=hH.hg
 obtain ⟨obj,mg,hset⟩:=hH.mg
 have li:=Mem.get_lt hg
 have lm:=Mem.get_lt mg
 have om:=hH.sm.one
 have mg2 : ((M.add (.row false (opR o ra))).add (.row false (idR x))).get m = some obj:=by
  rw [zAF (wf.add _) _ _ (by rw [zA6]; omega),zAF wf _ _ lm]; exact mg
 have hlk:=zPM zKL (z:=.bool false) mg2 hset x
 rw [zZQ] at hlk
 have hle:=fun M=>@zGS fuel d x.hd.lb o.hd.lb M
 have one_mp : oneA (.mp m) = true:=rfl
 have kk:=(((Kept.refl wf).add (.row false (opR o ra))).add (.row false (idR x)))
 unfold zEY at k
 refine zAZ tf99 rfl (by simp [a99]) fun b' ht hx=>?_
 have h0:=hx 0 _ rfl
 have h1:=hx 1 _ rfl
 have h2:=hx 2 _ rfl
 clear hx
 simp only [a99,c99,zzm] at ht ⊢
 cases q : decide (x ∈ zAR l) with
 | false =>
  rw [q] at hlk
  simp only [q,Bool.false_and] at k
  simp (maxSteps:=2000000) (disch:=first | omega | assumption | (simp only [DS,Nat.reduceAdd, *]; done) | (simp only [DZ]; omega)) only [RUN,RU,zA2,zA1,zA0,zAB,slot,reduceIte,Nat.reduceEqDiff,Nat.reduceBEq,Nat.reduceAdd,h0,h1,h2,hg,x_lk,hlk]
  exact k _ kk
 | true =>
  rw [q] at hlk
  simp only [q,Bool.true_and] at k
  simp (maxSteps:=2000000) (disch:=first | omega | assumption | (simp only [DS,Nat.reduceAdd, *]; done) | (simp only [DZ]; omega)) only [RUN,RU,zA2,zA1,zA0,zAB,slot,reduceIte,Nat.reduceEqDiff,Nat.reduceBEq,Nat.reduceAdd,h0,h1,h2,hg,x_lk,hlk,hle]
  exact k _ kk
theorem zdE {bh bo : Nat} (hH : IsHist M B id m ops l) (hR : Sl 1 zAT ra o.rs) (wf : Wf M) (hw : M.wm ≤ M.size) (hb : M.get bh = some (.row false [.ptr id 0])) (hbo : M.get bo = some (.row false (opR o ra))) (k : ∀ N,Kept M N → Q (BL (!zEY l o x)) N) :
  W3 (zAE Tryz.prog (fsT tbl) fuel (d + 3) (.fn 117) [idA x,.ptr bh 0,.ptr bo 0] M) Q:=by
 have ora:=hR.one
 have lb:=Mem.get_lt hb
 have lbo:=Mem.get_lt hbo
 have li:=Mem.get_lt hH.hg
 refine zAZ tf117 rfl (by simp [a117]) fun b' ht hx=>?_
 have h0:=hx 0 _ rfl
 have h1:=hx 1 _ rfl
 have h2:=hx 2 _ rfl
 clear hx
 simp only [a117,c117,zzm] at ht ⊢
 simp (maxSteps:=2000000) (disch:=first | omega | assumption | (simp only [DS,Nat.reduceAdd, *]; done) | (simp only [DZ]; omega)) only [RUN,RU,zA2,zA1,slot,reduceIte,Nat.reduceEqDiff,h0,h1,h2,hb,hbo]
 refine za0 (d:=d) (B:=B) (m:=m) (ops:=ops) (hH.keep fun j hj=>zAF wf _ _ hj) hR (wf.add _) (by rw [zA6]; show M.wm ≤ _; omega) fun N hN=>?_
 simp (maxSteps:=2000000) (disch:=first | omega | assumption | (simp only [DS,Nat.reduceAdd, *]; done) | (simp only [DZ]; omega)) only [RUN,RU,zA2,zA1,zA0,zAB,reduceIte,Nat.reduceEqDiff]
 exact k _ (((Kept.refl wf).add _).trans hN)
def allB (l : List Op) (o : Op) : Bool:=o.sp.ids.all fun x=>zEY l o x
theorem zVL {α : Type} (p : α → Bool) (l : List α) : (l.any fun x => !p x) = !l.all p:=by
 induction l with
 | nil=>rfl
 | cons x l ih=>simp only [List.any_cons,List.all_cons,ih,Bool.not_and]
theorem zdF (hH : IsHist M B id m ops l) (hR : Sl 1 zAT ra o.rs) (ho : o.ok) (hm : o.may = true) (hf : 300 < fuel) (wf : Wf M) (hw : M.wm ≤ M.size) (k : ∀ N,Kept M N → Q (BL (allB l o)) N) :
  W3 (zAE Tryz.prog (fsT tbl) fuel (d + 7) (.fn 102) [.ptr id 0,.agg (opR o ra)] M) Q:=by
 have ora:=hR.one
 have li:=Mem.get_lt hH.hg
 have hb:=Spn.may_le (may_sp hm)
 obtain ⟨r,hr,hn⟩:=zIF (fuel:=fuel) (d:=d) ho.2.2.2.1 (may_sp hm) (by omega)
 have il:=zKM o.sp
 have ea : (o.sp.ids.any fun x => !zEY l o x) = !allB l o:=zVL _ _
 refine zAZ tf102 rfl (by simp [a102]) fun b' ht hx=>?_
 have h0:=hx 0 _ rfl
 have h1:=hx 1 _ rfl
 clear hx
 simp only [a102,c102,zzm] at ht ⊢
 simp (maxSteps:=2000000) (disch:=first | omega | assumption | (simp only [DS,Nat.reduceAdd, *]; done) | (simp only [DZ]; omega)) only [RUN,RU,zA2,zA1,slot,reduceIte,Nat.reduceEqDiff,h0,h1,hn]
 have kA:=((Kept.refl wf).add (.row false [.ptr id 0])).add (.row false (opR o ra))
 have wA:=kA.wf
 have gA : ((M.add (.row false [.ptr id 0])).add (.row false (opR o ra))).get M.size = some (.row false [.ptr id 0]):=by simp (maxSteps:=2000000) (disch:=first | omega | assumption | (simp only [DS,Nat.reduceAdd, *]; done) | (simp only [DZ]; omega)) only [RUN]
 have gB : ((M.add (.row false [.ptr id 0])).add (.row false (opR o ra))).get (M.size + 1) = some (.row false (opR o ra)):=by simp (maxSteps:=2000000) (disch:=first | omega | assumption | (simp only [DS,Nat.reduceAdd, *]; done) | (simp only [DZ]; omega)) only [RUN]
 have sA : ((M.add (.row false [.ptr id 0])).add (.row false (opR o ra))).size = M.size + 2:=rfl
 generalize (M.add (.row false [.ptr id 0])).add (.row false (opR o ra)) = X at *
 refine zR6 (st:=4) (ag:=true) (n:=d + 4) (first:=[]) (cap:=[.ptr M.size 0,.ptr (M.size + 1) 0]) tf100 tf116 (by simp) zLT hr (by omega) (by omega) (p:=fun x => !zEY l o x) wA (fun n hn=>by rw [sA] at hn; simp (maxSteps:=2000000) (disch:=first | omega | assumption | (simp only [DS,Nat.reduceAdd, *]; done) | (simp only [DZ]; omega)) only [RUN,RU]) (fun r x hr _ N Q' hk hQ=>?_) fun N hk=>?_
 ·obtain ⟨rfl,_⟩:=hr
  refine zdE (d:=d + 1) (B:=B) (m:=m) (ops:=ops) (hH.keep fun j hj=>(hk.get j (by omega)).trans (kA.get j hj)) hR hk.wf (by rw [hk.wm,kA.wm]; have:=hk.le; omega) ((hk.get _ (by omega)).trans gA) ((hk.get _ (by omega)).trans gB) fun N' hk'=>hQ N' (hk.trans hk')
 ·rw [ea]
  simp (maxSteps:=2000000) (disch:=first | omega | assumption | (simp only [DS,Nat.reduceAdd, *]; done) | (simp only [DZ]; omega)) only [RUN,RU,zA2,zA1,zA0,zAB,reduceIte,Nat.reduceEqDiff]
  rw [Bool.not_not]
  exact k _ (kA.trans hk)
end Go.Proofs.YtklfocnoenjgdaaGreat
namespace Go.Proofs.YtklfocnoenjgdaaGreat
open Go Go.Ax
variable {fuel : Nat} {M : Mem} {Q : AV → Mem → Prop} {d : Nat} {x : Eid} {l : List Op} {o : Op} {ra ops : AV} {B id m : Nat}
def remE (l : List Op) (o : Op) : Int:=if allB l o then (if o.sp.f.hd.lb = o.hd.lb then 0 else 2) else 6
def raiE (l : List Op) (o : Op) : Int:=if allB l o then (if chfE l o = 0 ∧ chfB l o = true then 0 else 2) else 6
set_option maxHeartbeats 4000000 in
theorem zYF (hH : IsHist M B id m ops l) (hR : Sl 1 zAT ra o.rs) (ho : o.ok) (hm : o.may = true) (hf : 300 < fuel) (wf : Wf M) (hw : M.wm ≤ M.size) (k : ∀ N,Kept M N → Q (I64 (remE l o)) N) :
  W3 (zAE Tryz.prog (fsT tbl) fuel (d + 8) (.fn 71) [.ptr id 0,.agg (opR o ra)] M) Q:=by
 have ora:=hR.one
 have li:=Mem.get_lt hH.hg
 unfold remE at k
 refine zAZ tf71 rfl (by simp [a71]) fun b' ht hx=>?_
 have h0:=hx 0 _ rfl
 have h1:=hx 1 _ rfl
 clear hx
 simp only [a71,c71,zzm] at ht ⊢
 simp (maxSteps:=2000000) (disch:=first | omega | assumption | (simp only [DS,Nat.reduceAdd, *]; done) | (simp only [DZ]; omega)) only [RUN,RU,zA2,zA1,slot,reduceIte,Nat.reduceEqDiff,h0,h1]
 refine zdF (d:=d) (B:=B) (m:=m) (ops:=ops) (hH.keep fun j hj=>zAF wf _ _ hj) hR ho hm hf (wf.add _) (by rw [zA6]; show M.wm ≤ _; omega) fun N hN=>?_
 have hg:=hN.get M.size (by rw [zA6]; omega)
 rw [zAH wf _ _ (Nat.le_refl _) (Nat.lt_succ_self _)] at hg
 have lg:=Mem.get_lt hg
 have kN:=((Kept.refl wf).add _).trans hN
 cases q1 : allB l o <;> simp only [q1,if_true,Bool.false_eq_true,if_false] at k
 ·simp (maxSteps:=2000000) (disch:=first | omega | assumption | (simp only [DS,Nat.reduceAdd, *]; done) | (simp only [DZ]; omega)) only [RUN,RU,zA2,zA1,zA0,zAB,reduceIte,Nat.reduceEqDiff]
  exact k _ kN
 ·cases q2 : decide (o.sp.f.hd.lb = o.hd.lb)
  ·rw [if_neg (of_decide_eq_false q2)] at k
   simp (maxSteps:=2000000) (disch:=first | omega | assumption | (simp only [DS,Nat.reduceAdd, *]; done) | (simp only [DZ]; omega)) only [RUN,RU,zA2,zA1,zA0,zAB,slot,reduceIte,Nat.reduceEqDiff,hg,↓pLbN,zG7,ETA,q2]
   exact k _ kN
  ·rw [if_pos (of_decide_eq_true q2)] at k
   simp (maxSteps:=2000000) (disch:=first | omega | assumption | (simp only [DS,Nat.reduceAdd, *]; done) | (simp only [DZ]; omega)) only [RUN,RU,zA2,zA1,zA0,zAB,slot,reduceIte,Nat.reduceEqDiff,hg,↓pLbN,zG7,ETA,q2]
   exact k _ kN
set_option maxHeartbeats 4000000 in
theorem zcA (hH : IsHist M B id m ops l) (hl : l.length ≤ 40000) (hR : Sl 1 zAT ra o.rs) (ho : o.ok) (hm : o.may = true) (hf : l.length + 300 < fuel) (wf : Wf M) (hw : M.wm ≤ M.size) (k : ∀ N,Kept M N → Q (I64 (raiE l o)) N) :
  W3 (zAE Tryz.prog (fsT tbl) fuel (d + 11) (.fn 72) [.ptr id 0,.agg (opR o ra)] M) Q:=by
 have ora:=hR.one
 have li:=Mem.get_lt hH.hg
 unfold raiE at k
 refine zAZ tf72 rfl (by simp [a72]) fun b' ht hx=>?_
 have h0:=hx 0 _ rfl
 have h1:=hx 1 _ rfl
 clear hx
 simp only [a72,c72,zzm,zzg] at ht ⊢
 simp (maxSteps:=2000000) (disch:=first | omega | assumption | (simp only [DS,Nat.reduceAdd, *]; done) | (simp only [DZ]; omega)) only [RUN,RU,zA2,zA1,slot,reduceIte,Nat.reduceEqDiff,h0,h1]
 refine zdF (d:=d + 3) (B:=B) (m:=m) (ops:=ops) (hH.keep fun j hj=>zAF wf _ _ hj) hR ho hm (by omega) (wf.add _) (by rw [zA6]; show M.wm ≤ _; omega) fun N hN=>?_
 have hg:=hN.get M.size (by rw [zA6]; omega)
 rw [zAH wf _ _ (Nat.le_refl _) (Nat.lt_succ_self _)] at hg
 have lg:=Mem.get_lt hg
 have kN:=((Kept.refl wf).add _).trans hN
 have hH' : IsHist N B id m ops l:=hH.keep fun j hj=>kN.get j hj
 have hg2:=hH'.hg
 have li':=Mem.get_lt hg2
 cases q1 : allB l o <;> simp only [q1,if_true,Bool.false_eq_true,if_false] at k
 ·simp (maxSteps:=2000000) (disch:=first | omega | assumption | (simp only [DS,Nat.reduceAdd, *]; done) | (simp only [DZ]; omega)) only [RUN,RU,zA2,zA1,zA0,zAB,reduceIte,Nat.reduceEqDiff]
  exact k _ kN
 ·simp (maxSteps:=2000000) (disch:=first | omega | assumption | (simp only [DS,Nat.reduceAdd, *]; done) | (simp only [DZ]; omega)) only [RUN,RU,zA2,zA1,slot,reduceIte,Nat.reduceEqDiff,Nat.reduceBEq,Nat.reduceAdd,h0,hg,hg2]
  refine zW6 (d:=d) (l:=l) (.inr (hH'.sm.keep fun j hj=>rfl)) hl (by omega) hR ho (by rw [zRB]; exact hN.wf) fun N2 hN2=>?_
  have k2:=kN.trans hN2.bk
  have hd : N2.dirty = false:=hN2.di
  by_cases q2 : chfE l o = 0
  ·cases q3 : chfB l o
   ·rw [if_neg (by simp [q2,q3])] at k
    simp (maxSteps:=2000000) (disch:=first | omega | assumption | (simp only [DS,Nat.reduceAdd, *]; done) | (simp only [DZ]; omega)) only [RUN,RU,zA2,zA1,zA0,zAB,reduceIte,Nat.reduceEqDiff,Nat.reduceBEq,Nat.reduceAdd,hd,q2]
    exact k _ k2
   ·rw [if_pos ⟨q2,q3⟩] at k
    simp (maxSteps:=2000000) (disch:=first | omega | assumption | (simp only [DS,Nat.reduceAdd, *]; done) | (simp only [DZ]; omega)) only [RUN,RU,zA2,zA1,zA0,zAB,reduceIte,Nat.reduceEqDiff,Nat.reduceBEq,Nat.reduceAdd,hd,q2]
    exact k _ k2
  ·rw [if_neg (by simp [q2])] at k
   have q2' : decide (chfE l o = 0) = false:=decide_eq_false q2
   simp (maxSteps:=2000000) (disch:=first | omega | assumption | (simp only [DS,Nat.reduceAdd, *]; done) | (simp only [DZ]; omega)) only [RUN,RU,zA2,zA1,zA0,zAB,reduceIte,Nat.reduceEqDiff,Nat.reduceBEq,Nat.reduceAdd,hd,q2']
   exact k _ k2
end Go.Proofs.YtklfocnoenjgdaaGreat
namespace Go.Proofs.YtklfocnoenjgdaaGreat
open Go Go.Ax
variable {fuel : Nat} {M : Mem} {Q : AV → Mem → Prop} {d : Nat} {x : Eid} {l : List Op} {o : Op} {ra ops : AV} {B id m : Nat}
theorem zZI {bh : Nat} (hH : IsHist M B id m ops l) (wf : Wf M) (hb : M.get bh = some (.row false [.ptr id 0])) (k : ∀ N,Kept M N → Q (BL (decide (x ∈ zAR l))) N) :
  W3 (zAE Tryz.prog (fsT tbl) fuel (d + 1) (.fn 101) [idA x,.ptr bh 0] M) Q:=by
 have lb:=Mem.get_lt hb
 have hg:=hH.hg
 have li:=Mem.get_lt hg
 obtain ⟨obj,mg,hset⟩:=hH.mg
 have lm:=Mem.get_lt mg
 have mg2 : (M.add (.row false (idR x))).get m = some obj:=by
  rw [zAF wf _ _ lm]; exact mg
 have hlk:=zPM zKL (z:=.bool false) mg2 hset x
 rw [zZQ] at hlk
 have one_mp : oneA (.mp m) = true:=rfl
 refine zAZ tf101 rfl (by simp [a101]) fun b' ht hx=>?_
 have h0:=hx 0 _ rfl
 have h1:=hx 1 _ rfl
 clear hx
 simp only [a101,c101,zzm] at ht ⊢
 simp (maxSteps:=2000000) (disch:=first | omega | assumption | (simp only [DS,Nat.reduceAdd, *]; done) | (simp only [DZ]; omega)) only [RUN,RU,zA2,zA1,zA0,zAB,slot,reduceIte,Nat.reduceEqDiff,Nat.reduceBEq,Nat.reduceAdd,h0,h1,hb,hg,x_lk,hlk]
 exact k _ ((Kept.refl wf).add _)
def insE (l : List Op) (o : Op) : Int :=
 if o.af ≠ Eid.z ∧ zEY l o o.af = false then 6
 else if rofE o ≠ 0 ∨ (o.sp.ids.any fun x=>decide (x ∈ zAR l)) = true then 2
 else if 8192 < ((zAR l).length : Int) + o.sp.n then 4 else 0
theorem zUJ {o : Op} {r : AV} (h : rofK o r) : ∃ rn ra,r = .tup [.agg (rnR rn ra),I64 (rofE o)] ∧ oneA ra = true ∧ cellsA ra = [ra]:=by
 unfold rofK at h
 split at h
 ·rename_i h0
  obtain ⟨ra,rfl,hr⟩:=h
  exact ⟨_,ra,by rw [h0],hr.one,hr.cells⟩
 ·exact ⟨⟨⟨Eid.z,0⟩,Eid.z,[]⟩,NIL,h,rfl,rfl⟩
set_option maxHeartbeats 8000000 in
theorem zX6 (hH : IsHist M B id m ops l) (htl : (zAR l).length ≤ 1000000) (hR : Sl 1 zAT ra o.rs) (ho : o.ok) (hm : o.may = true) (hf : 300 < fuel) (wf : Wf M) (hw : M.wm ≤ M.size) (k : ∀ N,Kept M N → Q (I64 (insE l o)) N) :
  W3 (zAE Tryz.prog (fsT tbl) fuel (d + 9) (.fn 70) [.ptr id 0,.agg (opR o ra)] M) Q:=by
 have ora:=hR.one
 have li:=Mem.get_lt hH.hg
 have hb:=Spn.may_le (may_sp hm)
 obtain ⟨r,hr,hn⟩:=zIF (fuel:=fuel) (d:=d + 2) ho.2.2.2.1 (may_sp hm) (by omega)
 obtain ⟨rr,hk,hof⟩:=zMW (fuel:=fuel) (d:=d) hR ho (by omega)
 obtain ⟨rn,r2,rfl,o2,c2⟩:=zUJ hk
 have il:=zKM o.sp
 have kA:=((Kept.refl wf).add (.row false [.ptr id 0])).add (.row false (opR o ra))
 have wA:=kA.wf
 have gA : ((M.add (.row false [.ptr id 0])).add (.row false (opR o ra))).get M.size = some (.row false [.ptr id 0]):=by simp (maxSteps:=2000000) (disch:=first | omega | assumption | (simp only [DS,Nat.reduceAdd, *]; done) | (simp only [DZ]; omega)) only [RUN]
 have gB : ((M.add (.row false [.ptr id 0])).add (.row false (opR o ra))).get (M.size + 1) = some (.row false (opR o ra)):=by simp (maxSteps:=2000000) (disch:=first | omega | assumption | (simp only [DS,Nat.reduceAdd, *]; done) | (simp only [DZ]; omega)) only [RUN]
 have sA : ((M.add (.row false [.ptr id 0])).add (.row false (opR o ra))).size = M.size + 2:=rfl
 unfold insE at k
 refine zAZ tf70 rfl (by simp [a70]) fun b' ht hx=>?_
 have h0:=hx 0 _ rfl
 have h1:=hx 1 _ rfl
 clear hx
 simp only [a70,c70,zz1,zz3,zzm] at ht ⊢
 cases qz : decide (o.af = Eid.z) with
 | false =>
  simp (maxSteps:=2000000) (disch:=first | omega | assumption | (simp only [DS,Nat.reduceAdd, *]; done) | (simp only [DZ]; omega)) only [RUN,RU,zA2,zA1,slot,zAJ,reduceIte,Nat.reduceEqDiff,h0,h1,↓pIdN,zB5,ETA,qz]
  generalize (M.add (.row false [.ptr id 0])).add (.row false (opR o ra)) = X at *
  refine za0 (d:=d + 6) (B:=B) (m:=m) (ops:=ops) (hH.keep fun j hj=>kA.get j hj) hR wA (by rw [kA.wm]; omega) fun N hN=>?_
  cases qs : zEY l o o.af with
  | false =>
   rw [if_pos ⟨of_decide_eq_false qz,qs⟩] at k
   simp (maxSteps:=2000000) (disch:=first | omega | assumption | (simp only [DS,Nat.reduceAdd, *]; done) | (simp only [DZ]; omega)) only [RUN,RU,zA2,zA1,zA0,zAB,reduceIte,Nat.reduceEqDiff]
   exact k _ (kA.trans hN)
  | true =>
   rw [if_neg (by simp [qs])] at k
   have wN:=hN.wf
   have g0:=(hN.get M.size (by omega)).trans gA
   have g1:=(hN.get (M.size + 1) (by omega)).trans gB
   have kN:=kA.trans hN
   have l0:=Mem.get_lt g0
   have l1:=Mem.get_lt g1
   simp (maxSteps:=2000000) (disch:=first | omega | assumption | (simp only [DS,Nat.reduceAdd, *]; done) | (simp only [DZ]; omega)) only [RUN,RU,zA2,zA1,slot,lay,reduceIte,Nat.reduceEqDiff,Nat.reduceAdd,g1,hof]
   by_cases q1 : rofE o = 0
   ·have k2:=(kN.add (.row false (rnR ⟨⟨Eid.z,0⟩,Eid.z,[]⟩ NIL))).upd hw kN.le (.row false (rnR rn r2))
    have z0 : ((N.add (.row false (rnR ⟨⟨Eid.z,0⟩,Eid.z,[]⟩ NIL))).upd N.size (.row false (rnR rn r2))).get M.size = some (.row false [.ptr id 0]):=by
     rw [zA3 (wN.add _) _ _ _ (by omega),zAF wN _ _ l0]; exact g0
    have z1 : ((N.add (.row false (rnR ⟨⟨Eid.z,0⟩,Eid.z,[]⟩ NIL))).upd N.size (.row false (rnR rn r2))).get (M.size + 1) = some (.row false (opR o ra)):=by
     rw [zA3 (wN.add _) _ _ _ (by omega),zAF wN _ _ l1]; exact g1
    have q1' : decide (rofE o = 0) = true:=decide_eq_true q1
    simp (maxSteps:=2000000) (disch:=first | omega | assumption | (simp only [DS,Nat.reduceAdd, *]; done) | (simp only [DZ]; omega)) only [RUN,RU,zA2,zA1,slot,reduceIte,Nat.reduceEqDiff,g1,q1',hn]
    generalize ((N.add (.row false (rnR ⟨⟨Eid.z,0⟩,Eid.z,[]⟩ NIL))).upd N.size (.row false (rnR rn r2))) = X2 at *
    have w2:=k2.wf
    have s2:=k2.le
    have hH2 : IsHist X2 B id m ops l:=hH.keep fun j hj=>k2.get j hj
    have m0:=Mem.get_lt z0
    refine zR6 (st:=4) (ag:=true) (n:=d + 6) (first:=[]) (cap:=[.ptr M.size 0]) tf100 tf116 (by simp) zLT hr (by omega) (by omega) (p:=fun x=>decide (x ∈ zAR l)) w2 (fun n hn=>by simp (maxSteps:=2000000) (disch:=first | omega | assumption | (simp only [DS,Nat.reduceAdd, *]; done) | (simp only [DZ]; omega)) only [RUN,RU]) (fun r x hr _ N Q' hk hQ=>?_) fun N3 h3=>?_
    ·obtain ⟨rfl,_⟩:=hr
     refine zZI (d:=d + 5) (B:=B) (m:=m) (ops:=ops) (hH2.keep fun j hj=>hk.get j hj) hk.wf ((hk.get _ m0).trans z0) fun N' hk'=>hQ N' (hk.trans hk')
    ·have k3:=k2.trans h3
     have y0:=(h3.get _ m0).trans z0
     have y1:=(h3.get _ (Mem.get_lt z1)).trans z1
     have w3:=h3.wf
     have hH3 : IsHist N3 B id m ops l:=hH.keep fun j hj=>k3.get j hj
     have hg3:=hH3.hg
     have li3:=Mem.get_lt hg3
     have n0:=Mem.get_lt y0
     have n1:=Mem.get_lt y1
     obtain ⟨obj,mg,hset⟩:=hH3.mg
     have lm:=Mem.get_lt mg
     have hml:=zZT mg hset
     cases q2 : o.sp.ids.any fun x=>decide (x ∈ zAR l) with
     | true =>
      rw [if_pos (.inr q2)] at k
      simp (maxSteps:=2000000) (disch:=first | omega | assumption | (simp only [DS,Nat.reduceAdd, *]; done) | (simp only [DZ]; omega)) only [RUN,RU,zA2,zA1,zA0,zAB,reduceIte,Nat.reduceEqDiff]
      exact k _ k3
     | false =>
      rw [if_neg (by simp [q1,q2])] at k
      have w1 : IntKind.i64.wrap (((zAR l).length : Int) + o.sp.n) = ((zAR l).length : Int) + o.sp.n:=wrap_i64 (by omega) (by omega)
      by_cases q3 : 8192 < ((zAR l).length : Int) + o.sp.n
      ·rw [if_pos q3] at k
       have q3':=decide_eq_true q3
       simp (maxSteps:=2000000) (disch:=first | omega | assumption | (simp only [DS,Nat.reduceAdd, *]; done) | (simp only [DZ]; omega)) only [RUN,RU,zA2,zA1,zA0,zAB,reduceIte,Nat.reduceEqDiff,Nat.reduceBEq,Nat.reduceAdd,y0,y1,hg3,x_ml,hml,w1,q3']
       exact k _ k3
      ·rw [if_neg q3] at k
       have q3':=decide_eq_false q3
       simp (maxSteps:=2000000) (disch:=first | omega | assumption | (simp only [DS,Nat.reduceAdd, *]; done) | (simp only [DZ]; omega)) only [RUN,RU,zA2,zA1,zA0,zAB,reduceIte,Nat.reduceEqDiff,Nat.reduceBEq,Nat.reduceAdd,y0,y1,hg3,x_ml,hml,w1,q3']
       exact k _ k3
   ·have q1' : decide (rofE o = 0) = false:=decide_eq_false q1
    rw [if_pos (.inl q1)] at k
    simp (maxSteps:=2000000) (disch:=first | omega | assumption | (simp only [DS,Nat.reduceAdd, *]; done) | (simp only [DZ]; omega)) only [RUN,RU,zA2,zA1,zA0,zAB,reduceIte,Nat.reduceEqDiff,q1']
    exact k _ ((kN.add _).upd hw kN.le _)
 | true =>
  rw [if_neg (fun h=>h.1 (of_decide_eq_true qz))] at k
  simp (maxSteps:=2000000) (disch:=first | omega | assumption | (simp only [DS,Nat.reduceAdd, *]; done) | (simp only [DZ]; omega)) only [RUN,RU,zA2,zA1,slot,zAJ,reduceIte,Nat.reduceEqDiff,h0,h1,↓pIdN,zB5,ETA,qz]
  generalize (M.add (.row false [.ptr id 0])).add (.row false (opR o ra)) = N at *
  have wN:=wA
  have g0:=gA
  have g1:=gB
  have kN:=kA
  have qs:=qz
  have l0:=Mem.get_lt g0
  have l1:=Mem.get_lt g1
  simp (maxSteps:=2000000) (disch:=first | omega | assumption | (simp only [DS,Nat.reduceAdd, *]; done) | (simp only [DZ]; omega)) only [RUN,RU,zA2,zA1,lay,reduceIte,Nat.reduceEqDiff,Nat.reduceAdd,hof]
  by_cases q1 : rofE o = 0
  ·have k2:=(kN.add (.row false (rnR ⟨⟨Eid.z,0⟩,Eid.z,[]⟩ NIL))).upd hw kN.le (.row false (rnR rn r2))
   have z0 : ((N.add (.row false (rnR ⟨⟨Eid.z,0⟩,Eid.z,[]⟩ NIL))).upd N.size (.row false (rnR rn r2))).get M.size = some (.row false [.ptr id 0]):=by
    rw [zA3 (wN.add _) _ _ _ (by omega),zAF wN _ _ l0]; exact g0
   have z1 : ((N.add (.row false (rnR ⟨⟨Eid.z,0⟩,Eid.z,[]⟩ NIL))).upd N.size (.row false (rnR rn r2))).get (M.size + 1) = some (.row false (opR o ra)):=by
    rw [zA3 (wN.add _) _ _ _ (by omega),zAF wN _ _ l1]; exact g1
   have q1' : decide (rofE o = 0) = true:=decide_eq_true q1
   simp (maxSteps:=2000000) (disch:=first | omega | assumption | (simp only [DS,Nat.reduceAdd, *]; done) | (simp only [DZ]; omega)) only [RUN,RU,zA2,zA1,slot,reduceIte,Nat.reduceEqDiff,g1,q1',hn]
   generalize ((N.add (.row false (rnR ⟨⟨Eid.z,0⟩,Eid.z,[]⟩ NIL))).upd N.size (.row false (rnR rn r2))) = X2 at *
   have w2:=k2.wf
   have s2:=k2.le
   have hH2 : IsHist X2 B id m ops l:=hH.keep fun j hj=>k2.get j hj
   have m0:=Mem.get_lt z0
   refine zR6 (st:=4) (ag:=true) (n:=d + 6) (first:=[]) (cap:=[.ptr M.size 0]) tf100 tf116 (by simp) zLT hr (by omega) (by omega) (p:=fun x=>decide (x ∈ zAR l)) w2 (fun n hn=>by simp (maxSteps:=2000000) (disch:=first | omega | assumption | (simp only [DS,Nat.reduceAdd, *]; done) | (simp only [DZ]; omega)) only [RUN,RU]) (fun r x hr _ N Q' hk hQ=>?_) fun N3 h3=>?_
   ·obtain ⟨rfl,_⟩:=hr
    refine zZI (d:=d + 5) (B:=B) (m:=m) (ops:=ops) (hH2.keep fun j hj=>hk.get j hj) hk.wf ((hk.get _ m0).trans z0) fun N' hk'=>hQ N' (hk.trans hk')
   ·have k3:=k2.trans h3
    have y0:=(h3.get _ m0).trans z0
    have y1:=(h3.get _ (Mem.get_lt z1)).trans z1
    have w3:=h3.wf
    have hH3 : IsHist N3 B id m ops l:=hH.keep fun j hj=>k3.get j hj
    have hg3:=hH3.hg
    have li3:=Mem.get_lt hg3
    have n0:=Mem.get_lt y0
    have n1:=Mem.get_lt y1
    obtain ⟨obj,mg,hset⟩:=hH3.mg
    have lm:=Mem.get_lt mg
    have hml:=zZT mg hset
    cases q2 : o.sp.ids.any fun x=>decide (x ∈ zAR l) with
    | true =>
     rw [if_pos (.inr q2)] at k
     simp (maxSteps:=2000000) (disch:=first | omega | assumption | (simp only [DS,Nat.reduceAdd, *]; done) | (simp only [DZ]; omega)) only [RUN,RU,zA2,zA1,zA0,zAB,reduceIte,Nat.reduceEqDiff]
     exact k _ k3
    | false =>
     rw [if_neg (by simp [q1,q2])] at k
     have w1 : IntKind.i64.wrap (((zAR l).length : Int) + o.sp.n) = ((zAR l).length : Int) + o.sp.n:=wrap_i64 (by omega) (by omega)
     by_cases q3 : 8192 < ((zAR l).length : Int) + o.sp.n
     ·rw [if_pos q3] at k
      have q3':=decide_eq_true q3
      simp (maxSteps:=2000000) (disch:=first | omega | assumption | (simp only [DS,Nat.reduceAdd, *]; done) | (simp only [DZ]; omega)) only [RUN,RU,zA2,zA1,zA0,zAB,reduceIte,Nat.reduceEqDiff,Nat.reduceBEq,Nat.reduceAdd,y0,y1,hg3,x_ml,hml,w1,q3']
      exact k _ k3
     ·rw [if_neg q3] at k
      have q3':=decide_eq_false q3
      simp (maxSteps:=2000000) (disch:=first | omega | assumption | (simp only [DS,Nat.reduceAdd, *]; done) | (simp only [DZ]; omega)) only [RUN,RU,zA2,zA1,zA0,zAB,reduceIte,Nat.reduceEqDiff,Nat.reduceBEq,Nat.reduceAdd,y0,y1,hg3,x_ml,hml,w1,q3']
      exact k _ k3
  ·have q1' : decide (rofE o = 0) = false:=decide_eq_false q1
   rw [if_pos (.inl q1)] at k
   simp (maxSteps:=2000000) (disch:=first | omega | assumption | (simp only [DS,Nat.reduceAdd, *]; done) | (simp only [DZ]; omega)) only [RUN,RU,zA2,zA1,zA0,zAB,reduceIte,Nat.reduceEqDiff,q1']
   exact k _ ((kN.add _).upd hw kN.le _)
end Go.Proofs.YtklfocnoenjgdaaGreat
namespace Go.Proofs.YtklfocnoenjgdaaGreat
open Go Go.Ax
variable {fuel : Nat} {M : Mem} {Q : AV → Mem → Prop} {d : Nat} {x : Eid} {l : List Op} {o : Op} {ra ops : AV} {B id m : Nat}
def zDL (l : List Op) (o : Op) : Int:=if o.kd = 1 then insE l o else if o.kd = 2 then remE l o else raiE l o
def fitE (l : List Op) (o : Op) : Int:=if zDL l o = 0 then (if 2048 ≤ l.length then 4 else 0) else zDL l o
theorem zeI {o : Op} (h : o.may = true) (ho : o.ok) : o.kd = 1 ∨ o.kd = 2 ∨ o.kd = 3:=by
 unfold Op.may at h
 simp only [Bool.and_eq_true,Bool.not_eq_true',decide_eq_false_iff_not] at h
 have:=ho.1
 omega
set_option maxHeartbeats 8000000 in
theorem zdN (hH : IsHist M B id m ops l) (htl : (zAR l).length ≤ 1000000) (hl : l.length ≤ 40000) (hR : Sl 1 zAT ra o.rs) (ho : o.ok) (hm : o.may = true) (hf : l.length + 300 < fuel) (wf : Wf M) (hw : M.wm ≤ M.size) (k : ∀ N,Kept M N → Q (I64 (fitE l o)) N) :
  W3 (zAE Tryz.prog (fsT tbl) fuel (d + 12) (.fn 49) [.ptr id 0,.agg (opR o ra)] M) Q:=by
 have ora:=hR.one
 have li:=Mem.get_lt hH.hg
 have wA:=wf.add (.row false (opR o ra))
 have gA : (M.add (.row false (opR o ra))).get M.size = some (.row false (opR o ra)):=zAH wf _ _ (Nat.le_refl _) (Nat.lt_succ_self _)
 have hHA : IsHist (M.add (.row false (opR o ra))).lo B id m ops l:=hH.keep fun j hj=>zAF wf _ _ hj
 have onf : oneA (.sc .nilFunc) = true:=rfl
 have tail : ∀ N2,Kept (M.add (.row false (opR o ra))).lo N2 → True:=fun _ _=>trivial
 clear tail
 have done : ∀ N2,Kept (M.add (.row false (opR o ra))).lo N2 → Kept M ((M.add (.row false (opR o ra))).bk N2):=fun N2 h=>((Kept.refl wf).add _).trans h.bk
 have kq : ∀ N2,Kept (M.add (.row false (opR o ra))).lo N2 → IsHist ((M.add (.row false (opR o ra))).bk N2) B id m ops l:=fun N2 h=>hH.keep fun j hj=>(done N2 h).get j hj
 unfold fitE at k
 refine zAZ tf49 rfl (by simp [a49]) fun b' ht hx=>?_
 have h0:=hx 0 _ rfl
 have h1:=hx 1 _ rfl
 clear hx
 simp only [a49,c49,zzm,zzg] at ht ⊢
 have hw' : (M.add (.row false (opR o ra))).lo.wm ≤ (M.add (.row false (opR o ra))).lo.size:=Nat.le_refl _
 rcases zeI hm ho with hk | hk | hk
 ·have n1 : zCV (U8 o.kd) = some 1:=by rw [hk]; rfl
  have ep : zDL l o = insE l o:=by unfold zDL; rw [if_pos hk]
  rw [ep] at k
  simp (maxSteps:=2000000) (disch:=first | omega | assumption | (simp only [DS,Nat.reduceAdd, *]; done) | (simp only [DZ]; omega)) only [RUN,RU,zA2,zA1,slot,lay,zAJ,reduceIte,Nat.reduceEqDiff,Nat.reduceBEq,Nat.reduceAdd,Nat.reduceMul,h0,h1,n1,zRT,zGQ]
  refine zX6 (d:=d + 2) hHA htl hR ho hm (by omega) wA hw' fun N2 hN2=>?_
  have hd : N2.dirty = false:=hN2.di
  have hq:=kq N2 hN2
  have kN:=done N2 hN2
  have hg : N2.get id = some (.row false [ops,.mp m]):=hq.hg
  have lg : id < N2.size:=Mem.get_lt hg
  have ll:=hq.sm.len
  by_cases q1 : insE l o = 0
  ·rw [if_pos q1] at k
   have q1' : decide (insE l o = 0) = true:=decide_eq_true q1
   by_cases q2 : 2048 ≤ l.length
   ·rw [if_pos q2] at k
    have q2' : decide ((2048 : Int) ≤ l.length) = true:=decide_eq_true (by omega)
    simp (maxSteps:=2000000) (disch:=first | omega | assumption | (simp only [DS,Nat.reduceAdd, *]; done) | (simp only [DZ]; omega)) only [RUN,RU,zA2,zA1,zA0,zAB,reduceIte,Nat.reduceEqDiff,Nat.reduceAdd,h0,hd,q1',hg,ll,q2']
    exact k _ kN
   ·rw [if_neg q2] at k
    have q2' : decide ((2048 : Int) ≤ l.length) = false:=decide_eq_false (by omega)
    simp (maxSteps:=2000000) (disch:=first | omega | assumption | (simp only [DS,Nat.reduceAdd, *]; done) | (simp only [DZ]; omega)) only [RUN,RU,zA2,zA1,zA0,zAB,reduceIte,Nat.reduceEqDiff,Nat.reduceAdd,h0,hd,hg,ll,q2',q1]
    exact k _ kN
  ·rw [if_neg q1] at k
   have q1' : decide (insE l o = 0) = false:=decide_eq_false q1
   simp (maxSteps:=2000000) (disch:=first | omega | assumption | (simp only [DS,Nat.reduceAdd, *]; done) | (simp only [DZ]; omega)) only [RUN,RU,zA2,zA1,zA0,zAB,reduceIte,Nat.reduceEqDiff,Nat.reduceAdd,hd,q1']
   exact k _ kN
 ·have n1 : zCV (U8 o.kd) = some 2:=by rw [hk]; rfl
  have ep : zDL l o = remE l o:=by unfold zDL; rw [if_neg (by omega),if_pos hk]
  rw [ep] at k
  simp (maxSteps:=2000000) (disch:=first | omega | assumption | (simp only [DS,Nat.reduceAdd, *]; done) | (simp only [DZ]; omega)) only [RUN,RU,zA2,zA1,slot,lay,zAJ,reduceIte,Nat.reduceEqDiff,Nat.reduceBEq,Nat.reduceAdd,Nat.reduceMul,h0,h1,n1,zRT,zGQ]
  refine zYF (d:=d + 3) hHA hR ho hm (by omega) wA hw' fun N2 hN2=>?_
  have hd : N2.dirty = false:=hN2.di
  have hq:=kq N2 hN2
  have kN:=done N2 hN2
  have hg : N2.get id = some (.row false [ops,.mp m]):=hq.hg
  have lg : id < N2.size:=Mem.get_lt hg
  have ll:=hq.sm.len
  by_cases q1 : remE l o = 0
  ·rw [if_pos q1] at k
   have q1' : decide (remE l o = 0) = true:=decide_eq_true q1
   by_cases q2 : 2048 ≤ l.length
   ·rw [if_pos q2] at k
    have q2' : decide ((2048 : Int) ≤ l.length) = true:=decide_eq_true (by omega)
    simp (maxSteps:=2000000) (disch:=first | omega | assumption | (simp only [DS,Nat.reduceAdd, *]; done) | (simp only [DZ]; omega)) only [RUN,RU,zA2,zA1,zA0,zAB,reduceIte,Nat.reduceEqDiff,Nat.reduceAdd,h0,hd,q1',hg,ll,q2']
    exact k _ kN
   ·rw [if_neg q2] at k
    have q2' : decide ((2048 : Int) ≤ l.length) = false:=decide_eq_false (by omega)
    simp (maxSteps:=2000000) (disch:=first | omega | assumption | (simp only [DS,Nat.reduceAdd, *]; done) | (simp only [DZ]; omega)) only [RUN,RU,zA2,zA1,zA0,zAB,reduceIte,Nat.reduceEqDiff,Nat.reduceAdd,h0,hd,hg,ll,q2',q1]
    exact k _ kN
  ·rw [if_neg q1] at k
   have q1' : decide (remE l o = 0) = false:=decide_eq_false q1
   simp (maxSteps:=2000000) (disch:=first | omega | assumption | (simp only [DS,Nat.reduceAdd, *]; done) | (simp only [DZ]; omega)) only [RUN,RU,zA2,zA1,zA0,zAB,reduceIte,Nat.reduceEqDiff,Nat.reduceAdd,hd,q1']
   exact k _ kN
 ·have n1 : zCV (U8 o.kd) = some 3:=by rw [hk]; rfl
  have ep : zDL l o = raiE l o:=by unfold zDL; rw [if_neg (by omega),if_neg (by omega)]
  rw [ep] at k
  simp (maxSteps:=2000000) (disch:=first | omega | assumption | (simp only [DS,Nat.reduceAdd, *]; done) | (simp only [DZ]; omega)) only [RUN,RU,zA2,zA1,slot,lay,zAJ,reduceIte,Nat.reduceEqDiff,Nat.reduceBEq,Nat.reduceAdd,Nat.reduceMul,h0,h1,n1,zRT,zGQ]
  refine zcA (d:=d) hHA hl hR ho hm (by omega) wA hw' fun N2 hN2=>?_
  have hd : N2.dirty = false:=hN2.di
  have hq:=kq N2 hN2
  have kN:=done N2 hN2
  have hg : N2.get id = some (.row false [ops,.mp m]):=hq.hg
  have lg : id < N2.size:=Mem.get_lt hg
  have ll:=hq.sm.len
  by_cases q1 : raiE l o = 0
  ·rw [if_pos q1] at k
   have q1' : decide (raiE l o = 0) = true:=decide_eq_true q1
   by_cases q2 : 2048 ≤ l.length
   ·rw [if_pos q2] at k
    have q2' : decide ((2048 : Int) ≤ l.length) = true:=decide_eq_true (by omega)
    simp (maxSteps:=2000000) (disch:=first | omega | assumption | (simp only [DS,Nat.reduceAdd, *]; done) | (simp only [DZ]; omega)) only [RUN,RU,zA2,zA1,zA0,zAB,reduceIte,Nat.reduceEqDiff,Nat.reduceAdd,h0,hd,q1',hg,ll,q2']
    exact k _ kN
   ·rw [if_neg q2] at k
    have q2' : decide ((2048 : Int) ≤ l.length) = false:=decide_eq_false (by omega)
    simp (maxSteps:=2000000) (disch:=first | omega | assumption | (simp only [DS,Nat.reduceAdd, *]; done) | (simp only [DZ]; omega)) only [RUN,RU,zA2,zA1,zA0,zAB,reduceIte,Nat.reduceEqDiff,Nat.reduceAdd,h0,hd,hg,ll,q2',q1]
    exact k _ kN
  ·rw [if_neg q1] at k
   have q1' : decide (raiE l o = 0) = false:=decide_eq_false q1
   simp (maxSteps:=2000000) (disch:=first | omega | assumption | (simp only [DS,Nat.reduceAdd, *]; done) | (simp only [DZ]; omega)) only [RUN,RU,zA2,zA1,zA0,zAB,reduceIte,Nat.reduceEqDiff,Nat.reduceAdd,hd,q1']
   exact k _ kN
end Go.Proofs.YtklfocnoenjgdaaGreat
namespace Go.Proofs.YtklfocnoenjgdaaGreat
open Go Go.Ax
variable {fuel : Nat} {M : Mem} {Q : AV → Mem → Prop} {d : Nat} {x : Eid} {l : List Op} {o : Op} {ra ops a : AV} {B id m : Nat}
def zAP : List Op → List Op → Bool
 | _,[]=>true
 | pre,o :: l=>o.may && decide (fitE pre o = 0) && zAP (pre ++ [o]) l
theorem zT0 {pre : List Op} {o : Op} (h : fitE pre o = 0) (hk : o.kd = 1) : ∀ x ∈ o.sp.ids,x ∉ zAR pre:=by
 have h1 : zDL pre o = 0:=by
  unfold fitE at h
  split at h
  ·assumption
  ·exact h
 unfold zDL at h1
 rw [if_pos hk] at h1
 unfold insE at h1
 intro x hx hin
 split at h1
 ·cases h1
 ·split at h1
  ·cases h1
  ·rename_i h2
   exact h2 (.inr (List.any_eq_true.2 ⟨x,hx,decide_eq_true hin⟩))
theorem zJV (l : List Op) (o : Op) : zAR (l ++ [o]) = zAR l ++ (if o.kd = 1 then o.sp.ids else []):=by
 unfold zAR
 rw [List.flatMap_append]
 simp
structure HS (N : Mem) (B id m : Nat) (ops : AV) (l : List Op) (S : List Eid) : Prop where
 hg : N.get id = some (.row false [ops,.mp m])
 sm : SlM N 17 isOp ops l
 mg : ∃ obj,N.get m = some obj ∧ zHR idA (BL true) obj S
 ib : B ≤ id
 mb : B ≤ m
 ob : ∀ j,rowOf ops = some j → B ≤ j
 ne : id ≠ m
 n1 : rowOf ops ≠ some id
 n2 : rowOf ops ≠ some m
theorem HS.keep {N : Mem} {S : List Eid} (h : HS M B id m ops l S) (k : ∀ j,j < M.size → N.get j = M.get j) : HS N B id m ops l S:=by
 obtain ⟨obj,h1,h2⟩:=h.mg
 exact ⟨(k _ (Mem.get_lt h.hg)).trans h.hg,h.sm.keep fun j hj=>k j (h.sm.lt j hj),⟨obj,(k _ (Mem.get_lt h1)).trans h1,h2⟩,h.ib,h.mb,h.ob,h.ne,h.n1,h.n2⟩
theorem HS.of (h : IsHist M B id m ops l) : HS M B id m ops l (zAR l):=⟨h.hg,h.sm,h.mg,h.ib,h.mb,h.ob,h.ne,h.n1,h.n2⟩
theorem HS.to {S : List Eid} (h : HS M B id m ops l S) (e : S = zAR l) : IsHist M B id m ops l:=by
 subst e; exact ⟨h.hg,h.sm,h.mg,h.ib,h.mb,h.ob,h.ne,h.n1,h.n2⟩
set_option maxHeartbeats 8000000 in
theorem of_0 (hS : Sl 17 isOp a l) (hl : l.length ≤ 10000) (hf : l.length + 400 < fuel) (wf : Wf M) (hw : M.wm ≤ M.size)
  (kf : ∀ N,Wf N → M.size ≤ N.size → (∀ j,j < M.size → N.get j = M.get j) → zAP [] l = false → Q (.tup [.sc (.pointer none),BL false]) N)
  (kt : ∀ N ops,Wf N → M.size + 2 ≤ N.size → N.wm = M.wm → (∀ j,j < M.size → N.get j = M.get j) → zAP [] l = true → IsHist N M.size (M.size + 1) M.size ops l → (zAR l).length ≤ 64 * l.length → Q (.tup [.ptr (M.size + 1) 0,BL true]) N) :
  W3 (zAE Tryz.prog (fsT tbl) fuel (d + 13) (.fn 34) [a] M) Q:=by
 have ll:=hS.len
 have one_mp : oneA (.mp M.size) = true:=rfl
 have cmp : cellsA (.mp M.size) = [.mp M.size]:=rfl
 refine zAZ tf34 rfl (by simp [a34]) fun b' ht hx=>?_
 have h0:=hx 0 _ rfl
 clear hx
 simp only [a34,c34,zz3,zz5,zzm] at ht ⊢
 have hH0 : IsHist ((M.add (.map [] 0)).add (.row false [NIL,.mp M.size])) M.size (M.size + 1) M.size NIL []:=⟨by simp (maxSteps:=2000000) (disch:=first | omega | assumption | (simp only [DS,Nat.reduceAdd, *]; done) | (simp only [DZ]; omega)) only [RUN],SlM.nil,⟨.map [] 0,by simp (maxSteps:=2000000) (disch:=first | omega | assumption | (simp only [DS,Nat.reduceAdd, *]; done) | (simp only [DZ]; omega)) only [RUN],zHR.nil _ _⟩,by omega,by omega,fun j hj=>(by cases hj),by omega,fun hj=>(by cases hj),fun hj=>(by cases hj)⟩
 simp (maxSteps:=2000000) (disch:=first | omega | assumption | (simp only [DS,Nat.reduceAdd, *]; done) | (simp only [DZ]; omega)) only [RUN,RU,zA2,zA1,lay,zAJ,reduceIte,Nat.reduceEqDiff,Nat.reduceBEq,Nat.reduceAdd,h0,ll,zVE,cmp]
 refine zB8 (I:=fun n t N => ∃ (i : Nat) (ops : AV),n = l.length - i ∧ i ≤ l.length ∧ nth zA5 t 4 = .ptr (M.size + 1) 0 ∧ nth zA5 t 12 = a ∧ nth zA5 t 13 = I64 l.length ∧ nth zA5 t 14 = I64 i ∧ Wf N ∧ M.size + 2 ≤ N.size ∧ N.wm = M.wm ∧ (∀ j,j < M.size → N.get j = M.get j) ∧ IsHist N M.size (M.size + 1) M.size ops (l.take i) ∧ zAP [] l = zAP (l.take i) (l.drop i) ∧ (zAR (l.take i)).length ≤ 64 * i) (n:=l.length) (by omega) ?_ ?_
 ·refine ⟨0,NIL,rfl,Nat.zero_le _, ?_, ?_, ?_, ?_,(wf.add _).add _,by simp only [zA6]; omega,rfl,fun j hj=>by rw [zAF (wf.add _) _ _ (by rw [zA6]; omega),zAF wf _ _ hj],hH0,rfl,Nat.le_refl 0⟩ <;> simp (maxSteps:=2000000) (disch:=first | omega | assumption | (simp only [DS,Nat.reduceAdd, *]; done) | (simp only [DZ]; omega)) only [RUN,reduceIte,Nat.reduceEqDiff]
  all_goals first | rfl | assumption | done
 ·rintro n t N hlt ⟨i,ops,rfl,hi,g4,g12,g13,g14,w,sz,wm,kp,hH,inv,tl⟩
  simp only [ht] at hlt ⊢
  by_cases hc : i < l.length
  ·have q2 : decide ((i : Int) < l.length) = true:=decide_eq_true (by omega)
   have w1 : IntKind.i64.wrap ((i : Int) + 1) = ((i + 1 : Nat) : Int):=by rw [wrap_i64] <;> omega
   obtain ⟨r,hiad,hr,hrl⟩:=hS.iad i hc
   rw [drop_step l i hc,zAP,← take_snoc l i hc] at inv
   have hts:=zJV (l.take i) l[i]
   have hsn:=take_snoc l i hc
   rw [← hsn] at hts
   generalize l[i] = e at *
   obtain ⟨ra,rfl,hra,hok⟩:=hr
   have ora:=hra.one
   have hck:=fun M=>@zE5 fuel (d + 5) e ra hra hok (by omega) M
   cases hm : e.may with
   | false =>
    rw [hm] at hck
    simp only [hm,Bool.false_and] at inv
    simp (maxSteps:=2000000) (disch:=first | omega | assumption | (simp only [DS,Nat.reduceAdd, *]; done) | (simp only [DZ]; omega)) only [RUN,RU,zA2,zA1,zA0,zAB,slot,lay,reduceIte,Nat.reduceEqDiff,Nat.reduceAdd,Int.reduceEq,g12,g13,g14,q2,hiad,hck,zBH]
    exact kf _ ((w.add _).upd _ _) (by simp only [zA9,zA6]; omega) (fun j hj=>by rw [zA3 (w.add _) _ _ _ (by omega),zAF w _ _ (by omega)]; exact kp j hj) inv
   | true =>
    rw [hm] at hck
    simp (maxSteps:=2000000) (disch:=first | omega | assumption | (simp only [DS,Nat.reduceAdd, *]; done) | (simp only [DZ]; omega)) only [RUN,RU,zA2,zA1,slot,lay,reduceIte,Nat.reduceEqDiff,Nat.reduceAdd,g4,g12,g13,g14,q2,hiad,hck,zB3]
    have hwN : N.wm ≤ N.size:=by omega
    have kX:=((Kept.refl w).add (.row false (opR ⟨0,Hd.z,0,⟨Eid.z,0⟩,Eid.z,Lb.z,[]⟩ NIL))).upd hwN (Nat.le_refl _) (.row false (opR e ra))
    have hli : (l.take i).length = i:=by rw [List.length_take]; omega
    refine zdN (d:=d) (B:=M.size) (m:=M.size) (ops:=ops) (l:=l.take i) (hH.keep kX.get) (by omega) (by omega) hra hok hm (by omega) kX.wf (kX.wml hwN) fun N2 hN2=>?_
    have kN:=kX.trans hN2
    have gE : N2.get N.size = some (.row false (opR e ra)):=by
     rw [hN2.get _ (by rw [zA9,zA6]; omega)]
     exact zAG (w.add _) _ _ (by rw [zA6]; omega)
    have lE:=Mem.get_lt gE
    have w2:=kN.wf
    have hH2:=hH.keep kN.get
    have hg2:=hH2.hg
    have lg2:=Mem.get_lt hg2
    have sm2:=hH2.sm
    have oo2:=sm2.one
    have oc2:=sm2.cells
    have rl2:=sm2.rl
    have le2:=kN.le
    by_cases q3 : fitE (l.take i) e = 0
    ·have q3' : decide (fitE (l.take i) e = 0) = true:=decide_eq_true q3
     simp only [hm,q3',Bool.true_and] at inv
     simp (maxSteps:=2000000) (disch:=first | omega | assumption | (simp only [DS,Nat.reduceAdd, *]; done) | (simp only [DZ]; omega)) only [RUN,RU,zA2,zA1,slot,lay,zAJ,zAA,reduceIte,Nat.reduceEqDiff,Nat.reduceBEq,Nat.reduceAdd,g4,q3',gE,hg2]
     refine ⟨zAW rl2 (by omega), ?_⟩
     refine app1 w2 sm2 zI9 (x:=e) ⟨ra,rfl,hra,hok⟩ rfl (by omega) (by omega) (by omega) fun ops' M3 m3 w3 le3 kp3 nw3 wm3 rl3 on3 oc3=>?_
     have gH3 : M3.get (M.size + 1) = some (.row false [ops,.mp M.size]):=(kp3 _ lg2 hH2.n1).trans hg2
     have gE3 : M3.get N.size = some (.row false (opR e ra)):=(kp3 _ lE (fun h=>by have:=hH.sm.lt _ h; omega)).trans gE
     have l3:=Mem.get_lt gH3
     have lE3:=Mem.get_lt gE3
     simp (maxSteps:=2000000) (disch:=first | omega | assumption | (simp only [DS,Nat.reduceAdd, *]; done) | (simp only [DZ]; omega)) only [RUN,RU,zA2,zA1,lay,reduceIte,Nat.reduceEqDiff,Nat.reduceBEq,Nat.reduceAdd,gH3,gE3,oc3]
     have ob' : ∀ j,rowOf ops' = some j → j ≠ M.size + 1 ∧ j ≠ M.size ∧ M.size ≤ j:=fun j hj=>by
      rcases nw3 j hj with h | h
      ·exact ⟨fun e=>hH.n1 (e ▸ h),fun e=>hH.n2 (e ▸ h),hH.ob j h⟩
      ·omega
     have hS4 : HS (M3.upd (M.size + 1) (.row false [ops',.mp M.size])) M.size (M.size + 1) M.size ops' (l.take (i + 1)) (zAR (l.take i)):=by
      obtain ⟨obj,mg,hset⟩:=hH2.mg
      refine ⟨zAG w3 _ _ l3, ?_,⟨obj, ?_,hset⟩,by omega,by omega,fun j hj=>(ob' j hj).2.2,by omega,fun hj=>(ob' _ hj).1 rfl,fun hj=>(ob' _ hj).2.1 rfl⟩
      ·rw [hsn]
       exact m3.keep fun j hj=>zA3 w3 _ _ _ (fun e=>(ob' j hj).1 e.symm)
      ·rw [zA3 w3 _ _ _ (by omega),kp3 _ (Mem.get_lt mg) hH2.n2]; exact mg
     have kp4 : ∀ j,j < M.size → (M3.upd (M.size + 1) (.row false [ops',.mp M.size])).get j = M.get j:=fun j hj=>by
      rw [zA3 w3 _ _ _ (by omega),kp3 j (by omega) (fun h=>by have:=hH.ob j h; omega),kN.get j (by omega)]; exact kp j hj
     have w4:=w3.upd (M.size + 1) (.row false [ops',.mp M.size])
     have wm4 : (M3.upd (M.size + 1) (.row false [ops',.mp M.size])).wm = M.wm:=by
      show M3.wm = M.wm
      rw [wm3,kN.wm,wm]
     have gE4 : (M3.upd (M.size + 1) (.row false [ops',.mp M.size])).get N.size = some (.row false (opR e ra)):=by rw [zA3 w3 _ _ _ (by omega)]; exact gE3
     have sz4 : M.size + 2 ≤ (M3.upd (M.size + 1) (.row false [ops',.mp M.size])).size:=by rw [zA9]; omega
     have lE4 : N.size < (M3.upd (M.size + 1) (.row false [ops',.mp M.size])).size:=by rw [zA9]; exact lE3
     generalize M3.upd (M.size + 1) (.row false [ops',.mp M.size]) = X4 at *
     by_cases q4 : e.kd = 1
     ·have q4' : decide (e.kd = 1) = true:=decide_eq_true q4
      rw [if_pos q4] at hts
      obtain ⟨r,hr,hn⟩:=zIF (fuel:=fuel) (d:=d + 6) hok.2.2.2.1 (may_sp hm) (by omega)
      have hbn:=Spn.may_le (may_sp hm)
      have il:=zKM e.sp
      have rlen:=hr.len
      simp (maxSteps:=2000000) (disch:=first | omega | assumption | (simp only [DS,Nat.reduceAdd, *]; done) | (simp only [DZ]; omega)) only [RUN,RU,zA2,zA1,slot,reduceIte,Nat.reduceEqDiff,q4',gE4,hn,rlen]
      refine zB8 (I:=fun nk tk Nk => ∃ (ik : Nat),nk = e.sp.ids.length - ik ∧ ik ≤ e.sp.ids.length ∧ nth zA5 tk 4 = .ptr (M.size + 1) 0 ∧ nth zA5 tk 12 = a ∧ nth zA5 tk 13 = I64 l.length ∧ nth zA5 tk 14 = I64 i ∧ nth zA5 tk 42 = r ∧ nth zA5 tk 43 = I64 e.sp.ids.length ∧ nth zA5 tk 44 = I64 ik ∧ Wf Nk ∧ M.size + 2 ≤ Nk.size ∧ Nk.wm = M.wm ∧ (∀ j,j < M.size → Nk.get j = M.get j) ∧ HS Nk M.size (M.size + 1) M.size ops' (l.take (i + 1)) (zAR (l.take i) ++ e.sp.ids.take ik)) (n:=e.sp.ids.length) (by omega) ?_ ?_
      ·refine ⟨0,rfl,Nat.zero_le _, ?_, ?_, ?_, ?_, ?_, ?_, ?_,w4,sz4,wm4,kp4,(by rw [List.take_zero,List.append_nil]; exact hS4)⟩ <;> simp (maxSteps:=2000000) (disch:=first | omega | assumption | (simp only [DS,Nat.reduceAdd, *]; done) | (simp only [DZ]; omega)) only [RUN,reduceIte,Nat.reduceEqDiff,g4,g12,g13,g14]
       all_goals first | rfl | assumption | done
      ·rintro nk tk Nk hltk ⟨ik,rfl,hik,gk4,gk12,gk13,gk14,gk42,gk43,gk44,wk,szk,wmk,kpk,hSk⟩
       simp only [hlt] at hltk ⊢
       by_cases hck : ik < e.sp.ids.length
       ·have q5 : decide ((ik : Int) < e.sp.ids.length) = true:=decide_eq_true (by omega)
        have w1k : IntKind.i64.wrap ((ik : Int) + 1) = ((ik + 1 : Nat) : Int):=by rw [wrap_i64] <;> omega
        obtain ⟨rx,hiadx,hrx,hrlx⟩:=hr.iad ik hck
        have fr : e.sp.ids[ik] ∉ zAR (l.take i) ++ e.sp.ids.take ik:=by
         intro hin
         rcases List.mem_append.1 hin with h | h
         ·exact zT0 q3 q4 _ (List.getElem_mem hck) h
         ·obtain ⟨j,hj,he⟩:=List.getElem_of_mem h
          rw [List.getElem_take] at he
          rw [List.length_take] at hj
          rw [zNY,zNY] at he
          have:=congrArg Eid.c he
          simp only [Spn.at] at this
          omega
        have sn:=take_snoc e.sp.ids ik hck
        generalize e.sp.ids[ik] = x at *
        obtain ⟨rfl,hxo⟩:=hrx
        have gk:=hSk.hg
        obtain ⟨obj,mgk,hset⟩:=hSk.mg
        have lk:=Mem.get_lt gk
        have lmk:=Mem.get_lt mgk
        simp (maxSteps:=2000000) (disch:=first | omega | assumption | (simp only [DS,Nat.reduceAdd, *]; done) | (simp only [DZ]; omega)) only [RUN,RU,zA2,zA1,slot,lay,reduceIte,Nat.reduceEqDiff,Nat.reduceBEq,Nat.reduceAdd,gk4,gk42,gk43,gk44,q5,hiadx,gk,x_mu]
        have wk2:=(wk.add (.row false (idR ⟨⟨⟨0,0⟩,0⟩,0⟩))).upd Nk.size (.row false (idR x))
        have keep2 : ∀ j,j < Nk.size → ((Nk.add (.row false (idR ⟨⟨⟨0,0⟩,0⟩,0⟩))).upd Nk.size (.row false (idR x))).get j = Nk.get j:=fun j hj=>by
         rw [zA3 (wk.add _) _ _ _ (by omega),zAF wk _ _ hj]
        refine zM8 zKL (l:=zAR (l.take i) ++ e.sp.ids.take ik) wk2 (by simp only [zA9,zA6]; omega) ((keep2 _ lmk).trans mgk) hset x fun o' hs'=>?_
        rw [if_neg fr] at hs'
        have hS5 : HS (((Nk.add (.row false (idR ⟨⟨⟨0,0⟩,0⟩,0⟩))).upd Nk.size (.row false (idR x))).upd M.size o') M.size (M.size + 1) M.size ops' (l.take (i + 1)) (zAR (l.take i) ++ e.sp.ids.take (ik + 1)):=by
         have u : ∀ j,j < Nk.size → j ≠ M.size → (((Nk.add (.row false (idR ⟨⟨⟨0,0⟩,0⟩,0⟩))).upd Nk.size (.row false (idR x))).upd M.size o').get j = Nk.get j:=fun j hj hne=>by
          rw [zA3 wk2 _ _ _ (fun e=>hne e.symm),keep2 j hj]
         refine ⟨(u _ lk (by omega)).trans gk,hSk.sm.keep fun j hj=>u j (hSk.sm.lt j hj) (fun e=>hSk.n2 (e ▸ hj)),⟨o',zAG wk2 _ _ (by simp only [zA9,zA6]; omega), ?_⟩,hSk.ib,hSk.mb,hSk.ob,hSk.ne,hSk.n1,hSk.n2⟩
         rw [sn,← List.append_assoc]
         exact hs'
        have wm5 : (((Nk.add (.row false (idR ⟨⟨⟨0,0⟩,0⟩,0⟩))).upd Nk.size (.row false (idR x))).upd M.size o').wm = M.wm:=wmk
        have kp5 : ∀ j,j < M.size → (((Nk.add (.row false (idR ⟨⟨⟨0,0⟩,0⟩,0⟩))).upd Nk.size (.row false (idR x))).upd M.size o').get j = M.get j:=fun j hj=>by
         rw [zA3 wk2 _ _ _ (by omega),keep2 j (by omega)]; exact kpk j hj
        have wk5:=wk2.upd M.size o'
        have sz5 : M.size + 2 ≤ (((Nk.add (.row false (idR ⟨⟨⟨0,0⟩,0⟩,0⟩))).upd Nk.size (.row false (idR x))).upd M.size o').size:=by simp only [zA9,zA6]; omega
        simp (maxSteps:=2000000) (disch:=first | omega | assumption | (simp only [DS,Nat.reduceAdd, *]; done) | (simp only [DZ]; omega)) only [RUN,RU,zA2,zA1,reduceIte,Nat.reduceEqDiff,Nat.reduceAdd,Nat.reduceLeDiff,gk4,gk12,gk13,gk14,gk42,gk43,gk44,w1k]
        exact ⟨hltk,e.sp.ids.length - (ik + 1),by omega,ik + 1,rfl,by omega,rfl,wk,by omega,wm5,kp5,hS5⟩
       ·obtain rfl : ik = e.sp.ids.length:=by omega
        have q5 : decide ((e.sp.ids.length : Int) < e.sp.ids.length) = false:=decide_eq_false (by omega)
        rw [List.take_length] at hSk
        simp (maxSteps:=2000000) (disch:=first | omega | assumption | (simp only [DS,Nat.reduceAdd, *]; done) | (simp only [DZ]; omega)) only [RUN,RU,zA2,zA1,reduceIte,Nat.reduceEqDiff,gk4,gk12,gk13,gk14,gk43,gk44,w1]
        exact ⟨hltk,l.length - (i + 1),by omega,i + 1,ops',rfl,by omega,rfl,wk,szk,wmk,kpk,hSk.to hts.symm,inv,by rw [hts,List.length_append]; omega⟩
     ·have q4' : decide (e.kd = 1) = false:=decide_eq_false q4
      rw [if_neg q4,List.append_nil] at hts
      simp (maxSteps:=2000000) (disch:=first | omega | assumption | (simp only [DS,Nat.reduceAdd, *]; done) | (simp only [DZ]; omega)) only [RUN,RU,zA2,zA1,reduceIte,Nat.reduceEqDiff,g4,g12,g13,g14,q4',w1]
      exact ⟨hlt,l.length - (i + 1),by omega,i + 1,ops',rfl,by omega,rfl,w4,sz4,wm4,kp4,hS4.to hts.symm,inv,by rw [hts]; omega⟩
    ·have q3' : decide (fitE (l.take i) e = 0) = false:=decide_eq_false q3
     simp only [hm,q3',Bool.false_and,Bool.and_false] at inv
     simp (maxSteps:=2000000) (disch:=first | omega | assumption | (simp only [DS,Nat.reduceAdd, *]; done) | (simp only [DZ]; omega)) only [RUN,RU,zA2,zA1,zA0,zAB,reduceIte,Nat.reduceEqDiff,q3']
     exact kf _ w2 (by omega) (fun j hj=>(kN.get j (by omega)).trans (kp j hj)) inv
  ·obtain rfl : i = l.length:=by omega
   have q1 : decide ((l.length : Int) < l.length) = false:=decide_eq_false (by omega)
   rw [List.drop_length,zAP] at inv
   rw [List.take_length] at hH tl
   simp (maxSteps:=2000000) (disch:=first | omega | assumption | (simp only [DS,Nat.reduceAdd, *]; done) | (simp only [DZ]; omega)) only [RUN,RU,zA2,zA1,zA0,zAB,reduceIte,Nat.reduceEqDiff,g4,g13,g14]
   exact kt _ _ w sz wm kp inv hH tl
end Go.Proofs.YtklfocnoenjgdaaGreat
namespace Go.Proofs.YtklfocnoenjgdaaGreat
open Go Go.Ax
theorem im88 : imax 8 8 = 8:=by decide
theorem im80 : imax 8 0 = 8:=by decide
theorem im08 : imax 0 8 = 8:=by decide
theorem im00 : imax 0 0 = 0:=by decide
theorem IMX : type_of% (And.intro im88 (And.intro im80 (And.intro im08 im00))):=And.intro im88 (And.intro im80 (And.intro im08 im00))
end Go.Proofs.YtklfocnoenjgdaaGreat
namespace Go.Proofs.YtklfocnoenjgdaaGreat
open Go Go.Ax
variable {fuel : Nat} {M : Mem} {Q : AV → Mem → Prop} {d : Nat} {x : Eid} {l : List Op} {o : Op} {ra ops a : AV} {B id m : Nat} {v : Lb}
abbrev opH (o : Op) : List AV:=[U8 o.kd,U8 o.hd.lb.lv,U32 o.hd.lb.cats,U8 o.hd.num,I64 o.sr,U8 o.sp.f.hd.lb.lv,U32 o.sp.f.hd.lb.cats,U8 o.sp.f.hd.num,I64 o.sp.f.c,I64 o.sp.n,U8 o.af.hd.lb.lv,U32 o.af.hd.lb.cats,U8 o.af.hd.num,I64 o.af.c,U8 o.to.lv,U32 o.to.cats]
def opK : NK Op Int where
 st:=17
 H:=opH
 f:=Op.rs
 T:=zAT
 ok:=Op.ok
 hl:=fun _=>rfl
 hz:=fun o y hy=>by
  simp only [opH,List.mem_cons,List.not_mem_nil,or_false] at hy
  rcases hy with rfl | rfl | rfl | rfl | rfl | rfl | rfl | rfl | rfl | rfl | rfl | rfl | rfl | rfl | rfl | rfl
  all_goals exact zCR _ _
 ft:=zF1
theorem zPV (h : Sl opK.st opK.is a l) : Sl 17 isOp a l:=h
theorem zCP (hS : Sl 17 isOp a l) (hl : l.length ≤ 10000) (hf : l.length + 400 < fuel) (M : Mem) : zAE Tryz.prog (fsT tbl) fuel (d + 14) (.fn 17) [a] M = some (I64 (err (zAP [] l)),M):=by
 apply zBI
 refine zAI tf17 rfl (by simp only [icyL,fun M=>hS.icy M 12 (by omega)]) (by simp [a17]) fun b' ht hx=>?_
 have h0:=hx 0 _ rfl
 clear hx
 simp only [a17,c17,zzm] at ht ⊢
 simp (maxSteps:=2000000) (disch:=first | omega | assumption | (simp only [DS,Nat.reduceAdd, *]; done) | (simp only [DZ]; omega)) only [RUN,RU,zA2,zA1,reduceIte,Nat.reduceEqDiff,h0]
 refine of_0 (d:=d) hS hl hf Wf.mem0 (Nat.le_refl _) (fun N w s k hh=>?_) (fun N ops w s wm k hh _ _=>?_)
 ·rw [hh]
  simp (maxSteps:=2000000) (disch:=first | omega | assumption | (simp only [DS,Nat.reduceAdd, *]; done) | (simp only [DZ]; omega)) only [RUN,RU,zA2,zA1,zA0,zAB,frzL,reduceIte,Nat.reduceEqDiff,zBH]
 ·rw [hh]
  simp (maxSteps:=2000000) (disch:=first | omega | assumption | (simp only [DS,Nat.reduceAdd, *]; done) | (simp only [DZ]; omega)) only [RUN,RU,zA2,zA1,zA0,zAB,frzL,reduceIte,Nat.reduceEqDiff,zB3]
def zED (l : List Op) (v : Lb) : Int:=err (zAP [] l && v.may)
def lowL (l : List Op) (v : Lb) : List Op:=l.filter fun o=>o.hd.lb.leq v
theorem zPN (l : List Op) (o : Op) (v : Lb) : lowL (l ++ [o]) v = lowL l v ++ (if o.hd.lb.leq v then [o] else []):=by
 unfold lowL
 rw [List.filter_append]
 cases h : o.hd.lb.leq v <;> simp [h]
theorem zE4 (l : List Op) (v : Lb) : (lowL l v).length ≤ l.length:=List.length_filter_le _ _
def zeP (l : List Op) (v : Lb) (r : AV) : Prop:=∃ r1,r = .tup [r1,I64 (zED l v)] ∧ Sl 17 isOp r1 (if zED l v = 0 then lowL l v else [])
set_option maxHeartbeats 8000000 in
theorem zHO (hS : Sl 17 isOp a l) (hl : l.length ≤ 10000) (hf : l.length + 400 < fuel) (hd : ∀ o ∈ l,o.rs.length ≤ 1000000000) : ∃ r,zeP l v r ∧ ∀ M,zAE Tryz.prog (fsT tbl) fuel (d + 15) (.fn 6) [a,lbA v] M = some (r,M):=by
 have ll:=hS.len
 have hck:=fun M=>zCP (fuel:=fuel) (d:=d) hS hl hf M
 have hlc:=fun M=>@zDT fuel (d + 13) v M
 refine zEC tf6 rfl (fun M=>by simp only [icyL,fun M=>hS.icy M 12 (by omega),zAV (zCD v) (show 1 < 12 by omega)]) ?_
 refine zAI tf6 rfl (by simp only [icyL,fun M=>hS.icy M 12 (by omega),zAV (zCD v) (show 1 < 12 by omega)]) (by simp [a6]) fun b' ht hx=>?_
 have h0:=hx 0 _ rfl
 have h1:=hx 1 _ rfl
 clear hx
 simp only [a6,c6,zz5,zzm] at ht ⊢
 unfold zeP zED
 cases q1 : zAP [] l with
 | false =>
  rw [q1] at hck
  cases q2 : v.may <;> rw [q2] at hlc
  all_goals
   simp (maxSteps:=2000000) (disch:=first | omega | assumption | (simp only [DS,Nat.reduceAdd, *]; done) | (simp only [DZ]; omega)) only [RUN,RU,zA2,zA1,zA0,zAB,frzL,slot,reduceIte,Nat.reduceEqDiff,Nat.reduceBEq,Nat.reduceAdd,Int.reduceEq,h0,h1,hck,hlc,zB3,zBH,zC6,BMM,IMX]
   exact ⟨_,⟨NIL,rfl,.inl ⟨rfl,rfl⟩⟩,rfl⟩
 | true =>
  rw [q1] at hck
  cases q2 : v.may <;> rw [q2] at hlc
  ·simp (maxSteps:=2000000) (disch:=first | omega | assumption | (simp only [DS,Nat.reduceAdd, *]; done) | (simp only [DZ]; omega)) only [RUN,RU,zA2,zA1,zA0,zAB,frzL,slot,reduceIte,Nat.reduceEqDiff,Nat.reduceBEq,Nat.reduceAdd,Int.reduceEq,h0,h1,hck,hlc,zB3,zBH,zC6,BMM,IMX]
   exact ⟨_,⟨NIL,rfl,.inl ⟨rfl,rfl⟩⟩,rfl⟩
  ·simp (maxSteps:=2000000) (disch:=first | omega | assumption | (simp only [DS,Nat.reduceAdd, *]; done) | (simp only [DZ]; omega)) only [RUN,RU,zA2,zA1,slot,reduceIte,Nat.reduceEqDiff,Nat.reduceBEq,Nat.reduceAdd,h0,h1,hck,hlc,zB3,zC6,BMM,IMX,ll]
   refine zB8 (I:=fun n t N => ∃ (i : Nat) (out : AV),n = l.length - i ∧ i ≤ l.length ∧ nth zA5 t 3 = .ptr 0 0 ∧ nth zA5 t 4 = out ∧ nth zA5 t 17 = a ∧ nth zA5 t 18 = I64 l.length ∧ nth zA5 t 19 = I64 i ∧ Wf N ∧ N.get 0 = some (.row false (lbR v)) ∧ N.wm = 0 ∧ opK.NN N 1 out (lowL (l.take i) v)) (n:=l.length) (by omega) ?_ ?_
   ·refine ⟨0,NIL,rfl,Nat.zero_le _, ?_, ?_, ?_, ?_, ?_,Wf.mem0.add _,by simp (maxSteps:=2000000) (disch:=first | omega | assumption | (simp only [DS,Nat.reduceAdd, *]; done) | (simp only [DZ]; omega)) only [RUN],rfl,NK.NN.nil _ _⟩ <;> simp (maxSteps:=2000000) (disch:=first | omega | assumption | (simp only [DS,Nat.reduceAdd, *]; done) | (simp only [DZ]; omega)) only [RUN,reduceIte,Nat.reduceEqDiff]
    all_goals first | rfl | assumption | done
   ·rintro n t N hlt ⟨i,out,rfl,hi,g3,g4,g17,g18,g19,w,g,wm,hN⟩
    simp only [ht] at hlt ⊢
    by_cases hc : i < l.length
    ·have q3 : decide ((i : Int) < l.length) = true:=decide_eq_true (by omega)
     have w1 : IntKind.i64.wrap ((i : Int) + 1) = ((i + 1 : Nat) : Int):=by rw [wrap_i64] <;> omega
     obtain ⟨r,hiad,hr,hrl⟩:=hS.iad i hc
     have hls:=zPN (l.take i) l[i] v
     rw [← take_snoc l i hc] at hls
     have hlo:=hd l[i] (List.getElem_mem hc)
     have hll:=zE4 (l.take i) v
     rw [List.length_take] at hll
     generalize l[i] = e at *
     obtain ⟨ra,rfl,hra,hok⟩:=hr
     have ora:=hra.one
     have lN:=Mem.get_lt g
     have hle:=fun M=>@zGS fuel (d + 13) e.hd.lb v M
     have kX:=((Kept.refl w).add (.row false (opR ⟨0,Hd.z,0,⟨Eid.z,0⟩,Eid.z,Lb.z,[]⟩ NIL))).upd (by omega) (Nat.le_refl _) (.row false (opR e ra))
     cases q4 : e.hd.lb.leq v with
     | false =>
      rw [q4] at hle
      rw [q4,if_neg (by decide),List.append_nil] at hls
      simp (maxSteps:=2000000) (disch:=first | omega | assumption | (simp only [DS,Nat.reduceAdd, *]; done) | (simp only [DZ]; omega)) only [RUN,RU,zA2,zA1,slot,lay,reduceIte,Nat.reduceEqDiff,Nat.reduceAdd,g3,g4,g17,g18,g19,q3,hiad,w,g,hle,w1]
      exact ⟨hlt,l.length - (i + 1),by omega,i + 1,out,rfl,by omega,rfl,rfl,wm,by rw [hls]; exact hN.keep fun j a b=>kX.get j b⟩
     | true =>
      rw [q4] at hle
      rw [q4,if_pos rfl] at hls
      have oo:=hN.one
      have oc:=hN.cells
      simp (maxSteps:=2000000) (disch:=first | omega | assumption | (simp only [DS,Nat.reduceAdd, *]; done) | (simp only [DZ]; omega)) only [RUN,RU,zA2,zA1,slot,lay,reduceIte,Nat.reduceEqDiff,Nat.reduceAdd,g3,g4,g17,g18,g19,q3,hiad,g,hle]
      refine zKY (d:=d + 12) hra hlo kX.wf (by rw [kX.wm]; omega) fun a' N2 hN2 sm2 nw2=>?_
      have k2:=kX.trans hN2
      have w2:=k2.wf
      have oa:=sm2.one
      have ca:=sm2.cells
      have rl2:=zAW sm2.rl (Nat.le_refl N2.size)
      have rr2:=hN.rows (show N.size ≤ N2.size + 1 by have:=k2.le; omega)
      simp (maxSteps:=2000000) (disch:=first | omega | assumption | (simp only [DS,Nat.reduceAdd, *]; done) | (simp only [DZ]; omega)) only [RUN,RU,zA2,zA1,lay,zAJ,zAA,reduceIte,Nat.reduceEqDiff,Nat.reduceBEq,Nat.reduceAdd,rr2]
      have hsz : N.size + 1 ≤ N2.size:=hN2.le
      refine NK.NN.app (K:=opK) (B:=1) (l:=lowL (l.take i) v) (x:=e) (ra:=a') w2 (hN.keep fun j a b=>k2.get j b) ⟨rfl,oa,ca⟩ ⟨sm2,fun j hj=>by have:=nw2 j hj; simp only [zA9,zA6] at this; omega,hok⟩ (fun j hj hj2=>by have h1:=hN.lt j hj; have h2:=nw2 j hj2; simp only [zA9,zA6] at h2; omega) (by omega) (by omega) (by omega) fun o' M' hN' w' le' kp' nw' wm'=>?_
      simp (maxSteps:=2000000) (disch:=first | omega | assumption | (simp only [DS,Nat.reduceAdd, *]; done) | (simp only [DZ]; omega)) only [RUN,RU,zA2,zA1,reduceIte,Nat.reduceEqDiff,g3,g4,g17,g18,g19,w1]
      refine ⟨hlt,l.length - (i + 1),by omega,i + 1,o',rfl,by omega,rfl,rfl,w', ?_, ?_,by rw [hls]; exact hN'⟩
      ·rw [kp' 0 (by omega) (fun h=>by have:=hN.lt 0 h; omega),k2.get 0 lN]; exact g
      ·rw [wm',k2.wm]; exact wm
    ·obtain rfl : i = l.length:=by omega
     have q3 : decide ((l.length : Int) < l.length) = false:=decide_eq_false (by omega)
     rw [List.take_length] at hN
     obtain ⟨o',hz,hs⟩:=hN.frz (k:=11) (by omega)
     have hz:=hz N (fun _ _=>rfl)
     simp (maxSteps:=2000000) (disch:=first | omega | assumption | (simp only [DS,Nat.reduceAdd, *]; done) | (simp only [DZ]; omega)) only [RUN,RU,zA2,zA1,zA0,zAB,frzL,reduceIte,Nat.reduceEqDiff,g4,g18,g19,hz]
     exact ⟨_,⟨o',rfl,zPV hs⟩,rfl⟩
end Go.Proofs.YtklfocnoenjgdaaGreat
namespace Go.Ax
open Go
namespace NK
variable {α β : Type} {K : NK α β} {M N : Mem} {B : Nat}
/-! ### What may be read is frozen as it is -/
theorem Rd1.frzA {T : List AV → β → Prop} {v : AV} {l : List β} (h : Rd1 M T v l) (hT : Cel T) {k : Nat} (hk : 1 < k) : ∃ r,Go.Ax.frz M 0 k v = some r ∧ Sl 1 T r l:=by
 rcases h with ⟨rfl,rfl⟩ | ⟨id,rows,cap,rfl,hg,h,hl⟩
 ·exact ⟨_,zJG _ (by omega),.inl ⟨rfl,rfl⟩⟩
 ·refine ⟨_,zP9 hg (by rw [zAK hl]; omega) (by omega) (fun x hx=>(hT.flat h x hx).2 M _ (by omega)),.inr ⟨rows,cap, ?_,h,hl⟩⟩
  rw [zBN _ _ (by rw [zAK hl])]
theorem zMS {k : Nat} (hk : 1 < k) : ∀ {rows : List (List AV)} {lr : List (α × AV)},All2 K.isN rows lr → (∀ x ∈ lr,Rd1 M K.T x.2 (K.f x.1) ∧ K.ok x.1) →
  ∃ rows',frzL (Go.Ax.frz M 0 k) rows.flatten = some rows'.flatten ∧ All2 K.is rows' (lr.map (·.1)) ∧ (∀ r ∈ rows',r.length = K.st)
 | _,_,.nil,_=>⟨[],rfl,.nil,by simp⟩
 | _,_,.cons (y:=x) (m:=lr) a t,h=>by
  have hx:=h x (by simp)
  obtain ⟨ra,i1,b1⟩:=Rd1.frzA hx.1 K.ft.cel hk
  obtain ⟨rows',i2,hA,hl⟩:=zMS hk t fun y hy=>h y (by simp [hy])
  obtain ⟨rfl,_⟩:=a
  refine ⟨(K.H x.1 ++ [ra]) :: rows', ?_,.cons ⟨ra,rfl,b1,hx.2⟩ hA, ?_⟩
  ·rw [List.flatten_cons,List.flatten_cons]
   refine zFW (zFW (zNV (by omega) M (K.hz x.1)) ?_) i2
   simp only [frzL,i1]
  ·intro r hr
   rcases List.mem_cons.1 hr with rfl | hr
   ·rw [List.length_append,List.length_singleton]; exact K.hl _
   ·exact hl r hr
theorem NR.frz {o : AV} {l : List α} (h : K.NR M B o l) {k : Nat} (hk : 1 < k) : ∃ o',Go.Ax.frz M 0 (k + 1) o = some o' ∧ Sl K.st K.is o' l:=by
 rcases h with ⟨rfl,rfl⟩ | ⟨id,rows,cap,lr,rfl,rfl,hg,hA,hr,h3,hB⟩
 ·exact ⟨NIL,rfl,.inl ⟨rfl,rfl⟩⟩
 ·obtain ⟨rows',i1,hA',hl'⟩:=zMS (K:=K) (M:=M) (k:=k) hk hA fun x hx=>⟨(h3 x hx).1,(h3 x hx).2.1⟩
  have hfl:=zAK hr
  have hfl':=zAK hl'
  have hn : rows'.length = rows.length:=by rw [hA'.length_eq,List.length_map,hA.length_eq]
  have hble : Nat.ble (0 + rows.length * K.st) rows.flatten.length = true:=zBF (by omega)
  have hsl : slot rows'.flatten 0 (rows.length * K.st) = rows'.flatten:=zBN _ _ (by rw [hfl',hn])
  refine ⟨.pv rows'.flatten rows.length cap K.st, ?_,.inr ⟨rows',cap,by rw [hn],hA',hl'⟩⟩
  simp only [Go.Ax.frz,hg,hble,i1,hsl,Nat.ble_eq_true_of_le (Nat.zero_le id)]
theorem NR.one {o : AV} {l : List α} (h : K.NR M B o l) : oneA o = true:=by
 rcases h with ⟨rfl,_⟩ | ⟨_,_,_,_,rfl,_⟩ <;> rfl
end NK
variable {α : Type} {M N : Mem} {st : Nat} {T : List AV → α → Prop} {v o : AV} {l : List α}
theorem SlM.handW (hm : SlM M st T o l) (wf : Wf M) (hT : FzT T) : ∀ m,0 < m → ∃ a' M',Go.Ax.icy (m + 1) M o = some (a',M') ∧ Sl st T a' l ∧ Wf M' ∧ M'.size = M.size ∧ M'.wm = M.wm ∧ ∀ j,rowOf o ≠ some j → M'.get j = M.get j:=by
 intro m hm0
 rcases hm with ⟨rfl,rfl⟩ | ⟨id,rows,cap,rfl,_,hg,hA,hr⟩
 ·exact ⟨NIL,M,rfl,.inl ⟨rfl,rfl⟩,wf,rfl,rfl,fun _ _=>rfl⟩
 ·have hfl:=zAK hr
  have hcs : ∀ N,icyL (Go.Ax.icy m) N rows.flatten = some (rows.flatten,N):=zCS (by omega) fun x hx N=>hT.celI.flat hA x hx N m (by omega)
  have hble : Nat.ble (0 + rows.length * st) rows.flatten.length = true:=zBF (by omega)
  have hsl : slot rows.flatten 0 (rows.length * st) = rows.flatten:=zBN _ _ hfl.symm
  exact ⟨_,M.upd id (.fro rows.flatten),by simp only [Go.Ax.icy,zBO hg,hble,hcs,hg,zBA wf (Mem.get_lt hg),hsl],.inr ⟨rows,cap,rfl,hA,hr⟩,wf.upd _ _,rfl,rfl,fun j hj=>zA3 wf _ _ _ (fun e=>hj (by rw [e]; rfl))⟩
theorem zYT {P : Program} {fs : Nat → Option AFunc} {fuel f n : Nat} {af : AFunc} {R : AV → Prop} {Q : AV → Mem → Prop} (h : fs f = some af) (hg : af.gc = 1) (hm : SlM M st T o l) (wf : Wf M) (hT : FzT T) (hc : ∀ o',Sl st T o' l → ∃ r,R r ∧ ∀ M,zAE P fs fuel (n + 1) (.fn f) [o'] M = some (r,M))
  (k : ∀ r M',R r → Wf M' → M'.size = M.size → M'.wm = M.wm → (∀ j,rowOf o ≠ some j → M'.get j = M.get j) → Q r M') : W3 (zAE P fs fuel (n + 1) (.fn f) [o] M) Q:=by
 obtain ⟨o',M',i1,s1,w1,z1,r1,g1⟩:=hm.handW wf hT 11 (by omega)
 obtain ⟨r,hR,hcall⟩:=hc o' s1
 refine ⟨r,M',zCX (bs:=[o']) h hg (hcall mem0) (M3:=mem0) ?_ ?_,k r M' hR w1 z1 r1 g1⟩
 ·simp only [icyL,s1.icy mem0 12 (by omega)]
 ·simp only [icyL,i1]
theorem zON {P : Program} {fs : Nat → Option AFunc} {fuel f n : Nat} {af : AFunc} {R : AV → Prop} {Q : AV → Mem → Prop} (H : List AV) (x : AV) {rest : List AV} (h : fs f = some af) (hg : af.gc = 1) (hz : ∀ y ∈ H,Fz y) (hm : SlM M 1 T x l) (wf : Wf M) (hT : FzT T) (hre : ∀ M,icyL (icy 12) M rest = some (rest,M))
  (hc : ∀ a',Sl 1 T a' l → ∃ r,R r ∧ ∀ M,zAE P fs fuel (n + 1) (.fn f) (.agg (H ++ [a']) :: rest) M = some (r,M))
  (kk : ∀ r N',R r → Wf N' → N'.size = M.size → N'.wm = M.wm → (∀ j,rowOf x ≠ some j → N'.get j = M.get j) → Q r N') :
  W3 (zAE P fs fuel (n + 1) (.fn f) (.agg (H ++ [x]) :: rest) M) Q:=by
 obtain ⟨a',N',i1,b1,w1,s1,m1,g1⟩:=hm.handW wf hT 10 (by omega)
 obtain ⟨r,hR,hr⟩:=hc a' b1
 have i2 : icy 12 M (.agg (H ++ [x])) = some (.agg (H ++ [a']),N'):=by
  rw [zKK _ (by omega),zE2 (zGM (by omega) M hz) (a':=H) (b':=[a']) (K:=N') (by simp only [Nat.reduceAdd,Nat.reduceSub] at i1 ⊢; simp only [icyL,i1])]
 refine ⟨r,N',zCX (bs:=.agg (H ++ [a']) :: rest) h hg (hr mem0) (M3:=mem0) ?_ ?_,kk r N' hR w1 s1 m1 g1⟩
 ·simp only [icyL,zAV (r:=H ++ [a']) (fun y hy=>by
   rcases List.mem_append.1 hy with hy | hy
   ·exact hz y hy
   ·rw [List.mem_singleton] at hy; subst hy; exact b1.fz) (show 1 < 12 by omega),hre]
 ·simp only [icyL,i2,hre]
end Go.Ax
namespace Go.Proofs.YtklfocnoenjgdaaGreat
open Go Go.Ax
variable {fuel : Nat} {M : Mem} {Q : AV → Mem → Prop} {d : Nat}
def isAv (r : List AV) (x : AV) : Prop:=r = [x] ∧ Fz x
theorem fz_Av : FzT isAv:=fun r x h y hy=>by
 rw [h.1,List.mem_singleton] at hy
 rw [hy]
 exact h.2
abbrev zOp : Value:=.agg #[.int .u8 0,.int .u8 0,.int .u32 0,.int .u8 0,.int .i64 0,.int .u8 0,.int .u32 0,.int .u8 0,.int .i64 0,.int .i64 0,.int .u8 0,.int .u32 0,.int .u8 0,.int .i64 0,.int .u8 0,.int .u32 0,.slice none 0 0]
theorem zbM {n : Nat} (wf : Wf M) (hn : 0 < n) (hb : n ≤ 1000000) (k : Q (.sl M.size 0 0 none 17) (M.add (.row false (zAA zOp n)))) :
  W3 (zAE Tryz.prog (fsT tbl) fuel (d + 1) (.fn 46) [NIL,I64 n] M) Q:=by
 have hz:=zOZ (X:=M) (st:=17) (bytes:=112) (z:=zOp) wf rfl rfl hn (by omega) (by omega) (by omega)
 have e0 : decide ((n : Int) < 0) = false:=decide_eq_false (by omega)
 have e1 : decide ((0 : Int) < n) = true:=decide_eq_true (by omega)
 have w0 : IntKind.i64.wrap 0 = 0:=by decide
 have w1 : IntKind.i64.wrap ((n : Int) - 0) = n:=by rw [wrap_i64] <;> omega
 refine zAZ tf46 rfl (by simp [a46]) fun b' ht hx=>?_
 have h0:=hx 0 _ rfl
 have h1:=hx 1 _ rfl
 clear hx
 simp only [a46,c46,zz5,zzm] at ht ⊢
 have hs:=zUZ (M:=M.add (.row false (zAA zOp n))) (st:=17) (n:=n) (zAH wf (.row false (zAA zOp n)) M.size (Nat.le_refl _) (Nat.lt_succ_self _))
 simp (maxSteps:=2000000) (disch:=first | omega | assumption | (simp only [DS,Nat.reduceAdd, *]; done) | (simp only [DZ]; omega)) only [RUN,RU,zA2,zA1,zA0,zAB,reduceIte,Nat.reduceEqDiff,Int.reduceSub,h0,h1,e0,e1,w0,w1,za3,zd3,zNE,zQE,hz,hs]
 exact k
theorem zbN (k : Q NIL M) : W3 (zAE Tryz.prog (fsT tbl) fuel (d + 1) (.fn 46) [NIL,I64 (0 : Nat)] M) Q:=by
 have e0 : decide (((0 : Nat) : Int) < 0) = false:=rfl
 have e1 : decide ((0 : Int) < 0) = false:=rfl
 have w0 : IntKind.i64.wrap 0 = 0:=by decide
 have w1 : IntKind.i64.wrap (((0 : Nat) : Int) - 0) = 0:=by decide
 refine zAZ tf46 rfl (by simp [a46]) fun b' ht hx=>?_
 have h0:=hx 0 _ rfl
 have h1:=hx 1 _ rfl
 clear hx
 simp only [a46,c46,zz5,zzm] at ht ⊢
 simp (maxSteps:=2000000) (disch:=first | omega | assumption | (simp only [DS,Nat.reduceAdd, *]; done) | (simp only [DZ]; omega)) only [RUN,RU,zA2,zA1,zA0,zAB,reduceIte,Nat.reduceEqDiff,Int.reduceSub,h0,h1,e0,w0,w1,zd3,zNE]
 exact k
set_option maxHeartbeats 8000000 in
/-- One list of two. -/
theorem zO4 {av a0 a1 : AV} {l0 l1 : List Op} (hA : Sl 1 isAv av [a0,a1]) (h0' : Sl 17 isOp a0 l0) (h1' : Sl 17 isOp a1 l1) (hb0 : l0.length ≤ 10000) (hb1 : l1.length ≤ 10000) (hf : 100 < fuel) : ∃ r,Sl 17 isOp r (l0 ++ l1) ∧ ∀ M,zAE Tryz.prog (fsT tbl) fuel (d + 2) (.fn 32) [av] M = some (r,M):=by
 have x0:=h0'.len
 have x1:=h1'.len
 have o0:=h0'.one
 have o1:=h1'.one
 have xA : ∀ M,lenO M av = some (I64 (2 : Nat),M):=hA.len
 obtain ⟨_,i0,⟨rfl,_⟩,_⟩:=hA.iad 0 (Nat.succ_pos _)
 obtain ⟨_,i1,⟨rfl,_⟩,_⟩:=hA.iad 1 (Nat.lt_succ_self _)
 simp only [List.getElem_cons_zero,List.getElem_cons_succ] at i0 i1
 have oA:=hA.one
 have c2 : ((2 : Nat) : Int) = 2:=rfl
 have t0 : zCV (I64 0) = some 0:=rfl
 have t1 : zCV (I64 1) = some 1:=rfl
 have q02 : decide ((0 : Int) < 2) = true:=rfl
 have q12 : decide ((1 : Int) < 2) = true:=rfl
 have q22 : decide ((2 : Int) < 2) = false:=rfl
 have v1 : IntKind.i64.wrap 1 = 1:=by decide
 have v2 : IntKind.i64.wrap 2 = 2:=by decide
 have w0 : IntKind.i64.wrap (0 + (l0.length : Int)) = (l0.length : Nat):=by rw [wrap_i64] <;> omega
 have w1 : IntKind.i64.wrap ((l0.length : Int) + (l1.length : Int)) = ((l0.length + l1.length : Nat) : Int):=by rw [wrap_i64] <;> omega
 have n0 : decide (((l0.length : Nat) : Int) < 0) = false:=decide_eq_false (by omega)
 have n1 : decide (((l0.length + l1.length : Nat) : Int) < 0) = false:=decide_eq_false (by omega)
 refine zEC tf32 rfl (fun M=>by simp only [icyL,fun M=>hA.icy M 12 (by omega)]) ?_
 refine zAI tf32 rfl (by simp only [icyL,fun M=>hA.icy M 12 (by omega)]) (by simp [a32]) fun b' ht hx=>?_
 have h0:=hx 0 _ rfl
 clear hx
 simp only [a32,c32,zz5,zzm] at ht ⊢
 simp (maxSteps:=2000000) (disch:=first | omega | assumption | (simp only [DS,Nat.reduceAdd, *]; done) | (simp only [DZ]; omega)) only [RUN,RU,zA2,zA1,reduceIte,Nat.reduceEqDiff,h0,xA,c2]
 refine w_un (by omega) ?_
 simp (maxSteps:=2000000) (disch:=first | omega | assumption | (simp only [DS,Nat.reduceAdd, *]; done) | (simp only [DZ]; omega)) only [RUN,RU,zA2,zA1,reduceIte,Nat.reduceEqDiff,Int.reduceLT,Int.reduceAdd,t0,i0,x0,w0,n0,v1,zBW]
 refine w_un (by omega) ?_
 simp (maxSteps:=2000000) (disch:=first | omega | assumption | (simp only [DS,Nat.reduceAdd, *]; done) | (simp only [DZ]; omega)) only [RUN,RU,zA2,zA1,reduceIte,Nat.reduceEqDiff,Int.reduceLT,Int.reduceAdd,t1,i1,x1,w1,n1,v2,zBW]
 refine w_un (by omega) ?_
 simp (maxSteps:=2000000) (disch:=first | omega | assumption | (simp only [DS,Nat.reduceAdd, *]; done) | (simp only [DZ]; omega)) only [RUN,RU,zA2,zA1,reduceIte,Nat.reduceEqDiff,zIE]
 by_cases hz : l0.length + l1.length = 0
 ·have e0 : l0 = []:=List.eq_nil_of_length_eq_zero (by omega)
  have e1 : l1 = []:=List.eq_nil_of_length_eq_zero (by omega)
  rw [hz]
  refine zbN (d:=d) ?_
  simp (maxSteps:=2000000) (disch:=first | omega | assumption | (simp only [DS,Nat.reduceAdd, *]; done) | (simp only [DZ]; omega)) only [RUN,RU,zA2,zA1,reduceIte,Nat.reduceEqDiff,h0,xA,c2]
  refine w_un (by omega) ?_
  simp (maxSteps:=2000000) (disch:=first | omega | assumption | (simp only [DS,Nat.reduceAdd, *]; done) | (simp only [DZ]; omega)) only [RUN,RU,zA2,zA1,reduceIte,Nat.reduceEqDiff,Int.reduceLT,t0,i0,h0'.fz.rows]
  refine zQL (bytes:=112) Wf.mem0 SlM.nil zI9.cel h0' (by omega) (by simp; omega) (by simp; omega) fun o1 M1 m1 w1 le1 sz1 kp1 nw1 wm1 rl1 on1 oc1=>?_
  rw [List.nil_append] at m1
  simp (maxSteps:=2000000) (disch:=first | omega | assumption | (simp only [DS,Nat.reduceAdd, *]; done) | (simp only [DZ]; omega)) only [RUN,RU,zA2,zA1,reduceIte,Nat.reduceEqDiff,Int.reduceAdd,v1,zBW]
  refine w_un (by omega) ?_
  simp (maxSteps:=2000000) (disch:=first | omega | assumption | (simp only [DS,Nat.reduceAdd, *]; done) | (simp only [DZ]; omega)) only [RUN,RU,zA2,zA1,reduceIte,Nat.reduceEqDiff,Int.reduceLT,t1,i1,rl1,h1'.fz.rows]
  refine zQL (bytes:=112) w1 m1 zI9.cel h1' (by omega) (by omega) (by omega) fun o2 M2 m2 w2 le2 sz2 kp2 nw2 wm2 rl2 on2 oc2=>?_
  simp (maxSteps:=2000000) (disch:=first | omega | assumption | (simp only [DS,Nat.reduceAdd, *]; done) | (simp only [DZ]; omega)) only [RUN,RU,zA2,zA1,reduceIte,Nat.reduceEqDiff,Int.reduceAdd,v2,zBW]
  refine w_un (by omega) ?_
  obtain ⟨ro,hzz,hs⟩:=m2.frz zI9.cel (k:=12) (by omega)
  simp (maxSteps:=2000000) (disch:=first | omega | assumption | (simp only [DS,Nat.reduceAdd, *]; done) | (simp only [DZ]; omega)) only [RUN,RU,zA2,zA1,zA0,zAB,frzL,reduceIte,Nat.reduceEqDiff,hzz,zIE]
  exact ⟨_,hs,rfl⟩
 ·refine zbM (d:=d) (n:=l0.length + l1.length) Wf.mem0 (by omega) (by omega) ?_
  have sq0:=SlQ.fresh (X:=mem0) (st:=17) (T:=isOp) (n:=l0.length + l1.length) (z:=zOp) Wf.mem0 rfl
  have wX:=Wf.mem0.add (.row false (zAA zOp (l0.length + l1.length)))
  generalize (mem0.add (.row false (zAA zOp (l0.length + l1.length)))) = X at *
  have lX : Nat.blt 0 X.size = true:=(zAQ 0 X.size).2 (sq0.lt 0 rfl)
  simp (maxSteps:=2000000) (disch:=first | omega | assumption | (simp only [DS,Nat.reduceAdd, *]; done) | (simp only [DZ]; omega)) only [RUN,RU,zA2,zA1,reduceIte,Nat.reduceEqDiff,h0,xA,c2]
  refine w_un (by omega) ?_
  simp (maxSteps:=2000000) (disch:=first | omega | assumption | (simp only [DS,Nat.reduceAdd, *]; done) | (simp only [DZ]; omega)) only [RUN,RU,zA2,zA1,reduceIte,Nat.reduceEqDiff,Int.reduceLT,t0,i0,lX,h0'.fz.rows]
  obtain ⟨r0,y0,z0,A0,R0⟩:=h0'.cells2 X
  refine SlQ.app (bytes:=112) wX sq0 y0 z0 A0 R0 zI9.cel (by omega) (by simp; omega) (by simp; omega) fun o' Y sq1 wY sY kY rY wmY diY=>?_
  have on1:=sq1.one
  have oc1:=sq1.cells
  have rl1:=sq1.rl (Nat.le_refl _)
  simp (maxSteps:=2000000) (disch:=first | omega | assumption | (simp only [DS,Nat.reduceAdd, *]; done) | (simp only [DZ]; omega)) only [RUN,RU,zA2,zA1,reduceIte,Nat.reduceEqDiff,Int.reduceAdd,v1,zBW]
  refine w_un (by omega) ?_
  simp (maxSteps:=2000000) (disch:=first | omega | assumption | (simp only [DS,Nat.reduceAdd, *]; done) | (simp only [DZ]; omega)) only [RUN,RU,zA2,zA1,reduceIte,Nat.reduceEqDiff,Int.reduceLT,t1,i1,rl1,h1'.fz.rows]
  obtain ⟨r1,y1,z1,A1,R1⟩:=h1'.cells2 Y
  refine SlQ.app (bytes:=112) wY sq1 y1 z1 A1 R1 zI9.cel (by omega) (by simp; omega) (by simp; omega) fun o2' Z sq2 wZ sZ kZ rZ wmZ diZ=>?_
  have on2:=sq2.one
  have oc2:=sq2.cells
  have rl2:=sq2.rl (Nat.le_refl _)
  simp (maxSteps:=2000000) (disch:=first | omega | assumption | (simp only [DS,Nat.reduceAdd, *]; done) | (simp only [DZ]; omega)) only [RUN,RU,zA2,zA1,reduceIte,Nat.reduceEqDiff,Int.reduceAdd,v2,zBW]
  refine w_un (by omega) ?_
  have e0 : l0.length + l1.length - l0.length - l1.length = 0:=by omega
  rw [e0] at sq2
  obtain ⟨ro,hzz,hs⟩:=sq2.slm.frz zI9.cel (k:=12) (by omega)
  simp (maxSteps:=2000000) (disch:=first | omega | assumption | (simp only [DS,Nat.reduceAdd, *]; done) | (simp only [DZ]; omega)) only [RUN,RU,zA2,zA1,zA0,zAB,frzL,reduceIte,Nat.reduceEqDiff,hzz,zIE]
  exact ⟨_,by simpa using hs,rfl⟩
end Go.Proofs.YtklfocnoenjgdaaGreat
namespace Go.Proofs.YtklfocnoenjgdaaGreat
open Go Go.Ax
variable {fuel : Nat} {M : Mem} {Q : AV → Mem → Prop} {d : Nat} {l : List Op} {a : AV} {v : Lb}
theorem za7 {o : Op} {ra : AV} {y : Nat} (hR : Sl 1 zAT ra o.rs) (wf : Wf M) (hy : M.get y = some (.row false (lbR v))) (k : ∀ N,Kept M N → Q (BL (!o.hd.lb.leq v)) N) : W3 (zAE Tryz.prog (fsT tbl) fuel (d + 6) (.fn 31) [.agg (opR o ra),.ptr y 0] M) Q:=by
 have ly:=Mem.get_lt hy
 have ora:=hR.one
 have hh:=fun M=>@zGS fuel (d + 4) o.hd.lb v M
 refine zAZ tf31 rfl (by simp [a31]) fun b' ht hx=>?_
 have h0:=hx 0 _ rfl
 have h1:=hx 1 _ rfl
 clear hx
 simp only [a31,c31,zzm] at ht ⊢
 simp (maxSteps:=2000000) (disch:=first | omega | assumption | (simp only [DS,Nat.reduceAdd, *]; done) | (simp only [DZ]; omega)) only [RUN,RU,zA2,zA1,zA0,zAB,slot,reduceIte,Nat.reduceEqDiff,h0,h1,hy,hh]
 exact k _ ((Kept.refl wf).add _)
set_option maxHeartbeats 16000000 in
theorem zYQ {b : AV} {mine page : List Op} (hS : Sl 17 isOp a mine) (hP : Sl 17 isOp b page) (hl : mine.length ≤ 2000) (hf : mine.length + 3000 < fuel) (hd : ∀ o ∈ mine ++ page,o.rs.length ≤ 1000000000) (p1 : zAP [] mine = true) (p2 : v.may = true) (p3 : page.length ≤ 3) (p4 : ∀ o ∈ page,o.hd.lb.leq v = true) (p5 : zAP [] (mine ++ page) = true) : ∃ r,Sl 17 isOp r (mine ++ page) ∧ ∀ M,zAE Tryz.prog (fsT tbl) fuel (d + 16) (.fn 15) [a,lbA v,I64 mine.length,b] M = some (.tup [r,I64 0],M):=by
 have ll:=hS.len
 have lp:=hP.len
 have oa:=hS.one
 have ob:=hP.one
 have hck:=fun M=>zCP (fuel:=fuel) (d:=d + 1) hS (by omega) (by omega) M
 rw [p1] at hck
 have hlc:=fun M=>@zDT fuel (d + 14) v M
 rw [p2] at hlc
 have q1 : decide ((3 : Int) < page.length) = false:=decide_eq_false (by omega)
 have q2 : decide ((mine.length : Int) = mine.length) = true:=decide_eq_true rfl
 refine zEC tf15 rfl (fun M=>by simp only [icyL,fun M=>hS.icy M 12 (by omega),fun M=>hP.icy M 12 (by omega),zAV (zCD v) (show 1 < 12 by omega),zJ7]) ?_
 refine zAI tf15 rfl (by simp only [icyL,fun M=>hS.icy M 12 (by omega),fun M=>hP.icy M 12 (by omega),zAV (zCD v) (show 1 < 12 by omega),zJ7]) (by simp [a15]) fun b' ht hx=>?_
 have h0:=hx 0 _ rfl
 have h1:=hx 1 _ rfl
 have h2:=hx 2 _ rfl
 have h3:=hx 3 _ rfl
 clear hx
 simp only [a15,c15,zz5,zzm,zzg] at ht ⊢
 simp (maxSteps:=2000000) (disch:=first | omega | assumption | (simp only [DS,Nat.reduceAdd, *]; done) | (simp only [DZ]; omega)) only [RUN,RU,zA2,zA1,slot,lay,zAJ,zAA,reduceIte,Nat.reduceEqDiff,Nat.reduceBEq,Nat.reduceAdd,h0,h1,h2,h3,hS.fz.cells,hP.fz.cells,hck,hlc,zB3,zC6,BMM,IMX,ll,lp,q1]
 have hsm : SlM ((mem0.add (.row false (lbR v))).add (.row false [a,b])) 1 isAv (.sl 1 0 2 (some 2) 1) [a,b]:=.inr ⟨1,[[a],[b]],some 2,rfl,.inr rfl,(by simp (maxSteps:=2000000) (disch:=first | omega | assumption | (simp only [DS,Nat.reduceAdd, *]; done) | (simp only [DZ]; omega)) only [RUN]; rfl),.cons ⟨rfl,hS.fz⟩ (.cons ⟨rfl,hP.fz⟩ .nil),by simp⟩
 refine zYT (n:=d + 14) (R:=fun r=>Sl 17 isOp r (mine ++ page)) tf32 rfl hsm (by simp (maxSteps:=2000000) (disch:=first | omega | assumption | (simp only [DS,Nat.reduceAdd, *]; done) | (simp only [DZ]; omega)) only [RUN]) fz_Av (fun o' ho'=>zO4 (d:=d + 13) ho' hS hP (by omega) (by omega) (by omega)) fun r N hr wN sN mN kN=>?_
 have g0 : N.get 0 = some (.row false (lbR v)):=by rw [kN 0 (by simp [rowOf])]; simp (maxSteps:=2000000) (disch:=first | omega | assumption | (simp only [DS,Nat.reduceAdd, *]; done) | (simp only [DZ]; omega)) only [RUN]
 have mN : N.wm = 0:=mN
 have sN : N.size = 2:=sN
 clear kN hsm
 have lr:=hr.len
 have hLl : (mine ++ page).length ≤ 2003:=by rw [List.length_append]; omega
 generalize hL : mine ++ page = L at *
 simp (maxSteps:=2000000) (disch:=first | omega | assumption | (simp only [DS,Nat.reduceAdd, *]; done) | (simp only [DZ]; omega)) only [RUN,RU,zA2,zA1,reduceIte,Nat.reduceEqDiff,lr]
 refine zB8 (I:=fun nq tq Nq => ∃ (iq : Nat) (out : AV),nq = L.length - iq ∧ iq ≤ L.length ∧ nth zA5 tq 3 = b ∧ nth zA5 tq 5 = .ptr 0 0 ∧ nth zA5 tq 8 = out ∧ nth zA5 tq 11 = .fn 31 [] [.ptr 0 0] ∧ nth zA5 tq 36 = r ∧ nth zA5 tq 37 = I64 L.length ∧ nth zA5 tq 38 = I64 iq ∧ Wf Nq ∧ Nq.get 0 = some (.row false (lbR v)) ∧ Nq.wm = 0 ∧ opK.NN Nq 1 out (L.take iq)) (n:=L.length) (by omega) ?_ ?_
 ·refine ⟨0,NIL,rfl,Nat.zero_le _, ?_, ?_, ?_, ?_, ?_, ?_, ?_,wN,g0,mN,NK.NN.nil _ _⟩ <;> simp (maxSteps:=2000000) (disch:=first | omega | assumption | (simp only [DS,Nat.reduceAdd, *]; done) | (simp only [DZ]; omega)) only [RUN,reduceIte,Nat.reduceEqDiff,h3]
  all_goals first | rfl | assumption | done
 ·rintro nq tq Nq hltq ⟨iq,out,rfl,hiq,gq3,gq5,gq8,gq11,gq36,gq37,gq38,w,g,wm,hN⟩
  simp only [ht] at hltq ⊢
  have oo:=hN.one
  have oc:=hN.cells
  have lN:=Mem.get_lt g
  by_cases hc : iq < L.length
  ·have q3 : decide ((iq : Int) < L.length) = true:=decide_eq_true (by omega)
   have w1 : IntKind.i64.wrap ((iq : Int) + 1) = ((iq + 1 : Nat) : Int):=by rw [wrap_i64] <;> omega
   obtain ⟨rr,hiad,hri,hrl⟩:=hr.iad iq hc
   have hls:=take_snoc L iq hc
   have hlo:=hd L[iq] (List.getElem_mem hc)
   have hll : (L.take iq).length ≤ iq:=by rw [List.length_take]; omega
   generalize L[iq] = e at *
   obtain ⟨ra,rfl,hra,hok⟩:=hri
   have ora:=hra.one
   have kX:=((Kept.refl w).add (.row false (opR ⟨0,Hd.z,0,⟨Eid.z,0⟩,Eid.z,Lb.z,[]⟩ NIL))).upd (by omega) (Nat.le_refl _) (.row false (opR e ra))
   simp (maxSteps:=2000000) (disch:=first | omega | assumption | (simp only [DS,Nat.reduceAdd, *]; done) | (simp only [DZ]; omega)) only [RUN,RU,zA2,zA1,slot,lay,reduceIte,Nat.reduceEqDiff,Nat.reduceAdd,gq8,gq36,gq37,gq38,q3,hiad]
   refine zKY (d:=d + 13) hra hlo kX.wf (by rw [kX.wm]; omega) fun a' N2 hN2 sm2 nw2=>?_
   have k2:=kX.trans hN2
   have w2:=k2.wf
   have oa2:=sm2.one
   have ca2:=sm2.cells
   have rl2:=zAW sm2.rl (Nat.le_refl N2.size)
   have rr2:=hN.rows (show Nq.size ≤ N2.size + 1 by have:=k2.le; omega)
   simp (maxSteps:=2000000) (disch:=first | omega | assumption | (simp only [DS,Nat.reduceAdd, *]; done) | (simp only [DZ]; omega)) only [RUN,RU,zA2,zA1,lay,zAJ,zAA,reduceIte,Nat.reduceEqDiff,Nat.reduceBEq,Nat.reduceAdd,rr2]
   have hsz : Nq.size + 1 ≤ N2.size:=hN2.le
   refine NK.NN.app (K:=opK) (B:=1) (l:=L.take iq) (x:=e) (ra:=a') w2 (hN.keep fun j a b=>k2.get j b) ⟨rfl,oa2,ca2⟩ ⟨sm2,fun j hj=>by have:=nw2 j hj; simp only [zA9,zA6] at this; omega,hok⟩ (fun j hj hj2=>by have h1:=hN.lt j hj; have h2:=nw2 j hj2; simp only [zA9,zA6] at h2; omega) (by omega) (by omega) (by omega) fun o' M' hN' w' le' kp' nw' wm'=>?_
   simp (maxSteps:=2000000) (disch:=first | omega | assumption | (simp only [DS,Nat.reduceAdd, *]; done) | (simp only [DZ]; omega)) only [RUN,RU,zA2,zA1,reduceIte,Nat.reduceEqDiff,gq3,gq5,gq8,gq11,gq36,gq37,gq38,w1]
   refine ⟨hltq,L.length - (iq + 1),by omega,iq + 1,o',rfl,by omega,rfl,rfl,w', ?_, ?_,by rw [hls]; exact hN'⟩
   ·rw [kp' 0 (by omega) (fun h=>by have:=hN.lt 0 h; omega),k2.get 0 lN]; exact g
   ·rw [wm',k2.wm]; exact wm
  ·obtain rfl : iq = L.length:=by omega
   have q3 : decide ((L.length : Int) < L.length) = false:=decide_eq_false (by omega)
   rw [List.take_length] at hN
   have hany : (page.any fun o => !o.hd.lb.leq v) = false:=by
    rw [List.any_eq_false]
    intro o ho
    rw [p4 o ho]
    decide
   simp (maxSteps:=2000000) (disch:=first | omega | assumption | (simp only [DS,Nat.reduceAdd, *]; done) | (simp only [DZ]; omega)) only [RUN,RU,zA2,zA1,reduceIte,Nat.reduceEqDiff,gq3,gq11,gq37,gq38]
   refine zR6 (st:=17) (ag:=true) (n:=d + 13) (first:=[]) (cap:=[.ptr 0 0]) tf33 tf47 (by simp) zI9 hP (by omega) (by omega) (p:=fun o => !o.hd.lb.leq v) w (fun n hn=>by simp (maxSteps:=2000000) (disch:=first | omega | assumption | (simp only [DS,Nat.reduceAdd, *]; done) | (simp only [DZ]; omega)) only [RUN,RU]) (fun r o hr' _ N Q' hk hQ=>?_) fun N hk=>?_
   ·obtain ⟨ra,rfl,hra,_⟩:=hr'
    refine za7 (d:=d + 7) hra hk.wf ?_ (fun N' hk'=>hQ N' (hk.trans hk'))
    rw [hk.get 0 lN]
    exact g
   ·rw [hany]
    have hN' : opK.NN N 1 out L:=hN.keep fun j a b=>hk.get j b
    have oc':=hN'.cells
    have rw':=hN'.rows (Nat.le_refl N.size)
    simp (maxSteps:=2000000) (disch:=first | omega | assumption | (simp only [DS,Nat.reduceAdd, *]; done) | (simp only [DZ]; omega)) only [RUN,RU,zA2,zA1,reduceIte,Nat.reduceEqDiff,gq8]
    refine NK.NR.hand (K:=opK) (B:=1) (l:=L) (rest:=[]) (R:=fun r=>r = I64 (err (zAP [] L))) tf17 rfl hN'.nr hk.wf (fun _=>rfl) (fun o' ho'=>⟨_,rfl,fun M=>zCP (d:=d + 1) (zPV ho') (by omega) (by omega) M⟩) fun r4 M1 hr4 w4 s4 n4 k4=>?_
    rw [p5] at hr4
    subst hr4
    obtain ⟨ro,hz,hs⟩:=n4.frz (k:=11) (by omega)
    have o4:=n4.one
    simp (maxSteps:=2000000) (disch:=first | omega | assumption | (simp only [DS,Nat.reduceAdd, *]; done) | (simp only [DZ]; omega)) only [RUN,RU,zA2,zA1,zA0,zAB,frzL,reduceIte,Nat.reduceEqDiff,gq8,zB3,hz]
    exact ⟨ro,zPV hs,rfl⟩
end Go.Proofs.YtklfocnoenjgdaaGreat
