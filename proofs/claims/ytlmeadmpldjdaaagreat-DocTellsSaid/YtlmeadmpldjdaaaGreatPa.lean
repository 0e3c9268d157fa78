/-
  Texts joined: Tc In SaA SaB SbD SaD SaE SaF RnMay SbG SaG SaH SaC SaI SaJ SaK SaL SaM SaN SaO SbP SaQ SaR SaS SaT SaU SbI SaV RmA RfA RfB TpZ RgC RgP TwB TrA.
-/
import Derived.Test.YtlmeadmpldjdaaaGreatTb
import Derived.Test.YtlmeadmpldjdaaaGreatRows
import Derived.Test.YtlmeadmpldjdaaaGreatEg
import Derived.KernelRfl
set_option linter.unusedSimpArgs false
set_option linter.unusedVariables false
set_option maxHeartbeats 64000000
set_option maxRecDepth 100000
namespace Go.Proofs.YtlmeadmpldjdaaaGreat
open Go Go.Ax
theorem zgR:(tbl.map noX).map clr=msk (tbl.map noX) (zG6 Tryz.prog 144 0):=by kernel_rfl
theorem tabOK:zRL Glob.any Tryz.prog (fsT tbl):=za1 zgR (by kernel_rfl)
theorem ovlOK:zRK Tryz.prog :=
 zZ6 (g:=86) (tS:=38) (tR:=4) (by kernel_rfl) Tryz.func86 (by kernel_rfl) (by kernel_rfl) (by kernel_rfl) (by kernel_rfl) (by kernel_rfl)
theorem insFn:InsO (zb6 Tryz.prog 49) 3 4 :=
 ⟨by kernel_rfl,by kernel_rfl,by kernel_rfl,by kernel_rfl,by kernel_rfl,by kernel_rfl,by kernel_rfl,by kernel_rfl,by kernel_rfl,by kernel_rfl,by kernel_rfl⟩
theorem zcH:zKU Tryz.prog :=
 zS6 (g:=49) (t0:=38) (e0:=59) (ti0:=(Tryz.prog.info? 59).getD default) (O:=zb6 Tryz.prog 49) (g':=87)
  (z:=(zeroOf Tryz.prog 59).getD default) (tint:=3) (tb:=4) (by kernel_rfl) Tryz.func49 (by kernel_rfl) (by kernel_rfl) (by kernel_rfl) (by kernel_rfl) (by kernel_rfl) insFn (by kernel_rfl) (by kernel_rfl) (by kernel_rfl)
theorem insOK:zO4 Glob.any Tryz.prog:=zYB ovlOK zcH
abbrev U32 (n:Int):AV:=.sc (.int .u32 n)
structure Lb where
 lv:Int
 cats:Int
 deriving DecidableEq
structure Hd where
 lb:Lb
 num:Int
 deriving DecidableEq
structure Eid where
 hd:Hd
 c:Int
 deriving DecidableEq
structure Spn where
 f:Eid
 n:Int
 deriving DecidableEq
structure Op where
 kd:Int
 hd:Hd
 sr:Int
 sp:Spn
 af:Eid
 to:Lb
 rs:List Int
 deriving DecidableEq
structure Rn where
 sp:Spn
 af:Eid
 rs:List Int
 deriving DecidableEq
abbrev Lb.z:Lb:=⟨0,0⟩
abbrev Hd.z:Hd:=⟨⟨0,0⟩,0⟩
abbrev Eid.z:Eid:=⟨⟨⟨0,0⟩,0⟩,0⟩
def i64R (x:Int):Prop:=-9223372036854775808≤x∧x≤9223372036854775807
def Lb.ok (x:Lb):Prop:=0≤x.lv∧x.lv≤255∧0≤x.cats∧x.cats<4294967296
def Hd.ok (x:Hd):Prop:=x.lb.ok∧0≤x.num∧x.num≤255
def Eid.ok (x:Eid):Prop:=x.hd.ok∧i64R x.c
def Spn.ok (x:Spn):Prop:=x.f.ok∧i64R x.n
def i32s (l:List Int):Prop:=∀ x∈l, -2147483648≤x∧x≤2147483647
def Op.ok (o:Op):Prop:=(0≤o.kd∧o.kd≤255)∧o.hd.ok∧i64R o.sr∧o.sp.ok∧o.af.ok∧o.to.ok∧i32s o.rs
def Rn.ok (o:Rn):Prop:=o.sp.ok∧o.af.ok∧i32s o.rs
theorem Lb.z_ok:Lb.z.ok:=by unfold Lb.ok;decide
theorem Hd.z_ok:Hd.z.ok:=⟨Lb.z_ok,by decide,by decide⟩
theorem Eid.z_ok:Eid.z.ok:=⟨Hd.z_ok,by decide,by decide⟩
abbrev lbR (x:Lb):List AV:=[U8 x.lv,U32 x.cats]
abbrev hdR (x:Hd):List AV:=[U8 x.lb.lv,U32 x.lb.cats,U8 x.num]
abbrev idR (x:Eid):List AV:=[U8 x.hd.lb.lv,U32 x.hd.lb.cats,U8 x.hd.num,I64 x.c]
abbrev spR (x:Spn):List AV:=[U8 x.f.hd.lb.lv,U32 x.f.hd.lb.cats,U8 x.f.hd.num,I64 x.f.c,I64 x.n]
abbrev opR (o:Op)(ra:AV):List AV:=[U8 o.kd,U8 o.hd.lb.lv,U32 o.hd.lb.cats,U8 o.hd.num,I64 o.sr,U8 o.sp.f.hd.lb.lv,U32 o.sp.f.hd.lb.cats,U8 o.sp.f.hd.num,I64 o.sp.f.c,I64 o.sp.n,U8 o.af.hd.lb.lv,U32 o.af.hd.lb.cats,U8 o.af.hd.num,I64 o.af.c,U8 o.to.lv,U32 o.to.cats,ra]
abbrev rnR (o:Rn)(ra:AV):List AV:=[U8 o.sp.f.hd.lb.lv,U32 o.sp.f.hd.lb.cats,U8 o.sp.f.hd.num,I64 o.sp.f.c,I64 o.sp.n,U8 o.af.hd.lb.lv,U32 o.af.hd.lb.cats,U8 o.af.hd.num,I64 o.af.c,ra]
abbrev lbA (x:Lb):AV:=.agg (lbR x)
abbrev hdA (x:Hd):AV:=.agg (hdR x)
abbrev idA (x:Eid):AV:=.agg (idR x)
abbrev spA (x:Spn):AV:=.agg (spR x)
def zAS (r:List AV)(x:Int):Prop:=r=[I32 x]
def isLb (r:List AV)(x:Lb):Prop:=r=lbR x∧x.ok
def zF0 (r:List AV)(x:Eid):Prop:=r=idR x∧x.ok
def isOp (r:List AV)(x:Op):Prop:=∃ ra,r=opR x ra∧Sl 1 zAS ra x.rs∧x.ok
def isRn (r:List AV)(x:Rn):Prop:=∃ ra,r=rnR x ra∧Sl 1 zAS ra x.rs∧x.ok
theorem zCM:FzT zAS:=fun r x h y hy=>by
 rw[h,List.mem_singleton] at hy;subst hy;exact zCY _ _
theorem zCO (x:Lb):∀ y∈lbR x,Fz y:=fun y hy=>by
 simp only[lbR,List.mem_cons,List.not_mem_nil,or_false] at hy
 rcases hy with rfl | rfl <;> exact zCY _ _
theorem zCH (x:Eid):∀ y∈idR x,Fz y:=fun y hy=>by
 simp only[idR,List.mem_cons,List.not_mem_nil,or_false] at hy
 rcases hy with rfl | rfl | rfl | rfl <;> exact zCY _ _
theorem zIL (x:Spn):∀ y∈spR x,Fz y:=fun y hy=>by
 simp only[spR,List.mem_cons,List.not_mem_nil,or_false] at hy
 rcases hy with rfl | rfl | rfl | rfl | rfl <;> exact zCY _ _
theorem zU7 {o:Op}{ra:AV}(h:Fz ra):∀ y∈opR o ra,Fz y:=fun y hy=>by
 simp only[opR,List.mem_cons,List.not_mem_nil,or_false] at hy
 rcases hy with rfl | rfl | rfl | rfl | rfl | rfl | rfl | rfl | rfl | rfl | rfl | rfl | rfl | rfl | rfl | rfl | rfl
 all_goals first | exact zCY _ _ | exact h
theorem zaI {o:Rn}{ra:AV}(h:Fz ra):∀ y∈rnR o ra,Fz y:=fun y hy=>by
 simp only[rnR,List.mem_cons,List.not_mem_nil,or_false] at hy
 rcases hy with rfl | rfl | rfl | rfl | rfl | rfl | rfl | rfl | rfl | rfl
 all_goals first | exact zCY _ _ | exact h
theorem zL8:FzT isLb:=fun r x h=>by rw[h.1];exact zCO x
theorem zGE:FzT zF0:=fun r x h=>by rw[h.1];exact zCH x
theorem zMN:FzT isOp:=fun r x h=>by
 obtain⟨ra,rfl,hr,_⟩:=h
 exact zU7 hr.fz
theorem zFI:FzT isRn:=fun r x h=>by
 obtain⟨ra,rfl,hr,_⟩:=h
 exact zaI hr.fz
theorem Lb.eta (x:Lb):Lb.mk x.lv x.cats=x:=rfl
theorem Hd.eta (x:Hd):Hd.mk x.lb x.num=x:=rfl
theorem Eid.eta (x:Eid):Eid.mk x.hd x.c=x:=rfl
theorem Spn.eta (x:Spn):Spn.mk x.f x.n=x:=rfl
theorem ETA:type_of% (And.intro @Lb.eta (And.intro @Hd.eta (And.intro @Eid.eta @Spn.eta))):=And.intro @Lb.eta (And.intro @Hd.eta (And.intro @Eid.eta @Spn.eta))
theorem zaR (a0:Int)(a1:Int):PT.iss [.int .u8,.int .u32] [.int .u8 a0,.int .u32 a1]:=by
 exact zB0L
def zZF (d:Option AV)(u v:AV):Option AV:=match u,v with
 | .agg [.sc (.int .u8 a0),.sc (.int .u32 a1)],.agg [.sc (.int .u8 b0),.sc (.int .u32 b1)]=>some (BL (decide (a0=b0)&&decide (a1=b1)))
 | _,_=>d
theorem pLbE {t:List AV}(i j:Nat):zBA Tryz.prog t (mkO (.binOp .eql 25 (.tmp i) (.tmp j) 25) 4)=zZF (zD4 Tryz.prog t (mkO (.binOp .eql 25 (.tmp i) (.tmp j) 25) 4)) (zA4 t (.tmp i)) (zA4 t (.tmp j)):=by
 unfold zZF
 split
 ·rename_i a0 a1 b0 b1 h1 h2
  obtain⟨r,hr,he⟩:=pEqS (P:=Tryz.prog) [.int .u8,.int .u32] false 25 25 4 i j (by kernel_rfl) (by decide) (by kernel_rfl) h1 h2 rfl rfl (zaR _ _) (zaR _ _)
  exact zB0S
 ·rfl
theorem zA8 (d:Option AV)(a0 a1:Int)(b0 b1:Int):zZF d (.agg [.sc (.int .u8 a0),.sc (.int .u32 a1)]) (.agg [.sc (.int .u8 b0),.sc (.int .u32 b1)])=some (BL (decide ((⟨a0,a1⟩:Lb)=⟨b0,b1⟩))):=by
 simp only[zZF]
 congr 4
 rw[Bool.eq_iff_iff]
 simp []
theorem zaS (a0:Int)(a1:Int):PT.iss [.int .u8,.int .u32] [.int .u8 a0,.int .u32 a1]:=by
 exact zB0L
def zZG (d:Option AV)(u v:AV):Option AV:=match u,v with
 | .agg [.sc (.int .u8 a0),.sc (.int .u32 a1)],.agg [.sc (.int .u8 b0),.sc (.int .u32 b1)]=>some (BL (!(decide (a0=b0)&&decide (a1=b1))))
 | _,_=>d
theorem pLbN {t:List AV}(i j:Nat):zBA Tryz.prog t (mkO (.binOp .neq 25 (.tmp i) (.tmp j) 25) 4)=zZG (zD4 Tryz.prog t (mkO (.binOp .neq 25 (.tmp i) (.tmp j) 25) 4)) (zA4 t (.tmp i)) (zA4 t (.tmp j)):=by
 unfold zZG
 split
 ·rename_i a0 a1 b0 b1 h1 h2
  obtain⟨r,hr,he⟩:=pEqS (P:=Tryz.prog) [.int .u8,.int .u32] true 25 25 4 i j (by kernel_rfl) (by decide) (by kernel_rfl) h1 h2 rfl rfl (zaS _ _) (zaS _ _)
  exact zB0S
 ·rfl
theorem zAD (d:Option AV)(a0 a1:Int)(b0 b1:Int):zZG d (.agg [.sc (.int .u8 a0),.sc (.int .u32 a1)]) (.agg [.sc (.int .u8 b0),.sc (.int .u32 b1)])=some (BL (!decide ((⟨a0,a1⟩:Lb)=⟨b0,b1⟩))):=by
 simp only[zZG]
 congr 4
 rw[Bool.eq_iff_iff]
 simp []
theorem zaN (a0:Int)(a1:Int)(a2:Int):PT.iss [.st [.int .u8,.int .u32],.int .u8] [.int .u8 a0,.int .u32 a1,.int .u8 a2]:=by
 exact zB0n
def zZB (d:Option AV)(u v:AV):Option AV:=match u,v with
 | .agg [.sc (.int .u8 a0),.sc (.int .u32 a1),.sc (.int .u8 a2)],.agg [.sc (.int .u8 b0),.sc (.int .u32 b1),.sc (.int .u8 b2)]=>some (BL (decide (a0=b0)&&decide (a1=b1)&&decide (a2=b2)))
 | _,_=>d
theorem pHdE {t:List AV}(i j:Nat):zBA Tryz.prog t (mkO (.binOp .eql 27 (.tmp i) (.tmp j) 27) 4)=zZB (zD4 Tryz.prog t (mkO (.binOp .eql 27 (.tmp i) (.tmp j) 27) 4)) (zA4 t (.tmp i)) (zA4 t (.tmp j)):=by
 unfold zZB
 split
 ·rename_i a0 a1 a2 b0 b1 b2 h1 h2
  obtain⟨r,hr,he⟩:=pEqS (P:=Tryz.prog) [.st [.int .u8,.int .u32],.int .u8] false 27 27 4 i j (by kernel_rfl) (by decide) (by kernel_rfl) h1 h2 rfl rfl (zaN _ _ _) (zaN _ _ _)
  exact zB0U
 ·rfl
theorem zAB (d:Option AV)(a0 a1 a2:Int)(b0 b1 b2:Int):zZB d (.agg [.sc (.int .u8 a0),.sc (.int .u32 a1),.sc (.int .u8 a2)]) (.agg [.sc (.int .u8 b0),.sc (.int .u32 b1),.sc (.int .u8 b2)])=some (BL (decide ((⟨⟨a0,a1⟩,a2⟩:Hd)=⟨⟨b0,b1⟩,b2⟩))):=by
 simp only[zZB]
 exact zB0t
theorem zaO (a0:Int)(a1:Int)(a2:Int):PT.iss [.st [.int .u8,.int .u32],.int .u8] [.int .u8 a0,.int .u32 a1,.int .u8 a2]:=by
 exact zB0n
def zZC (d:Option AV)(u v:AV):Option AV:=match u,v with
 | .agg [.sc (.int .u8 a0),.sc (.int .u32 a1),.sc (.int .u8 a2)],.agg [.sc (.int .u8 b0),.sc (.int .u32 b1),.sc (.int .u8 b2)]=>some (BL (!(decide (a0=b0)&&decide (a1=b1)&&decide (a2=b2))))
 | _,_=>d
theorem pHdN {t:List AV}(i j:Nat):zBA Tryz.prog t (mkO (.binOp .neq 27 (.tmp i) (.tmp j) 27) 4)=zZC (zD4 Tryz.prog t (mkO (.binOp .neq 27 (.tmp i) (.tmp j) 27) 4)) (zA4 t (.tmp i)) (zA4 t (.tmp j)):=by
 unfold zZC
 split
 ·rename_i a0 a1 a2 b0 b1 b2 h1 h2
  obtain⟨r,hr,he⟩:=pEqS (P:=Tryz.prog) [.st [.int .u8,.int .u32],.int .u8] true 27 27 4 i j (by kernel_rfl) (by decide) (by kernel_rfl) h1 h2 rfl rfl (zaO _ _ _) (zaO _ _ _)
  exact zB0U
 ·rfl
theorem zAC (d:Option AV)(a0 a1 a2:Int)(b0 b1 b2:Int):zZC d (.agg [.sc (.int .u8 a0),.sc (.int .u32 a1),.sc (.int .u8 a2)]) (.agg [.sc (.int .u8 b0),.sc (.int .u32 b1),.sc (.int .u8 b2)])=some (BL (!decide ((⟨⟨a0,a1⟩,a2⟩:Hd)=⟨⟨b0,b1⟩,b2⟩))):=by
 simp only[zZC]
 exact zB0t
theorem zaP (a0:Int)(a1:Int)(a2:Int)(a3:Int):PT.iss [.st [.st [.int .u8,.int .u32],.int .u8],.int .i64] [.int .u8 a0,.int .u32 a1,.int .u8 a2,.int .i64 a3]:=by
 exact zB0d
def zZD (d:Option AV)(u v:AV):Option AV:=match u,v with
 | .agg [.sc (.int .u8 a0),.sc (.int .u32 a1),.sc (.int .u8 a2),.sc (.int .i64 a3)],.agg [.sc (.int .u8 b0),.sc (.int .u32 b1),.sc (.int .u8 b2),.sc (.int .i64 b3)]=>some (BL (decide (a0=b0)&&decide (a1=b1)&&decide (a2=b2)&&decide (a3=b3)))
 | _,_=>d
theorem pIdE {t:List AV}(i j:Nat):zBA Tryz.prog t (mkO (.binOp .eql 29 (.tmp i) (.tmp j) 29) 4)=zZD (zD4 Tryz.prog t (mkO (.binOp .eql 29 (.tmp i) (.tmp j) 29) 4)) (zA4 t (.tmp i)) (zA4 t (.tmp j)):=by
 unfold zZD
 split
 ·rename_i a0 a1 a2 a3 b0 b1 b2 b3 h1 h2
  obtain⟨r,hr,he⟩:=pEqS (P:=Tryz.prog) [.st [.st [.int .u8,.int .u32],.int .u8],.int .i64] false 29 29 4 i j (by kernel_rfl) (by decide) (by kernel_rfl) h1 h2 rfl rfl (zaP _ _ _ _) (zaP _ _ _ _)
  exact zB0N
 ·rfl
theorem zAA (d:Option AV)(a0 a1 a2 a3:Int)(b0 b1 b2 b3:Int):zZD d (.agg [.sc (.int .u8 a0),.sc (.int .u32 a1),.sc (.int .u8 a2),.sc (.int .i64 a3)]) (.agg [.sc (.int .u8 b0),.sc (.int .u32 b1),.sc (.int .u8 b2),.sc (.int .i64 b3)])=some (BL (decide ((⟨⟨⟨a0,a1⟩,a2⟩,a3⟩:Eid)=⟨⟨⟨b0,b1⟩,b2⟩,b3⟩))):=by
 simp only[zZD]
 exact zB0t
theorem zaQ (a0:Int)(a1:Int)(a2:Int)(a3:Int):PT.iss [.st [.st [.int .u8,.int .u32],.int .u8],.int .i64] [.int .u8 a0,.int .u32 a1,.int .u8 a2,.int .i64 a3]:=by
 exact zB0d
def zZE (d:Option AV)(u v:AV):Option AV:=match u,v with
 | .agg [.sc (.int .u8 a0),.sc (.int .u32 a1),.sc (.int .u8 a2),.sc (.int .i64 a3)],.agg [.sc (.int .u8 b0),.sc (.int .u32 b1),.sc (.int .u8 b2),.sc (.int .i64 b3)]=>some (BL (!(decide (a0=b0)&&decide (a1=b1)&&decide (a2=b2)&&decide (a3=b3))))
 | _,_=>d
theorem pIdN {t:List AV}(i j:Nat):zBA Tryz.prog t (mkO (.binOp .neq 29 (.tmp i) (.tmp j) 29) 4)=zZE (zD4 Tryz.prog t (mkO (.binOp .neq 29 (.tmp i) (.tmp j) 29) 4)) (zA4 t (.tmp i)) (zA4 t (.tmp j)):=by
 unfold zZE
 split
 ·rename_i a0 a1 a2 a3 b0 b1 b2 b3 h1 h2
  obtain⟨r,hr,he⟩:=pEqS (P:=Tryz.prog) [.st [.st [.int .u8,.int .u32],.int .u8],.int .i64] true 29 29 4 i j (by kernel_rfl) (by decide) (by kernel_rfl) h1 h2 rfl rfl (zaQ _ _ _ _) (zaQ _ _ _ _)
  exact zB0N
 ·rfl
theorem zA9 (d:Option AV)(a0 a1 a2 a3:Int)(b0 b1 b2 b3:Int):zZE d (.agg [.sc (.int .u8 a0),.sc (.int .u32 a1),.sc (.int .u8 a2),.sc (.int .i64 a3)]) (.agg [.sc (.int .u8 b0),.sc (.int .u32 b1),.sc (.int .u8 b2),.sc (.int .i64 b3)])=some (BL (!decide ((⟨⟨⟨a0,a1⟩,a2⟩,a3⟩:Eid)=⟨⟨⟨b0,b1⟩,b2⟩,b3⟩))):=by
 simp only[zZE]
 exact zB0t
theorem zaT (a0:Int)(a1:Int)(a2:Int)(a3:Int)(a4:Int):PT.iss [.st [.st [.st [.int .u8,.int .u32],.int .u8],.int .i64],.int .i64] [.int .u8 a0,.int .u32 a1,.int .u8 a2,.int .i64 a3,.int .i64 a4]:=by
 exact zB09
def zZH (d:Option AV)(u v:AV):Option AV:=match u,v with
 | .agg [.sc (.int .u8 a0),.sc (.int .u32 a1),.sc (.int .u8 a2),.sc (.int .i64 a3),.sc (.int .i64 a4)],.agg [.sc (.int .u8 b0),.sc (.int .u32 b1),.sc (.int .u8 b2),.sc (.int .i64 b3),.sc (.int .i64 b4)]=>some (BL (decide (a0=b0)&&decide (a1=b1)&&decide (a2=b2)&&decide (a3=b3)&&decide (a4=b4)))
 | _,_=>d
theorem pSpE {t:List AV}(i j:Nat):zBA Tryz.prog t (mkO (.binOp .eql 31 (.tmp i) (.tmp j) 31) 4)=zZH (zD4 Tryz.prog t (mkO (.binOp .eql 31 (.tmp i) (.tmp j) 31) 4)) (zA4 t (.tmp i)) (zA4 t (.tmp j)):=by
 unfold zZH
 split
 ·rename_i a0 a1 a2 a3 a4 b0 b1 b2 b3 b4 h1 h2
  obtain⟨r,hr,he⟩:=pEqS (P:=Tryz.prog) [.st [.st [.st [.int .u8,.int .u32],.int .u8],.int .i64],.int .i64] false 31 31 4 i j (by kernel_rfl) (by decide) (by kernel_rfl) h1 h2 rfl rfl (zaT _ _ _ _ _) (zaT _ _ _ _ _)
  exact zB0G
 ·rfl
theorem zAE (d:Option AV)(a0 a1 a2 a3 a4:Int)(b0 b1 b2 b3 b4:Int):zZH d (.agg [.sc (.int .u8 a0),.sc (.int .u32 a1),.sc (.int .u8 a2),.sc (.int .i64 a3),.sc (.int .i64 a4)]) (.agg [.sc (.int .u8 b0),.sc (.int .u32 b1),.sc (.int .u8 b2),.sc (.int .i64 b3),.sc (.int .i64 b4)])=some (BL (decide ((⟨⟨⟨⟨a0,a1⟩,a2⟩,a3⟩,a4⟩:Spn)=⟨⟨⟨⟨b0,b1⟩,b2⟩,b3⟩,b4⟩))):=by
 simp only[zZH]
 exact zB0t
theorem zaU (a0:Int)(a1:Int)(a2:Int)(a3:Int)(a4:Int):PT.iss [.st [.st [.st [.int .u8,.int .u32],.int .u8],.int .i64],.int .i64] [.int .u8 a0,.int .u32 a1,.int .u8 a2,.int .i64 a3,.int .i64 a4]:=by
 exact zB09
def zZI (d:Option AV)(u v:AV):Option AV:=match u,v with
 | .agg [.sc (.int .u8 a0),.sc (.int .u32 a1),.sc (.int .u8 a2),.sc (.int .i64 a3),.sc (.int .i64 a4)],.agg [.sc (.int .u8 b0),.sc (.int .u32 b1),.sc (.int .u8 b2),.sc (.int .i64 b3),.sc (.int .i64 b4)]=>some (BL (!(decide (a0=b0)&&decide (a1=b1)&&decide (a2=b2)&&decide (a3=b3)&&decide (a4=b4))))
 | _,_=>d
theorem pSpN {t:List AV}(i j:Nat):zBA Tryz.prog t (mkO (.binOp .neq 31 (.tmp i) (.tmp j) 31) 4)=zZI (zD4 Tryz.prog t (mkO (.binOp .neq 31 (.tmp i) (.tmp j) 31) 4)) (zA4 t (.tmp i)) (zA4 t (.tmp j)):=by
 unfold zZI
 split
 ·rename_i a0 a1 a2 a3 a4 b0 b1 b2 b3 b4 h1 h2
  obtain⟨r,hr,he⟩:=pEqS (P:=Tryz.prog) [.st [.st [.st [.int .u8,.int .u32],.int .u8],.int .i64],.int .i64] true 31 31 4 i j (by kernel_rfl) (by decide) (by kernel_rfl) h1 h2 rfl rfl (zaU _ _ _ _ _) (zaU _ _ _ _ _)
  exact zB0G
 ·rfl
theorem zAF (d:Option AV)(a0 a1 a2 a3 a4:Int)(b0 b1 b2 b3 b4:Int):zZI d (.agg [.sc (.int .u8 a0),.sc (.int .u32 a1),.sc (.int .u8 a2),.sc (.int .i64 a3),.sc (.int .i64 a4)]) (.agg [.sc (.int .u8 b0),.sc (.int .u32 b1),.sc (.int .u8 b2),.sc (.int .i64 b3),.sc (.int .i64 b4)])=some (BL (!decide ((⟨⟨⟨⟨a0,a1⟩,a2⟩,a3⟩,a4⟩:Spn)=⟨⟨⟨⟨b0,b1⟩,b2⟩,b3⟩,b4⟩))):=by
 simp only[zZI]
 exact zB0t
variable {fuel : Nat} {M : Mem} {Q : AV → Mem → Prop} {d : Nat}
def zLH (a b:Int):Int:=IntKind.u32.wrap ((BitVec.ofInt 32 a &&& ~~~ BitVec.ofInt 32 b).toNat:Nat)
def Lb.leq (a b:Lb):Bool:=decide (a.lv≤b.lv)&&decide (zLH a.cats b.cats=0)
def Lb.may (a:Lb):Bool:=!decide (15<a.lv)
def Hd.may (h:Hd):Bool:=h.lb.may&&decide (h.num<8)
def Eid.may (x:Eid):Bool:=x.hd.may&&decide (1≤x.c)&&decide (x.c≤1099511627776)
def Spn.may (s:Spn):Bool:=s.f.may&&decide (1≤s.n)&&decide (s.n≤64)&&decide (s.f.c+s.n≤1099511627777)
def err (b:Bool):Int:=if b then 0 else 8
theorem zB9:err true=0:=rfl
theorem zBH:err false=8:=rfl
theorem zPX (P:Program)(ty:TypeId)(a b:Int):binV P .andNot ty .u32 a .u32 b=some (.int .u32 (zLH a b)):=by
 simp only[binV,binOp,ne_eq,not_true_eq_false,if_false,Op.intBits]
 rfl
theorem zLJ (a b:Lb)(M:Mem):zCN fuel (d+1) 29 [lbA a,lbA b] M=some (BL (a.leq b),M):=by
 apply zB2
 refine zAJ tf29 rfl (by simp (disch:=try exact SX) only[RV,seval,zA0]) (by simp [a29]) fun b' ht hx=>?_
 obtain⟨h0,h1⟩:=hx2 hx
 clear hx
 simp only[a29,c29] at ht ⊢
 unfold Lb.leq
 by_cases q:a.lv≤b.lv
 ·have q1:decide (a.lv≤b.lv)=true:=decide_eq_true q
  simp (disch:=try exact SX) only[RV,seval,zA0,h0,h1,q1,zPX]
 ·have q1:decide (a.lv≤b.lv)=false:=decide_eq_false q
  simp (disch:=try exact SX) only[RV,seval,zA0,h0,h1,q1,zPX,Bool.false_and]
theorem zH1 (a:Lb)(M:Mem):zCN fuel (d+1) 28 [lbA a] M=some (I64 (err a.may),M):=by
 apply zB2
 refine zAJ tf28 rfl (by simp (disch:=try exact SX) only[RV,seval,zA0]) (by simp [a28]) fun b' ht hx=>?_
 have h0:=hx 0 _ rfl
 clear hx
 simp only[a28,c28] at ht ⊢
 unfold Lb.may
 cases q:decide (15<a.lv) <;> simp (disch:=try exact SX) only[RV,seval,zA0,h0,q,zB9,zBH]
theorem zJO (b:Bool)(M:Mem):zCN fuel (d+1) 92 [BL b] M=some (I64 (err b),M):=by
 apply zB2
 refine zAJ tf92 rfl (by simp (disch:=try exact SX) only[RV,seval,zA0]) (by simp [a92]) fun b' ht hx=>?_
 have h0:=hx 0 _ rfl
 clear hx
 simp only[a92,c92] at ht ⊢
 cases b <;> simp (disch:=try exact SX) only[RV,seval,zA0,h0,zB9,zBH]
theorem z00:decide ((0:Int)=0)=true:=rfl
theorem z80:decide ((8:Int)=0)=false:=rfl
theorem zID (h:Hd)(M:Mem):zCN fuel (d+2) 60 [hdA h] M=some (I64 (err h.may),M):=by
 have hl:=fun M=>@zH1 fuel d h.lb M
 have hr:=fun b M=>@zJO fuel d b M
 apply zB2
 refine zAJ tf60 rfl (by simp (disch:=try exact SX) only[RV,seval,zA0]) (by simp [a60]) fun b' ht hx=>?_
 have h0:=hx 0 _ rfl
 clear hx
 simp only[a60,c60] at ht ⊢
 unfold Hd.may
 cases hm:h.lb.may <;> rw[hm] at hl
 ·exact zB0A
 ·simp (disch:=try exact SX) only[RV,seval,zA0,h0,hl,hr,zB9,z00]
theorem zOB (x:Eid)(M:Mem):zCN fuel (d+3) 74 [idA x] M=some (I64 (err x.may),M):=by
 have hl:=fun M=>@zID fuel d x.hd M
 have hr:=fun b M=>@zJO fuel (d+1) b M
 apply zB2
 refine zAJ tf74 rfl (by simp (disch:=try exact SX) only[RV,seval,zA0]) (by simp [a74]) fun b' ht hx=>?_
 have h0:=hx 0 _ rfl
 clear hx
 simp only[a74,c74] at ht ⊢
 unfold Eid.may
 cases hm:x.hd.may <;> rw[hm] at hl
 ·exact zB0A
 ·cases q:decide (1≤x.c)
  ·simp (disch:=try exact SX) only[RV,seval,zA0,h0,hl,hr,zB9,z00,q,Bool.false_and]
  ·simp (disch:=try exact SX) only[RV,seval,zA0,h0,hl,hr,zB9,z00,q]
theorem zGC (s:Spn)(M:Mem):zCN fuel (d+4) 55 [spA s] M=some (I64 (err s.may),M):=by
 have hl:=fun M=>@zOB fuel d s.f M
 have hr:=fun b M=>@zJO fuel (d+2) b M
 apply zB2
 refine zAJ tf55 rfl (by simp (disch:=try exact SX) only[RV,seval,zA0]) (by simp [a55]) fun b' ht hx=>?_
 have h0:=hx 0 _ rfl
 clear hx
 simp only[a55,c55] at ht ⊢
 unfold Spn.may
 cases hm:s.f.may <;> rw[hm] at hl
 ·exact zB0A
 ·cases q1:decide (1≤s.n)
  ·simp (disch:=try exact SX) only[RV,seval,zA0,h0,hl,hr,zB9,z00,q1,Bool.false_and]
  ·cases q2:decide (s.n≤64)
   ·simp (disch:=try exact SX) only[RV,seval,zA0,h0,hl,hr,zB9,z00,q1,q2,Bool.false_and]
   ·have w:IntKind.i64.wrap (IntKind.i64.wrap (s.f.c+s.n) - 1)=s.f.c+s.n - 1:=by
     unfold Eid.may at hm
     simp only[Bool.and_eq_true,decide_eq_true_eq] at hm q1 q2
     rw[wrap_i64 (n:=s.f.c+s.n) (by omega) (by omega),wrap_i64 (by omega) (by omega)]
    have q3:decide (s.f.c+s.n - 1≤1099511627776)=decide (s.f.c+s.n≤1099511627777):=by
     exact zB0O
    simp (disch:=try exact SX) only[RV,seval,zA0,h0,hl,hr,zB9,z00,q1,q2,w,q3]
def zHR (x:Int):Bool:=(decide (0≤x)&&decide (x<55296)) || (decide (57343<x)&&decide (x≤1114111))
def okR (x:Int):Bool:=decide (x = -1) || zHR x
def chkR (l:List Int):Int:=if 64<l.length then 4 else err (l.all okR)
theorem zWD (x:Int)(M:Mem):zCN fuel (d+1) 113 [I32 x] M=some (BL (zHR x),M):=by
 apply zB2
 refine zAJ tf113 rfl (by simp (disch:=try exact SX) only[RV,seval,zA0]) (by simp [a113]) fun b' ht hx=>?_
 have h0:=hx 0 _ rfl
 clear hx
 simp only[a113,c113] at ht ⊢
 unfold zHR
 cases q1:decide (0≤x) <;> cases q2:decide (x<55296) <;> cases q3:decide (57343<x) <;> cases q4:decide (x≤1114111)
 all_goals simp (disch:=try exact SX) only[RV,seval,zA0,h0,q1,q2,q3,q4]
theorem zWJ (x:Int)(M:Mem):zCN fuel (d+2) 112 [I32 x] M=some (BL (!okR x),M):=by
 have hv:=fun M=>@zWD fuel d x M
 apply zB2
 refine zAJ tf112 rfl (by simp (disch:=try exact SX) only[RV,seval,zA0]) (by simp [a112]) fun b' ht hx=>?_
 have h0:=hx 0 _ rfl
 clear hx
 simp only[a112,c112] at ht ⊢
 unfold okR
 cases q:decide (x = -1) <;> simp (disch:=try exact SX) only[RV,seval,zA0,h0,q,hv,Bool.not_or]
theorem zT2 {α:Type}(p:α→Bool)(l:List α):(l.any fun x => !p x) = !l.all p:=by
 exact zB0W
theorem zKM {a:AV}{l:List Int}(hS:Sl 1 zAS a l)(hf:100<fuel)(M:Mem):zCN fuel (d+5) 75 [a] M=some (I64 (chkR l),M):=by
 have ll:=hS.len
 apply zB2
 refine zAJ tf75 rfl (by simp (disch:=try exact SX) only[RV,seval,zA0,hS.fz.rows,hS.fz.one,hS.fz.cells,hS.fz.icy,hS.fz.frz]) (by simp [a75]) fun b' ht hx=>?_
 have h0:=hx 0 _ rfl
 clear hx
 simp only[a75,c75] at ht ⊢
 unfold chkR
 by_cases q:64<l.length
 ·exact zB0y
 ·have q1:decide ((64:Int)<l.length)=false:=DF
  have hh:=fun M=>zeY (P:=Tryz.prog) (fs:=fsT tbl) (fuel:=fuel) (l:=l) (ag:=false) (n:=d+2) tf114 tf132 (fun _=>rfl) zCM hS (by omega) (by omega) (zaH 112) (p:=fun x => !okR x) (fun r x hr _ M=>by
   obtain rfl:=hr
   exact @zWJ fuel d x M) M
  rw[zT2] at hh
  cases hb:l.all okR <;> rw[hb] at hh <;> simp (disch:=try exact SX) only[RV,seval,zA0,h0,ll,hS.fz.rows,hS.fz.one,hS.fz.cells,hS.fz.icy,hS.fz.frz,q1,q,hh,if_false,zB9,zBH]
theorem zLV {a:AV}{l:List Int}(hS:Sl 1 zAS a l)(hl:l.length≤1000000000)(wf:Wf M)
  (k:∀ a' M',Wf M'→M.size≤M'.size→(∀ j,j<M.size→M'.get j=M.get j)→SlM M' 1 zAS a' l→(∀ id,rowOf a'=some id→M.size≤id)→M'.wm=M.wm→M'.dirty=M.dirty→Q a' M'):W3 (zCN fuel (d+1) 40 [a] M) Q :=
 zbP zCM.cel tf40 Tryz.underlying32 hS (by omega) (by omega) wf k
theorem zUR (M:Mem):zCN fuel (d+1) 96 [] M=some (lbA Lb.z,M):=by
 apply zB2
 refine zAJ tf96 rfl (by simp (disch:=try exact SX) only[RV,seval,zA0]) (by simp [a96]) fun b' ht hx=>?_
 clear hx
 simp only[a96,c96] at ht ⊢
 exact zB07
theorem zJ0 {o:Op}{ra:AV}(h:Fz ra):rowsOf (.agg (opR o ra))=[]:=zDB (zU7 h)
theorem zDI {o:Op}{ra:AV}(h:Fz ra)(M:Mem):icy 12 M (.agg (opR o ra))=some (.agg (opR o ra),M):=zAT (zU7 h) (by omega) M
def Op.bare (o:Op):Bool:=decide (o.af=Eid.z)&&decide ((o.rs.length:Int)=0)
def Op.part (o:Op):Bool :=
 if o.kd=1 then decide (o.to=Lb.z)&&(decide (o.af=Eid.z) || o.af.may)&&decide (o.sp.f.hd=o.hd)&&decide ((o.rs.length:Int)=o.sp.n)&&decide (chkR o.rs=0)
 else if o.kd=2 then decide (o.to=Lb.z)&&o.bare
 else o.bare&&o.to.may
def Op.may (o:Op):Bool:=!decide (o.kd=0) && !decide (4≤o.kd)&&o.hd.may && !decide (o.sr<1) && !decide (16777216≤o.sr)&&o.sp.may&&o.part
theorem zaB {o:Op}{ra:AV}(hS:Sl 1 zAS ra o.rs)(wf:Wf M)(k:∀ N,Kept M N→Q (BL o.bare) N):W3 (zCN fuel (d+1) 94 [.agg (opR o ra)] M) Q:=by
 have pIdE:=@pIdE
 have ll:=hS.len
 unfold Op.bare at k
 refine zBK tf94 rfl (by simp [a94]) fun b' ht hx=>?_
 have h0:=hx 0 _ rfl
 clear hx
 simp only[a94,c94] at ht ⊢
 cases q:decide (o.af=Eid.z) <;> rw[q] at k <;> simp only[Bool.false_and,Bool.true_and] at k <;> simp (disch:=try exact SX) only[RV,seval,zA0,h0,hS.fz.rows,hS.fz.one,hS.fz.cells,hS.fz.icy,hS.fz.frz,↓pIdE,zAA,ETA,q,ll,Bool.false_and,wf]
 all_goals exact k _ ((Kept.refl wf).add _)
theorem zQG {o:Op}{ra:AV}(hS:Sl 1 zAS ra o.rs)(wf:Wf M)(k:∀ N,Kept M N→Q (BL (decide (o.to=Lb.z))) N):W3 (zCN fuel (d+2) 95 [.agg (opR o ra)] M) Q:=by
 have pLbE:=@pLbE
 have hl:=fun M=>@zUR fuel d M
 refine zBK tf95 rfl (by simp [a95]) fun b' ht hx=>?_
 have h0:=hx 0 _ rfl
 clear hx
 simp only[a95,c95] at ht ⊢
 simp (disch:=try exact SX) only[RV,seval,zA0,h0,hS.fz.rows,hS.fz.one,hS.fz.cells,hS.fz.icy,hS.fz.frz,↓pLbE,zA8,ETA,hl,wf]
 exact zB0C
theorem zgD {o:Op}{ra:AV}{x:Nat}(hS:Sl 1 zAS ra o.rs)(hk1:o.kd=1)(hf:100<fuel)(wf:Wf M)(hx1:M.get x=some (.row false [.fn 95 [] []]))(k:∀ N,Kept M N→Q (BL o.part) N) :
  W3 (zCN fuel (d+6) 97 [.agg (opR o ra),.ptr x 0] M) Q:=by
 have ll:=hS.len
 have lx:=Mem.get_lt hx1
 have hc:=fun M=>@zOB fuel (d+2) o.af M
 have hr:=fun M=>zKM (fuel:=fuel) (d:=d) hS hf M
 have z4:decide ((4:Int)=0)=false:=rfl
 unfold Op.part at k
 rw[if_pos hk1] at k
 have kept:=fun cs=>(Kept.refl wf).add (.row false cs)
 have key:∀ b:Bool,((decide (o.af=Eid.z) || o.af.may)=b)→True:=fun _ _=>trivial
 refine zBK tf97 rfl (by simp [a97]) fun b' ht hx=>?_
 obtain⟨h0,h1⟩:=hx2 hx
 clear hx
 simp only[a97,c97] at ht ⊢
 have tail:∀ b:Bool,(decide (o.af=Eid.z) || o.af.may)=b → ∀ t:List AV,t.length=b'.length→True:=fun _ _ _ _=>trivial
 clear tail key
 cases q:decide (o.af=Eid.z) <;> cases q':o.af.may <;> rw[q'] at hc <;> simp only[q,q',Bool.or_false,Bool.or_true,Bool.false_and,Bool.and_false,Bool.and_true] at k
 all_goals
  (simp (disch:=try exact SX) only[RV,seval,zA0,h0,h1,hS.fz.rows,hS.fz.one,hS.fz.cells,hS.fz.icy,hS.fz.frz,↓pIdE,zAA,↓pIdN,zA9,↓pHdE,zAB,↓pHdN,zAC,↓pLbE,zA8,↓pLbN,zAD,↓pSpE,zAE,↓pSpN,zAF,ETA,q,hc,wf,zB9,zBH,z00,z80,hx1])
  refine zQG hS (by simp (disch:=try exact SX) only[RV,seval,zA0,wf]) fun N hN=>?_
  have hg:=hN.get M.size (by rw[zA6];omega)
  rw[zAM wf _ _ (Nat.le_refl _) (Nat.lt_succ_self _)] at hg
  have lg:=Mem.get_lt hg
  have kN:=((Kept.refl wf).add _).trans hN
  cases q1:decide (o.to=Lb.z) <;> (try simp only[q1,Bool.false_and,Bool.true_and] at k)
  all_goals (simp (disch:=try exact SX) only[RV,seval,zA0,h0,h1,hS.fz.rows,hS.fz.one,hS.fz.cells,hS.fz.icy,hS.fz.frz,hg,q,hN.wf,q1,↓pIdE,zAA,↓pIdN,zA9,↓pHdE,zAB,↓pHdN,zAC,↓pLbE,zA8,↓pLbN,zAD,↓pSpE,zAE,↓pSpN,zAF,ETA])
  all_goals first | exact k _ kN | skip
 all_goals
  cases q2:decide (o.sp.f.hd=o.hd) <;> (try simp only[q2,Bool.false_and,Bool.true_and] at k)
  all_goals (simp (disch:=try exact SX) only[RV,seval,zA0,h0,h1,hS.fz.rows,hS.fz.one,hS.fz.cells,hS.fz.icy,hS.fz.frz,hg,↓pIdE,zAA,↓pIdN,zA9,↓pHdE,zAB,↓pHdN,zAC,↓pLbE,zA8,↓pLbN,zAD,↓pSpE,zAE,↓pSpN,zAF,ETA,q2,hN.wf])
  all_goals first | exact k _ kN | skip
 all_goals
  cases q3:decide ((o.rs.length:Int)=o.sp.n) <;> (try simp only[q3,Bool.false_and,Bool.true_and] at k)
  all_goals (simp (disch:=try exact SX) only[RV,seval,zA0,h0,h1,hS.fz.rows,hS.fz.one,hS.fz.cells,hS.fz.icy,hS.fz.frz,hg,ll,q3,hr,hN.wf,↓pIdE,zAA,↓pIdN,zA9,↓pHdE,zAB,↓pHdN,zAC,↓pLbE,zA8,↓pLbN,zAD,↓pSpE,zAE,↓pSpN,zAF,ETA])
  all_goals exact k _ kN
theorem zgA {o:Op}{ra:AV}{x y:Nat}(hS:Sl 1 zAS ra o.rs)(wf:Wf M)(hx1:M.get x=some (.row false [.fn 95 [] []]))(hy1:M.get y=some (.row false [.fn 94 [] []]))(k:∀ N,Kept M N→Q (BL (decide (o.to=Lb.z)&&o.bare)) N) :
  W3 (zCN fuel (d+3) 99 [.agg (opR o ra),.ptr x 0,.ptr y 0] M) Q:=by
 have lx:=Mem.get_lt hx1
 have ly:=Mem.get_lt hy1
 refine zBK tf99 rfl (by simp [a99]) fun b' ht hx=>?_
 obtain⟨h0,h1,h2⟩:=hx3 hx
 clear hx
 simp only[a99,c99] at ht ⊢
 simp (disch:=try exact SX) only[RV,seval,zA0,h0,h1,h2,hS.fz.rows,hS.fz.one,hS.fz.cells,hS.fz.icy,hS.fz.frz,wf,hx1,hy1]
 refine zQG hS (by simp (disch:=try exact SX) only[RV,seval,zA0,wf]) fun N hN=>?_
 have hg:=hN.get M.size (by rw[zA6];omega)
 rw[zAM wf _ _ (Nat.le_refl _) (Nat.lt_succ_self _)] at hg
 have lg:=Mem.get_lt hg
 have gy:=(hN.get y (by rw[zA6];omega)).trans ((zAK wf _ _ ly).trans hy1)
 have lgy:=Mem.get_lt gy
 have kN:=((Kept.refl wf).add _).trans hN
 cases q1:decide (o.to=Lb.z) <;> simp only[q1,Bool.false_and,Bool.true_and] at k <;> simp (disch:=try exact SX) only[RV,seval,zA0,h0,h1,h2,hS.fz.rows,hS.fz.one,hS.fz.cells,hS.fz.icy,hS.fz.frz,hg,gy,hN.wf,q1]
 ·exact k _ kN
 ·refine zaB hS hN.wf fun N' hN'=>?_
  simp (disch:=try exact SX) only[RV,seval,zA0,h0,h1,h2]
  exact k _ (kN.trans hN')
theorem zZK {o:Op}{ra:AV}{y:Nat}(hS:Sl 1 zAS ra o.rs)(wf:Wf M)(hy1:M.get y=some (.row false [.fn 94 [] []]))(k:∀ N,Kept M N→Q (BL (o.bare&&o.to.may)) N) :
  W3 (zCN fuel (d+2) 101 [.agg (opR o ra),.ptr y 0] M) Q:=by
 have ly:=Mem.get_lt hy1
 have hl:=fun M=>@zH1 fuel d o.to M
 refine zBK tf101 rfl (by simp [a101]) fun b' ht hx=>?_
 obtain⟨h0,h1⟩:=hx2 hx
 clear hx
 simp only[a101,c101] at ht ⊢
 simp (disch:=try exact SX) only[RV,seval,zA0,h0,h1,hS.fz.rows,hS.fz.one,hS.fz.cells,hS.fz.icy,hS.fz.frz,wf,hy1]
 refine zaB hS (by simp (disch:=try exact SX) only[RV,seval,zA0,wf]) fun N hN=>?_
 have hg:=hN.get M.size (by rw[zA6];omega)
 rw[zAM wf _ _ (Nat.le_refl _) (Nat.lt_succ_self _)] at hg
 have lg:=Mem.get_lt hg
 have kN:=((Kept.refl wf).add _).trans hN
 cases q1:o.bare <;> simp only[q1,Bool.false_and,Bool.true_and] at k
 ·simp (disch:=try exact SX) only[RV,seval,zA0,h0,h1,hS.fz.rows,hS.fz.one,hS.fz.cells,hS.fz.icy,hS.fz.frz,hg,hN.wf,q1]
  exact k _ kN
 ·cases q2:o.to.may <;> rw[q2] at hl k <;> simp (disch:=try exact SX) only[RV,seval,zA0,h0,h1,hS.fz.rows,hS.fz.one,hS.fz.cells,hS.fz.icy,hS.fz.frz,hg,hN.wf,q1,hl,zB9,zBH,z00,z80] <;> exact k _ kN
theorem zd4 (wf:Wf M)(hw:M.wm≤M.size)(k:∀ N x y,Kept M N→N.get x=some (.row false [.fn 95 [] []])→N.get y=some (.row false [.fn 94 [] []])→M.size≤x→M.size≤y→Q (.agg [.sc .nilFunc,.sc .nilFunc,.fn 97 [] [.ptr x 0],.fn 98 [] [],.fn 99 [] [.ptr x 0,.ptr y 0],.fn 100 [] [],.fn 101 [] [.ptr y 0],.fn 102 [] []]) N) :
  W3 (zCN fuel (d+1) 61 [] M) Q:=by
 have onf:oneA (.sc .nilFunc)=true:=rfl
 have sn:scs Value.nilFunc=[.sc .nilFunc]:=rfl
 refine zBK tf61 rfl (by simp [a61]) fun b' ht hx=>?_
 clear hx
 simp only[a61,c61] at ht ⊢
 simp (disch:=try exact SX) only[RV,seval,zA0,wf,sn]
 refine k _ (M.size+1+1) (M.size+1) ((((((Kept.refl wf).add _).add _).upd hw (by omega) _).add _).upd hw (by omega) _ |>.upd hw (by omega) _) ?_ ?_ (by omega) (by omega)
 ·simp (disch:=try exact SX) only[RV,seval,zA0,wf]
 ·simp (disch:=try exact SX) only[RV,seval,zA0,wf]
theorem zDJ {o:Op}{ra:AV}(hS:Sl 1 zAS ra o.rs)(ho:o.ok)(hf:100<fuel)(M:Mem):zCN fuel (d+7) 35 [.agg (opR o ra)] M=some (I64 (err o.may),M):=by
 have hh:=fun M=>@zID fuel (d+4) o.hd M
 have hs:=fun M=>@zGC fuel (d+2) o.sp M
 apply zB2
 refine zAJ tf35 rfl (by simp only[icyL,zDI hS.fz]) (by simp [a35]) fun b' ht hx=>?_
 have h0:=hx 0 _ rfl
 clear hx
 simp only[a35,c35] at ht ⊢
 unfold Op.may
 cases q1:decide (o.kd=0)
 ·cases q2:decide (4≤o.kd)
  ·cases q3:o.hd.may <;> rw[q3] at hh
   ·simp (disch:=try exact SX) only[RV,seval,zA0,h0,q1,q2,hh,zBH,z80,Bool.false_and,Bool.and_false,zBD]
   ·cases q4:decide (o.sr<1)
    ·cases q5:decide (16777216≤o.sr)
     ·cases q6:o.sp.may <;> rw[q6] at hs
      ·simp (disch:=try exact SX) only[RV,seval,zA0,h0,q1,q2,q4,q5,hh,hs,zB9,zBH,z00,z80,Bool.false_and,Bool.and_false,zBD]
      ·simp (disch:=try exact SX) only[RV,seval,zA0,h0,q1,q2,q4,q5,hh,hs,zB9,z00,zBD]
       refine zd4 (by simp (disch:=try exact SX) only[RV,seval,zA0,zBD]) (by simp only[zDG];exact Nat.le_refl _) fun N x y hN gx gy lx ly=>?_
       have hd:N.dirty=false:=hN.di
       have hsz:1≤N.size:=hN.le
       have g0:N.get 0=some (.row false (opR o ra)):=hN.get 0 (by show 0<1;omega)
       have wN:=hN.wf
       have hk:o.kd=1∨o.kd=2∨o.kd=3:=by
        have:=ho.1
        simp only[decide_eq_false_iff_not] at q1 q2
        omega
       rcases hk with hk | hk | hk
       ·have n1:zE4 (U8 o.kd)=some 1:=by rw[hk];rfl
        have ep:o.part=o.part:=rfl
        rw[ep]
        simp (disch:=try exact SX) only[RV,seval,zA0,hN.wf,hd,hsz,g0,n1,zSQ,zH0,zJ0 hS.fz,zBD]
        refine⟨rfl,rfl,rfl, ?_⟩
        refine zgD hS hk hf (by simp (disch:=try exact SX) only[RV,seval,zA0,zBD];exact wN) (by simp (disch:=try exact SX) only[RV,seval,zA0,gx,zBD])  fun N' hN'=>?_
        have hd':N'.dirty=false:=hN'.di
        cases qp:o.part <;> simp (disch:=try exact SX) only[RV,seval,zA0,hd',zB9,zBH,zBD]
       ·have n1:zE4 (U8 o.kd)=some 2:=by rw[hk];rfl
        have ep:o.part=(decide (o.to=Lb.z)&&o.bare):=by unfold Op.part;rw[if_neg (by omega),if_pos hk]
        rw[ep]
        simp (disch:=try exact SX) only[RV,seval,zA0,hN.wf,hd,hsz,g0,n1,zSQ,zH0,zJ0 hS.fz,zBD]
        refine⟨rfl,rfl,rfl, ?_⟩
        refine zgA hS (by simp (disch:=try exact SX) only[RV,seval,zA0,zBD];exact wN) (by simp (disch:=try exact SX) only[RV,seval,zA0,gx,zBD]) (by simp (disch:=try exact SX) only[RV,seval,zA0,gy,zBD])  fun N' hN'=>?_
        have hd':N'.dirty=false:=hN'.di
        cases qp:(decide (o.to=Lb.z)&&o.bare) <;> simp (disch:=try exact SX) only[RV,seval,zA0,hd',zB9,zBH,zBD]
       ·have n1:zE4 (U8 o.kd)=some 3:=by rw[hk];rfl
        have ep:o.part=(o.bare&&o.to.may):=by unfold Op.part;rw[if_neg (by omega),if_neg (by omega)]
        rw[ep]
        simp (disch:=try exact SX) only[RV,seval,zA0,hN.wf,hd,hsz,g0,n1,zSQ,zH0,zJ0 hS.fz,zBD]
        refine⟨rfl,rfl,rfl, ?_⟩
        refine zZK hS (by simp (disch:=try exact SX) only[RV,seval,zA0,zBD];exact wN) (by simp (disch:=try exact SX) only[RV,seval,zA0,gy,zBD])  fun N' hN'=>?_
        have hd':N'.dirty=false:=hN'.di
        cases qp:(o.bare&&o.to.may) <;> simp (disch:=try exact SX) only[RV,seval,zA0,hd',zB9,zBH,zBD]
     ·simp (disch:=try exact SX) only[RV,seval,zA0,h0,q1,q2,q4,q5,hh,zB9,zBH,z00,Bool.false_and,Bool.and_false,zBD]
    ·simp (disch:=try exact SX) only[RV,seval,zA0,h0,q1,q2,q4,hh,zB9,zBH,z00,Bool.false_and,Bool.and_false,zBD]
  ·simp (disch:=try exact SX) only[RV,seval,zA0,h0,q1,q2,zBH,Bool.false_and,Bool.and_false,zBD]
 ·simp (disch:=try exact SX) only[RV,seval,zA0,h0,q1,zBH,Bool.false_and,Bool.and_false,zBD]
def Rn.may (r:Rn):Bool:=r.sp.may&&(decide (r.af=Eid.z) || (r.af.may&&decide (r.af.c<r.sp.f.c)))&&decide ((r.rs.length:Int)=r.sp.n)&&decide (chkR r.rs=0)
theorem zCP {o:Rn}{ra:AV}(h:Fz ra)(M:Mem):icy 12 M (.agg (rnR o ra))=some (.agg (rnR o ra),M):=zAT (zaI h) (by omega) M
theorem zC4 {o:Rn}{ra:AV}(hS:Sl 1 zAS ra o.rs)(hf:100<fuel)(M:Mem):zCN fuel (d+6) 41 [.agg (rnR o ra)] M=some (I64 (err o.may),M):=by
 have ll:=hS.len
 have hc:=fun M=>@zOB fuel (d+2) o.af M
 have hs:=fun M=>@zGC fuel (d+1) o.sp M
 have hr:=fun M=>zKM (fuel:=fuel) (d:=d) hS hf M
 apply zB2
 refine zAJ tf41 rfl (by simp only[icyL,zCP hS.fz]) (by simp [a41]) fun b' ht hx=>?_
 have h0:=hx 0 _ rfl
 clear hx
 simp only[a41,c41] at ht ⊢
 unfold Rn.may
 cases q0:o.sp.may <;> rw[q0] at hs <;> simp only[Bool.false_and,Bool.true_and]
 all_goals
  cases q1:decide (o.af=Eid.z)
  ·cases q2:o.af.may <;> rw[q2] at hc
   ·simp (disch:=try exact SX) only[RV,seval,zA0,h0,hS.fz.rows,hS.fz.one,hS.fz.cells,hS.fz.icy,hS.fz.frz,↓pIdE,zAA,↓pIdN,zA9,↓pHdE,zAB,↓pHdN,zAC,↓pLbE,zA8,↓pLbN,zAD,↓pSpE,zAE,↓pSpN,zAF,ETA,q1,hc,hs,zB9,zBH,z00,z80,Bool.false_and]
   ·cases q3:decide (o.af.c<o.sp.f.c)
    ·simp (disch:=try exact SX) only[RV,seval,zA0,h0,hS.fz.rows,hS.fz.one,hS.fz.cells,hS.fz.icy,hS.fz.frz,↓pIdE,zAA,↓pIdN,zA9,↓pHdE,zAB,↓pHdN,zAC,↓pLbE,zA8,↓pLbN,zAD,↓pSpE,zAE,↓pSpN,zAF,ETA,q1,hc,hs,q3,zB9,zBH,z00,z80,Bool.false_and]
    ·cases q4:decide ((o.rs.length:Int)=o.sp.n)
     ·simp (disch:=try exact SX) only[RV,seval,zA0,h0,hS.fz.rows,hS.fz.one,hS.fz.cells,hS.fz.icy,hS.fz.frz,↓pIdE,zAA,↓pIdN,zA9,↓pHdE,zAB,↓pHdN,zAC,↓pLbE,zA8,↓pLbN,zAD,↓pSpE,zAE,↓pSpN,zAF,ETA,q1,hc,hs,q3,q4,ll,zB9,zBH,z00,z80,Bool.false_and]
     ·cases q5:decide (chkR o.rs=0)
      ·exact zB0g
      ·exact zB0g
  ·cases q4:decide ((o.rs.length:Int)=o.sp.n)
   ·simp (disch:=try exact SX) only[RV,seval,zA0,h0,hS.fz.rows,hS.fz.one,hS.fz.cells,hS.fz.icy,hS.fz.frz,↓pIdE,zAA,↓pIdN,zA9,↓pHdE,zAB,↓pHdN,zAC,↓pLbE,zA8,↓pLbN,zAD,↓pSpE,zAE,↓pSpN,zAF,ETA,q1,hc,hs,q4,ll,zB9,zBH,z00,z80,Bool.false_and]
   ·cases q5:decide (chkR o.rs=0)
    ·exact zB0i
    ·exact zB0i
def Op.rn (o:Op):Rn:=⟨o.sp,o.af,o.rs⟩
def rnZ:AV:=.agg (rnR ⟨⟨Eid.z,0⟩,Eid.z,[]⟩ NIL)
def rofE (o:Op):Int:=if o.may=true then (if o.kd=1∧o.rn.may=true then 0 else 2) else 8
def rofK (o:Op)(r:AV):Prop:=if rofE o=0 then ∃ ra,r = .tup [.agg (rnR o.rn ra),I64 0]∧Sl 1 zAS ra o.rs else r = .tup [rnZ,I64 (rofE o)]
theorem zbO {l:List Int}(h:chkR l=0):l.length≤64:=by
 unfold chkR at h
 by_cases hc:64<l.length
 ·rw[if_pos hc] at h
  cases h
 ·omega
theorem may_len {o:Op}(h:o.may=true):o.rs.length≤64:=by
 unfold Op.may Op.part Op.bare at h
 simp only[Bool.and_eq_true] at h
 have h:=h.2
 split at h
 ·simp only[Bool.and_eq_true,decide_eq_true_eq] at h
  exact zbO h.2
 ·split at h <;> simp only[Bool.and_eq_true,decide_eq_true_eq] at h <;> omega
theorem zNT {o:Op}{ra:AV}(hS:Sl 1 zAS ra o.rs)(ho:o.ok)(hf:100<fuel):∃ r,rofK o r ∧ ∀ M,zCN fuel (d+8) 20 [.agg (opR o ra)] M=some (r,M):=by
 have hc:=fun M=>@zDJ fuel d o ra hS ho hf M
 refine zEP tf20 rfl (fun M=>by simp only[icyL,zDI hS.fz]) ?_
 refine zAJ tf20 rfl (by simp only[icyL,zDI hS.fz]) (by simp [a20]) fun b' ht hx=>?_
 have h0:=hx 0 _ rfl
 clear hx
 simp only[a20,c20] at ht ⊢
 unfold rofK rofE
 cases q1:o.may with
 | false =>
  rw[q1] at hc
  simp (disch:=try exact SX) only[RV,seval,zA0,h0,hS.fz.rows,hS.fz.one,hS.fz.cells,hS.fz.icy,hS.fz.frz,zJ0 hS.fz,hc,zBH,z80,Bool.false_eq_true,if_false]
  exact⟨_,rfl,rfl⟩
 | true =>
  rw[q1] at hc
  have hl:=may_len q1
  simp (disch:=try exact SX) only[RV,seval,zA0,h0,hS.fz.rows,hS.fz.one,hS.fz.cells,hS.fz.icy,hS.fz.frz,zJ0 hS.fz,hc,zB9,z00,if_true]
  refine zLV hS (by omega) (by simp (disch:=try exact SX) only[RV,seval,zA0]) fun a' M' wf' le' kp' sm' new' wm' di'=>?_
  have hd:M'.dirty=false:=di'
  have hsz:2≤M'.size:=le'
  have g0:M'.get 0=some (.row false (opR o ra)):=by rw[kp' 0 (by show 0<2;omega)];simp (disch:=try exact SX) only[RV,seval,zA0]
  have g1:M'.get 1=some (.row false (rnR ⟨⟨Eid.z,0⟩,Eid.z,[]⟩ NIL)):=by rw[kp' 1 (by show 1<2;omega)];simp (disch:=try exact SX) only[RV,seval,zA0]
  have oa:=sm'.one
  have ca:=sm'.cells
  have rl:∀ j,rowOf a'=some j→2≤j:=new'
  have hz:∀ y∈spR o.sp++idR o.af,Fz y:=fun y hy=>(List.mem_append.1 hy).elim (zIL o.sp y) (zCH o.af y)
  have rr:=fun a2 b2 M=>@zC4 fuel (d+1) o.rn a2 b2 hf M
  simp (disch:=try exact SX) only[RV,seval,zA0,hd,g0,wf',oa,ca,zDB (zIL o.sp)]
  refine⟨rfl, ?_⟩
  cases q2:decide (o.kd=1) with
  | false =>
   have q2':=of_decide_eq_false q2
   simp (disch:=try exact SX) only[RV,seval,zA0,wf',g1]
   rw[if_neg (fun h=>q2' h.1)]
   simp only[show ((2:Int)=0)=False by decide,if_false]
   exact⟨_,rfl,rfl⟩
  | true =>
   have q2':=of_decide_eq_true q2
   simp (disch:=try exact SX) only[RV,seval,zA0,wf',oa,ca]
   refine zSN (spR o.sp++idR o.af) a' (n:=d+6) tf41 rfl hz (sm'.keep fun j hj=>?_) (by simp (disch:=try exact SX) only[RV,seval,zA0,wf']) zCM (fun a2 b2 M=>rr a2 b2 M) fun a2 N2 b2 w2 s2 k2 r2 f2=>?_
   ·have:=sm'.lt j hj
    simp (disch:=try exact SX) only[RV,seval,zA0,wf']
   have z1:N2.get 1=some (.row false (rnR ⟨⟨Eid.z,0⟩,Eid.z,[]⟩ NIL)):=by
    rw[k2 1 (fun e=>by have:=rl 1 e;omega)]
    simp (disch:=try exact SX) only[RV,seval,zA0,wf',g1]
   have z5:N2.get M'.size=some (.row false (rnR o.rn a')):=by
    rw[k2 _ (fun e=>by have:=sm'.lt _ e;omega)]
    simp (disch:=try exact SX) only[RV,seval,zA0,wf']
    rfl
   have hs2:M'.size<N2.size:=by rw[s2];simp (disch:=try exact SX) only[RV,seval,zA0];omega
   have e2:=f2 (N2.upd 1 (.row false (rnR o.rn a'))) 11 (by omega) (fun j hj=>zA2 w2 _ _ _ (fun e=>by have:=rl j hj;omega))
   cases q3:o.rn.may with
   | false =>
    simp (disch:=try exact SX) only[RV,seval,zA0,z1,z5,w2,zBH,z80,Bool.false_eq_true,and_false,if_false]
    exact⟨_,rfl,rfl⟩
   | true =>
    simp (disch:=try exact SX) only[RV,seval,zA0,z1,z5,w2,zB9,z00,and_true,q2',if_true,oa,ca,e2]
    exact⟨_,⟨a2,rfl,b2⟩,rfl⟩
def Spn.at (s:Spn)(n:Int):Eid:=⟨s.f.hd,s.f.c+n⟩
theorem zQP (x:Eid)(n:Int)(M:Mem):zCN fuel (d+1) 56 [idA x,I64 n] M=some (idA ⟨x.hd,IntKind.i64.wrap (x.c+n)⟩,M):=by
 apply zB2
 refine zAJ tf56 rfl (by simp (disch:=try exact SX) only[RV,seval,zA0]) (by simp [a56]) fun b' ht hx=>?_
 obtain⟨h0,h1⟩:=hx2 hx
 clear hx
 simp only[a56,c56] at ht ⊢
 simp (disch:=try exact SX) only[RV,seval,zA0,h0,h1]
def Spn.has (s:Spn)(x:Eid):Option Int:=if s.may=true∧x.hd=s.f.hd∧s.f.c≤x.c∧x.c<s.f.c+s.n then some (x.c - s.f.c) else none
theorem Spn.may_le {s:Spn}(h:s.may=true):1≤s.f.c∧s.f.c≤1099511627776∧1≤s.n∧s.n≤64∧s.f.c+s.n≤1099511627777:=by
 unfold Spn.may Eid.may at h
 simp only[Bool.and_eq_true,decide_eq_true_eq] at h
 omega
theorem zOU (s:Spn)(x:Eid)(M:Mem):zCN fuel (d+5) 26 [spA s,idA x] M=some (.tup [I64 ((s.has x).getD 0),BL (s.has x).isSome],M):=by
 have hc:=fun M=>@zGC fuel d s M
 have hn:=fun x n M=>@zQP fuel (d+3) x n M
 have pIdN:=@pIdN
 apply zB2
 refine zAJ tf26 rfl (by simp (disch:=try exact SX) only[RV,seval,zA0]) (by simp [a26]) fun b' ht hx=>?_
 obtain⟨h0,h1⟩:=hx2 hx
 clear hx
 simp only[a26,c26] at ht ⊢
 cases hm:s.may with
 | false =>
  rw[hm] at hc
  have e:s.has x=none:=by unfold Spn.has;rw[if_neg (by simp [hm])]
  simp (disch:=try exact SX) only[RV,seval,zA0,h0,h1,hc,zBH,z80,e,Option.getD_none,Option.isSome_none]
 | true =>
  rw[hm] at hc
  have hb:=Spn.may_le hm
  generalize hw:IntKind.i64.wrap (x.c - s.f.c)=n at *
  by_cases q1:n<0
  ·have e:s.has x=none:=by
    exact zB0J
   have q:decide (n<0)=true:=decide_eq_true q1
   simp (disch:=try exact SX) only[RV,seval,zA0,h0,h1,hc,zB9,z00,hw,q,e,Option.getD_none,Option.isSome_none]
  ·by_cases q2:s.n≤n
   ·have e:s.has x=none:=by
     exact zB0J
    have q:decide (n<0)=false:=decide_eq_false q1
    have q':decide (s.n≤n)=true:=decide_eq_true q2
    simp (disch:=try exact SX) only[RV,seval,zA0,h0,h1,hc,zB9,z00,hw,q,q',e,Option.getD_none,Option.isSome_none]
   ·have q:decide (n<0)=false:=decide_eq_false q1
    have q':decide (s.n≤n)=false:=decide_eq_false q2
    have w2:IntKind.i64.wrap (s.f.c+n)=s.f.c+n:=wrap_i64 (by omega) (by omega)
    by_cases q3:x=⟨s.f.hd,s.f.c+n⟩
    ·have e:s.has x=some n:=by
      unfold Spn.has
      rw[if_pos ⟨hm,by rw[q3],by rw[q3];show s.f.c≤s.f.c+n;omega,by rw[q3];show s.f.c+n<_;omega⟩,q3]
      congr 1
      show s.f.c+n - s.f.c=n
      omega
     have q4:decide (x=⟨s.f.hd,s.f.c+n⟩)=true:=decide_eq_true q3
     simp (disch:=try exact SX) only[RV,seval,zA0,h0,h1,hc,zB9,z00,hw,q,q',hn,w2,↓pIdN,zA9,ETA,q4,e,Option.getD_some,Option.isSome_some]
    ·have e:s.has x=none:=by
      unfold Spn.has
      rw[if_neg]
      rintro⟨_,h0,h1,h2⟩
      rw[wrap_i64 (by omega) (by omega)] at hw
      apply q3
      obtain⟨xh,xc⟩:=x
      simp only at h0 hw ⊢
      rw[h0,← hw]
      congr 1
      omega
     have q4:decide (x=⟨s.f.hd,s.f.c+n⟩)=false:=decide_eq_false q3
     simp (disch:=try exact SX) only[RV,seval,zA0,h0,h1,hc,zB9,z00,hw,q,q',hn,w2,↓pIdN,zA9,ETA,q4,e,Option.getD_none,Option.isSome_none]
theorem zIO (s:Spn)(n:Int)(M:Mem):zCN fuel (d+5) 44 [spA s,I64 n] M=some (if s.may then (if n<0∨s.n≤n then .tup [idA Eid.z,I64 2] else .tup [idA (s.at n),I64 0]) else .tup [idA Eid.z,I64 8],M):=by
 have hc:=fun M=>@zGC fuel d s M
 have hn:=fun x n M=>@zQP fuel (d+3) x n M
 apply zB2
 refine zAJ tf44 rfl (by simp (disch:=try exact SX) only[RV,seval,zA0]) (by simp [a44]) fun b' ht hx=>?_
 obtain⟨h0,h1⟩:=hx2 hx
 clear hx
 simp only[a44,c44] at ht ⊢
 cases hm:s.may with
 | false =>
  rw[hm] at hc
  simp (disch:=try exact SX) only[RV,seval,zA0,h0,h1,hc,zBH,z80,Bool.false_eq_true,if_false]
 | true =>
  rw[hm] at hc
  have hb:=Spn.may_le hm
  by_cases q1:n<0
  ·have q:decide (n<0)=true:=decide_eq_true q1
   simp (disch:=try exact SX) only[RV,seval,zA0,h0,h1,hc,zB9,z00,q,q1,true_or,if_true]
  ·have q:decide (n<0)=false:=decide_eq_false q1
   by_cases q2:s.n≤n
   ·have q':decide (s.n≤n)=true:=decide_eq_true q2
    simp (disch:=try exact SX) only[RV,seval,zA0,h0,h1,hc,zB9,z00,q,q',q1,q2,or_true,if_true]
   ·have q':decide (s.n≤n)=false:=decide_eq_false q2
    have w2:IntKind.i64.wrap (s.f.c+n)=s.f.c+n:=wrap_i64 (by omega) (by omega)
    unfold Spn.at
    simp (disch:=try exact SX) only[RV,seval,zA0,h0,h1,hc,zB9,z00,q,q',q1,q2,or_self,if_true,if_false,hn,w2]
theorem zZ5 {o:Op}{ra:AV}(hS:Sl 1 zAS ra o.rs)(hl:o.rs.length≤1000000000)(wf:Wf M)(hw:M.wm≤M.size)(k:∀ a' N,Kept M N→SlM N 1 zAS a' o.rs→(∀ id,rowOf a'=some id→M.size≤id)→Q (.agg (opR o a')) N) :
  W3 (zCN fuel (d+2) 30 [.agg (opR o ra)] M) Q:=by
 refine zBK tf30 rfl (by simp [a30]) fun b' ht hx=>?_
 have h0:=hx 0 _ rfl
 clear hx
 simp only[a30,c30] at ht ⊢
 simp (disch:=try exact SX) only[RV,seval,zA0,h0,hS.fz.rows,hS.fz.one,hS.fz.cells,hS.fz.icy,hS.fz.frz,wf]
 refine zLV hS hl (by simp (disch:=try exact SX) only[RV,seval,zA0,wf]) fun a' M' wf' le' kp' sm' new' wm' di'=>?_
 simp only[zA6] at le' kp' new'
 have g0:M'.get M.size=some (.row false (opR o ra)):=by rw[kp' _ (by omega)];simp (disch:=try exact SX) only[RV,seval,zA0,wf]
 have g1:M'.get (M.size+1)=some (.row false (opR ⟨0,Hd.z,0,⟨Eid.z,0⟩,Eid.z,Lb.z,[]⟩ NIL)):=by rw[kp' _ (by omega)];simp (disch:=try exact SX) only[RV,seval,zA0,wf]
 have oa:=sm'.one
 have ca:=sm'.cells
 have rl:=zAN sm'.rl (Nat.le_refl M'.size)
 have z0:M.size<M'.size:=by omega
 have z1:M.size+1<M'.size:=by omega
 simp (disch:=try exact SX) only[RV,seval,zA0,h0,wf',g0,g1,oa,ca,z0,z1]
 have kM':Kept M M':=⟨wf',by omega,fun j hj=>by rw[kp' j (by omega),zAK (wf.add _) _ _ (by rw[zA6];omega),zAK wf _ _ hj],wm',di'⟩
 refine k a' _ ((kM'.upd hw (Nat.le_refl _) _).upd hw (by omega) _) (sm'.keep fun j hj=>?_) (fun id h=>by have:=new' id h;omega)
 have:=new' j hj
 simp (disch:=try exact SX) only[RV,seval,zA0,wf']
def Spn.ids (s:Spn):List Eid:=(List.range s.n.toNat).map fun (i:Nat)=>s.at i
theorem zMR {s:Spn}(hs:s.ok)(hm:s.may=true)(i:Nat)(hi:i<s.n.toNat):(s.at i).ok:=by
 have:=Spn.may_le hm
 exact⟨hs.1.1,by show -9223372036854775808≤s.f.c+i;omega,by show s.f.c+i≤_;omega⟩
theorem zIR {s:Spn}(hs:s.ok)(hm:s.may=true)(hf:100<fuel):∃ r,Sl 4 zF0 r s.ids ∧ ∀ M,zCN fuel (d+6) 59 [spA s] M=some (r,M):=by
 have hb:=Spn.may_le hm
 obtain⟨m,hmn⟩:∃ m:Nat,s.n=m:=⟨s.n.toNat,by omega⟩
 have ei:s.ids=(List.range m).map fun (i:Nat)=>s.at i:=by unfold Spn.ids;rw[hmn];rfl
 have hat:=fun n M=>@zIO fuel d s n M
 simp only[hm,if_true] at hat
 rw[ei]
 refine zEP tf59 rfl (fun M=>by simp only[icyL,zAT (zIL s) (show 1<12 by omega)]) ?_
 refine zAJ tf59 rfl (by simp only[icyL,zAT (zIL s) (show 1<12 by omega)]) (by simp [a59]) fun b' ht hx=>?_
 have h0:=hx 0 _ rfl
 clear hx
 simp only[a59,c59] at ht ⊢
 simp (disch:=try exact SX) only[RV,seval,zA0,h0,hmn]
 refine zAZ (I:=fun n t N => ∃ (i:Nat) (o:AV),n=m - i∧i≤m∧nth zA1 t 1 = .ptr 0 0∧nth zA1 t 2=o∧nth zA1 t 7=I64 m∧nth zA1 t 8=I64 i∧Wf N∧N.get 0=some (.row false (spR s))∧SlM N 4 zF0 o ((List.range i).map fun (j:Nat)=>s.at j)∧(∀ j,rowOf o=some j→0<j)) (n:=m) (by omega) ?_ ?_
 ·refine⟨0,NIL,rfl,Nat.zero_le _, ?_, ?_, ?_, ?_,Wf.mem0.add _,by simp (disch:=try exact SX) only[RV,seval,zA0],SlM.nil,(fun _ h=>by cases h)⟩ <;> simp (disch:=try exact SX) only[RV,seval,zA0,h0,hmn]
  all_goals first | rfl | assumption | done
 ·rintro n t N hlt ⟨i,o,rfl,hi,g1,g2,g7,g8,w,g,sm,ro⟩
  simp only[ht] at hlt ⊢
  by_cases hc:i<m
  ·have q1:decide ((i:Int)<m)=true:=DT
   have hi':¬((i:Int)<0∨s.n≤i):=by omega
   have hat:=fun M=>hat i M
   simp only[hi',if_false] at hat
   have ok:=zMR hs hm i (by omega)
   have lN:=Mem.get_lt g
   have w1:IntKind.i64.wrap ((i:Int)+1)=((i+1:Nat):Int):=WI
   have oo:=sm.one
   have co:=sm.cells
   simp (disch:=try exact SX) only[RV,seval,zA0,g1,g2,g7,g8,q1,w,g,hat,oo,co]
   refine⟨zAN sm.rl (by omega), ?_⟩
   refine app1 ((w.add _).upd _ _) (sm.keep fun j hj=>?_) zGE (x:=s.at i) ⟨rfl,ok⟩ rfl (by omega) (by simp;omega) (by simp;omega) fun o' M' m' w' le' kp' nw' wm' rl' on' oc'=>?_
   ·have:=sm.lt j hj
    exact zB0s
   simp only[zAH,zA6] at le' kp' nw'
   simp (disch:=try exact SX) only[RV,seval,zA0,g1,g2,g7,g8,w1]
   refine⟨hlt,m - (i+1),by omega,i+1,o',rfl,by omega,rfl,rfl,w', ?_, ?_,fun j hj=>?_⟩
   ·rw[kp' 0 (by omega) (fun e=>by have:=ro 0 e;omega)]
    simp (disch:=try exact SX) only[RV,seval,zA0,w,g]
   ·rw[List.range_succ,List.map_append];exact m'
   ·exact zB0o
  ·obtain rfl:i=m:=by omega
   have q1:decide ((i:Int)<i)=false:=DF
   obtain⟨rr,hz,hr⟩:=sm.frz zGE.cel (k:=12) (by omega)
   simp (disch:=try exact SX) only[RV,seval,zA0,g1,g2,g7,g8,q1,hz]
   exact⟨rr,hr,rfl⟩
def cM1:ACode:=(.region [⟨some 8,.alloc 25 (.agg #[(.int .u8 0),(.int .u32 0)]),none,[]⟩,⟨none,.store 2 (.tmp 8) (.tmp 17),none,[]⟩] false)
def cM2:ACode:=(.block 1 (.seq (.region [⟨some 18,.load 1 false (.tmp 7),none,[]⟩,⟨some 19,.load 2 true (.tmp 8),none,[]⟩,⟨some 20,.call (.func 138) [(.tmp 18),(.tmp 19)],none,[]⟩,⟨some 21,.pur (mkO (.unOp .not 4 (.tmp 20)) 4),none,[]⟩] false) (.cond (.tmp 21) (.region [⟨some 22,.load 1 false (.tmp 7),none,[]⟩,⟨some 23,.load 2 true (.tmp 8),none,[]⟩,⟨some 24,.bsl 25 2 (.agg #[(.int .u8 0),(.int .u32 0)]) 1 [(0,2,(.tmp 23))],none,[]⟩,⟨some 25,.app 25 2 8 (.agg #[(.int .u8 0),(.int .u32 0)]) (.tmp 22) (.tmp 24),none,[]⟩,⟨none,.store 1 (.tmp 7) (.tmp 25),none,[]⟩] false) .skip)))
def addL (out:List Lb)(x:Lb):List Lb:=if out.any (fun y=>decide (x=y)) then out else out++[x]
structure MI (M:Mem) (tm:List AV) (a:AV) (x:Eid) (v:Lb) (o:AV) (out:List Lb):Prop where
 wf:Wf M
 sz:9≤M.size
 g3:M.get 3=some (.row false [o])
 g4:M.get 4=some (.row false [a])
 g5:M.get 5=some (.row false (idR x))
 g6:M.get 6=some (.row false (lbR v))
 g7:M.get 7=some (.dfr false)
 g8:M.get 8=some (.loop .ready none tm [17] cM1 cM2 7)
 sm:SlM M 2 isLb o out
 ro:∀ j,rowOf o=some j→j=2∨9≤j
variable {tm : List AV} {a o : AV} {x : Eid} {v : Lb} {out : List Lb}
theorem MI.keep {N:Mem}(h:MI M tm a x v o out)(wf:Wf N)(hs:M.size≤N.size)(k:∀ j,j<M.size→N.get j=M.get j):MI N tm a x v o out:=by
 have:=h.sz
 exact⟨wf,by omega,(k 3 (by omega)).trans h.g3,(k 4 (by omega)).trans h.g4,(k 5 (by omega)).trans h.g5,(k 6 (by omega)).trans h.g6,(k 7 (by omega)).trans h.g7,(k 8 (by omega)).trans h.g8,h.sm.keep fun j hj=>k j (h.sm.lt j hj),h.ro⟩
theorem MI.back {X:Mem}{o':AV}{out':List Lb}(h:MI M tm a x v o out)(wX:Wf X)(hs:M.size≤X.size)(x3:X.get 3=some (.row false [o']))(gX:∀ j,j<9→j≠2→j≠3→j≠8→X.get j=M.get j)(sm:SlM X 2 isLb o' out')(ro:∀ j,rowOf o'=some j→j=2∨9≤j):MI (X.upd 8 (.loop .ready none tm [17] cM1 cM2 7)) tm a x v o' out':=by
 have:=h.sz
 have u:∀ j,j≠8→(X.upd 8 (.loop .ready none tm [17] cM1 cM2 7)).get j=X.get j:=fun j hj=>zA2 wX _ _ _ (fun e=>hj e.symm)
 exact⟨wX.upd _ _,by rw[zAH];omega,(u 3 (by omega)).trans x3,((u 4 (by omega)).trans (gX 4 (by omega) (by omega) (by omega) (by omega))).trans h.g4,((u 5 (by omega)).trans (gX 5 (by omega) (by omega) (by omega) (by omega))).trans h.g5,((u 6 (by omega)).trans (gX 6 (by omega) (by omega) (by omega) (by omega))).trans h.g6,((u 7 (by omega)).trans (gX 7 (by omega) (by omega) (by omega) (by omega))).trans h.g7,zAI wX _ _ (by omega),sm.keep fun j hj=>u j (by have:=ro j hj;omega),ro⟩
theorem zfG {to:Lb}(h:MI M tm a x v o out)(h7:nth zA1 tm 7 = .ptr 3 0)(hlen:tm.length=27)(ht:to.ok)(hn:out.length≤100000)(hf:out.length<fuel)
  (k:∀ o' N,MI N tm a x v o' (addL out to)→M.size≤N.size→Q (BL true) N) :
  W3 (zAR Tryz.prog (fsT tbl) fuel (d+3) (.yl 8) [lbA to] M) Q:=by
 have l3:=Mem.get_lt h.g3
 have g3:=h.g3
 have g8:=h.g8
 have wf:=h.wf
 have sz:=h.sz
 have sm:=h.sm
 have ro:=h.ro
 have oo:=sm.one
 have oc:=sm.cells
 refine zbK h.g8 rfl ?_
 have e1:zFT tm [17] [lbA to]=St tm [(17,lbA to)]:=rfl
 rw[e1]
 unfold cM1 cM2
 simp (disch:=try exact SX) only[RV,seval,zA0,h7,wf]
 refine⟨tm,[17],_,_,7,g8, ?_⟩
 generalize hX:((M.add _).upd M.size _).upd 8 _=X
 have wX:Wf X:=by rw[← hX];exact((wf.add _).upd _ _).upd _ _
 have sX:X.size=M.size+1:=by rw[← hX];rfl
 have gX:∀ j,j<M.size→j≠8→X.get j=M.get j:=fun j a b=>by
  rw[← hX,zA2 ((wf.add _).upd _ _) _ _ _ (fun e=>b e.symm),zA2 (wf.add _) _ _ _ (by omega),zAK wf _ _ a]
 have x8:X.get 8=some (.loop .busy none tm [17] cM1 cM2 7):=by
  rw[← hX,zAI ((wf.add _).upd _ _) _ _ (by rw[zAH,zA6];omega)]
 have xM:X.get M.size=some (.row false (lbR to)):=by
  rw[← hX,zA2 ((wf.add _).upd _ _) _ _ _ (by omega),zAI (wf.add _) _ _ (by rw[zA6];omega)]
 have lM:M.size<X.size:=by omega
 have l3':3<X.size:=by omega
 have x3:X.get 3=some (.row false [o]):=(gX 3 l3 (by omega)).trans g3
 have smX:SlM X 2 isLb o out:=sm.keep fun j hj=>gX j (sm.lt j hj) (by have:=ro j hj;omega)
 have hcn:=zY1 (P:=Tryz.prog) (fs:=fsT tbl) (fuel:=fuel) (n:=d) (v:=lbR to) tf138 tf141 zL8 smX wX (by omega) (by omega) (by omega) (zCO to) rfl @pLbE (p:=fun y=>decide (to=y)) (fun dd r y hy _=>by rw[hy.1];exact zA8 dd to.lv to.cats y.lv y.cats)
 unfold addL at k
 cases hb:out.any (fun y=>decide (to=y)) with
 | true =>
  rw[hb] at hcn k
  simp (disch:=try exact SX) only[RV,seval,zA0,h7,g3,x3,xM,oo,oc,hcn]
  rw[if_pos rfl] at k
  exact⟨wX,_,_,_,_,_,_,_,x8,k o _ (h.back wX (by omega) x3 (fun j a b c e=>gX j (by omega) e) smX ro) (by rw[zAH];omega)⟩
 | false =>
  rw[hb] at hcn k
  rw[if_neg (by decide)] at k
  simp (disch:=try exact SX) only[RV,seval,zA0,h7,g3,x3,xM,oo,oc,hcn,wX]
  refine⟨zAN smX.rl (by omega), ?_⟩
  refine app1 wX smX zL8 (x:=to) ⟨rfl,ht⟩ rfl (by omega) (by omega) (by omega) fun o' M' m' w' le' kp' nw' wm' rl' on' oc'=>?_
  have ro':∀ j,rowOf o'=some j→j=2∨9≤j:=fun j hj=>by
   exact zB0o
  have z3:M'.get 3=some (.row false [o]):=(kp' 3 (by omega) (fun e=>by have:=ro 3 e;omega)).trans x3
  have z8:=(kp' 8 (by omega) (fun e=>by have:=ro 8 e;omega)).trans x8
  have l3:3<M'.size:=by omega
  simp (disch:=try exact SX) only[RV,seval,zA0,h7,z3,z8,w',on',oc']
  refine⟨_,_,_,_,_,_,_,rfl,k o' _ (h.back (w'.upd _ _) (by rw[zAH];omega) (zAI w' _ _ (by omega)) (fun j a b c e=>?_) (m'.keep fun j hj=>zA2 w' _ _ _ (by have:=ro' j hj;omega)) ro') (by simp only[zAH];omega)⟩
  rw[zA2 w' _ _ _ (fun e=>c e.symm),kp' j (by omega) (fun e=>by have:=ro j e;omega)]
  exact gX j (by omega) e
variable {l : List Op}
def zEL (x:Eid)(v:Lb)(o:Op):Bool:=decide (o.kd=3)&&(o.sp.has x).isSome&&o.hd.lb.leq v
def zCD (l:List Op)(x:Eid)(v:Lb):List Lb:=(l.filter (zEL x v)).map (·.to)
def made (l:List Op)(x:Eid)(v:Lb):List Lb:=(zCD l x v).foldl addL [x.hd.lb]
theorem zWN (out:List Lb)(x:Lb):(addL out x).length≤out.length+1:=by
 unfold addL
 split
 ·omega
 ·simp
theorem zHW:∀ (r:List Lb) (out:List Lb),(r.foldl addL out).length≤out.length+r.length
 | [],out=>by simp
 | y::r,out=>by
  have h1:=zHW r (addL out y)
  have h2:=zWN out y
  simp only[List.foldl_cons,List.length_cons]
  omega
theorem zFD (l:List Op)(x:Eid)(v:Lb):(zCD l x v).length≤l.length:=by
 unfold zCD
 rw[List.length_map]
 exact List.length_filter_le _ _
theorem take_snoc {α:Type}(l:List α)(i:Nat)(h:i<l.length):l.take (i+1)=l.take i++[l[i]]:=by
 rw[List.take_add_one,List.getElem?_eq_getElem h];rfl
theorem zJK (l:List Op)(o:Op)(x:Eid)(v:Lb):zCD (l++[o]) x v=zCD l x v++(if zEL x v o then [o.to] else []):=by
 unfold zCD
 rw[List.filter_append,List.map_append]
 cases h:zEL x v o <;> simp [h]
theorem zVP {o0:AV}(hS:Sl 17 isOp a l)(hl:l.length≤50000)(hn:out.length≤50000)(hf:l.length+out.length<fuel)(h:MI M tm a x v o0 out)(h7:nth zA1 tm 7 = .ptr 3 0)(hlen:tm.length=27)
  (k:∀ u o' N,MI N tm a x v o' ((zCD l x v).foldl addL out)→Q u N) :
  W3 (zCN fuel (d+6) 143 [.yl 8,.ptr 4 0,.ptr 5 0,.ptr 6 0] M) Q:=by
 have ll:=hS.len
 have g4':=h.g4
 have l4:=Mem.get_lt g4'
 refine zBK tf143 rfl (by simp [a143]) fun b' ht hx=>?_
 obtain⟨h0,h1,h2⟩:=hx3 hx
 have h3:=hx 3 _ rfl
 clear hx
 simp only[a143,c143] at ht ⊢
 simp (disch:=try exact SX) only[RV,seval,zA0,h0,h1,h2,h3,g4',ll,hS.fz.rows,hS.fz.one,hS.fz.cells,hS.fz.icy,hS.fz.frz]
 refine zAZ (I:=fun n t N => ∃ (i:Nat) (o:AV),n=l.length - i∧i≤l.length∧nth zA1 t 0 = .yl 8∧nth zA1 t 1 = .ptr 4 0∧nth zA1 t 2 = .ptr 5 0∧nth zA1 t 3 = .ptr 6 0∧nth zA1 t 9=a∧nth zA1 t 10=I64 l.length∧nth zA1 t 11=I64 i∧MI N tm a x v o ((zCD (l.take i) x v).foldl addL out)) (n:=l.length) (by omega) ?_ ?_
 ·refine⟨0,o0,rfl,Nat.zero_le _, ?_, ?_, ?_, ?_, ?_, ?_, ?_,h⟩ <;> simp (disch:=try exact SX) only[RV,seval,zA0,h0,h1,h2,h3,g4',ll]
  all_goals first | rfl | assumption | done
 ·rintro n t N hlt ⟨i,o,rfl,hi,g0,g1,g2,g3,g9,g10,g11,m⟩
  simp only[ht] at hlt ⊢
  clear h0 h1 h2 h3 ht b'
  by_cases hc:i<l.length
  ·have q1:decide ((i:Int)<l.length)=true:=DT
   have w1:IntKind.i64.wrap ((i:Int)+1)=((i+1:Nat):Int):=WI
   obtain⟨r,hiad,hr,hrl⟩:=hS.iad i hc
   have hsn:=zJK (l.take i) l[i] x v
   rw[← take_snoc l i hc] at hsn
   have b1:=zHW (zCD (l.take i) x v) out
   have b2:=zFD (l.take i) x v
   rw[List.length_take] at b2
   generalize l[i]=e at *
   obtain⟨ra,rfl,hra,hok⟩:=hr
   have ora:=hra.one
   have wf:=m.wf
   have sz:=m.sz
   have m5:=m.g5
   have m6:=m.g6
   have l5:=Mem.get_lt m5
   have l6:=Mem.get_lt m6
   have hh:=fun M=>@zOU fuel d e.sp x M
   have hle:=fun M=>@zLJ fuel (d+4) e.hd.lb v M
   have mA:MI ((N.add (.row false (opR ⟨0,Hd.z,0,⟨Eid.z,0⟩,Eid.z,Lb.z,[]⟩ NIL))).upd N.size (.row false (opR e ra))) tm a x v o ((zCD (l.take i) x v).foldl addL out):=m.keep ((wf.add _).upd _ _) (by rw[zAH,zA6];omega) (fun j hj=>by rw[zA2 (wf.add _) _ _ _ (by omega),zAK wf _ _ hj])
   cases c1:decide (e.kd=3) with
   | false =>
    have hcc:zEL x v e=false:=by unfold zEL;rw[c1];rfl
    rw[hcc,if_neg (by decide),List.append_nil] at hsn
    cases c2:(e.sp.has x).isSome <;> rw[c2] at hh
    all_goals
     exact zB0j
   | true =>
    cases c2:(e.sp.has x).isSome <;> rw[c2] at hh
    ·have hcc:zEL x v e=false:=by unfold zEL;rw[c1,c2];rfl
     rw[hcc,if_neg (by decide),List.append_nil] at hsn
     exact zB0j
    ·cases c3:e.hd.lb.leq v <;> rw[c3] at hle
     ·have hcc:zEL x v e=false:=by unfold zEL;rw[c1,c2,c3];rfl
      rw[hcc,if_neg (by decide),List.append_nil] at hsn
      simp (disch:=try exact SX) only[RV,seval,zA0,g0,g1,g2,g3,g9,g10,g11,q1,hiad,hra.fz.rows,hra.fz.one,hra.fz.cells,hra.fz.icy,hra.fz.frz,wf,m5,m6,hh,c1,hle,w1]
      exact⟨hlt,l.length - (i+1),by omega,i+1,o,rfl,by omega,rfl,by rw[hsn];exact mA⟩
     ·have hcc:zEL x v e=true:=by unfold zEL;rw[c1,c2,c3];rfl
      rw[hcc,if_pos rfl] at hsn
      simp (disch:=try exact SX) only[RV,seval,zA0,g0,g1,g2,g3,g9,g10,g11,q1,hiad,hra.fz.rows,hra.fz.one,hra.fz.cells,hra.fz.icy,hra.fz.frz,wf,m5,m6,hh,c1,hle]
      refine zfG (d:=d+2) mA h7 hlen hok.2.2.2.2.2.1 (by omega) (by omega) fun o' N' m' le'=>?_
      simp (disch:=try exact SX) only[RV,seval,zA0,g0,g1,g2,g3,g9,g10,g11,w1]
      exact⟨hlt,l.length - (i+1),by omega,i+1,o',rfl,by omega,rfl,by rw[hsn,List.foldl_append];exact m'⟩
  ·obtain rfl:i=l.length:=by omega
   have q1:decide ((l.length:Int)<l.length)=false:=DF
   rw[List.take_length] at m
   simp (disch:=try exact SX) only[RV,seval,zA0,g9,g10,g11,q1]
   exact k _ _ _ m
theorem zZN (hS:Sl 17 isOp a l)(wf:Wf M)(k:Q (.fn 143 [] [.ptr M.size 0,.ptr (M.size+1) 0,.ptr (M.size+1+1) 0]) (((M.add (.row false [a])).add (.row false (idR x))).add (.row false (lbR v)))) :
  W3 (zCN fuel (d+1) 142 [a,idA x,lbA v] M) Q:=by
 have oa:=hS.one
 refine zBK tf142 rfl (by simp [a142]) fun b' ht hx=>?_
 obtain⟨h0,h1,h2⟩:=hx3 hx
 clear hx
 simp only[a142,c142] at ht ⊢
 simp (disch:=try exact SX) only[RV,seval,zA0,h0,h1,h2,hS.fz.rows,hS.fz.one,hS.fz.cells,hS.fz.icy,hS.fz.frz,wf]
 exact k
theorem zSH {X:Mem}{tm:List AV}{o0:AV}{out:List Lb}(hS:Sl 17 isOp a l)(hl:l.length≤50000)(hn:out.length≤50000)(hf:l.length+out.length<fuel)(w:Wf X)(h7:nth zA1 tm 7 = .ptr 3 0)(hlen:tm.length=27)(hX:X.size=7)(g3:X.get 3=some (.row false [o0]))(g4:X.get 4=some (.row false [a]))(g5:X.get 5=some (.row false (idR x)))(g6:X.get 6=some (.row false (lbR v)))(sm:SlM X 2 isLb o0 out)(ro:∀ j,rowOf o0=some j→j=2)
  (k:∀ u o' N,MI N tm a x v o' ((zCD l x v).foldl addL out)→Q u N) :
  W3 (zCN fuel (d+6) 143 ([]++[.yl (X.size+1)]++[.ptr 4 0,.ptr 5 0,.ptr 6 0]) ((X.add (.dfr false)).add (.loop .ready none tm [17] cM1 cM2 X.size))) Q:=by
 have w1:=w.add (.dfr false)
 have u:∀ j,j<7→((X.add (.dfr false)).add (.loop .ready none tm [17] cM1 cM2 X.size)).get j=X.get j:=fun j hj=>by
  rw[zAK w1 _ _ (by rw[zA6];omega),zAK w _ _ (by omega)]
 have e:X.size+1=8:=by omega
 have key:=zVP (d:=d) (fuel:=fuel) (Q:=Q) (M:=(X.add (.dfr false)).add (.loop .ready none tm [17] cM1 cM2 X.size)) (x:=x) (v:=v) (o0:=o0) (out:=out) hS hl hn hf ⟨w1.add _,by simp only[zA6];omega,(u 3 (by omega)).trans g3,(u 4 (by omega)).trans g4,(u 5 (by omega)).trans g5,(u 6 (by omega)).trans g6,by rw[zAK w1 _ _ (by rw[zA6];omega),← hX];exact zAM w _ _ (Nat.le_refl _) (Nat.lt_succ_self _),by
   have:=zAM w1 (.loop .ready none tm [17] cM1 cM2 X.size) 8 (by rw[zA6];omega) (by rw[zA6];omega)
   rw[hX] at this ⊢
   exact this,sm.keep fun j hj=>u j (by have:=ro j hj;omega),fun j hj => .inl (ro j hj)⟩ h7 hlen k
 rw[← e] at key
 exact key
theorem zYM (hS:Sl 17 isOp a l)(hl:l.length≤40000)(hf:l.length+100<fuel)(hx:x.ok):∃ r,Sl 2 isLb r (made l x v) ∧ ∀ M,zCN fuel (d+7) 139 [a,idA x,lbA v] M=some (r,M):=by
 have oa:=hS.one
 refine zEP tf139 rfl (fun M=>by simp only[icyL,fun M=>hS.icy M 12 (by omega),zAT (zCH x) (show 1<12 by omega),zAT (zCO v) (show 1<12 by omega)]) ?_
 refine zAJ tf139 rfl (by simp only[icyL,fun M=>hS.icy M 12 (by omega),zAT (zCH x) (show 1<12 by omega),zAT (zCO v) (show 1<12 by omega)]) (by simp [a139]) fun b' ht hx=>?_
 obtain⟨h0,h1,h2⟩:=hx3 hx
 clear hx
 simp only[a139,c139] at ht ⊢
 simp (disch:=try exact SX) only[RV,seval,zA0,h0,h1,h2,hS.fz.rows,hS.fz.one,hS.fz.cells,hS.fz.icy,hS.fz.frz]
 refine zZN hS (by simp (disch:=try exact SX) only[RV,seval,zA0]) ?_
 simp (disch:=try exact SX) only[RV,seval,zA0,h0,h1,h2,hS.fz.rows,hS.fz.one,hS.fz.cells,hS.fz.icy,hS.fz.frz]
 refine ze1 (g:=143) (first:=[]) (cap:=[.ptr 4 0,.ptr 5 0,.ptr 6 0]) (by simp (disch:=try exact SX) only[RV,seval,zA0]) (by simp (disch:=try exact SX) only[RV,seval,zA0]) ?_
 refine zSH (x:=x) (v:=v) (out:=[x.hd.lb]) (o0:=.sl 2 0 1 (some 1) 2) (d:=d) hS (by omega) (by simp) (by simp;omega) ?_ ?_ ?_ ?_ ?_ ?_ ?_ ?_ ?_ ?_ fun u o N m=>?_
 ·exact zB07
 ·exact zB07
 ·rw[zMB];exact ht
 ·exact zB07
 ·exact zB07
 ·exact zB07
 ·exact zB07
 ·exact zB07
 ·refine .inr ⟨2,[lbR x.hd.lb],some 1,rfl,.inr rfl, ?_,.cons ⟨rfl,hx.1.1⟩ .nil,by simp⟩
  simp (disch:=try exact SX) only[RV,seval,zA0]
  rfl
 ·rintro j ⟨⟩
  rfl
 ·have g3:=m.g3
  have l3:=Mem.get_lt g3
  have g7:=m.g7
  have wf:=m.wf
  have sm:=m.sm
  have ro:=m.ro
  have oo:=sm.one
  have sz:=m.sz
  refine⟨wf,by have:=m.sz;simp only[zA6,zAH,zBP];omega,_,_,_,_,_,m.g8, ?_⟩
  generalize hX:N.upd _ _=X
  have wX:Wf X:=by rw[← hX];exact wf.upd _ _
  have gX:∀ j,j≠8→X.get j=N.get j:=fun j hj=>by rw[← hX];exact zA2 wf _ _ _ (fun e=>hj e.symm)
  have x3:=(gX 3 (by omega)).trans g3
  have x7:=(gX 7 (by omega)).trans g7
  have l3':=Mem.get_lt x3
  have l7':=Mem.get_lt x7
  simp (disch:=try exact SX) only[RV,seval,zA0,x3,oo,wX]
  refine zL2 wX x7 ?_
  obtain⟨rr,hz,hr⟩:=(sm.keep fun j hj=>by rw[zA2 wX _ _ _ (by have:=ro j hj;omega)];exact gX j (by have:=ro j hj;omega):SlM (X.upd 7 (.dfr true)) 2 isLb o _).frz zL8.cel (k:=12) (by omega)
  simp (disch:=try exact SX) only[RV,seval,zA0,hz]
  exact⟨rr,hr,rfl⟩
def zEO (ls:List Lb)(b:Lb):Bool:=ls.any fun y=>decide (b=y)
def zCE (pre:List Op)(o:Op):Bool:=if o.kd=3 then o.hd.lb.leq o.to&&(o.sp.ids.all fun id=>zEO (made pre id o.hd.lb) o.hd.lb) else true
theorem may_sp {o:Op}(h:o.may=true):o.sp.may=true:=by
 unfold Op.may at h
 simp only[Bool.and_eq_true] at h
 exact h.1.2
theorem zQM (l:List Op)(x:Eid)(v:Lb):(made l x v).length≤l.length+1:=by
 have h1:=zHW (zCD l x v) [x.hd.lb]
 have h2:=zFD l x v
 unfold made
 simp only[List.length_singleton] at h1
 omega
theorem zLC (s:Spn):s.ids.length=s.n.toNat:=(List.length_map _).trans List.length_range
theorem zOT (s:Spn)(i:Nat)(h:i<s.ids.length):s.ids[i]=s.at i:=(List.getElem_map _).trans (by rw[List.getElem_range])
theorem zQ5 {o:Op}{ra:AV}(hS:Sl 17 isOp a l)(hl:l.length≤40000)(hf:l.length+200<fuel)(hR:Sl 1 zAS ra o.rs)(ho:o.ok)(hm:o.may=true)(M:Mem):zCN fuel (d+8) 130 [a,.agg (opR o ra)] M=some (BL (zCE l o),M):=by
 have ora:=hR.one
 have hsm:=may_sp hm
 have hb:=Spn.may_le hsm
 obtain⟨m,hmn⟩:∃ m:Nat,o.sp.n=m:=⟨o.sp.n.toNat,by omega⟩
 have il:o.sp.ids.length=m:=by rw[zLC,hmn];rfl
 have hat:=fun n M=>@zIO fuel (d+2) o.sp n M
 simp only[hsm,if_true] at hat
 have hle:=fun M=>@zLJ fuel (d+6) o.hd.lb o.to M
 apply zB2
 refine zEU tf130 rfl (by simp only[icyL,fun M=>hS.icy M 12 (by omega),zDI hR.fz]) (by simp [a130]) fun b' ht hx=>?_
 obtain⟨h0,h1⟩:=hx2 hx
 clear hx
 simp only[a130,c130] at ht ⊢
 unfold zCE
 by_cases q3:o.kd=3
 ·have k3:decide (o.kd=3)=true:=decide_eq_true q3
  rw[if_pos q3]
  simp (disch:=try exact SX) only[RV,seval,zA0,h0,h1,hS.fz.rows,hS.fz.one,hS.fz.cells,hS.fz.icy,hS.fz.frz,hR.fz.rows,hR.fz.one,hR.fz.cells,hR.fz.icy,hR.fz.frz,k3,hle,hmn,zBD]
  refine zAZ (I:=fun n t N => ∃ (i:Nat),n=m - i∧i≤m∧nth zA1 t 0=a∧nth zA1 t 3 = .ptr 0 0∧nth zA1 t 5=BL (o.hd.lb.leq o.to&&(o.sp.ids.take i).all fun id=>zEO (made l id o.hd.lb) o.hd.lb)∧nth zA1 t 20=I64 m∧nth zA1 t 21=I64 i∧Wf N∧N.get 0=some (.row false (opR o ra))) (n:=m) (by omega) ?_ ?_
  ·refine⟨0,rfl,Nat.zero_le _, ?_, ?_, ?_, ?_, ?_,Wf.mem0.add _,by simp (disch:=try exact SX) only[RV,seval,zA0]⟩ <;> simp (disch:=try exact SX) only[RV,seval,zA0,h0,h1,hmn,Bool.and_true]
   all_goals first | rfl | assumption | done
  ·rintro n t N hlt ⟨i,rfl,hi,g0,g3,g5,g20,g21,w,g⟩
   simp only[ht] at hlt ⊢
   by_cases hc:i<m
   ·have q1:decide ((i:Int)<m)=true:=DT
    have hi':¬((i:Int)<0∨o.sp.n≤i):=by omega
    have hat:=fun M=>hat i M
    simp only[hi',if_false] at hat
    have ok:=zMR ho.2.2.2.1 hsm i (by omega)
    have lN:=Mem.get_lt g
    have w1:IntKind.i64.wrap ((i:Int)+1)=((i+1:Nat):Int):=WI
    obtain⟨r,hr,hmade⟩:=zYM (fuel:=fuel) (d:=d) (x:=o.sp.at i) (v:=o.hd.lb) hS hl (by omega) ok
    have hml:=zQM l (o.sp.at i) o.hd.lb
    have hcn:∀ M,zCN fuel (d+7) 138 [r,lbA o.hd.lb] M=some (BL (zEO (made l (o.sp.at i) o.hd.lb) o.hd.lb),M):=fun M=>zUD (P:=Tryz.prog) (fs:=fsT tbl) (fuel:=fuel) (n:=d+5) (v:=lbR o.hd.lb) tf138 tf141 zL8 hr (by omega) (by omega) (by omega) (zCO o.hd.lb) rfl @pLbE (p:=fun y=>decide (o.hd.lb=y)) (fun dd r y hy _=>by rw[hy.1];exact zA8 dd o.hd.lb.lv o.hd.lb.cats y.lv y.cats) M
    have hsn:(o.sp.ids.take (i+1)).all (fun id=>zEO (made l id o.hd.lb) o.hd.lb)=((o.sp.ids.take i).all (fun id=>zEO (made l id o.hd.lb) o.hd.lb)&&zEO (made l (o.sp.at i) o.hd.lb) o.hd.lb):=by
     rw[take_snoc _ i (by omega),List.all_append,zOT];simp
    have hall:∀ b,b=(o.hd.lb.leq o.to&&(o.sp.ids.take (i+1)).all fun id=>zEO (made l id o.hd.lb) o.hd.lb)→b=false→(o.hd.lb.leq o.to&&o.sp.ids.all fun id=>zEO (made l id o.hd.lb) o.hd.lb)=false:=by
     intro b hb1 hb2
     rw[hb2] at hb1
     rw[← List.take_append_drop (i+1) o.sp.ids,List.all_append,← Bool.and_assoc,← hb1,Bool.false_and]
    have orr:=hr.one
    cases hb:(o.hd.lb.leq o.to&&(o.sp.ids.take i).all fun id=>zEO (made l id o.hd.lb) o.hd.lb) with
    | false =>
     rw[hb] at g5
     have hal:=hall _ rfl (by rw[hsn,← Bool.and_assoc,hb,Bool.false_and])
     simp (disch:=try exact SX) only[RV,seval,zA0,g0,g3,g5,g20,g21,hS.fz.rows,hS.fz.one,hS.fz.cells,hS.fz.icy,hS.fz.frz,q1,w,g,hat,zBD]
     rw[hal]
    | true =>
     rw[hb] at g5
     cases hcc:zEO (made l (o.sp.at i) o.hd.lb) o.hd.lb with
     | false =>
      rw[hcc] at hcn
      have hal:=hall _ rfl (by rw[hsn,hcc,Bool.and_false,Bool.and_false])
      simp (disch:=try exact SX) only[RV,seval,zA0,g0,g3,g5,g20,g21,hS.fz.rows,hS.fz.one,hS.fz.cells,hS.fz.icy,hS.fz.frz,hr.fz.rows,hr.fz.one,hr.fz.cells,hr.fz.icy,hr.fz.frz,q1,w,g,hat,hmade,hcn,zBD]
      rw[hal]
     | true =>
      rw[hcc] at hcn
      have hal:(o.hd.lb.leq o.to&&(o.sp.ids.take (i+1)).all fun id=>zEO (made l id o.hd.lb) o.hd.lb)=true:=by rw[hsn,hcc,Bool.and_true];exact hb
      simp (disch:=try exact SX) only[RV,seval,zA0,g0,g3,g5,g20,g21,hS.fz.rows,hS.fz.one,hS.fz.cells,hS.fz.icy,hS.fz.frz,hr.fz.rows,hr.fz.one,hr.fz.cells,hr.fz.icy,hr.fz.frz,q1,w,g,hat,hmade,hcn,w1]
      exact⟨hlt,m - (i+1),by omega,i+1,rfl,by omega,by rw[hal],rfl⟩
   ·obtain rfl:i=m:=by omega
    have q1:decide ((i:Int)<i)=false:=DF
    have et:o.sp.ids.take i=o.sp.ids:=List.take_of_length_le (by omega)
    rw[et] at g5
    simp (disch:=try exact SX) only[RV,seval,zA0,g0,g3,g5,g20,g21,q1,zBD]
 ·have k3:decide (o.kd=3)=false:=decide_eq_false q3
  rw[if_neg q3]
  simp (disch:=try exact SX) only[RV,seval,zA0,h0,h1,hS.fz.rows,hS.fz.one,hS.fz.cells,hS.fz.icy,hS.fz.frz,hR.fz.rows,hR.fz.one,hR.fz.cells,hR.fz.icy,hR.fz.frz,k3,zBD]
def zHQ:List Op→List Op→Bool
 | _,[]=>true
 | pre,o::l=>o.may&&zCE pre o&&zHQ (pre++[o]) l
def zHF (l:List Op):Int:=if 2048<l.length then 4 else err (zHQ [] l)
theorem drop_step {α:Type}(l:List α)(i:Nat)(h:i<l.length):l.drop i=l[i]::l.drop (i+1):=List.drop_eq_getElem_cons h
theorem zOA (hS:Sl 17 isOp a l)(hl:l.length≤40000)(hf:l.length+200<fuel)(M:Mem):zCN fuel (d+9) 129 [a] M=some (I64 (zHF l),M):=by
 have ll:=hS.len
 apply zB2
 refine zEU tf129 rfl (by simp only[icyL,fun M=>hS.icy M 12 (by omega)]) (by simp [a129]) fun b' ht hx=>?_
 have h0:=hx 0 _ rfl
 clear hx
 simp only[a129,c129] at ht ⊢
 unfold zHF
 by_cases q0:2048<l.length
 ·have q1:decide ((2048:Int)<l.length)=true:=DT
  simp (disch:=try exact SX) only[RV,seval,zA0,h0,ll,hS.fz.rows,hS.fz.one,hS.fz.cells,hS.fz.icy,hS.fz.frz,q1,q0,if_true,zBD]
 ·have q1:decide ((2048:Int)<l.length)=false:=DF
  simp (disch:=try exact SX) only[RV,seval,zA0,h0,ll,hS.fz.rows,hS.fz.one,hS.fz.cells,hS.fz.icy,hS.fz.frz,q1,q0,if_false,zBD]
  refine zAZ (I:=fun n t N => ∃ (i:Nat),n=l.length - i∧i≤l.length∧nth zA1 t 0=a∧nth zA1 t 8=a∧nth zA1 t 9=I64 l.length∧nth zA1 t 10=I64 i∧Wf N∧zHQ [] l=zHQ (l.take i) (l.drop i)) (n:=l.length) (by omega) ?_ ?_
  ·refine⟨0,rfl,Nat.zero_le _, ?_, ?_, ?_, ?_,Wf.mem0,rfl⟩ <;> simp (disch:=try exact SX) only[RV,seval,zA0,h0,ll]
   all_goals first | rfl | assumption | done
  ·rintro n t N hlt ⟨i,rfl,hi,g0,g8,g9,g10,w,inv⟩
   simp only[ht] at hlt ⊢
   by_cases hc:i<l.length
   ·have q2:decide ((i:Int)<l.length)=true:=DT
    have w1:IntKind.i64.wrap ((i:Int)+1)=((i+1:Nat):Int):=WI
    obtain⟨r,hiad,hr,hrl⟩:=hS.iad i hc
    obtain⟨p,hp1,hp2⟩:=zZW hS (j:=i) (by omega)
    rw[drop_step l i hc,zHQ,← take_snoc l i hc] at inv
    have hkeep:l.take i++l[i]::l.drop (i+1)=l:=by rw[← drop_step l i hc,List.take_append_drop]
    generalize l[i]=e at *
    obtain⟨ra,rfl,hra,hok⟩:=hr
    have ora:=hra.one
    have hck:=fun M=>@zDJ fuel (d+1) e ra hra hok (by omega) M
    cases hm:e.may with
    | false =>
     rw[hm] at hck
     simp only[hm,Bool.false_and] at inv
     rw[inv]
     simp (disch:=try exact SX) only[RV,seval,zA0,g0,g8,g9,g10,hS.fz.rows,hS.fz.one,hS.fz.cells,hS.fz.icy,hS.fz.frz,q2,hiad,hra.fz.rows,hra.fz.one,hra.fz.cells,hra.fz.icy,hra.fz.frz,w,hck,zBH,z80,zBD]
    | true =>
     rw[hm] at hck
     have hfi:=fun M=>zQ5 (fuel:=fuel) (d:=d) hp2 (by simp;omega) (by simp;omega) hra hok hm M
     cases hr':zCE (l.take i) e with
     | false =>
      rw[hr'] at hfi
      simp only[hm,hr',Bool.false_and,Bool.and_false] at inv
      rw[inv]
      simp (disch:=try exact SX) only[RV,seval,zA0,g0,g8,g9,g10,hS.fz.rows,hS.fz.one,hS.fz.cells,hS.fz.icy,hS.fz.frz,q2,hiad,hra.fz.rows,hra.fz.one,hra.fz.cells,hra.fz.icy,hra.fz.frz,w,hck,zB9,zBH,z00,hp1,hp2.fz.rows,hp2.fz.one,hp2.fz.cells,hp2.fz.icy,hp2.fz.frz,hfi,zBD]
     | true =>
      rw[hr'] at hfi
      simp only[hm,hr',Bool.true_and] at inv
      simp (disch:=try exact SX) only[RV,seval,zA0,g0,g8,g9,g10,hS.fz.rows,hS.fz.one,hS.fz.cells,hS.fz.icy,hS.fz.frz,q2,hiad,hra.fz.rows,hra.fz.one,hra.fz.cells,hra.fz.icy,hra.fz.frz,w,hck,zB9,z00,hp1,hp2.fz.rows,hp2.fz.one,hp2.fz.cells,hp2.fz.icy,hp2.fz.frz,hfi,w1]
      exact⟨hlt,l.length - (i+1),by omega,i+1,rfl,by omega,rfl,inv⟩
   ·obtain rfl:i=l.length:=by omega
    have q1:decide ((l.length:Int)<l.length)=false:=DF
    rw[List.drop_length,zHQ] at inv
    rw[inv]
    simp (disch:=try exact SX) only[RV,seval,zA0,g8,g9,g10,q1,zB9,zBD]
def chfE (l:List Op)(o:Op):Int:=if zHF l=0 then err o.may else zHF l
def chfB (l:List Op)(o:Op):Bool:=decide (chfE l o=0)&&zCE l o
theorem zXF {o:Op}{ra:AV}(hS:Rd M 17 isOp a l)(hl:l.length≤40000)(hf:l.length+200<fuel)(hR:Sl 1 zAS ra o.rs)(ho:o.ok)(wf:Wf M)(k:∀ N,Kept M N→Q (.tup [BL (chfB l o),I64 (chfE l o)]) N) :
  W3 (zCN fuel (d+10) 107 [a,.agg (opR o ra)] M) Q:=by
 have ora:=hR.one
 have wA:=wf.add (.row false (opR o ra))
 have hS':Rd (M.add (.row false (opR o ra))) 17 isOp a l:=hS.keep fun j hj=>zAK wf _ _ (by
  rcases hS with h | h
  ·rcases h with⟨rfl,_⟩ | ⟨_,_,rfl,_⟩ <;> cases hj
  ·exact h.lt j hj)
 have hch:=zfB (P:=Tryz.prog) (fs:=fsT tbl) (fuel:=fuel) (n:=d+8) (N:=M.add (.row false (opR o ra))) tf129 rfl zMN hS' wA (fun a' h M=>zOA (d:=d) h hl hf M)
 have hck:=fun M=>@zDJ fuel (d+2) o ra hR ho (by omega) M
 unfold chfB at k
 unfold chfE at k
 refine zBK tf107 rfl (by simp [a107]) fun b' ht hx=>?_
 obtain⟨h0,h1⟩:=hx2 hx
 clear hx
 simp only[a107,c107] at ht ⊢
 by_cases q0:zHF l=0
 ·rw[q0] at hch
  simp only[q0,if_true] at k
  cases hm:o.may with
  | false =>
   rw[hm] at hck k
   simp (disch:=try exact SX) only[RV,seval,zA0,h0,h1,hR.fz.rows,hR.fz.one,hR.fz.cells,hR.fz.icy,hR.fz.frz,wf,hch,hck,zBH,z00,z80]
   exact zB0C
  | true =>
   have hfi:=zfC (P:=Tryz.prog) (fs:=fsT tbl) (fuel:=fuel) (n:=d+8) (N:=M.add (.row false (opR o ra))) (y:=.agg (opR o ra)) tf130 rfl zMN hS' wA (zDI hR.fz) (fun a' h M=>zQ5 (d:=d+1) h hl hf hR ho hm M)
   rw[hm] at hck k
   simp (disch:=try exact SX) only[RV,seval,zA0,h0,h1,hR.fz.rows,hR.fz.one,hR.fz.cells,hR.fz.icy,hR.fz.frz,wf,hch,hck,zB9,z00,hfi]
   exact zB0C
 ·have q1:decide (zHF l=0)=false:=decide_eq_false q0
  simp only[q0,if_false,decide_false,Bool.false_and] at k
  simp (disch:=try exact SX) only[RV,seval,zA0,h0,h1,hR.fz.rows,hR.fz.one,hR.fz.cells,hR.fz.icy,hR.fz.frz,wf,hch,q1]
  exact zB0C
def idV (x:Eid):List Value:=[.int .u8 x.hd.lb.lv,.int .u32 x.hd.lb.cats,.int .u8 x.hd.num,.int .i64 x.c]
theorem zaL (x:Eid):PT.iss [.st [.st [.int .u8,.int .u32],.int .u8],.int .i64] (idV x):=by
 simp only[PT.iss,PT.is]
 exact⟨[.int .u8 x.hd.lb.lv,.int .u32 x.hd.lb.cats,.int .u8 x.hd.num],[.int .i64 x.c],rfl,⟨[.int .u8 x.hd.lb.lv,.int .u32 x.hd.lb.cats],[.int .u8 x.hd.num],rfl,⟨[.int .u8 x.hd.lb.lv],[.int .u32 x.hd.lb.cats],rfl,⟨_,rfl⟩,⟨[.int .u32 x.hd.lb.cats],[],rfl,⟨_,rfl⟩,rfl⟩⟩,⟨[.int .u8 x.hd.num],[],rfl,⟨_,rfl⟩,rfl⟩⟩,⟨[.int .i64 x.c],[],rfl,⟨_,rfl⟩,rfl⟩⟩
theorem zcG (x y:Eid):idV x=idV y↔x=y:=by
 obtain⟨⟨⟨a,b⟩,c⟩,e⟩:=x
 obtain⟨⟨⟨a',b'⟩,c'⟩,e'⟩:=y
 simp [idV,and_assoc]
theorem id_ck (b:Bool)(n1 n2 n3 n4:Int):(zAQ Tryz.prog (Instr.checkKey b 10000 29 (.agg #[.int .u8 n1,.int .u32 n2,.int .u8 n3,.int .i64 n4]))).isSome=true:=by
 cases b <;> kernel_rfl
def zLB:KeyT Tryz.prog 29 idA where
 val x:=.agg (idV x).toArray
 hval x:=rfl
 ck b x:=id_ck b _ _ _ _
 eq x y:=by
  obtain⟨r,h1,h2⟩:=PT.eq (P:=Tryz.prog) (.st [.st [.st [.int .u8,.int .u32],.int .u8],.int .i64]) 29 10000 (by kernel_rfl) (by decide) (xs:=idV x) (ys:=idV y) (by simpa only[PT.is] using zaL x) (by simpa only[PT.is] using zaL y)
  have e:r=decide (x=y):=by
   rw[Bool.eq_iff_iff,h2,zcG]
   simp
  rw[← e]
  exact h1
 same x:=by simp [Instr.sameBits,idV]
variable {o : Op} {ra ops : AV} {B id m : Nat}
def zB5 (l:List Op):List Eid:=l.flatMap fun o=>if o.kd=1 then o.sp.ids else []
structure IsHist (N:Mem) (B id m:Nat) (ops:AV) (l:List Op):Prop where
 hg:N.get id=some (.row false [ops,.mp m])
 sm:SlM N 17 isOp ops l
 mg:∃ obj,N.get m=some obj∧zI4 idA (BL true) obj (zB5 l)
 ib:B≤id
 mb:B≤m
 ob:∀ j,rowOf ops=some j→B≤j
 ne:id≠m
 n1:rowOf ops≠some id
 n2:rowOf ops≠some m
theorem IsHist.keep {N:Mem}(h:IsHist M B id m ops l)(k:∀ j,j<M.size→N.get j=M.get j):IsHist N B id m ops l:=by
 exact zB0u
def zEH (l:List Op)(o:Op)(x:Eid):Bool:=decide (x∈zB5 l)&&x.hd.lb.leq o.hd.lb
theorem zaV (p:Prop)[Decidable p]:(if p then BL true else .sc (.bool false))=BL (decide p):=by
 by_cases h:p <;> simp [h]
theorem zb8 (hH:IsHist M B id m ops l)(hR:Sl 1 zAS ra o.rs)(wf:Wf M)(hw:M.wm≤M.size)(k:∀ N,Kept M N→Q (BL (zEH l o x)) N) :
  W3 (zCN fuel (d+2) 103 [.ptr id 0,.agg (opR o ra),idA x] M) Q:=by
 have ora:=hR.one
 have hg:=hH.hg
 obtain⟨obj,mg,hset⟩:=hH.mg
 have li:=Mem.get_lt hg
 have lm:=Mem.get_lt mg
 have om:=hH.sm.one
 have mg2:((M.add (.row false (opR o ra))).add (.row false (idR x))).get m=some obj:=by
  rw[zAK (wf.add _) _ _ (by rw[zA6];omega),zAK wf _ _ lm];exact mg
 have hlk:=zQJ zLB (z:=.bool false) mg2 hset x
 rw[zaV] at hlk
 have hle:=fun M=>@zLJ fuel d x.hd.lb o.hd.lb M
 have one_mp:oneA (.mp m)=true:=rfl
 have kk:=(((Kept.refl wf).add (.row false (opR o ra))).add (.row false (idR x)))
 unfold zEH at k
 refine zBK tf103 rfl (by simp [a103]) fun b' ht hx=>?_
 obtain⟨h0,h1,h2⟩:=hx3 hx
 clear hx
 simp only[a103,c103] at ht ⊢
 cases q:decide (x∈zB5 l) with
 | false =>
  rw[q] at hlk
  simp only[q,Bool.false_and] at k
  simp (disch:=try exact SX) only[RV,seval,zA0,h0,h1,h2,hR.fz.rows,hR.fz.one,hR.fz.cells,hR.fz.icy,hR.fz.frz,wf,hg,x_lk,hlk]
  exact k _ kk
 | true =>
  rw[q] at hlk
  simp only[q,Bool.true_and] at k
  simp (disch:=try exact SX) only[RV,seval,zA0,h0,h1,h2,hR.fz.rows,hR.fz.one,hR.fz.cells,hR.fz.icy,hR.fz.frz,wf,hg,x_lk,hlk,hle]
  exact k _ kk
theorem zeE {bh bo:Nat}(hH:IsHist M B id m ops l)(hR:Sl 1 zAS ra o.rs)(wf:Wf M)(hw:M.wm≤M.size)(hb:M.get bh=some (.row false [.ptr id 0]))(hbo:M.get bo=some (.row false (opR o ra)))(k:∀ N,Kept M N→Q (BL (!zEH l o x)) N) :
  W3 (zCN fuel (d+3) 128 [idA x,.ptr bh 0,.ptr bo 0] M) Q:=by
 have ora:=hR.one
 have lb:=Mem.get_lt hb
 have lbo:=Mem.get_lt hbo
 have li:=Mem.get_lt hH.hg
 refine zBK tf128 rfl (by simp [a128]) fun b' ht hx=>?_
 obtain⟨h0,h1,h2⟩:=hx3 hx
 clear hx
 simp only[a128,c128] at ht ⊢
 simp (disch:=try exact SX) only[RV,seval,zA0,h0,h1,h2,hR.fz.rows,hR.fz.one,hR.fz.cells,hR.fz.icy,hR.fz.frz,wf,hb,hbo]
 refine zb8 (d:=d) (B:=B) (m:=m) (ops:=ops) (hH.keep fun j hj=>zAK wf _ _ hj) hR (wf.add _) (by rw[zA6];show M.wm≤_;omega) fun N hN=>?_
 simp (disch:=try exact SX) only[RV,seval,zA0,h0,h1,h2]
 exact k _ (((Kept.refl wf).add _).trans hN)
def allB (l:List Op)(o:Op):Bool:=o.sp.ids.all fun x=>zEH l o x
theorem zWS {α:Type}(p:α→Bool)(l:List α):(l.any fun x => !p x) = !l.all p:=by
 exact zB0W
theorem zeF (hH:IsHist M B id m ops l)(hR:Sl 1 zAS ra o.rs)(ho:o.ok)(hm:o.may=true)(hf:300<fuel)(wf:Wf M)(hw:M.wm≤M.size)(k:∀ N,Kept M N→Q (BL (allB l o)) N) :
  W3 (zCN fuel (d+7) 106 [.ptr id 0,.agg (opR o ra)] M) Q:=by
 have ora:=hR.one
 have li:=Mem.get_lt hH.hg
 have hb:=Spn.may_le (may_sp hm)
 obtain⟨r,hr,hn⟩:=zIR (fuel:=fuel) (d:=d) ho.2.2.2.1 (may_sp hm) (by omega)
 have il:=zLC o.sp
 have ea:(o.sp.ids.any fun x => !zEH l o x) = !allB l o:=zWS _ _
 refine zBK tf106 rfl (by simp [a106]) fun b' ht hx=>?_
 obtain⟨h0,h1⟩:=hx2 hx
 clear hx
 simp only[a106,c106] at ht ⊢
 simp (disch:=try exact SX) only[RV,seval,zA0,h0,h1,hR.fz.rows,hR.fz.one,hR.fz.cells,hR.fz.icy,hR.fz.frz,hr.fz.rows,hr.fz.one,hr.fz.cells,hr.fz.icy,hr.fz.frz,wf,hn]
 have kA:=((Kept.refl wf).add (.row false [.ptr id 0])).add (.row false (opR o ra))
 have wA:=kA.wf
 have gA:((M.add (.row false [.ptr id 0])).add (.row false (opR o ra))).get M.size=some (.row false [.ptr id 0]):=by simp (disch:=try exact SX) only[RV,seval,zA0,wf]
 have gB:((M.add (.row false [.ptr id 0])).add (.row false (opR o ra))).get (M.size+1)=some (.row false (opR o ra)):=by simp (disch:=try exact SX) only[RV,seval,zA0,wf]
 have sA:((M.add (.row false [.ptr id 0])).add (.row false (opR o ra))).size=M.size+2:=rfl
 generalize (M.add (.row false [.ptr id 0])).add (.row false (opR o ra))=X at *
 refine zY2 (st:=4) (ag:=true) (n:=d+4) (first:=[]) (cap:=[.ptr M.size 0,.ptr (M.size+1) 0]) tf104 tf127 (by simp) zGE hr (by omega) (by omega) (p:=fun x => !zEH l o x) wA (fun n hn=>by rw[sA] at hn;simp (disch:=try exact SX) only[RV,seval,zA0]) (fun r x hr _ N Q' hk hQ=>?_) fun N hk=>?_
 ·obtain⟨rfl,_⟩:=hr
  refine zeE (d:=d+1) (B:=B) (m:=m) (ops:=ops) (hH.keep fun j hj=>(hk.get j (by omega)).trans (kA.get j hj)) hR hk.wf (by rw[hk.wm,kA.wm];have:=hk.le;omega) ((hk.get _ (by omega)).trans gA) ((hk.get _ (by omega)).trans gB) fun N' hk'=>hQ N' (hk.trans hk')
 ·rw[ea]
  simp (disch:=try exact SX) only[RV,seval,zA0,h0,h1]
  rw[Bool.not_not]
  exact k _ (kA.trans hk)
def remE (l:List Op)(o:Op):Int:=if allB l o then (if o.sp.f.hd.lb=o.hd.lb then 0 else 2) else 6
def raiE (l:List Op)(o:Op):Int:=if allB l o then (if chfE l o=0∧chfB l o=true then 0 else 2) else 6
theorem zZP (hH:IsHist M B id m ops l)(hR:Sl 1 zAS ra o.rs)(ho:o.ok)(hm:o.may=true)(hf:300<fuel)(wf:Wf M)(hw:M.wm≤M.size)(k:∀ N,Kept M N→Q (I64 (remE l o)) N) :
  W3 (zCN fuel (d+8) 63 [.ptr id 0,.agg (opR o ra)] M) Q:=by
 have ora:=hR.one
 have li:=Mem.get_lt hH.hg
 unfold remE at k
 refine zBK tf63 rfl (by simp [a63]) fun b' ht hx=>?_
 obtain⟨h0,h1⟩:=hx2 hx
 clear hx
 simp only[a63,c63] at ht ⊢
 simp (disch:=try exact SX) only[RV,seval,zA0,h0,h1,hR.fz.rows,hR.fz.one,hR.fz.cells,hR.fz.icy,hR.fz.frz,wf]
 refine zeF (d:=d) (B:=B) (m:=m) (ops:=ops) (hH.keep fun j hj=>zAK wf _ _ hj) hR ho hm hf (wf.add _) (by rw[zA6];show M.wm≤_;omega) fun N hN=>?_
 have hg:=hN.get M.size (by rw[zA6];omega)
 rw[zAM wf _ _ (Nat.le_refl _) (Nat.lt_succ_self _)] at hg
 have lg:=Mem.get_lt hg
 have kN:=((Kept.refl wf).add _).trans hN
 cases q1:allB l o <;> simp only[q1,if_true,Bool.false_eq_true,if_false] at k
 ·simp (disch:=try exact SX) only[RV,seval,zA0,h0,h1,hg,hN.wf]
  exact k _ kN
 ·cases q2:decide (o.sp.f.hd.lb=o.hd.lb)
  ·rw[if_neg (of_decide_eq_false q2)] at k
   exact zB0k
  ·rw[if_pos (of_decide_eq_true q2)] at k
   exact zB0k
theorem zdD (hH:IsHist M B id m ops l)(hl:l.length≤40000)(hR:Sl 1 zAS ra o.rs)(ho:o.ok)(hm:o.may=true)(hf:l.length+300<fuel)(wf:Wf M)(hw:M.wm≤M.size)(k:∀ N,Kept M N→Q (I64 (raiE l o)) N) :
  W3 (zCN fuel (d+11) 64 [.ptr id 0,.agg (opR o ra)] M) Q:=by
 have ora:=hR.one
 have li:=Mem.get_lt hH.hg
 unfold raiE at k
 refine zBK tf64 rfl (by simp [a64]) fun b' ht hx=>?_
 obtain⟨h0,h1⟩:=hx2 hx
 clear hx
 simp only[a64,c64] at ht ⊢
 simp (disch:=try exact SX) only[RV,seval,zA0,h0,h1,hR.fz.rows,hR.fz.one,hR.fz.cells,hR.fz.icy,hR.fz.frz,wf]
 refine zeF (d:=d+3) (B:=B) (m:=m) (ops:=ops) (hH.keep fun j hj=>zAK wf _ _ hj) hR ho hm (by omega) (wf.add _) (by rw[zA6];show M.wm≤_;omega) fun N hN=>?_
 have hg:=hN.get M.size (by rw[zA6];omega)
 rw[zAM wf _ _ (Nat.le_refl _) (Nat.lt_succ_self _)] at hg
 have lg:=Mem.get_lt hg
 have kN:=((Kept.refl wf).add _).trans hN
 have hH':IsHist N B id m ops l:=hH.keep fun j hj=>kN.get j hj
 have hg2:=hH'.hg
 have li':=Mem.get_lt hg2
 cases q1:allB l o <;> simp only[q1,if_true,Bool.false_eq_true,if_false] at k
 ·simp (disch:=try exact SX) only[RV,seval,zA0,h0,h1,hg,hN.wf]
  exact k _ kN
 ·simp (disch:=try exact SX) only[RV,seval,zA0,h0,h1,hR.fz.rows,hR.fz.one,hR.fz.cells,hR.fz.icy,hR.fz.frz,hg,hg2,hN.wf]
  refine zXF (d:=d) (l:=l) (.inr (hH'.sm.keep fun j hj=>rfl)) hl (by omega) hR ho (by rw[zN0];exact hN.wf) fun N2 hN2=>?_
  have k2:=kN.trans hN2.bk
  have hd:N2.dirty=false:=hN2.di
  by_cases q2:chfE l o=0
  ·cases q3:chfB l o
   ·rw[if_neg (by simp [q2,q3])] at k
    simp (disch:=try exact SX) only[RV,seval,zA0,h0,h1,hd,q2,q3]
    exact k _ k2
   ·rw[if_pos ⟨q2,q3⟩] at k
    simp (disch:=try exact SX) only[RV,seval,zA0,h0,h1,hd,q2,q3]
    exact k _ k2
  ·rw[if_neg (by simp [q2])] at k
   have q2':decide (chfE l o=0)=false:=decide_eq_false q2
   simp (disch:=try exact SX) only[RV,seval,zA0,h0,h1,hd,q2']
   exact k _ k2
theorem zaM {bh:Nat}(hH:IsHist M B id m ops l)(wf:Wf M)(hb:M.get bh=some (.row false [.ptr id 0]))(k:∀ N,Kept M N→Q (BL (decide (x∈zB5 l))) N) :
  W3 (zCN fuel (d+1) 105 [idA x,.ptr bh 0] M) Q:=by
 have lb:=Mem.get_lt hb
 have hg:=hH.hg
 have li:=Mem.get_lt hg
 obtain⟨obj,mg,hset⟩:=hH.mg
 have lm:=Mem.get_lt mg
 have mg2:(M.add (.row false (idR x))).get m=some obj:=by
  rw[zAK wf _ _ lm];exact mg
 have hlk:=zQJ zLB (z:=.bool false) mg2 hset x
 rw[zaV] at hlk
 have one_mp:oneA (.mp m)=true:=rfl
 refine zBK tf105 rfl (by simp [a105]) fun b' ht hx=>?_
 obtain⟨h0,h1⟩:=hx2 hx
 clear hx
 simp only[a105,c105] at ht ⊢
 simp (disch:=try exact SX) only[RV,seval,zA0,h0,h1,wf,hb,hg,x_lk,hlk]
 exact zB0C
def insE (l:List Op)(o:Op):Int :=
 if o.af≠Eid.z∧zEH l o o.af=false then 6
 else if rofE o≠0∨(o.sp.ids.any fun x=>decide (x∈zB5 l))=true then 2
 else if 8192<((zB5 l).length:Int)+o.sp.n then 4 else 0
theorem zVW {o:Op}{r:AV}(h:rofK o r):∃ rn ra,r = .tup [.agg (rnR rn ra),I64 (rofE o)]∧oneA ra=true∧cellsA ra=[ra]:=by
 unfold rofK at h
 split at h
 ·rename_i h0
  obtain⟨ra,rfl,hr⟩:=h
  exact⟨_,ra,by rw[h0],hr.one,hr.cells⟩
 ·exact⟨⟨⟨Eid.z,0⟩,Eid.z,[]⟩,NIL,h,rfl,rfl⟩
theorem zYD (hH:IsHist M B id m ops l)(htl:(zB5 l).length≤1000000)(hR:Sl 1 zAS ra o.rs)(ho:o.ok)(hm:o.may=true)(hf:300<fuel)(wf:Wf M)(hw:M.wm≤M.size)(k:∀ N,Kept M N→Q (I64 (insE l o)) N) :
  W3 (zCN fuel (d+9) 62 [.ptr id 0,.agg (opR o ra)] M) Q:=by
 have ora:=hR.one
 have li:=Mem.get_lt hH.hg
 have hb:=Spn.may_le (may_sp hm)
 obtain⟨r,hr,hn⟩:=zIR (fuel:=fuel) (d:=d+2) ho.2.2.2.1 (may_sp hm) (by omega)
 obtain⟨rr,hk,hof⟩:=zNT (fuel:=fuel) (d:=d) hR ho (by omega)
 obtain⟨rn,r2,rfl,o2,c2⟩:=zVW hk
 have il:=zLC o.sp
 have kA:=((Kept.refl wf).add (.row false [.ptr id 0])).add (.row false (opR o ra))
 have wA:=kA.wf
 have gA:((M.add (.row false [.ptr id 0])).add (.row false (opR o ra))).get M.size=some (.row false [.ptr id 0]):=by simp (disch:=try exact SX) only[RV,seval,zA0,wf]
 have gB:((M.add (.row false [.ptr id 0])).add (.row false (opR o ra))).get (M.size+1)=some (.row false (opR o ra)):=by simp (disch:=try exact SX) only[RV,seval,zA0,wf]
 have sA:((M.add (.row false [.ptr id 0])).add (.row false (opR o ra))).size=M.size+2:=rfl
 unfold insE at k
 refine zBK tf62 rfl (by simp [a62]) fun b' ht hx=>?_
 obtain⟨h0,h1⟩:=hx2 hx
 clear hx
 simp only[a62,c62] at ht ⊢
 cases qz:decide (o.af=Eid.z) with
 | false =>
  simp (disch:=try exact SX) only[RV,seval,zA0,h0,h1,hR.fz.rows,hR.fz.one,hR.fz.cells,hR.fz.icy,hR.fz.frz,wf,↓pIdE,zAA,↓pIdN,zA9,↓pHdE,zAB,↓pHdN,zAC,↓pLbE,zA8,↓pLbN,zAD,↓pSpE,zAE,↓pSpN,zAF,ETA,qz]
  generalize (M.add (.row false [.ptr id 0])).add (.row false (opR o ra))=X at *
  refine zb8 (d:=d+6) (B:=B) (m:=m) (ops:=ops) (hH.keep fun j hj=>kA.get j hj) hR wA (by rw[kA.wm];omega) fun N hN=>?_
  cases qs:zEH l o o.af with
  | false =>
   rw[if_pos ⟨of_decide_eq_false qz,qs⟩] at k
   simp (disch:=try exact SX) only[RV,seval,zA0,h0,h1,qs]
   exact k _ (kA.trans hN)
  | true =>
   rw[if_neg (by simp [qs])] at k
   have wN:=hN.wf
   have g0:=(hN.get M.size (by omega)).trans gA
   have g1:=(hN.get (M.size+1) (by omega)).trans gB
   have kN:=kA.trans hN
   exact zB02
 | true =>
  rw[if_neg (fun h=>h.1 (of_decide_eq_true qz))] at k
  simp (disch:=try exact SX) only[RV,seval,zA0,h0,h1,hR.fz.rows,hR.fz.one,hR.fz.cells,hR.fz.icy,hR.fz.frz,wf,↓pIdE,zAA,↓pIdN,zA9,↓pHdE,zAB,↓pHdN,zAC,↓pLbE,zA8,↓pLbN,zAD,↓pSpE,zAE,↓pSpN,zAF,ETA,qz]
  generalize (M.add (.row false [.ptr id 0])).add (.row false (opR o ra))=N at *
  have wN:=wA
  have g0:=gA
  have g1:=gB
  have kN:=kA
  have qs:=qz
  exact zB02
def zG0 (l:List Op)(o:Op):Int:=if o.kd=1 then insE l o else if o.kd=2 then remE l o else raiE l o
def fitE (l:List Op)(o:Op):Int:=if zG0 l o=0 then (if 2048≤l.length then 4 else 0) else zG0 l o
theorem zaZ {o:Op}(h:o.may=true)(ho:o.ok):o.kd=1∨o.kd=2∨o.kd=3:=by
 unfold Op.may at h
 simp only[Bool.and_eq_true,Bool.not_eq_true',decide_eq_false_iff_not] at h
 have:=ho.1
 omega
theorem zaE (hH:IsHist M B id m ops l)(htl:(zB5 l).length≤1000000)(hl:l.length≤40000)(hR:Sl 1 zAS ra o.rs)(ho:o.ok)(hm:o.may=true)(hf:l.length+300<fuel)(wf:Wf M)(hw:M.wm≤M.size)(k:∀ N,Kept M N→Q (I64 (fitE l o)) N) :
  W3 (zCN fuel (d+12) 36 [.ptr id 0,.agg (opR o ra)] M) Q:=by
 have ora:=hR.one
 have li:=Mem.get_lt hH.hg
 have wA:=wf.add (.row false (opR o ra))
 have gA:(M.add (.row false (opR o ra))).get M.size=some (.row false (opR o ra)):=zAM wf _ _ (Nat.le_refl _) (Nat.lt_succ_self _)
 have hHA:IsHist (M.add (.row false (opR o ra))).lo B id m ops l:=hH.keep fun j hj=>zAK wf _ _ hj
 have onf:oneA (.sc .nilFunc)=true:=rfl
 have tail:∀ N2,Kept (M.add (.row false (opR o ra))).lo N2→True:=fun _ _=>trivial
 clear tail
 have done:∀ N2,Kept (M.add (.row false (opR o ra))).lo N2→Kept M ((M.add (.row false (opR o ra))).bk N2):=fun N2 h=>((Kept.refl wf).add _).trans h.bk
 have kq:∀ N2,Kept (M.add (.row false (opR o ra))).lo N2→IsHist ((M.add (.row false (opR o ra))).bk N2) B id m ops l:=fun N2 h=>hH.keep fun j hj=>(done N2 h).get j hj
 unfold fitE at k
 refine zBK tf36 rfl (by simp [a36]) fun b' ht hx=>?_
 obtain⟨h0,h1⟩:=hx2 hx
 clear hx
 simp only[a36,c36] at ht ⊢
 have hw':(M.add (.row false (opR o ra))).lo.wm≤(M.add (.row false (opR o ra))).lo.size:=Nat.le_refl _
 rcases zaZ hm ho with hk | hk | hk
 ·have n1:zE4 (U8 o.kd)=some 1:=by rw[hk];rfl
  have ep:zG0 l o=insE l o:=by unfold zG0;rw[if_pos hk]
  rw[ep] at k
  simp (disch:=try exact SX) only[RV,seval,zA0,h0,h1,hR.fz.rows,hR.fz.one,hR.fz.cells,hR.fz.icy,hR.fz.frz,wf,n1,zSQ,zH0,onf]
  refine zYD (d:=d+2) hHA htl hR ho hm (by omega) wA hw' fun N2 hN2=>?_
  have hd:N2.dirty=false:=hN2.di
  have hq:=kq N2 hN2
  have kN:=done N2 hN2
  have hg:N2.get id=some (.row false [ops,.mp m]):=hq.hg
  have lg:id<N2.size:=Mem.get_lt hg
  have ll:=hq.sm.len
  by_cases q1:insE l o=0
  ·rw[if_pos q1] at k
   have q1':decide (insE l o=0)=true:=decide_eq_true q1
   exact zB06
  ·rw[if_neg q1] at k
   have q1':decide (insE l o=0)=false:=decide_eq_false q1
   exact zB0D
 ·have n1:zE4 (U8 o.kd)=some 2:=by rw[hk];rfl
  have ep:zG0 l o=remE l o:=by unfold zG0;rw[if_neg (by omega),if_pos hk]
  rw[ep] at k
  simp (disch:=try exact SX) only[RV,seval,zA0,h0,h1,hR.fz.rows,hR.fz.one,hR.fz.cells,hR.fz.icy,hR.fz.frz,wf,n1,zSQ,zH0,onf]
  refine zZP (d:=d+3) hHA hR ho hm (by omega) wA hw' fun N2 hN2=>?_
  have hd:N2.dirty=false:=hN2.di
  have hq:=kq N2 hN2
  have kN:=done N2 hN2
  have hg:N2.get id=some (.row false [ops,.mp m]):=hq.hg
  have lg:id<N2.size:=Mem.get_lt hg
  have ll:=hq.sm.len
  by_cases q1:remE l o=0
  ·rw[if_pos q1] at k
   have q1':decide (remE l o=0)=true:=decide_eq_true q1
   exact zB06
  ·rw[if_neg q1] at k
   have q1':decide (remE l o=0)=false:=decide_eq_false q1
   exact zB0D
 ·have n1:zE4 (U8 o.kd)=some 3:=by rw[hk];rfl
  have ep:zG0 l o=raiE l o:=by unfold zG0;rw[if_neg (by omega),if_neg (by omega)]
  rw[ep] at k
  simp (disch:=try exact SX) only[RV,seval,zA0,h0,h1,hR.fz.rows,hR.fz.one,hR.fz.cells,hR.fz.icy,hR.fz.frz,wf,n1,zSQ,zH0,onf]
  refine zdD (d:=d) hHA hl hR ho hm (by omega) wA hw' fun N2 hN2=>?_
  have hd:N2.dirty=false:=hN2.di
  have hq:=kq N2 hN2
  have kN:=done N2 hN2
  have hg:N2.get id=some (.row false [ops,.mp m]):=hq.hg
  have lg:id<N2.size:=Mem.get_lt hg
  have ll:=hq.sm.len
  by_cases q1:raiE l o=0
  ·rw[if_pos q1] at k
   have q1':decide (raiE l o=0)=true:=decide_eq_true q1
   exact zB06
  ·rw[if_neg q1] at k
   have q1':decide (raiE l o=0)=false:=decide_eq_false q1
   exact zB0D
def zAY:List Op→List Op→Bool
 | _,[]=>true
 | pre,o::l=>o.may&&decide (fitE pre o=0)&&zAY (pre++[o]) l
theorem zU0 {pre:List Op}{o:Op}(h:fitE pre o=0)(hk:o.kd=1):∀ x∈o.sp.ids,x ∉ zB5 pre:=by
 have h1:zG0 pre o=0:=by
  unfold fitE at h
  split at h
  ·assumption
  ·exact h
 unfold zG0 at h1
 rw[if_pos hk] at h1
 unfold insE at h1
 intro x hx hin
 split at h1
 ·cases h1
 ·split at h1
  ·cases h1
  ·rename_i h2
   exact h2 (.inr (List.any_eq_true.2 ⟨x,hx,decide_eq_true hin⟩))
theorem zKR (l:List Op)(o:Op):zB5 (l++[o])=zB5 l++(if o.kd=1 then o.sp.ids else []):=by
 unfold zB5
 rw[List.flatMap_append]
 simp
structure HS (N:Mem) (B id m:Nat) (ops:AV) (l:List Op) (S:List Eid):Prop where
 hg:N.get id=some (.row false [ops,.mp m])
 sm:SlM N 17 isOp ops l
 mg:∃ obj,N.get m=some obj∧zI4 idA (BL true) obj S
 ib:B≤id
 mb:B≤m
 ob:∀ j,rowOf ops=some j→B≤j
 ne:id≠m
 n1:rowOf ops≠some id
 n2:rowOf ops≠some m
theorem HS.keep {N:Mem}{S:List Eid}(h:HS M B id m ops l S)(k:∀ j,j<M.size→N.get j=M.get j):HS N B id m ops l S:=by
 exact zB0u
theorem HS.of (h:IsHist M B id m ops l):HS M B id m ops l (zB5 l):=⟨h.hg,h.sm,h.mg,h.ib,h.mb,h.ob,h.ne,h.n1,h.n2⟩
theorem HS.to {S:List Eid}(h:HS M B id m ops l S)(e:S=zB5 l):IsHist M B id m ops l:=by
 subst e;exact⟨h.hg,h.sm,h.mg,h.ib,h.mb,h.ob,h.ne,h.n1,h.n2⟩
theorem of_0 (hS:Sl 17 isOp a l)(hl:l.length≤10000)(hf:l.length+400<fuel)(wf:Wf M)(hw:M.wm≤M.size)
  (kf:∀ N,Wf N→M.size≤N.size→(∀ j,j<M.size→N.get j=M.get j)→zAY [] l=false→Q (.tup [.sc (.pointer none),BL false]) N)
  (kt:∀ N ops,Wf N→M.size+2≤N.size→N.wm=M.wm→(∀ j,j<M.size→N.get j=M.get j)→zAY [] l=true→IsHist N M.size (M.size+1) M.size ops l→(zB5 l).length≤64*l.length→Q (.tup [.ptr (M.size+1) 0,BL true]) N) :
  W3 (zCN fuel (d+13) 34 [a] M) Q:=by
 have ll:=hS.len
 have one_mp:oneA (.mp M.size)=true:=rfl
 have cmp:cellsA (.mp M.size)=[.mp M.size]:=rfl
 refine zBK tf34 rfl (by simp [a34]) fun b' ht hx=>?_
 have h0:=hx 0 _ rfl
 clear hx
 simp only[a34,c34] at ht ⊢
 have hH0:IsHist ((M.add (.map [] 0)).add (.row false [NIL,.mp M.size])) M.size (M.size+1) M.size NIL []:=⟨by simp (disch:=try exact SX) only[RV,seval,zA0,wf],SlM.nil,⟨.map [] 0,by simp (disch:=try exact SX) only[RV,seval,zA0,wf],zI4.nil _ _⟩,by omega,by omega,fun j hj=>(by cases hj),by omega,fun hj=>(by cases hj),fun hj=>(by cases hj)⟩
 simp (disch:=try exact SX) only[RV,seval,zA0,h0,ll,hS.fz.rows,hS.fz.one,hS.fz.cells,hS.fz.icy,hS.fz.frz,wf,zWK,cmp]
 refine zAZ (I:=fun n t N => ∃ (i:Nat) (ops:AV),n=l.length - i∧i≤l.length∧nth zA1 t 4 = .ptr (M.size+1) 0∧nth zA1 t 12=a∧nth zA1 t 13=I64 l.length∧nth zA1 t 14=I64 i∧Wf N∧M.size+2≤N.size∧N.wm=M.wm∧(∀ j,j<M.size→N.get j=M.get j)∧IsHist N M.size (M.size+1) M.size ops (l.take i)∧zAY [] l=zAY (l.take i) (l.drop i)∧(zB5 (l.take i)).length≤64*i) (n:=l.length) (by omega) ?_ ?_
 ·refine⟨0,NIL,rfl,Nat.zero_le _, ?_, ?_, ?_, ?_,(wf.add _).add _,by simp only[zA6];omega,rfl,fun j hj=>by rw[zAK (wf.add _) _ _ (by rw[zA6];omega),zAK wf _ _ hj],hH0,rfl,Nat.le_refl 0⟩ <;> simp (disch:=try exact SX) only[RV,seval,zA0,h0,ll,wf]
  all_goals first | rfl | assumption | done
 ·rintro n t N hlt ⟨i,ops,rfl,hi,g4,g12,g13,g14,w,sz,wm,kp,hH,inv,tl⟩
  simp only[ht] at hlt ⊢
  by_cases hc:i<l.length
  ·have q2:decide ((i:Int)<l.length)=true:=DT
   have w1:IntKind.i64.wrap ((i:Int)+1)=((i+1:Nat):Int):=WI
   obtain⟨r,hiad,hr,hrl⟩:=hS.iad i hc
   rw[drop_step l i hc,zAY,← take_snoc l i hc] at inv
   have hts:=zKR (l.take i) l[i]
   have hsn:=take_snoc l i hc
   rw[← hsn] at hts
   generalize l[i]=e at *
   obtain⟨ra,rfl,hra,hok⟩:=hr
   have ora:=hra.one
   have hck:=fun M=>@zDJ fuel (d+5) e ra hra hok (by omega) M
   cases hm:e.may with
   | false =>
    rw[hm] at hck
    simp only[hm,Bool.false_and] at inv
    simp (disch:=try exact SX) only[RV,seval,zA0,g4,g12,g13,g14,hS.fz.rows,hS.fz.one,hS.fz.cells,hS.fz.icy,hS.fz.frz,q2,hiad,hra.fz.rows,hra.fz.one,hra.fz.cells,hra.fz.icy,hra.fz.frz,w,hck,zBH,z80]
    exact kf _ ((w.add _).upd _ _) (by simp only[zAH,zA6];omega) (fun j hj=>by rw[zA2 (w.add _) _ _ _ (by omega),zAK w _ _ (by omega)];exact kp j hj) inv
   | true =>
    rw[hm] at hck
    simp (disch:=try exact SX) only[RV,seval,zA0,g4,g12,g13,g14,hS.fz.rows,hS.fz.one,hS.fz.cells,hS.fz.icy,hS.fz.frz,q2,hiad,hra.fz.rows,hra.fz.one,hra.fz.cells,hra.fz.icy,hra.fz.frz,w,hck,zB9,z00]
    have hwN:N.wm≤N.size:=by omega
    have kX:=((Kept.refl w).add (.row false (opR ⟨0,Hd.z,0,⟨Eid.z,0⟩,Eid.z,Lb.z,[]⟩ NIL))).upd hwN (Nat.le_refl _) (.row false (opR e ra))
    have hli:(l.take i).length=i:=by rw[List.length_take];omega
    refine zaE (d:=d) (B:=M.size) (m:=M.size) (ops:=ops) (l:=l.take i) (hH.keep kX.get) (by omega) (by omega) hra hok hm (by omega) kX.wf (kX.wml hwN) fun N2 hN2=>?_
    have kN:=kX.trans hN2
    have gE:N2.get N.size=some (.row false (opR e ra)):=by
     rw[hN2.get _ (by rw[zAH,zA6];omega)]
     exact zAI (w.add _) _ _ (by rw[zA6];omega)
    have lE:=Mem.get_lt gE
    have w2:=kN.wf
    have hH2:=hH.keep kN.get
    have hg2:=hH2.hg
    have lg2:=Mem.get_lt hg2
    have sm2:=hH2.sm
    have oo2:=sm2.one
    have oc2:=sm2.cells
    have rl2:=sm2.rl
    have le2:=kN.le
    by_cases q3:fitE (l.take i) e=0
    ·have q3':decide (fitE (l.take i) e=0)=true:=decide_eq_true q3
     simp only[hm,q3',Bool.true_and] at inv
     simp (disch:=try exact SX) only[RV,seval,zA0,g4,g12,g13,g14,q3',gE,hg2,oo2,oc2,hra.fz.rows,hra.fz.one,hra.fz.cells,hra.fz.icy,hra.fz.frz,w2]
     refine⟨zAN rl2 (by omega), ?_⟩
     refine app1 w2 sm2 zMN (x:=e) ⟨ra,rfl,hra,hok⟩ rfl (by omega) (by omega) (by omega) fun ops' M3 m3 w3 le3 kp3 nw3 wm3 rl3 on3 oc3=>?_
     have gH3:M3.get (M.size+1)=some (.row false [ops,.mp M.size]):=(kp3 _ lg2 hH2.n1).trans hg2
     have gE3:M3.get N.size=some (.row false (opR e ra)):=(kp3 _ lE (fun h=>by have:=hH.sm.lt _ h;omega)).trans gE
     have l3:=Mem.get_lt gH3
     have lE3:=Mem.get_lt gE3
     simp (disch:=try exact SX) only[RV,seval,zA0,g4,g12,g13,g14,gH3,gE3,on3,oc3,w3]
     have ob':∀ j,rowOf ops'=some j→j≠M.size+1∧j≠M.size∧M.size≤j:=fun j hj=>by
      rcases nw3 j hj with h | h
      ·exact⟨fun e=>hH.n1 (e ▸ h),fun e=>hH.n2 (e ▸ h),hH.ob j h⟩
      ·omega
     have hS4:HS (M3.upd (M.size+1) (.row false [ops',.mp M.size])) M.size (M.size+1) M.size ops' (l.take (i+1)) (zB5 (l.take i)):=by
      obtain⟨obj,mg,hset⟩:=hH2.mg
      refine⟨zAI w3 _ _ l3, ?_,⟨obj, ?_,hset⟩,by omega,by omega,fun j hj=>(ob' j hj).2.2,by omega,fun hj=>(ob' _ hj).1 rfl,fun hj=>(ob' _ hj).2.1 rfl⟩
      ·rw[hsn]
       exact m3.keep fun j hj=>zA2 w3 _ _ _ (fun e=>(ob' j hj).1 e.symm)
      ·rw[zA2 w3 _ _ _ (by omega),kp3 _ (Mem.get_lt mg) hH2.n2];exact mg
     have kp4:∀ j,j<M.size→(M3.upd (M.size+1) (.row false [ops',.mp M.size])).get j=M.get j:=fun j hj=>by
      rw[zA2 w3 _ _ _ (by omega),kp3 j (by omega) (fun h=>by have:=hH.ob j h;omega),kN.get j (by omega)];exact kp j hj
     have w4:=w3.upd (M.size+1) (.row false [ops',.mp M.size])
     have wm4:(M3.upd (M.size+1) (.row false [ops',.mp M.size])).wm=M.wm:=by
      show M3.wm=M.wm
      rw[wm3,kN.wm,wm]
     have gE4:(M3.upd (M.size+1) (.row false [ops',.mp M.size])).get N.size=some (.row false (opR e ra)):=by rw[zA2 w3 _ _ _ (by omega)];exact gE3
     have sz4:M.size+2≤(M3.upd (M.size+1) (.row false [ops',.mp M.size])).size:=by rw[zAH];omega
     have lE4:N.size<(M3.upd (M.size+1) (.row false [ops',.mp M.size])).size:=by rw[zAH];exact lE3
     generalize M3.upd (M.size+1) (.row false [ops',.mp M.size])=X4 at *
     by_cases q4:e.kd=1
     ·have q4':decide (e.kd=1)=true:=decide_eq_true q4
      rw[if_pos q4] at hts
      obtain⟨r,hr,hn⟩:=zIR (fuel:=fuel) (d:=d+6) hok.2.2.2.1 (may_sp hm) (by omega)
      have hbn:=Spn.may_le (may_sp hm)
      have il:=zLC e.sp
      have rlen:=hr.len
      simp (disch:=try exact SX) only[RV,seval,zA0,g4,g12,g13,g14,q4',gE4,hn,hr.fz.rows,hr.fz.one,hr.fz.cells,hr.fz.icy,hr.fz.frz,rlen]
      refine zAZ (I:=fun nk tk Nk => ∃ (ik:Nat),nk=e.sp.ids.length - ik∧ik≤e.sp.ids.length∧nth zA1 tk 4 = .ptr (M.size+1) 0∧nth zA1 tk 12=a∧nth zA1 tk 13=I64 l.length∧nth zA1 tk 14=I64 i∧nth zA1 tk 42=r∧nth zA1 tk 43=I64 e.sp.ids.length∧nth zA1 tk 44=I64 ik∧Wf Nk∧M.size+2≤Nk.size∧Nk.wm=M.wm∧(∀ j,j<M.size→Nk.get j=M.get j)∧HS Nk M.size (M.size+1) M.size ops' (l.take (i+1)) (zB5 (l.take i)++e.sp.ids.take ik)) (n:=e.sp.ids.length) (by omega) ?_ ?_
      ·refine⟨0,rfl,Nat.zero_le _, ?_, ?_, ?_, ?_, ?_, ?_, ?_,w4,sz4,wm4,kp4,(by rw[List.take_zero,List.append_nil];exact hS4)⟩ <;> simp (disch:=try exact SX) only[RV,seval,zA0,g4,g12,g13,g14]
       all_goals first | rfl | assumption | done
      ·rintro nk tk Nk hltk ⟨ik,rfl,hik,gk4,gk12,gk13,gk14,gk42,gk43,gk44,wk,szk,wmk,kpk,hSk⟩
       simp only[hlt] at hltk ⊢
       by_cases hck:ik<e.sp.ids.length
       ·have q5:decide ((ik:Int)<e.sp.ids.length)=true:=DT
        have w1k:IntKind.i64.wrap ((ik:Int)+1)=((ik+1:Nat):Int):=WI
        obtain⟨rx,hiadx,hrx,hrlx⟩:=hr.iad ik hck
        have fr:e.sp.ids[ik] ∉ zB5 (l.take i)++e.sp.ids.take ik:=by
         intro hin
         rcases List.mem_append.1 hin with h | h
         ·exact zU0 q3 q4 _ (List.getElem_mem hck) h
         ·obtain⟨j,hj,he⟩:=List.getElem_of_mem h
          rw[List.getElem_take] at he
          rw[List.length_take] at hj
          rw[zOT,zOT] at he
          have:=congrArg Eid.c he
          simp only[Spn.at] at this
          omega
        have sn:=take_snoc e.sp.ids ik hck
        generalize e.sp.ids[ik]=x at *
        obtain⟨rfl,hxo⟩:=hrx
        have gk:=hSk.hg
        obtain⟨obj,mgk,hset⟩:=hSk.mg
        have lk:=Mem.get_lt gk
        have lmk:=Mem.get_lt mgk
        simp (disch:=try exact SX) only[RV,seval,zA0,gk4,gk12,gk13,gk14,gk42,gk43,gk44,q5,hiadx,wk,gk,x_mu]
        have wk2:=(wk.add (.row false (idR ⟨⟨⟨0,0⟩,0⟩,0⟩))).upd Nk.size (.row false (idR x))
        have keep2:∀ j,j<Nk.size→((Nk.add (.row false (idR ⟨⟨⟨0,0⟩,0⟩,0⟩))).upd Nk.size (.row false (idR x))).get j=Nk.get j:=fun j hj=>by
         rw[zA2 (wk.add _) _ _ _ (by omega),zAK wk _ _ hj]
        refine zN4 zLB (l:=zB5 (l.take i)++e.sp.ids.take ik) wk2 (by simp only[zAH,zA6];omega) ((keep2 _ lmk).trans mgk) hset x fun o' hs'=>?_
        rw[if_neg fr] at hs'
        have hS5:HS (((Nk.add (.row false (idR ⟨⟨⟨0,0⟩,0⟩,0⟩))).upd Nk.size (.row false (idR x))).upd M.size o') M.size (M.size+1) M.size ops' (l.take (i+1)) (zB5 (l.take i)++e.sp.ids.take (ik+1)):=by
         have u:∀ j,j<Nk.size→j≠M.size→(((Nk.add (.row false (idR ⟨⟨⟨0,0⟩,0⟩,0⟩))).upd Nk.size (.row false (idR x))).upd M.size o').get j=Nk.get j:=fun j hj hne=>by
          rw[zA2 wk2 _ _ _ (fun e=>hne e.symm),keep2 j hj]
         refine⟨(u _ lk (by omega)).trans gk,hSk.sm.keep fun j hj=>u j (hSk.sm.lt j hj) (fun e=>hSk.n2 (e ▸ hj)),⟨o',zAI wk2 _ _ (by simp only[zAH,zA6];omega), ?_⟩,hSk.ib,hSk.mb,hSk.ob,hSk.ne,hSk.n1,hSk.n2⟩
         rw[sn,← List.append_assoc]
         exact hs'
        have wm5:(((Nk.add (.row false (idR ⟨⟨⟨0,0⟩,0⟩,0⟩))).upd Nk.size (.row false (idR x))).upd M.size o').wm=M.wm:=wmk
        have kp5:∀ j,j<M.size→(((Nk.add (.row false (idR ⟨⟨⟨0,0⟩,0⟩,0⟩))).upd Nk.size (.row false (idR x))).upd M.size o').get j=M.get j:=fun j hj=>by
         rw[zA2 wk2 _ _ _ (by omega),keep2 j (by omega)];exact kpk j hj
        have wk5:=wk2.upd M.size o'
        have sz5:M.size+2≤(((Nk.add (.row false (idR ⟨⟨⟨0,0⟩,0⟩,0⟩))).upd Nk.size (.row false (idR x))).upd M.size o').size:=by simp only[zAH,zA6];omega
        simp (disch:=try exact SX) only[RV,seval,zA0,gk4,gk12,gk13,gk14,gk42,gk43,gk44,w1k]
        exact⟨hltk,e.sp.ids.length - (ik+1),by omega,ik+1,rfl,by omega,rfl,wk,by omega,wm5,kp5,hS5⟩
       ·obtain rfl:ik=e.sp.ids.length:=by omega
        have q5:decide ((e.sp.ids.length:Int)<e.sp.ids.length)=false:=DF
        rw[List.take_length] at hSk
        simp (disch:=try exact SX) only[RV,seval,zA0,gk4,gk12,gk13,gk14,gk42,gk43,gk44,q5,w1]
        exact⟨hltk,l.length - (i+1),by omega,i+1,ops',rfl,by omega,rfl,wk,szk,wmk,kpk,hSk.to hts.symm,inv,by rw[hts,List.length_append];omega⟩
     ·have q4':decide (e.kd=1)=false:=decide_eq_false q4
      rw[if_neg q4,List.append_nil] at hts
      simp (disch:=try exact SX) only[RV,seval,zA0,g4,g12,g13,g14,q4',w1]
      exact⟨hlt,l.length - (i+1),by omega,i+1,ops',rfl,by omega,rfl,w4,sz4,wm4,kp4,hS4.to hts.symm,inv,by rw[hts];omega⟩
    ·have q3':decide (fitE (l.take i) e=0)=false:=decide_eq_false q3
     simp only[hm,q3',Bool.false_and,Bool.and_false] at inv
     simp (disch:=try exact SX) only[RV,seval,zA0,g4,g12,g13,g14,q3']
     exact kf _ w2 (by omega) (fun j hj=>(kN.get j (by omega)).trans (kp j hj)) inv
  ·obtain rfl:i=l.length:=by omega
   have q1:decide ((l.length:Int)<l.length)=false:=DF
   rw[List.drop_length,zAY] at inv
   rw[List.take_length] at hH tl
   simp (disch:=try exact SX) only[RV,seval,zA0,g4,g13,g14,q1]
   exact kt _ _ w sz wm kp inv hH tl
theorem im88:imax 8 8=8:=by decide
theorem im80:imax 8 0=8:=by decide
theorem im08:imax 0 8=8:=by decide
theorem im00:imax 0 0=0:=by decide
theorem IMX:type_of% (And.intro im88 (And.intro im80 (And.intro im08 im00))):=And.intro im88 (And.intro im80 (And.intro im08 im00))
abbrev opH (o:Op):List AV:=[U8 o.kd,U8 o.hd.lb.lv,U32 o.hd.lb.cats,U8 o.hd.num,I64 o.sr,U8 o.sp.f.hd.lb.lv,U32 o.sp.f.hd.lb.cats,U8 o.sp.f.hd.num,I64 o.sp.f.c,I64 o.sp.n,U8 o.af.hd.lb.lv,U32 o.af.hd.lb.cats,U8 o.af.hd.num,I64 o.af.c,U8 o.to.lv,U32 o.to.cats]
def opK:NK Op Int where
 st:=17
 H:=opH
 f:=Op.rs
 T:=zAS
 ok:=Op.ok
 hl:=fun _=>rfl
 hz:=fun o y hy=>by
  simp only[opH,List.mem_cons,List.not_mem_nil,or_false] at hy
  rcases hy with rfl | rfl | rfl | rfl | rfl | rfl | rfl | rfl | rfl | rfl | rfl | rfl | rfl | rfl | rfl | rfl
  all_goals exact zCY _ _
 ft:=zCM
theorem zDP (hS:Sl 17 isOp a l)(hl:l.length≤10000)(hf:l.length+400<fuel)(M:Mem):zCN fuel (d+14) 15 [a] M=some (I64 (err (zAY [] l)),M):=by
 apply zB2
 refine zAJ tf15 rfl (by simp only[icyL,fun M=>hS.icy M 12 (by omega)]) (by simp [a15]) fun b' ht hx=>?_
 have h0:=hx 0 _ rfl
 clear hx
 simp only[a15,c15] at ht ⊢
 simp (disch:=try exact SX) only[RV,seval,zA0,h0,hS.fz.rows,hS.fz.one,hS.fz.cells,hS.fz.icy,hS.fz.frz]
 refine of_0 (d:=d) hS hl hf Wf.mem0 (Nat.le_refl _) (fun N w s k hh=>?_) (fun N ops w s wm k hh _ _=>?_)
 ·rw[hh]
  simp (disch:=try exact SX) only[RV,seval,zA0,h0,zBH,zBD]
 ·rw[hh]
  simp (disch:=try exact SX) only[RV,seval,zA0,h0,zB9,zBD]
def zFK (l:List Op)(v:Lb):Int:=err (zAY [] l&&v.may)
def lowL (l:List Op)(v:Lb):List Op:=l.filter fun o=>o.hd.lb.leq v
theorem zQL (l:List Op)(o:Op)(v:Lb):lowL (l++[o]) v=lowL l v++(if o.hd.lb.leq v then [o] else []):=by
 unfold lowL
 rw[List.filter_append]
 cases h:o.hd.lb.leq v <;> simp [h]
theorem zLK (l:List Op)(v:Lb):(lowL l v).length≤l.length:=List.length_filter_le _ _
theorem zJJ {o:Op}{ra:AV}(hR:Sl 1 zAS ra o.rs)(hl:o.rs.length≤1000000000):∃ r,Sl 1 zAS r o.rs ∧ ∀ M,zCN fuel (d+1) 6 [.agg (opR o ra)] M=some (.agg (opR o r),M):=by
 have ora:=hR.one
 refine zEP tf6 rfl (fun M=>by simp only[icyL,zDI hR.fz]) ?_
 refine zAJ tf6 rfl (by simp only[icyL,zDI hR.fz]) (by simp [a6]) fun b' ht hx=>?_
 have h0:=hx 0 _ rfl
 clear hx
 simp only[a6,c6] at ht ⊢
 simp (disch:=try exact SX) only[RV,seval,zA0,h0,hR.fz.rows,hR.fz.one,hR.fz.cells,hR.fz.icy,hR.fz.frz]
 refine zWE (by simp (disch:=try exact SX) only[RV,seval,zA0]) SlM.nil zCM.cel hR (by omega) (by simp;omega) (by simp;omega) fun a' N m' w' le' sz' kp' nw' wm' rl' on' oc'=>?_
 simp only[zA6,zBP,Nat.zero_add,Nat.reduceAdd] at le' kp' nw'
 rw[List.nil_append] at m'
 have g0:N.get 0=some (.row false (opR o ra)):=by rw[kp' _ (by omega) (by simp [rowOf])];simp (disch:=try exact SX) only[RV,seval,zA0]
 have g1:N.get 1=some (.row false (opR ⟨0,Hd.z,0,⟨Eid.z,0⟩,Eid.z,Lb.z,[]⟩ NIL)):=by rw[kp' _ (by omega) (by simp [rowOf])];simp (disch:=try exact SX) only[RV,seval,zA0]
 have nr:∀ id,rowOf a'=some id→2≤id:=fun id h=>by
  rcases nw' id h with h' | h'
  ·cases h'
  ·omega
 have z0:0<N.size:=by omega
 have z1:1<N.size:=by omega
 obtain⟨ro,hro,hfr⟩:=zGS m' zCM.cel 11 (by omega)
 have hfr:=hfr ((N.upd 0 (.row false (opR o a'))).upd 1 (.row false (opR o a'))) fun id h=>by
  have:=nr id h
  rw[zA2 (w'.upd _ _) _ _ _ (by omega),zA2 w' _ _ _ (by omega)]
 simp (disch:=try exact SX) only[RV,seval,zA0,h0,w',g0,g1,on',oc',z0,z1,rl',hfr]
 exact⟨_,hro,rfl⟩
theorem zHN (hS:Sl 17 isOp a l)(hl:l.length≤100000)(hd:∀ o∈l,o.rs.length≤1000000000)(hf:l.length+100<fuel):∃ r,Sl 17 isOp r l ∧ ∀ M,zCN fuel (d+2) 5 [a] M=some (r,M):=by
 have ll:=hS.len
 refine zEP tf5 rfl (fun M=>by simp only[icyL,fun M=>hS.icy M 12 (by omega)]) ?_
 refine zAJ tf5 rfl (by simp only[icyL,fun M=>hS.icy M 12 (by omega)]) (by simp [a5]) fun b' ht hx=>?_
 have h0:=hx 0 _ rfl
 clear hx
 simp only[a5,c5] at ht ⊢
 simp (disch:=try exact SX) only[RV,seval,zA0,h0,ll,hS.fz.rows,hS.fz.one,hS.fz.cells,hS.fz.icy,hS.fz.frz]
 refine zAZ (I:=fun n t N => ∃ (i:Nat) (out:AV),n=l.length - i∧i≤l.length∧nth zA1 t 0=a∧nth zA1 t 3=out∧nth zA1 t 4=I64 i∧Wf N∧SlM N 17 isOp out (l.take i)) (n:=l.length) (by omega) ?_ ?_
 ·refine⟨0,NIL,rfl,Nat.zero_le _, ?_, ?_, ?_,Wf.mem0,SlM.nil⟩ <;> simp (disch:=try exact SX) only[RV,seval,zA0,h0,ll]
  all_goals first | rfl | assumption | done
 ·rintro n t N hlt ⟨i,out,rfl,hi,g0,g3,g4,w,sm⟩
  simp only[ht] at hlt ⊢
  have oo:=sm.one
  have oc:=sm.cells
  by_cases hc:i<l.length
  ·have q3:decide ((i:Int)<l.length)=true:=DT
   have w1:IntKind.i64.wrap ((i:Int)+1)=((i+1:Nat):Int):=WI
   obtain⟨r,hiad,hr,hrl⟩:=hS.iad i hc
   have hsn:=take_snoc l i hc
   have hlo:=hd l[i] (List.getElem_mem hc)
   generalize l[i]=e at *
   obtain⟨ra,rfl,hra,hok⟩:=hr
   have ora:=hra.one
   obtain⟨rt,srt,hrt⟩:=zJJ (fuel:=fuel) (d:=d) hra hlo
   have ort:=srt.one
   have hli:(l.take i).length≤i:=by rw[List.length_take];omega
   simp (disch:=try exact SX) only[RV,seval,zA0,g0,g3,g4,ll,hS.fz.rows,hS.fz.one,hS.fz.cells,hS.fz.icy,hS.fz.frz,q3,hiad,hra.fz.rows,hra.fz.one,hra.fz.cells,hra.fz.icy,hra.fz.frz,w,oo,oc,hrt,srt.fz.rows,srt.fz.one,srt.fz.cells,srt.fz.icy,srt.fz.frz]
   refine⟨zAN sm.rl (by omega), ?_⟩
   refine app1 (bytes:=112) w sm zMN (x:=e) ⟨rt,rfl,srt,hok⟩ rfl (by omega) (by omega) (by omega) fun o' M' m' w' le' kp' nw' wm' rl' on' oc'=>?_
   simp (disch:=try exact SX) only[RV,seval,zA0,g0,g3,g4,w1,w',on',oc']
   exact⟨hlt,l.length - (i+1),by omega,i+1,o',rfl,by omega,rfl,rfl,by rw[hsn];exact m'⟩
  ·obtain rfl:i=l.length:=by omega
   have q3:decide ((l.length:Int)<l.length)=false:=DF
   rw[List.take_length] at sm
   obtain⟨r,hz,hsr⟩:=sm.frz zMN.cel (k:=12) (by omega)
   simp (disch:=try exact SX) only[RV,seval,zA0,g0,g3,g4,ll,hS.fz.rows,hS.fz.one,hS.fz.cells,hS.fz.icy,hS.fz.frz,q3,hz]
   exact⟨r,hsr,rfl⟩
def bitI (c:Int)(i:Nat):Bool:=decide ((c.toNat / 2 ^ i) % 2=1)
theorem zUP {a b:Int}(ha:0≤a∧a<4294967296)(hb:0≤b∧b<4294967296):zLH a b=0 ↔ ∀ i,i<32→bitI a i=true→bitI b i=true:=by
 obtain⟨n,rfl⟩:∃ n:Nat,a=n:=⟨a.toNat,by omega⟩
 obtain⟨m,rfl⟩:∃ m:Nat,b=m:=⟨b.toNat,by omega⟩
 have e1:∀ (n i:Nat),i<32→bitI (n:Int) i=(BitVec.ofInt 32 (n:Int)).getLsbD i:=fun n i hi=>by
  rw[BitVec.ofInt_natCast,BitVec.getLsbD_ofNat,decide_eq_true hi,Bool.true_and,Nat.testBit_eq_decide_div_mod_eq]
  rfl
 have e2:zLH n m=((BitVec.ofInt 32 (n:Int) &&& ~~~ BitVec.ofInt 32 (m:Int)).toNat:Int):=by
  have:=(BitVec.ofInt 32 (n:Int) &&& ~~~ BitVec.ofInt 32 (m:Int)).isLt
  unfold zLH
  generalize (BitVec.ofInt 32 (n:Int) &&& ~~~ BitVec.ofInt 32 (m:Int)).toNat=z at *
  simp [IntKind.wrap,IntKind.bits,IntKind.signed]
  omega
 rw[e2]
 have e3:((BitVec.ofInt 32 (n:Int) &&& ~~~ BitVec.ofInt 32 (m:Int)).toNat:Int)=0↔(BitVec.ofInt 32 (n:Int) &&& ~~~ BitVec.ofInt 32 (m:Int))=0#32:=by
  rw[← BitVec.toNat_inj];simp
 rw[e3]
 constructor
 ·intro h i hi h1
  rw[e1 _ _ hi] at h1 ⊢
  have:=congrArg (fun v=>BitVec.getLsbD v i) h
  simp only[BitVec.getLsbD_and,BitVec.getLsbD_not,h1,hi,BitVec.getLsbD_zero,decide_true,Bool.true_and,Bool.not_eq_false'] at this
  exact this
 ·intro h
  apply BitVec.eq_of_getLsbD_eq
  intro i hi
  have:=h i hi
  rw[e1 _ _ hi,e1 _ _ hi] at this
  simp only[BitVec.getLsbD_and,BitVec.getLsbD_not,hi,BitVec.getLsbD_zero,decide_true,Bool.true_and]
  cases h1:(BitVec.ofInt 32 (n:Int)).getLsbD i with
  | false=>rfl
  | true=>rw[this h1];rfl
theorem zJF (v:Lb)(M:Mem):zCN fuel (d+1) 31 [lbA v] M=some (BL v.may,M):=by
 apply zB2
 refine zAJ tf31 rfl (by simp (disch:=try exact SX) only[RV,seval,zA0]) (by simp [a31]) fun b' ht hx=>?_
 have h0:=hx 0 _ rfl
 clear hx
 simp only[a31,c31] at ht ⊢
 unfold Lb.may
 by_cases q:15<v.lv
 ·have q1:decide (v.lv≤15)=false:=DF
  have q2:decide (15<v.lv)=true:=decide_eq_true q
  simp (disch:=try exact SX) only[RV,seval,zA0,h0,q1,q2]
 ·have q1:decide (v.lv≤15)=true:=DT
  have q2:decide (15<v.lv)=false:=decide_eq_false q
  simp (disch:=try exact SX) only[RV,seval,zA0,h0,q1,q2]
theorem zUE (v:Lb)(hv:v.ok)(i:Nat)(hi:i<32)(M:Mem):zCN fuel (d+1) 93 [lbA v,I64 i] M=some (BL (bitI v.cats i),M):=by
 have cv:=fun t r x=>zQX (P:=Tryz.prog) (t:=t) Tryz.underlying3 Tryz.underlying167 r x
 have w:IntKind.u64.wrap (i:Int)=i:=by simp [IntKind.wrap,IntKind.bits,IntKind.signed];omega
 have sh:∀ ty,binV Tryz.prog .shr ty .u32 v.cats .u64 (i:Int)=some (.int .u32 ((v.cats.toNat / 2 ^ i:Nat):Int)):=fun ty=>by
  rw[vShr _ _ _ _ _ (by omega)]
  have:min (Int.toNat (i:Int)) (IntKind.u32).bits=i:=by simp [IntKind.bits];omega
  rw[this]
  obtain⟨n,hn⟩:∃ n:Nat,v.cats=n:=⟨v.cats.toNat,by have:=hv.2.2.1;omega⟩
  have h2:(0:Int)≤2 ^ i:=by exact_mod_cast Nat.zero_le (2 ^ i)
  rw[hn,Int.fdiv_eq_ediv_of_nonneg _ h2,Int.toNat_natCast]
  simp
 have hr:∀ (ty:TypeId) (n:Nat),binV Tryz.prog .rem ty .u32 (n:Int) .u32 2=some (.int .u32 ((n % 2:Nat):Int)):=fun ty n=>by
  rw[vRem,if_neg (by omega)]
  simp [Int.tmod_eq_emod_of_nonneg]
 apply zB2
 refine zAJ tf93 rfl (by simp (disch:=try exact SX) only[RV,seval,zA0]) (by simp [a93]) fun b' ht hx=>?_
 obtain⟨h0,h1⟩:=hx2 hx
 clear hx
 simp only[a93,c93] at ht ⊢
 unfold bitI
 have q:decide (((v.cats.toNat / 2 ^ i % 2:Nat):Int)=1)=decide (v.cats.toNat / 2 ^ i % 2=1):=by
  exact zB0O
 simp (disch:=try exact SX) only[RV,seval,zA0,h0,h1,cv,zLQ,w,sh,hr,q]
theorem zGN (a b:Lb)(ha:a.ok)(hb:b.ok)(hf:40<fuel)(M:Mem):zCN fuel (d+2) 58 [lbA a,lbA b] M=some (BL (a.leq b),M):=by
 have hh:=fun i hi M=>@zUE fuel d a ha i hi M
 have kh:=fun i hi M=>@zUE fuel d b hb i hi M
 have key:=zUP ha.2.2 hb.2.2
 apply zB2
 refine zAJ tf58 rfl (by simp (disch:=try exact SX) only[RV,seval,zA0]) (by simp [a58]) fun b' ht hx=>?_
 obtain⟨h0,h1⟩:=hx2 hx
 clear hx
 simp only[a58,c58] at ht ⊢
 simp (disch:=try exact SX) only[RV,seval,zA0,h0,h1]
 refine zAZ (I:=fun n t N => ∃ (i:Nat),n=32 - i∧i≤32∧nth zA1 t 2 = .ptr 0 0∧nth zA1 t 3 = .ptr 1 0∧nth zA1 t 5=I64 i∧N=(mem0.add (.row false [U8 a.lv,U32 a.cats])).add (.row false [U8 b.lv,U32 b.cats])∧(∀ j,j<i→bitI a.cats j=true→bitI b.cats j=true)) (n:=32) (by omega) ?_ ?_
 ·refine⟨0,rfl,Nat.zero_le _, ?_, ?_, ?_,rfl,(fun _ h=>absurd h (by omega))⟩ <;> simp (disch:=try exact SX) only[RV,seval,zA0,h0,h1]
  all_goals first | rfl | assumption | done
 ·rintro n t N hlt ⟨i,rfl,hi,g2,g3,g5,hm,hj⟩
  simp only[ht] at hlt ⊢
  subst hm
  by_cases hc:i<32
  ·have q1:decide ((i:Int)<32)=true:=DT
   have w1:IntKind.i64.wrap ((i:Int)+1)=((i+1:Nat):Int):=WI
   cases b1:bitI a.cats i with
   | false =>
    simp (disch:=try exact SX) only[RV,seval,zA0,g2,g3,g5,q1,w1,hh,b1]
    exact⟨hlt,32 - (i+1),by omega,i+1,rfl,by omega,rfl,fun j hj' hb'=>by
     rcases Nat.lt_succ_iff_lt_or_eq.1 hj' with h | rfl
     ·exact hj j h hb'
     ·rw[b1] at hb';cases hb'⟩
   | true =>
    cases b2:bitI b.cats i with
    | true =>
     simp (disch:=try exact SX) only[RV,seval,zA0,g2,g3,g5,q1,w1,hh,kh,b1,b2]
     exact⟨hlt,32 - (i+1),by omega,i+1,rfl,by omega,rfl,fun j hj' hb'=>by
      rcases Nat.lt_succ_iff_lt_or_eq.1 hj' with h | rfl
      ·exact hj j h hb'
      ·exact b2⟩
    | false =>
     have e:a.leq b=false:=by
      unfold Lb.leq
      rw[Bool.and_eq_false_iff]
      right
      rw[decide_eq_false_iff_not,key]
      intro h
      have:=h i hc b1
      rw[b2] at this;cases this
     simp (disch:=try exact SX) only[RV,seval,zA0,g2,g3,g5,q1,w1,hh,kh,b1,b2,e]
  ·obtain rfl:i=32:=by omega
   have e:a.leq b=decide (a.lv≤b.lv):=by
    unfold Lb.leq
    rw[decide_eq_true (p:=zLH a.cats b.cats=0) (key.2 hj),Bool.and_true]
   have q1:decide (((32:Nat):Int)<32)=false:=rfl
   simp (disch:=try exact SX) only[RV,seval,zA0,g2,g3,g5,q1,e]
theorem zZM (x:Int)(M:Mem):zCN fuel (d+1) 108 [I64 x] M=some (BL (zHR x),M):=by
 apply zB2
 refine zAJ tf108 rfl (by simp (disch:=try exact SX) only[RV,seval,zA0]) (by simp [a108]) fun b' ht hx=>?_
 have h0:=hx 0 _ rfl
 clear hx
 simp only[a108,c108] at ht ⊢
 have key:zHR x=(decide (0≤x)&&decide (x≤1114111)&&(decide (x<55296) || decide (57343<x))):=by
  unfold zHR
  by_cases h1:0≤x <;> by_cases h2:x≤1114111 <;> by_cases h3:x<55296 <;> by_cases h4:57343<x <;> simp [h1,h2,h3,h4] <;> omega
 rw[key]
 cases q1:decide (0≤x) <;> cases q2:decide (x≤1114111) <;> cases q3:decide (x<55296) <;> cases q4:decide (57343<x)
 all_goals simp (disch:=try exact SX) only[RV,seval,zA0,h0,q1,q2,q3,q4,Bool.false_and]
theorem zKK (h:Hd)(M:Mem):zCN fuel (d+2) 65 [hdA h] M=some (BL h.may,M):=by
 have hm:=fun M=>@zJF fuel d h.lb M
 apply zB2
 refine zAJ tf65 rfl (by simp (disch:=try exact SX) only[RV,seval,zA0]) (by simp [a65]) fun b' ht hx=>?_
 have h0:=hx 0 _ rfl
 clear hx
 simp only[a65,c65] at ht ⊢
 unfold Hd.may
 cases q:h.lb.may <;> rw[q] at hm <;> simp (disch:=try exact SX) only[RV,seval,zA0,h0,hm,Bool.false_and]
theorem zJI (x:Eid)(M:Mem):zCN fuel (d+3) 68 [idA x] M=some (BL x.may,M):=by
 have hm:=fun M=>@zKK fuel d x.hd M
 apply zB2
 refine zAJ tf68 rfl (by simp (disch:=try exact SX) only[RV,seval,zA0]) (by simp [a68]) fun b' ht hx=>?_
 have h0:=hx 0 _ rfl
 clear hx
 simp only[a68,c68] at ht ⊢
 unfold Eid.may
 cases q:x.hd.may <;> rw[q] at hm
 ·simp (disch:=try exact SX) only[RV,seval,zA0,h0,hm,Bool.false_and]
 ·cases q1:decide (1≤x.c) <;> simp (disch:=try exact SX) only[RV,seval,zA0,h0,hm,q1,Bool.false_and]
theorem zKL (s:Spn)(M:Mem):zCN fuel (d+4) 66 [spA s] M=some (BL s.may,M):=by
 have hm:=fun M=>@zJI fuel d s.f M
 apply zB2
 refine zAJ tf66 rfl (by simp (disch:=try exact SX) only[RV,seval,zA0]) (by simp [a66]) fun b' ht hx=>?_
 have h0:=hx 0 _ rfl
 clear hx
 simp only[a66,c66] at ht ⊢
 unfold Spn.may
 cases q:s.f.may <;> rw[q] at hm
 ·simp (disch:=try exact SX) only[RV,seval,zA0,h0,hm,Bool.false_and]
 ·cases q1:decide (1≤s.n)
  ·simp (disch:=try exact SX) only[RV,seval,zA0,h0,hm,q1,Bool.false_and]
  ·cases q2:decide (s.n≤64)
   ·simp (disch:=try exact SX) only[RV,seval,zA0,h0,hm,q1,q2,Bool.false_and]
   ·have w:IntKind.i64.wrap (1099511627777 - s.n)=1099511627777 - s.n:=by
     rw[decide_eq_true_eq] at q1 q2
     exact wrap_i64 (by omega) (by omega)
    have q3:decide (s.f.c≤1099511627777 - s.n)=decide (s.f.c+s.n≤1099511627777):=by
     exact zB0O
    simp (disch:=try exact SX) only[RV,seval,zA0,h0,hm,q1,q2,w,q3]
theorem zSG (x:Eid)(M:Mem):zCN fuel (d+1) 67 [idA x] M=some (BL (decide (x=Eid.z)),M):=by
 apply zB2
 refine zAJ tf67 rfl (by simp (disch:=try exact SX) only[RV,seval,zA0]) (by simp [a67]) fun b' ht hx=>?_
 have h0:=hx 0 _ rfl
 clear hx
 simp only[a67,c67] at ht ⊢
 exact zB0B
theorem zP8 (x:Eid)(M:Mem):zCN fuel (d+1) 109 [idA x] M=some (BL (decide (x=Eid.z)),M):=by
 apply zB2
 refine zAJ tf109 rfl (by simp (disch:=try exact SX) only[RV,seval,zA0]) (by simp [a109]) fun b' ht hx=>?_
 have h0:=hx 0 _ rfl
 clear hx
 simp only[a109,c109] at ht ⊢
 exact zB0B
theorem zJG {a:AV}{l:List Int}(hS:Sl 1 zAS a l)(hi32:i32s l)(hf:100<fuel)(M:Mem):zCN fuel (d+2) 69 [a] M=some (I64 (chkR l),M):=by
 have ll:=hS.len
 have cv:=fun t r x=>zQX (P:=Tryz.prog) (t:=t) Tryz.underlying21 Tryz.underlying3 r x
 apply zB2
 refine zAJ tf69 rfl (by simp (disch:=try exact SX) only[RV,seval,zA0,hS.fz.rows,hS.fz.one,hS.fz.cells,hS.fz.icy,hS.fz.frz]) (by simp [a69]) fun b' ht hx=>?_
 have h0:=hx 0 _ rfl
 clear hx
 simp only[a69,c69] at ht ⊢
 unfold chkR
 by_cases q:64<l.length
 ·exact zB0y
 ·have q1:decide ((64:Int)<l.length)=false:=DF
  rw[if_neg q]
  simp (disch:=try exact SX) only[RV,seval,zA0,h0,ll,hS.fz.rows,hS.fz.one,hS.fz.cells,hS.fz.icy,hS.fz.frz,q1]
  refine zAZ (I:=fun n t N => ∃ (i:Nat),n=l.length - i∧i≤l.length∧nth zA1 t 0=a∧nth zA1 t 3=I64 i∧N=mem0∧(l.take i).all okR=true) (n:=l.length) (by omega) ?_ ?_
  ·refine⟨0,rfl,Nat.zero_le _, ?_, ?_,rfl,rfl⟩ <;> simp (disch:=try exact SX) only[RV,seval,zA0,h0,ll]
   all_goals first | rfl | assumption | done
  ·rintro n t N hlt ⟨i,rfl,hi,g0,g3,hm,hj⟩
   simp only[ht] at hlt ⊢
   subst hm
   by_cases hc:i<l.length
   ·have q2:decide ((i:Int)<l.length)=true:=DT
    have w1:IntKind.i64.wrap ((i:Int)+1)=((i+1:Nat):Int):=WI
    obtain⟨r,hr,hrr,_⟩:=hS.iad i hc
    have hrr:r=[I32 l[i]]:=hrr
    subst hrr
    have hrg:=hi32 l[i] (List.getElem_mem hc)
    have hw:IntKind.i64.wrap l[i]=l[i]:=wrap_i64 (by omega) (by omega)
    have his:=fun M=>@zZM fuel d l[i] M
    have htk:(l.take (i+1)).all okR=((l.take i).all okR&&okR l[i]):=by
     rw[List.take_add_one,List.getElem?_eq_getElem hc,List.all_append]
     simp
    have bad:okR l[i]=false→l.all okR=false:=fun h=>by
     rw[← Bool.not_eq_true,List.all_eq_true]
     intro h2
     rw[h2 _ (List.getElem_mem hc)] at h
     cases h
    cases q3:decide (l[i] = -1) with
    | true =>
     have ok:okR l[i]=true:=by unfold okR;rw[q3];rfl
     simp (disch:=try exact SX) only[RV,seval,zA0,g0,g3,ll,hS.fz.rows,hS.fz.one,hS.fz.cells,hS.fz.icy,hS.fz.frz,q2,w1,hr,q3]
     exact⟨hlt,l.length - (i+1),by omega,i+1,rfl,by omega,rfl,by rw[htk,hj,ok];rfl⟩
    | false =>
     cases q4:zHR l[i] with
     | true =>
      rw[q4] at his
      have ok:okR l[i]=true:=by unfold okR;rw[q3,q4];rfl
      simp (disch:=try exact SX) only[RV,seval,zA0,g0,g3,ll,hS.fz.rows,hS.fz.one,hS.fz.cells,hS.fz.icy,hS.fz.frz,q2,w1,hr,q3,cv,zLQ,hw,his]
      exact⟨hlt,l.length - (i+1),by omega,i+1,rfl,by omega,rfl,by rw[htk,hj,ok];rfl⟩
     | false =>
      rw[q4] at his
      have ok:okR l[i]=false:=by unfold okR;rw[q3,q4];rfl
      rw[bad ok]
      simp (disch:=try exact SX) only[RV,seval,zA0,g0,g3,ll,hS.fz.rows,hS.fz.one,hS.fz.cells,hS.fz.icy,hS.fz.frz,q2,w1,hr,q3,cv,zLQ,hw,his,zBH]
   ·obtain rfl:i=l.length:=by omega
    have q2:decide ((l.length:Int)<l.length)=false:=DF
    rw[List.take_length] at hj
    rw[hj]
    simp (disch:=try exact SX) only[RV,seval,zA0,g0,g3,ll,hS.fz.rows,hS.fz.one,hS.fz.cells,hS.fz.icy,hS.fz.frz,q2,zB9]
theorem zNO {o:Op}{ra:AV}(hS:Sl 1 zAS ra o.rs)(ho:o.ok)(hf:100<fuel)(M:Mem):zCN fuel (d+5) 37 [.agg (opR o ra)] M=some (BL o.may,M):=by
 have ora:=hS.one
 have ll:=hS.len
 have hh:=fun M=>@zKK fuel (d+2) o.hd M
 have hs:=fun M=>@zKL fuel d o.sp M
 have hz:=fun M=>@zSG fuel (d+3) o.af M
 have ha:=fun M=>@zJI fuel (d+1) o.af M
 have hto:=fun M=>@zJF fuel (d+3) o.to M
 have hc:=fun M=>zJG (fuel:=fuel) (d:=d+2) hS ho.2.2.2.2.2.2 hf M
 apply zB2
 refine zAJ tf37 rfl (by simp only[icyL,zDI hS.fz]) (by simp [a37]) fun b' ht hx=>?_
 have h0:=hx 0 _ rfl
 clear hx
 simp only[a37,c37] at ht ⊢
 unfold Op.may
 have k0:=ho.1
 cases q3:o.hd.may <;> rw[q3] at hh
 ·simp (disch:=try exact SX) only[RV,seval,zA0,h0,hS.fz.rows,hS.fz.one,hS.fz.cells,hS.fz.icy,hS.fz.frz,hh,Bool.false_and,Bool.and_false]
 cases q4:decide (o.sr<1)
 rotate_left
 ·simp (disch:=try exact SX) only[RV,seval,zA0,h0,hS.fz.rows,hS.fz.one,hS.fz.cells,hS.fz.icy,hS.fz.frz,hh,q4,Bool.false_and,Bool.and_false]
 cases q5:decide (16777216≤o.sr)
 rotate_left
 ·simp (disch:=try exact SX) only[RV,seval,zA0,h0,hS.fz.rows,hS.fz.one,hS.fz.cells,hS.fz.icy,hS.fz.frz,hh,q4,q5,Bool.false_and,Bool.and_false]
 cases q6:o.sp.may <;> rw[q6] at hs
 ·simp (disch:=try exact SX) only[RV,seval,zA0,h0,hS.fz.rows,hS.fz.one,hS.fz.cells,hS.fz.icy,hS.fz.frz,hh,q4,q5,hs,Bool.false_and,Bool.and_false]
 simp only[Bool.not_false,Bool.and_true]
 by_cases k1:o.kd=1
 ·have e0:decide (o.kd=0)=false:=DF
  have e4:decide (4≤o.kd)=false:=DF
  have e1:decide (o.kd=1)=true:=decide_eq_true k1
  have ep:o.part=(decide (o.to=Lb.z)&&(decide (o.af=Eid.z) || o.af.may)&&decide (o.sp.f.hd=o.hd)&&decide ((o.rs.length:Int)=o.sp.n)&&decide (chkR o.rs=0)):=by unfold Op.part;rw[if_pos k1]
  rw[e0,e4,ep]
  simp only[Bool.not_false,Bool.true_and]
  cases b1:decide (o.to=Lb.z)
  ·simp (disch:=try exact SX) only[RV,seval,zA0,h0,hS.fz.rows,hS.fz.one,hS.fz.cells,hS.fz.icy,hS.fz.frz,hh,q4,q5,hs,↓pIdE,zAA,↓pIdN,zA9,↓pHdE,zAB,↓pHdN,zAC,↓pLbE,zA8,↓pLbN,zAD,↓pSpE,zAE,↓pSpN,zAF,ETA,e1,b1,Bool.false_and]
  cases b2:decide (o.af=Eid.z) <;> rw[b2] at hz
  ·cases b3:o.af.may <;> rw[b3] at ha
   ·simp (disch:=try exact SX) only[RV,seval,zA0,h0,hS.fz.rows,hS.fz.one,hS.fz.cells,hS.fz.icy,hS.fz.frz,hh,q4,q5,hs,↓pIdE,zAA,↓pIdN,zA9,↓pHdE,zAB,↓pHdN,zAC,↓pLbE,zA8,↓pLbN,zAD,↓pSpE,zAE,↓pSpN,zAF,ETA,e1,b1,hz,ha,Bool.false_and]
   ·cases b4:decide (o.sp.f.hd=o.hd)
    ·simp (disch:=try exact SX) only[RV,seval,zA0,h0,hS.fz.rows,hS.fz.one,hS.fz.cells,hS.fz.icy,hS.fz.frz,hh,q4,q5,hs,↓pIdE,zAA,↓pIdN,zA9,↓pHdE,zAB,↓pHdN,zAC,↓pLbE,zA8,↓pLbN,zAD,↓pSpE,zAE,↓pSpN,zAF,ETA,e1,b1,hz,ha,b4,Bool.false_and]
    ·cases b5:decide ((o.rs.length:Int)=o.sp.n)
     ·simp (disch:=try exact SX) only[RV,seval,zA0,h0,hS.fz.rows,hS.fz.one,hS.fz.cells,hS.fz.icy,hS.fz.frz,hh,q4,q5,hs,↓pIdE,zAA,↓pIdN,zA9,↓pHdE,zAB,↓pHdN,zAC,↓pLbE,zA8,↓pLbN,zAD,↓pSpE,zAE,↓pSpN,zAF,ETA,e1,b1,hz,ha,b4,ll,b5,Bool.false_and]
     ·simp (disch:=try exact SX) only[RV,seval,zA0,h0,hS.fz.rows,hS.fz.one,hS.fz.cells,hS.fz.icy,hS.fz.frz,hh,q4,q5,hs,↓pIdE,zAA,↓pIdN,zA9,↓pHdE,zAB,↓pHdN,zAC,↓pLbE,zA8,↓pLbN,zAD,↓pSpE,zAE,↓pSpN,zAF,ETA,e1,b1,hz,ha,b4,ll,b5,hc,Bool.false_and]
  ·cases b4:decide (o.sp.f.hd=o.hd)
   ·simp (disch:=try exact SX) only[RV,seval,zA0,h0,hS.fz.rows,hS.fz.one,hS.fz.cells,hS.fz.icy,hS.fz.frz,hh,q4,q5,hs,↓pIdE,zAA,↓pIdN,zA9,↓pHdE,zAB,↓pHdN,zAC,↓pLbE,zA8,↓pLbN,zAD,↓pSpE,zAE,↓pSpN,zAF,ETA,e1,b1,hz,b4,Bool.false_and]
   ·cases b5:decide ((o.rs.length:Int)=o.sp.n)
    ·simp (disch:=try exact SX) only[RV,seval,zA0,h0,hS.fz.rows,hS.fz.one,hS.fz.cells,hS.fz.icy,hS.fz.frz,hh,q4,q5,hs,↓pIdE,zAA,↓pIdN,zA9,↓pHdE,zAB,↓pHdN,zAC,↓pLbE,zA8,↓pLbN,zAD,↓pSpE,zAE,↓pSpN,zAF,ETA,e1,b1,hz,b4,ll,b5,Bool.false_and]
    ·simp (disch:=try exact SX) only[RV,seval,zA0,h0,hS.fz.rows,hS.fz.one,hS.fz.cells,hS.fz.icy,hS.fz.frz,hh,q4,q5,hs,↓pIdE,zAA,↓pIdN,zA9,↓pHdE,zAB,↓pHdN,zAC,↓pLbE,zA8,↓pLbN,zAD,↓pSpE,zAE,↓pSpN,zAF,ETA,e1,b1,hz,b4,ll,b5,hc,Bool.false_and]
 ·have e1:decide (o.kd=1)=false:=decide_eq_false k1
  cases b2:decide (o.af=Eid.z) <;> rw[b2] at hz
  ·have ep:o.part=false:=by
    unfold Op.part Op.bare
    rw[if_neg k1,b2]
    split <;> simp
   rw[ep,Bool.and_false]
   simp (disch:=try exact SX) only[RV,seval,zA0,h0,hS.fz.rows,hS.fz.one,hS.fz.cells,hS.fz.icy,hS.fz.frz,hh,q4,q5,hs,↓pIdE,zAA,↓pIdN,zA9,↓pHdE,zAB,↓pHdN,zAC,↓pLbE,zA8,↓pLbN,zAD,↓pSpE,zAE,↓pSpN,zAF,ETA,e1,hz]
  ·by_cases b3:0<o.rs.length
   ·have b3':decide ((0:Int)<o.rs.length)=true:=DT
    have ep:o.part=false:=by
     unfold Op.part Op.bare
     rw[if_neg k1,decide_eq_false (show ¬((o.rs.length:Int)=0) by omega)]
     split <;> simp
    rw[ep,Bool.and_false]
    simp (disch:=try exact SX) only[RV,seval,zA0,h0,hS.fz.rows,hS.fz.one,hS.fz.cells,hS.fz.icy,hS.fz.frz,hh,q4,q5,hs,↓pIdE,zAA,↓pIdN,zA9,↓pHdE,zAB,↓pHdN,zAC,↓pLbE,zA8,↓pLbN,zAD,↓pSpE,zAE,↓pSpN,zAF,ETA,e1,hz,ll,b3']
   ·have b3':decide ((0:Int)<o.rs.length)=false:=DF
    have eb:o.bare=true:=by
     unfold Op.bare
     rw[b2,decide_eq_true (show (o.rs.length:Int)=0 by omega)]
     rfl
    by_cases k2:o.kd=2
    ·have e2:decide (o.kd=2)=true:=decide_eq_true k2
     have e3:decide (o.kd=3)=false:=DF
     have ep:o.part=decide (o.to=Lb.z):=by unfold Op.part;rw[if_neg k1,if_pos k2,eb,Bool.and_true]
     rw[ep,decide_eq_false (show ¬(o.kd=0) by omega),decide_eq_false (show ¬(4≤o.kd) by omega)]
     simp only[Bool.not_false,Bool.true_and]
     cases b1:decide (o.to=Lb.z)
     all_goals simp (disch:=try exact SX) only[RV,seval,zA0,h0,hS.fz.rows,hS.fz.one,hS.fz.cells,hS.fz.icy,hS.fz.frz,hh,q4,q5,hs,↓pIdE,zAA,↓pIdN,zA9,↓pHdE,zAB,↓pHdN,zAC,↓pLbE,zA8,↓pLbN,zAD,↓pSpE,zAE,↓pSpN,zAF,ETA,e1,hz,ll,b3',e2,e3,b1]
    ·have e2:decide (o.kd=2)=false:=decide_eq_false k2
     have ep:o.part=o.to.may:=by unfold Op.part;rw[if_neg k1,if_neg k2,eb,Bool.true_and]
     by_cases k3:o.kd=3
     ·have e3:decide (o.kd=3)=true:=decide_eq_true k3
      rw[ep,decide_eq_false (show ¬(o.kd=0) by omega),decide_eq_false (show ¬(4≤o.kd) by omega)]
      simp only[Bool.not_false,Bool.true_and]
      simp (disch:=try exact SX) only[RV,seval,zA0,h0,hS.fz.rows,hS.fz.one,hS.fz.cells,hS.fz.icy,hS.fz.frz,hh,q4,q5,hs,↓pIdE,zAA,↓pIdN,zA9,↓pHdE,zAB,↓pHdN,zAC,↓pLbE,zA8,↓pLbN,zAD,↓pSpE,zAE,↓pSpN,zAF,ETA,e1,hz,ll,b3',e2,e3,hto]
     ·have e3:decide (o.kd=3)=false:=decide_eq_false k3
      have ek:(!decide (o.kd=0) && !decide (4≤o.kd))=false:=by
       by_cases h:o.kd=0
       ·rw[decide_eq_true h];rfl
       ·rw[decide_eq_true (show 4≤o.kd by omega)];simp
      rw[ek,Bool.false_and]
      simp (disch:=try exact SX) only[RV,seval,zA0,h0,hS.fz.rows,hS.fz.one,hS.fz.cells,hS.fz.icy,hS.fz.frz,hh,q4,q5,hs,↓pIdE,zAA,↓pIdN,zA9,↓pHdE,zAB,↓pHdN,zAC,↓pLbE,zA8,↓pLbN,zAD,↓pSpE,zAE,↓pSpN,zAF,ETA,e1,hz,ll,b3',e2,e3]
theorem zSC {o:Rn}{ra:AV}(hS:Sl 1 zAS ra o.rs)(ho:i32s o.rs)(hf:100<fuel)(M:Mem):zCN fuel (d+5) 71 [.agg (rnR o ra)] M=some (BL o.may,M):=by
 have ora:=hS.one
 have ll:=hS.len
 have hs:=fun M=>@zKL fuel d o.sp M
 have hz:=fun M=>@zP8 fuel (d+3) o.af M
 have ha:=fun M=>@zJI fuel (d+1) o.af M
 have hc:=fun M=>zJG (fuel:=fuel) (d:=d+2) hS ho hf M
 apply zB2
 refine zAJ tf71 rfl (by simp only[icyL,zCP hS.fz]) (by simp [a71]) fun b' ht hx=>?_
 have h0:=hx 0 _ rfl
 clear hx
 simp only[a71,c71] at ht ⊢
 unfold Rn.may
 cases q6:o.sp.may <;> rw[q6] at hs
 ·simp (disch:=try exact SX) only[RV,seval,zA0,h0,hS.fz.rows,hS.fz.one,hS.fz.cells,hS.fz.icy,hS.fz.frz,hs,Bool.false_and,Bool.and_false]
 simp only[Bool.true_and]
 cases b5:decide ((o.rs.length:Int)=o.sp.n)
 ·simp (disch:=try exact SX) only[RV,seval,zA0,h0,hS.fz.rows,hS.fz.one,hS.fz.cells,hS.fz.icy,hS.fz.frz,hs,ll,b5,Bool.false_and,Bool.and_false]
 cases b6:decide (chkR o.rs=0)
 ·simp (disch:=try exact SX) only[RV,seval,zA0,h0,hS.fz.rows,hS.fz.one,hS.fz.cells,hS.fz.icy,hS.fz.frz,hs,ll,b5,hc,b6,Bool.false_and,Bool.and_false]
 simp only[Bool.and_true]
 cases b2:decide (o.af=Eid.z) <;> rw[b2] at hz
 ·cases b3:o.af.may <;> rw[b3] at ha
  ·simp (disch:=try exact SX) only[RV,seval,zA0,h0,hS.fz.rows,hS.fz.one,hS.fz.cells,hS.fz.icy,hS.fz.frz,hs,ll,b5,hc,b6,hz,ha,Bool.false_and,Bool.and_false]
  ·cases b4:decide (o.af.c<o.sp.f.c)
   all_goals simp (disch:=try exact SX) only[RV,seval,zA0,h0,hS.fz.rows,hS.fz.one,hS.fz.cells,hS.fz.icy,hS.fz.frz,hs,ll,b5,hc,b6,hz,ha,b4,Bool.false_and,Bool.and_false]
 ·simp (disch:=try exact SX) only[RV,seval,zA0,h0,hS.fz.rows,hS.fz.one,hS.fz.cells,hS.fz.icy,hS.fz.frz,hs,ll,b5,hc,b6,hz]
structure El where
 id:Eid
 af:Eid
 ch:Int
 deriving DecidableEq
theorem Rn.spB {r:Rn}(h:r.may=true):r.sp.may=true:=by
 unfold Rn.may at h
 simp only[Bool.and_eq_true] at h
 exact h.1.1.1
theorem Rn.may_iffB {r:Rn}(h:r.may=true):(r.rs.length:Int)=r.sp.n∧r.rs.length≤64:=by
 unfold Rn.may at h
 simp only[Bool.and_eq_true,decide_eq_true_eq] at h
 have hb:=Spn.may_le h.1.1.1
 have:=h.1.2
 omega
def Rn.bh (r:Rn)(n:Int):Eid:=if 0<n then r.sp.at (n - 1) else r.af
def Rn.elB (r:Rn):List El:=(List.range r.sp.n.toNat).map fun (i:Nat)=>⟨r.sp.at i,r.bh i,r.rs.getD i 0⟩
def elsB (l:List Rn):List El:=l.flatMap Rn.elB
abbrev elR9 (x:El):List AV:=[U8 x.id.hd.lb.lv,U32 x.id.hd.lb.cats,U8 x.id.hd.num,I64 x.id.c,U8 x.af.hd.lb.lv,U32 x.af.hd.lb.cats,U8 x.af.hd.num,I64 x.af.c,I32 x.ch]
def isEl (r:List AV)(x:El):Prop:=r=elR9 x∧x.id.ok∧x.af.ok
theorem zGY (x:El):∀ y∈elR9 x,Fz y:=fun y hy=>by
 simp only[elR9,List.mem_cons,List.not_mem_nil,or_false] at hy
 rcases hy with rfl | rfl | rfl | rfl | rfl | rfl | rfl | rfl | rfl <;> exact zCY _ _
theorem zMM:FzT isEl:=fun r x h=>by rw[h.1];exact zGY x
theorem zJB {o:Rn}{ra:AV}(hS:Sl 1 zAS ra o.rs)(n:Int)(M:Mem):zCN fuel (d+1) 124 [.agg (rnR o ra),I64 n] M=some (idA ⟨o.sp.f.hd,IntKind.i64.wrap (o.sp.f.c+n)⟩,M):=by
 have ora:=hS.one
 apply zB2
 refine zAJ tf124 rfl (by simp only[icyL,zCP hS.fz,zOR]) (by simp [a124]) fun b' ht hx=>?_
 obtain⟨h0,h1⟩:=hx2 hx
 clear hx
 simp only[a124,c124] at ht ⊢
 simp (maxSteps:=2000000) (disch:=try exact SX) only[RV,zA0,reduceIte,Nat.reduceEqDiff,Nat.reduceBEq,Nat.reduceLT,Nat.reduceAdd,Nat.reduceLeDiff,Nat.reduceSub,Nat.reduceMul,Int.reduceLT,Int.reduceLE,Int.reduceEq,Int.reduceAdd,Int.reduceSub,Int.reduceMul,h0,h1,hS.fz.rows,hS.fz.one,hS.fz.cells,hS.fz.icy,hS.fz.frz]
theorem zVM {o:Rn}{ra:AV}(hS:Sl 1 zAS ra o.rs)(hm:o.may=true)(n:Nat)(hn:n<64)(M:Mem):zCN fuel (d+2) 126 [.agg (rnR o ra),I64 n] M=some (idA (o.bh n),M):=by
 have ora:=hS.one
 have hb:=Spn.may_le (Rn.spB hm)
 have hi:=fun n M=>zJB (fuel:=fuel) (d:=d) hS n M
 apply zB2
 refine zAJ tf126 rfl (by simp only[icyL,zCP hS.fz,zOR]) (by simp [a126]) fun b' ht hx=>?_
 obtain⟨h0,h1⟩:=hx2 hx
 clear hx
 simp only[a126,c126] at ht ⊢
 unfold Rn.bh
 by_cases q:n=0
 ·subst q
  have q1:decide (((0:Nat):Int)=0)=true:=rfl
  simp (maxSteps:=2000000) (disch:=try exact SX) only[RV,zA0,reduceIte,Nat.reduceEqDiff,Nat.reduceBEq,Nat.reduceLT,Nat.reduceAdd,Nat.reduceLeDiff,Nat.reduceSub,Nat.reduceMul,Int.reduceLT,Int.reduceLE,Int.reduceEq,Int.reduceAdd,Int.reduceSub,Int.reduceMul,h0,h1,hS.fz.rows,hS.fz.one,hS.fz.cells,hS.fz.icy,hS.fz.frz,q1]
  rfl
 ·have q1:decide ((n:Int)=0)=false:=DF
  have q2:(0:Int)<n:=by omega
  have w1:IntKind.i64.wrap ((n:Int) - 1)=(n:Int) - 1:=wrap_i64 (by omega) (by omega)
  have w2:IntKind.i64.wrap (o.sp.f.c+((n:Int) - 1))=o.sp.f.c+((n:Int) - 1):=wrap_i64 (by omega) (by omega)
  simp (maxSteps:=2000000) (disch:=try exact SX) only[RV,zA0,reduceIte,Nat.reduceEqDiff,Nat.reduceBEq,Nat.reduceLT,Nat.reduceAdd,Nat.reduceLeDiff,Nat.reduceSub,Nat.reduceMul,Int.reduceLT,Int.reduceLE,Int.reduceEq,Int.reduceAdd,Int.reduceSub,Int.reduceMul,h0,h1,hS.fz.rows,hS.fz.one,hS.fz.cells,hS.fz.icy,hS.fz.frz,q1,w1,hi,w2]
  rw[if_pos q2]
  rfl
theorem zFY (r:Rn):r.elB.length=r.sp.n.toNat:=by simp [Rn.elB]
theorem zXL (r:Rn)(i:Nat)(h:i<r.sp.n.toNat):r.elB.take (i+1)=r.elB.take i++[⟨r.sp.at i,r.bh i,r.rs.getD i 0⟩]:=by
 rw[List.take_add_one,List.getElem?_eq_getElem (by rw[zFY];exact h)]
 simp [Rn.elB]
theorem zTO (l:List Rn)(i:Nat)(h:i<l.length):elsB (l.take (i+1))=elsB (l.take i)++l[i].elB:=by
 have e:l.take (i+1)=l.take i++[l[i]]:=by rw[List.take_add_one,List.getElem?_eq_getElem h];rfl
 rw[e]
 unfold elsB
 rw[List.flatMap_append]
 simp
theorem zXN {l:List Rn}(h:∀ r∈l,r.may=true):(elsB l).length≤64*l.length:=by
 induction l with
 | nil=>simp [elsB]
 | cons r l ih =>
  have hb:=Spn.may_le (Rn.spB (h r List.mem_cons_self))
  have:=ih fun x hx=>h x (List.mem_cons_of_mem _ hx)
  have e:elsB (r::l)=r.elB++elsB l:=by simp [elsB]
  rw[e,List.length_append,zFY,List.length_cons]
  omega
theorem zSD {a:AV}{l:List Rn}(hS:Sl 10 isRn a l)(hm:∀ r∈l,r.may=true)(hl:l.length≤10000)(hf:l.length+200<fuel):∃ r,Sl 9 isEl r (elsB l) ∧ ∀ M,zCN fuel (d+3) 91 [a] M=some (r,M):=by
 have ll:=hS.len
 refine zEP tf91 rfl (fun M=>by simp only[icyL,fun M=>hS.icy M 12 (by omega)]) ?_
 refine zAJ tf91 rfl (by simp only[icyL,fun M=>hS.icy M 12 (by omega)]) (by simp [a91]) fun b' ht hx=>?_
 have h0:=hx 0 _ rfl
 clear hx
 simp only[a91,c91] at ht ⊢
 simp (maxSteps:=2000000) (disch:=try exact SX) only[RV,zA0,reduceIte,Nat.reduceEqDiff,Nat.reduceBEq,Nat.reduceLT,Nat.reduceAdd,Nat.reduceLeDiff,Nat.reduceSub,Nat.reduceMul,Int.reduceLT,Int.reduceLE,Int.reduceEq,Int.reduceAdd,Int.reduceSub,Int.reduceMul,h0,hS.fz.rows,hS.fz.one,hS.fz.cells,hS.fz.icy,hS.fz.frz]
 refine zAZ (I:=fun nq tq Nq => ∃ (iq:Nat) (o:AV),nq=l.length - iq∧iq≤l.length∧nth zA1 tq 0=a∧nth zA1 tq 3=o∧nth zA1 tq 4=I64 iq∧Wf Nq∧SlM Nq 9 isEl o (elsB (l.take iq))) (n:=l.length) (by omega) ?_ ?_
 ·refine⟨0,NIL,rfl,Nat.zero_le _, ?_, ?_, ?_,Wf.mem0,SlM.nil⟩ <;> simp (maxSteps:=2000000) (disch:=try exact SX) only[RV,zA0,reduceIte,Nat.reduceEqDiff,Nat.reduceBEq,Nat.reduceLT,Nat.reduceAdd,Nat.reduceLeDiff,Nat.reduceSub,Nat.reduceMul,Int.reduceLT,Int.reduceLE,Int.reduceEq,Int.reduceAdd,Int.reduceSub,Int.reduceMul,h0]
  all_goals first | rfl | assumption | done
 ·rintro nq tq Nq hltq ⟨iq,o,rfl,hiq,gq0,gq3,gq4,wq,sq⟩
  simp only[ht] at hltq ⊢
  by_cases hc:iq<l.length
  ·have c1:decide ((iq:Int)<l.length)=true:=DT
   have w1:IntKind.i64.wrap ((iq:Int)+1)=((iq+1:Nat):Int):=WI
   obtain⟨rr,hiad,hri,_⟩:=hS.iad iq hc
   have hmr:=hm l[iq] (List.getElem_mem hc)
   have hsn:=zTO l iq hc
   have htl:=zXN (l:=l.take iq) fun r hr=>hm r (List.mem_of_mem_take hr)
   have htk:(l.take iq).length≤10000:=by rw[List.length_take];omega
   generalize l[iq]=x at *
   obtain⟨ra,rfl,hra,hok⟩:=hri
   have hb:=Spn.may_le (Rn.spB hmr)
   have hlen:=(Rn.may_iffB hmr).1
   obtain⟨m,hmn⟩:∃ m:Nat,x.sp.n=m:=⟨x.sp.n.toNat,by omega⟩
   have hid:=fun n M=>zJB (fuel:=fuel) (d:=d+1) hra n M
   have hbh:=fun n hn M=>zVM (fuel:=fuel) (d:=d) hra hmr n hn M
   generalize elsB (l.take iq)=E at *
   simp (maxSteps:=2000000) (disch:=try exact SX) only[RV,zA0,reduceIte,Nat.reduceEqDiff,Nat.reduceBEq,Nat.reduceLT,Nat.reduceAdd,Nat.reduceLeDiff,Nat.reduceSub,Nat.reduceMul,Int.reduceLT,Int.reduceLE,Int.reduceEq,Int.reduceAdd,Int.reduceSub,Int.reduceMul,gq0,gq3,gq4,ll,c1,hS.fz.rows,hS.fz.one,hS.fz.cells,hS.fz.icy,hS.fz.frz]
   refine zAZ (I:=fun nk tk Nk => ∃ (ik:Nat) (o2:AV),nk=m - ik∧ik≤m∧nth zA1 tk 0=a∧nth zA1 tk 3=o2∧nth zA1 tk 4=I64 iq∧nth zA1 tk 5=I64 ik∧Wf Nk∧SlM Nk 9 isEl o2 (E++x.elB.take ik)) (n:=m) (by omega) ?_ ?_
   ·refine⟨0,o,rfl,Nat.zero_le _, ?_, ?_, ?_, ?_,wq,(by simpa using sq)⟩ <;> simp (maxSteps:=2000000) (disch:=try exact SX) only[RV,zA0,reduceIte,Nat.reduceEqDiff,Nat.reduceBEq,Nat.reduceLT,Nat.reduceAdd,Nat.reduceLeDiff,Nat.reduceSub,Nat.reduceMul,Int.reduceLT,Int.reduceLE,Int.reduceEq,Int.reduceAdd,Int.reduceSub,Int.reduceMul,gq0,gq3,gq4]
    all_goals first | rfl | assumption | done
   ·rintro nk tk Nk hltk ⟨ik,o2,rfl,hik,gk0,gk3,gk4,gk5,wk,sk⟩
    simp only[hltq] at hltk ⊢
    have ok2:=sk.one
    have ck2:=sk.cells
    have hEl:(E++x.elB.take ik).length≤640064:=by rw[List.length_append,List.length_take,zFY];omega
    by_cases hc2:ik<m
    ·have c2:decide ((ik:Int)<x.sp.n)=true:=DT
     have w2:IntKind.i64.wrap ((ik:Int)+1)=((ik+1:Nat):Int):=WI
     have w3:IntKind.i64.wrap (x.sp.f.c+ik)=x.sp.f.c+ik:=wrap_i64 (by omega) (by omega)
     have hxl:ik<x.rs.length:=by omega
     obtain⟨rc,hia,rfl,_⟩:=hra.iad ik hxl
     have hbh1:=fun M=>hbh ik (by omega) M
     have hok1:(x.sp.at ik).ok:=⟨hok.1.1.1,by show -9223372036854775808≤x.sp.f.c+ik;omega,by show x.sp.f.c+ik≤_;omega⟩
     have hok2:(x.bh ik).ok:=by
      unfold Rn.bh
      split
      ·exact⟨hok.1.1.1,by show -9223372036854775808≤x.sp.f.c+((ik:Int) - 1);omega,by show x.sp.f.c+((ik:Int) - 1)≤_;omega⟩
      ·exact hok.2.1
     have hgd:x.rs.getD ik 0=x.rs[ik]:=by rw[List.getD_eq_getElem?_getD,List.getElem?_eq_getElem hxl];rfl
     have htke:=zXL x ik (by omega)
     rw[hgd] at htke
     simp (maxSteps:=2000000) (disch:=try exact SX) only[RV,zA0,reduceIte,Nat.reduceEqDiff,Nat.reduceBEq,Nat.reduceLT,Nat.reduceAdd,Nat.reduceLeDiff,Nat.reduceSub,Nat.reduceMul,Int.reduceLT,Int.reduceLE,Int.reduceEq,Int.reduceAdd,Int.reduceSub,Int.reduceMul,gk0,gk3,gk4,gk5,c2,hiad,hra.fz.rows,hra.fz.one,hra.fz.cells,hra.fz.icy,hra.fz.frz,hid,w3,hbh1,hia,wk,ok2,ck2,zAP]
     refine⟨zAN sk.rl (by omega), ?_⟩
     refine app1 (bytes:=56) wk sk zMM (x:=⟨x.sp.at ik,x.bh ik,x.rs[ik]⟩) ⟨rfl,hok1,hok2⟩ rfl (by omega) (by omega) (by omega) fun o' M' m' w' le' kp' nw' wm' rl' on' oc'=>?_
     simp (maxSteps:=2000000) (disch:=try exact SX) only[RV,zA0,reduceIte,Nat.reduceEqDiff,Nat.reduceBEq,Nat.reduceLT,Nat.reduceAdd,Nat.reduceLeDiff,Nat.reduceSub,Nat.reduceMul,Int.reduceLT,Int.reduceLE,Int.reduceEq,Int.reduceAdd,Int.reduceSub,Int.reduceMul,gk0,gk3,gk4,gk5,w',w2,on',oc']
     exact⟨hltk,m - (ik+1),by omega,ik+1,o',rfl,by omega,rfl,rfl,by rw[htke,← List.append_assoc];exact m'⟩
    ·obtain rfl:ik=m:=by omega
     have c2:decide ((ik:Int)<x.sp.n)=false:=DF
     rw[List.take_of_length_le (by rw[zFY];omega),← hsn] at sk
     simp (maxSteps:=2000000) (disch:=try exact SX) only[RV,zA0,reduceIte,Nat.reduceEqDiff,Nat.reduceBEq,Nat.reduceLT,Nat.reduceAdd,Nat.reduceLeDiff,Nat.reduceSub,Nat.reduceMul,Int.reduceLT,Int.reduceLE,Int.reduceEq,Int.reduceAdd,Int.reduceSub,Int.reduceMul,gk0,gk3,gk4,gk5,c2,hiad,hra.fz.rows,hra.fz.one,hra.fz.cells,hra.fz.icy,hra.fz.frz,w1]
     exact⟨hltk,l.length - (iq+1),by omega,iq+1,o2,rfl,by omega,rfl,rfl,wk,sk⟩
  ·obtain rfl:iq=l.length:=by omega
   have c1:decide ((l.length:Int)<l.length)=false:=DF
   rw[List.take_length] at sq
   have oo:=sq.one
   obtain⟨r,hz,hsr⟩:=sq.frz zMM.cel (k:=12) (by omega)
   simp (maxSteps:=2000000) (disch:=try exact SX) only[RV,zA0,reduceIte,Nat.reduceEqDiff,Nat.reduceBEq,Nat.reduceLT,Nat.reduceAdd,Nat.reduceLeDiff,Nat.reduceSub,Nat.reduceMul,Int.reduceLT,Int.reduceLE,Int.reduceEq,Int.reduceAdd,Int.reduceSub,Int.reduceMul,gq0,gq3,gq4,ll,c1,hz,oo,hS.fz.rows,hS.fz.one,hS.fz.cells,hS.fz.icy,hS.fz.frz]
   exact⟨r,hsr,rfl⟩
def whI (l:List El)(x:Eid):Int:=posF (fun e=>decide (e.id=x)) l
theorem ze3 (l:List El)(x:Eid):decide (0≤whI l x)=l.any fun e=>decide (e.id=x):=zGL _ _
theorem zF2 {a:AV}{l:List El}(hS:Sl 9 isEl a l)(x:Eid)(hl:l.length≤1000000000)(hf:l.length<fuel)(M:Mem):zCN fuel (d+1) 72 [a,idA x] M=some (I64 (whI l x),M):=by
 have ll:=hS.len
 apply zB2
 refine zAJ tf72 rfl (by simp only[icyL,fun M=>hS.icy M 12 (by omega),zAT (zCH x) (show 1<12 by omega)]) (by simp [a72]) fun b' ht hx=>?_
 obtain⟨h0,h1⟩:=hx2 hx
 clear hx
 simp only[a72,c72] at ht ⊢
 unfold whI
 simp (maxSteps:=2000000) (disch:=try exact SX) only[RV,zA0,reduceIte,Nat.reduceEqDiff,Nat.reduceBEq,Nat.reduceLT,Nat.reduceAdd,Nat.reduceLeDiff,Nat.reduceSub,Nat.reduceMul,Int.reduceLT,Int.reduceLE,Int.reduceEq,Int.reduceAdd,Int.reduceSub,Int.reduceMul,h0,h1,hS.fz.rows,hS.fz.one,hS.fz.cells,hS.fz.icy,hS.fz.frz]
 refine zAZ (I:=fun n t N => ∃ (i:Nat),n=l.length - i∧i≤l.length∧nth zA1 t 0=a∧nth zA1 t 3 = .ptr 0 0∧nth zA1 t 5=I64 i∧Wf N∧N.get 0=some (.row false (idR x))∧(∀ j (x1:j<l.length),j<i→decide (l[j].id=x)=false)) (n:=l.length) (by omega) ?_ ?_
 ·refine⟨0,rfl,Nat.zero_le _, ?_, ?_, ?_,Wf.mem0.add _,by simp (maxSteps:=2000000) (disch:=try exact SX) only[RV,zA0,reduceIte,Nat.reduceEqDiff,Nat.reduceBEq,Nat.reduceLT,Nat.reduceAdd,Nat.reduceLeDiff,Nat.reduceSub,Nat.reduceMul,Int.reduceLT,Int.reduceLE,Int.reduceEq,Int.reduceAdd,Int.reduceSub,Int.reduceMul],(fun _ _ h=>absurd h (by omega))⟩ <;> simp (maxSteps:=2000000) (disch:=try exact SX) only[RV,zA0,reduceIte,Nat.reduceEqDiff,Nat.reduceBEq,Nat.reduceLT,Nat.reduceAdd,Nat.reduceLeDiff,Nat.reduceSub,Nat.reduceMul,Int.reduceLT,Int.reduceLE,Int.reduceEq,Int.reduceAdd,Int.reduceSub,Int.reduceMul,h0,h1]
  all_goals first | rfl | assumption | done
 ·rintro n t N hlt ⟨i,rfl,hi,g0,g3,g5,w,g,hj⟩
  simp only[ht] at hlt ⊢
  have lg:=Mem.get_lt g
  by_cases hc:i<l.length
  ·have q1:decide ((i:Int)<l.length)=true:=DT
   have w1:IntKind.i64.wrap ((i:Int)+1)=((i+1:Nat):Int):=WI
   obtain⟨r,hiad,⟨rfl,_⟩,_⟩:=hS.iad i hc
   cases q2:decide (l[i].id=x) with
   | true =>
    have e:=zJ5 (p:=fun e:El=>decide (e.id=x)) hc q2 (fun j hj'=>hj j (by omega) hj')
    simp (maxSteps:=2000000) (disch:=try exact SX) only[RV,zA0,reduceIte,Nat.reduceEqDiff,Nat.reduceBEq,Nat.reduceLT,Nat.reduceAdd,Nat.reduceLeDiff,Nat.reduceSub,Nat.reduceMul,Int.reduceLT,Int.reduceLE,Int.reduceEq,Int.reduceAdd,Int.reduceSub,Int.reduceMul,g0,g3,g5,ll,q1,hiad,g,↓pIdE,zAA,↓pIdN,zA9,↓pHdE,zAB,↓pHdN,zAC,↓pLbE,zA8,↓pLbN,zAD,↓pSpE,zAE,↓pSpN,zAF,ETA,q2,hS.fz.rows,hS.fz.one,hS.fz.cells,hS.fz.icy,hS.fz.frz,e,zBD]
   | false =>
    simp (maxSteps:=2000000) (disch:=try exact SX) only[RV,zA0,reduceIte,Nat.reduceEqDiff,Nat.reduceBEq,Nat.reduceLT,Nat.reduceAdd,Nat.reduceLeDiff,Nat.reduceSub,Nat.reduceMul,Int.reduceLT,Int.reduceLE,Int.reduceEq,Int.reduceAdd,Int.reduceSub,Int.reduceMul,g0,g3,g5,ll,q1,hiad,g,↓pIdE,zAA,↓pIdN,zA9,↓pHdE,zAB,↓pHdN,zAC,↓pLbE,zA8,↓pLbN,zAD,↓pSpE,zAE,↓pSpN,zAF,ETA,q2,w1,hS.fz.rows,hS.fz.one,hS.fz.cells,hS.fz.icy,hS.fz.frz]
    exact⟨hlt,l.length - (i+1),by omega,i+1,rfl,by omega,rfl,w,fun j x1 hj'=>by
     rcases Nat.lt_succ_iff_lt_or_eq.1 hj' with h | rfl
     ·exact hj j x1 h
     ·exact q2⟩
  ·obtain rfl:i=l.length:=by omega
   have q1:decide ((l.length:Int)<l.length)=false:=DF
   have e:=zJ6 (p:=fun e:El=>decide (e.id=x)) (l:=l) (fun j hj'=>hj j hj' hj')
   simp (maxSteps:=2000000) (disch:=try exact SX) only[RV,zA0,reduceIte,Nat.reduceEqDiff,Nat.reduceBEq,Nat.reduceLT,Nat.reduceAdd,Nat.reduceLeDiff,Nat.reduceSub,Nat.reduceMul,Int.reduceLT,Int.reduceLE,Int.reduceEq,Int.reduceAdd,Int.reduceSub,Int.reduceMul,g0,g3,g5,ll,q1,hS.fz.rows,hS.fz.one,hS.fz.cells,hS.fz.icy,hS.fz.frz,e,zBD]
theorem zJH {s:Spn}(hs:s.ok)(hm:s.may=true)(hf:100<fuel):∃ r,Sl 4 zF0 r s.ids ∧ ∀ M,zCN fuel (d+1) 57 [spA s] M=some (r,M):=by
 have hb:=Spn.may_le hm
 obtain⟨m,hmn⟩:∃ m:Nat,s.n=m:=⟨s.n.toNat,by omega⟩
 have ei:s.ids=(List.range m).map fun (i:Nat)=>s.at i:=by unfold Spn.ids;rw[hmn];rfl
 rw[ei]
 refine zEP tf57 rfl (fun M=>by simp only[icyL,zAT (zIL s) (show 1<12 by omega)]) ?_
 refine zAJ tf57 rfl (by simp only[icyL,zAT (zIL s) (show 1<12 by omega)]) (by simp [a57]) fun b' ht hx=>?_
 have h0:=hx 0 _ rfl
 clear hx
 simp only[a57,c57] at ht ⊢
 simp (disch:=try exact SX) only[RV,seval,zA0,h0]
 refine zAZ (I:=fun n t N => ∃ (i:Nat) (o:AV),n=m - i∧i≤m∧nth zA1 t 1 = .ptr 0 0∧nth zA1 t 3=o∧nth zA1 t 4=I64 i∧Wf N∧N.get 0=some (.row false (spR s))∧SlM N 4 zF0 o ((List.range i).map fun (j:Nat)=>s.at j)∧(∀ j,rowOf o=some j→0<j)) (n:=m) (by omega) ?_ ?_
 ·refine⟨0,NIL,rfl,Nat.zero_le _, ?_, ?_, ?_,Wf.mem0.add _,by simp (disch:=try exact SX) only[RV,seval,zA0],SlM.nil,(fun _ h=>by cases h)⟩ <;> simp (disch:=try exact SX) only[RV,seval,zA0,h0]
  all_goals first | rfl | assumption | done
 ·rintro n t N hlt ⟨i,o,rfl,hi,g1,g3,g4,w,g,sm,ro⟩
  simp only[ht] at hlt ⊢
  have lN:=Mem.get_lt g
  have oo:=sm.one
  have co:=sm.cells
  by_cases hc:i<m
  ·have q1:decide ((i:Int)<s.n)=true:=DT
   have ok:=zMR hs hm i (by omega)
   have w1:IntKind.i64.wrap ((i:Int)+1)=((i+1:Nat):Int):=WI
   have w2:IntKind.i64.wrap (s.f.c+i)=s.f.c+i:=wrap_i64 (by omega) (by omega)
   simp (disch:=try exact SX) only[RV,seval,zA0,g1,g3,g4,q1,w,g,oo,co,w2]
   refine⟨zAN sm.rl (by omega), ?_⟩
   refine app1 (bytes:=24) w sm zGE (x:=s.at i) ⟨rfl,ok⟩ rfl (by omega) (by simp;omega) (by simp;omega) fun o' M' m' w' le' kp' nw' wm' rl' on' oc'=>?_
   simp (disch:=try exact SX) only[RV,seval,zA0,g1,g3,g4,w',w1,on',oc']
   refine⟨hlt,m - (i+1),by omega,i+1,o',rfl,by omega,rfl,rfl, ?_,by rw[List.range_succ,List.map_append];exact m',fun j hj=>?_⟩
   ·rw[kp' 0 lN (fun h=>by have:=ro 0 h;omega)];exact g
   ·exact zB0o
  ·obtain rfl:i=m:=by omega
   have q1:decide ((i:Int)<s.n)=false:=DF
   obtain⟨r,hz,hsr⟩:=sm.frz zGE.cel (k:=12) (by omega)
   simp (disch:=try exact SX) only[RV,seval,zA0,g1,g3,g4,q1,w,g,hz,oo]
   exact⟨r,hsr,rfl⟩
def zFJ (l:List Op)(x:Eid):Bool:=l.any fun o=>decide (o.kd=2)&&(o.sp.has x).isSome
theorem zXZ (l m:List Op)(x:Eid):zFJ (l++m) x=(zFJ l x || zFJ m x):=List.any_append
theorem zcB {o:Op}{ra:AV}{y:Nat}(hR:Sl 1 zAS ra o.rs)(wf:Wf M)(hy:M.get y=some (.row false (idR x)))(k:∀ N,Kept M N→Q (BL (decide (o.kd=2)&&(o.sp.has x).isSome)) N):W3 (zCN fuel (d+6) 25 [.agg (opR o ra),.ptr y 0] M) Q:=by
 have ly:=Mem.get_lt hy
 have ora:=hR.one
 have hh:=fun M=>@zOU fuel d o.sp x M
 refine zBK tf25 rfl (by simp [a25]) fun b' ht hx=>?_
 obtain⟨h0,h1⟩:=hx2 hx
 clear hx
 simp only[a25,c25] at ht ⊢
 cases q1:decide (o.kd=2) with
 | false =>
  simp (disch:=try exact SX) only[RV,seval,zA0,h0,h1,wf,hy,hh,hR.fz.rows,hR.fz.one,hR.fz.cells,hR.fz.icy,hR.fz.frz,q1,Bool.false_and]
  rw[q1,Bool.false_and] at k
  exact zB0C
 | true =>
  simp (disch:=try exact SX) only[RV,seval,zA0,h0,h1,wf,hy,hh,hR.fz.rows,hR.fz.one,hR.fz.cells,hR.fz.icy,hR.fz.frz,q1,Bool.true_and]
  rw[q1,Bool.true_and] at k
  exact zB0C
theorem zY0 (hS:Sl 17 isOp a l)(hl:l.length≤10000)(hf:l.length+400<fuel)(M:Mem):zCN fuel (d+15) 9 [a,idA x] M=some (.tup [BL (zAY [] l&&zFJ l x),I64 (err (zAY [] l))],M):=by
 have hck:=fun M=>zDP (fuel:=fuel) (d:=d) hS hl hf M
 apply zB2
 refine zAJ tf9 rfl (by simp only[icyL,fun M=>hS.icy M 12 (by omega),zAT (zCH x) (show 1<12 by omega)]) (by simp [a9]) fun b' ht hx=>?_
 obtain⟨h0,h1⟩:=hx2 hx
 clear hx
 simp only[a9,c9] at ht ⊢
 cases q1:zAY [] l with
 | false =>
  rw[q1] at hck
  simp (disch:=try exact SX) only[RV,seval,zA0,h0,h1,hS.fz.rows,hS.fz.one,hS.fz.cells,hS.fz.icy,hS.fz.frz,hck,zBH,z00,z80,Bool.false_and]
 | true =>
  rw[q1] at hck
  unfold zFJ
  simp (disch:=try exact SX) only[RV,seval,zA0,h0,h1,hS.fz.rows,hS.fz.one,hS.fz.cells,hS.fz.icy,hS.fz.frz,hck,zB9,z00,z80,Bool.true_and]
  refine zY2 (st:=17) (ag:=true) (n:=d+12) (first:=[]) (cap:=[.ptr 0 0]) tf24 tf54 (by simp) zMN hS (by omega) (by omega) (p:=fun o=>decide (o.kd=2)&&(o.sp.has x).isSome) (by simp (disch:=try exact SX) only[RV,seval,zA0]) (fun n hn=>by simp only[zA6,zBP] at hn;simp (disch:=try exact SX) only[RV,seval,zA0]) (fun r o hr _ N Q' hk hQ=>?_) fun N hk=>?_
  ·obtain⟨ra,rfl,hra,_⟩:=hr
   refine zcB (d:=d+6) hra hk.wf ?_ (fun N' hk'=>hQ N' (hk.trans hk'))
   rw[hk.get 0 (by simp (disch:=try exact SX) only[RV,seval,zA0])]
   exact zB07
  ·simp (disch:=try exact SX) only[RV,seval,zA0,h0,h1]
def Lb.ahead (a b:Lb):Bool:=decide (a.lv<b.lv) || (decide (a.lv=b.lv)&&decide (a.cats<b.cats))
def Eid.less (x y:Eid):Bool:=if x.c=y.c then (if x.hd.lb=y.hd.lb then decide (x.hd.num<y.hd.num) else x.hd.lb.ahead y.hd.lb) else decide (x.c<y.c)
theorem zT0 (a b:Lb)(M:Mem):zCN fuel (d+1) 82 [lbA a,lbA b] M=some (BL (a.ahead b),M):=by
 have pLbE:=@pLbE
 apply zB2
 refine zAJ tf82 rfl (by simp (disch:=try exact SX) only[RV,seval,zA0]) (by simp [a82]) fun b' ht hx=>?_
 obtain⟨h0,h1⟩:=hx2 hx
 clear hx
 simp only[a82,c82] at ht ⊢
 unfold Lb.ahead
 cases q1:decide (a.lv<b.lv) with
 | true=>simp (disch:=try exact SX) only[RV,seval,zA0,h0,h1,q1,↓pIdE,zAA,↓pIdN,zA9,↓pHdE,zAB,↓pHdN,zAC,↓pLbE,zA8,↓pLbN,zAD,↓pSpE,zAE,↓pSpN,zAF,ETA,Bool.true_or]
 | false =>
  have e:decide (a=(⟨b.lv,a.cats⟩:Lb))=decide (a.lv=b.lv):=by
   rw[Bool.eq_iff_iff,decide_eq_true_iff,decide_eq_true_iff]
   constructor
   ·intro h;rw[h]
   ·intro h
    obtain⟨x,y⟩:=a
    simp only at h ⊢
    rw[h]
  cases q2:decide (a.lv=b.lv) with
  | true =>
   rw[q2] at e
   simp (disch:=try exact SX) only[RV,seval,zA0,h0,h1,q1,↓pIdE,zAA,↓pIdN,zA9,↓pHdE,zAB,↓pHdN,zAC,↓pLbE,zA8,↓pLbN,zAD,↓pSpE,zAE,↓pSpN,zAF,ETA,e,Bool.false_or,Bool.true_and]
  | false =>
   rw[q2] at e
   simp (disch:=try exact SX) only[RV,seval,zA0,h0,h1,q1,↓pIdE,zAA,↓pIdN,zA9,↓pHdE,zAB,↓pHdN,zAC,↓pLbE,zA8,↓pLbN,zAD,↓pSpE,zAE,↓pSpN,zAF,ETA,e,Bool.false_or,Bool.false_and]
theorem zFC (x y:Eid)(M:Mem):zCN fuel (d+2) 47 [idA x,idA y] M=some (BL (x.less y),M):=by
 have pLbN:=@pLbN
 have ha:=fun M=>@zT0 fuel d x.hd.lb y.hd.lb M
 apply zB2
 refine zAJ tf47 rfl (by simp (disch:=try exact SX) only[RV,seval,zA0]) (by simp [a47]) fun b' ht hx=>?_
 obtain⟨h0,h1⟩:=hx2 hx
 clear hx
 simp only[a47,c47] at ht ⊢
 unfold Eid.less
 by_cases q1:x.c=y.c
 ·have q1':decide (x.c=y.c)=true:=decide_eq_true q1
  by_cases q2:x.hd.lb=y.hd.lb
  ·have q2':decide (x.hd.lb=y.hd.lb)=true:=decide_eq_true q2
   simp only[if_pos q1,if_pos q2]
   simp (disch:=try exact SX) only[RV,seval,zA0,h0,h1,q1',↓pIdE,zAA,↓pIdN,zA9,↓pHdE,zAB,↓pHdN,zAC,↓pLbE,zA8,↓pLbN,zAD,↓pSpE,zAE,↓pSpN,zAF,ETA,q2']
  ·have q2':decide (x.hd.lb=y.hd.lb)=false:=decide_eq_false q2
   simp only[if_pos q1,if_neg q2]
   simp (disch:=try exact SX) only[RV,seval,zA0,h0,h1,q1',↓pIdE,zAA,↓pIdN,zA9,↓pHdE,zAB,↓pHdN,zAC,↓pLbE,zA8,↓pLbN,zAD,↓pSpE,zAE,↓pSpN,zAF,ETA,q2',ha]
 ·have q1':decide (x.c=y.c)=false:=decide_eq_false q1
  simp only[if_neg q1]
  simp (disch:=try exact SX) only[RV,seval,zA0,h0,h1,q1']
def cutE (s:Spn)(n:Int):Int:=if s.may then (if n≤0∨s.n≤n then 2 else 0) else 8
def spZ:Spn:=⟨Eid.z,0⟩
theorem zS5 (s:Spn)(n:Int)(M:Mem):zCN fuel (d+6) 119 [spA s,I64 n] M=some (if cutE s n=0 then .tup [spA ⟨s.f,n⟩,spA ⟨s.at n,s.n - n⟩,I64 0] else .tup [spA spZ,spA spZ,I64 (cutE s n)],M):=by
 have hat:=fun M=>@zIO fuel d s n M
 apply zB2
 refine zAJ tf119 rfl (by simp (disch:=try exact SX) only[RV,seval,zA0]) (by simp [a119]) fun b' ht hx=>?_
 obtain⟨h0,h1⟩:=hx2 hx
 clear hx
 simp only[a119,c119] at ht ⊢
 unfold cutE spZ
 cases hm:s.may with
 | false =>
  simp only[hm,Bool.false_eq_true,if_false] at hat
  simp (disch:=try exact SX) only[RV,seval,zA0,h0,h1,hat,z80,Bool.false_eq_true,if_false]
  all_goals rfl
 | true =>
  simp only[hm,if_true] at hat
  have hb:=Spn.may_le hm
  by_cases q0:n<0∨s.n≤n
  ·simp only[q0,if_true] at hat
   have q2:n≤0∨s.n≤n:=by omega
   have q3:decide (n=0)=false:=DF
   simp (disch:=try exact SX) only[RV,seval,zA0,h0,h1,hat,q2,q3,if_true]
   all_goals rfl
  ·simp only[q0,if_false] at hat
   by_cases q3:n=0
   ·have q3':decide (n=0)=true:=decide_eq_true q3
    have q2:n≤0∨s.n≤n:=by omega
    simp (disch:=try exact SX) only[RV,seval,zA0,h0,h1,hat,q2,q3',z00,if_true]
    all_goals rfl
   ·have q3':decide (n=0)=false:=decide_eq_false q3
    have q2:¬(n≤0∨s.n≤n):=by omega
    have w1:IntKind.i64.wrap (s.n - n)=s.n - n:=wrap_i64 (by omega) (by omega)
    simp (disch:=try exact SX) only[RV,seval,zA0,h0,h1,hat,q2,q3',z00,if_true,if_false,w1]
    rfl
theorem zTY {a b:AV}{l m:List Int}(ha:Sl 1 zAS a l)(hb:Sl 1 zAS b m)(hf:l.length<fuel)(hl:l.length≤1000000000)(M:Mem) :
  zCN fuel (d+1) 135 [a,b] M=some (BL (decide (l=m)),M):=by
 have hla:=ha.len
 have hlb:=hb.len
 apply zB2
 refine zAJ tf135 rfl (by simp (disch:=try exact SX) only[RV,seval,zA0,ha.fz.rows,ha.fz.one,ha.fz.cells,ha.fz.icy,ha.fz.frz,hb.fz.rows,hb.fz.one,hb.fz.cells,hb.fz.icy,hb.fz.frz]) (by simp [a135]) fun b' ht hx=>?_
 obtain⟨h0,h1⟩:=hx2 hx
 clear hx
 simp only[a135,c135] at ht ⊢
 by_cases hll:l.length=m.length
 ·have q1:decide ((l.length:Int)=m.length)=true:=by simp;omega
  simp (disch:=try exact SX) only[RV,seval,zA0,h0,h1,hla,hlb,ha.fz.rows,ha.fz.one,ha.fz.cells,ha.fz.icy,ha.fz.frz,hb.fz.rows,hb.fz.one,hb.fz.cells,hb.fz.icy,hb.fz.frz,q1]
  refine zAZ (I:=fun n t N => ∃ (i:Nat),n=l.length - i∧i≤l.length∧nth zA1 t 0=a∧nth zA1 t 1=b∧nth zA1 t 11=a∧nth zA1 t 12=I64 l.length∧nth zA1 t 13=I64 i∧l.take i=m.take i) (n:=l.length) (by omega) ?_ ?_
  ·refine⟨0,rfl,Nat.zero_le _, ?_, ?_, ?_, ?_, ?_,rfl⟩ <;> simp (disch:=try exact SX) only[RV,seval,zA0,h0,h1,hla]
   all_goals first | rfl | assumption | done
  ·rintro n t N hlt ⟨i,rfl,hi,g0,g1,g11,g12,g13,tk⟩
   simp only[ht] at hlt ⊢
   by_cases hlt':i<l.length
   ·have hc':decide ((i:Int)<l.length)=true:=by simp;omega
    have hmt:i<m.length:=by omega
    have w1:IntKind.i64.wrap ((i:Int)+1)=((i+1:Nat):Int):=WI
    obtain⟨r,hr,rfl,_⟩:=ha.iad i hlt'
    obtain⟨r2,hr2,rfl,_⟩:=hb.iad i hmt
    by_cases he:l[i]=m[i]
    ·have q2:decide (l[i]=m[i])=true:=by simp [he]
     simp (disch:=try exact SX) only[RV,seval,zA0,g0,g1,g11,g12,g13,hc',hr,hr2,w1,q2]
     exact zB0w
    ·have q2:decide (l[i]=m[i])=false:=by simp [he]
     simp (disch:=try exact SX) only[RV,seval,zA0,g0,g1,g11,g12,g13,hc',hr,hr2,w1,q2]
     exact zB0M
   ·have hc':decide ((i:Int)<l.length)=false:=by simp;omega
    simp (disch:=try exact SX) only[RV,seval,zA0,g0,g1,g11,g12,g13,hc']
    exact zB0r
 ·have q1:decide ((l.length:Int)=m.length)=false:=by simp;omega
  have q3:decide (l=m)=false:=by
   simp only[decide_eq_false_iff_not]
   rintro rfl;exact hll rfl
  simp (disch:=try exact SX) only[RV,seval,zA0,h0,h1,hla,hlb,ha.fz.rows,ha.fz.one,ha.fz.cells,ha.fz.icy,ha.fz.frz,hb.fz.rows,hb.fz.one,hb.fz.cells,hb.fz.icy,hb.fz.frz,q1,q3]
def rnEq (o p:Rn):Bool:=decide (o.sp=p.sp)&&decide (o.af=p.af)&&decide (o.rs=p.rs)
theorem zGO (o p:Rn):rnEq o p=true↔o=p:=by
 obtain⟨a1,a2,a3⟩:=o
 obtain⟨b1,b2,b3⟩:=p
 simp [rnEq,and_assoc]
theorem zG4 {o p:Rn}{ra rb:AV}(hR:Sl 1 zAS ra o.rs)(hP:Sl 1 zAS rb p.rs)(hl:o.rs.length≤1000000000)(hf:o.rs.length<fuel)(M:Mem):zCN fuel (d+2) 118 [.agg (rnR o ra),.agg (rnR p rb)] M=some (BL (rnEq o p),M):=by
 have ora:=hR.one
 have orb:=hP.one
 have hs:=fun M=>zTY (fuel:=fuel) (d:=d) hR hP hf hl M
 apply zB2
 refine zAJ tf118 rfl (by simp only[icyL,zCP hR.fz,zCP hP.fz]) (by simp [a118]) fun b' ht hx=>?_
 obtain⟨h0,h1⟩:=hx2 hx
 clear hx
 simp only[a118,c118] at ht ⊢
 exact zB05
def rnH (o:Rn):List AV:=spR o.sp++idR o.af
theorem zIK (o:Rn):∀ y∈rnH o,Fz y:=fun y hy=>(List.mem_append.1 hy).elim (zIL _ y) (zCH _ y)
theorem zJ8:∀ (r:List AV) (x:Int),zAS r x→purL r=true:=fun r x h=>by rw[show r=_ from h];simp [purL,purA]
theorem zVG (M:Mem)(k:Nat):∀ (r:List AV) (x:Int),zAS r x→r.all (ownV M (k+1))=true:=fun r x h=>by rw[show r=_ from h];simp [ownV]
theorem zUH {o:Rn}{ra:AV}(h:Fz ra)(M:Mem):icyL (icy 12) M [.agg (rnR o ra)]=some ([.agg (rnR o ra)],M):=by simp only[icyL,zCP h]
theorem zb5 (o:Rn){a:AV}(h:purA a=true):purA (.agg (rnR o a))=true:=by simp [purA,purL,h]
theorem zVI {M:Mem}{k:Nat}(o:Rn){a:AV}(h:ownV M (k+1) a=true):ownV M (k+2) (.agg (rnR o a))=true:=by
 have e:∀ v,ownV M (k+1) (.sc v)=true:=fun v=>by simp [ownV]
 show (rnR o a).all (ownV M (k+1))=true
 simp only[List.all_cons,List.all_nil,e,h,Bool.and_true]
theorem zPM {o:Rn}{ra:AV}(hR:Sl 1 zAS ra o.rs)(hl:o.rs.length≤1000000000):zDC Tryz.prog (fsT tbl) fuel (d+1) 85 [.agg (rnR o ra)] (RowR (rnH o) zAS o.rs):=by
 have ora:=hR.one
 refine zEG tf85 rfl (by simp [a85]) fun b' ht hx=>?_
 have h0:=hx 0 _ rfl
 clear hx
 simp only[a85,c85] at ht ⊢
 simp (disch:=try exact SX) only[RV,seval,zA0,h0,hR.fz.rows,hR.fz.one,hR.fz.cells,hR.fz.icy,hR.fz.frz]
 refine zLV hR hl (by simp (disch:=try exact SX) only[RV,seval,zA0]) fun a' M' wf' le' kp' sm' new' wm' di'=>?_
 have hsz:2≤M'.size:=le'
 have g0:M'.get 0=some (.row false (rnR o ra)):=by rw[kp' 0 (by show 0<2;omega)];simp (disch:=try exact SX) only[RV,seval,zA0]
 have g1:M'.get 1=some (.row false (rnR ⟨⟨Eid.z,0⟩,Eid.z,[]⟩ NIL)):=by rw[kp' 1 (by show 1<2;omega)];simp (disch:=try exact SX) only[RV,seval,zA0]
 have oa:=sm'.one
 have ca:=sm'.cells
 have rl:=zAN sm'.rl (Nat.le_refl M'.size)
 have nr:∀ j,rowOf a'=some j→2≤j:=new'
 simp (disch:=try exact SX) only[RV,seval,zA0,h0,wf',g0,g1,oa,ca,rl]
 refine⟨zb5 o sm'.pur,a',rfl,sm'.keep fun j hj=>?_⟩
 have:=nr j hj
 rw[zA2 (wf'.upd _ _) _ _ _ (by omega),zA2 wf' _ _ _ (by omega)]
theorem zDM {o:Rn}{ra:AV}(hR:Sl 1 zAS ra o.rs)(hl:o.rs.length≤1000000000)(wf:Wf M)(k:∀ a N,Kept M N→SlM N 1 zAS a o.rs→(∀ j,rowOf a=some j→M.size≤j)→Q (.agg (rnR o a)) N):W3 (zCN fuel (d+2) 85 [.agg (rnR o ra)] M) Q :=
 zDC.row (zPM hR hl) (zUH hR.fz M) wf (zIK o) zJ8 zCM k
def Rn.last (r:Rn):Eid:=if r.sp.may then r.sp.at (r.sp.n - 1) else Eid.z
theorem last_any {o:Rn}{ra:AV}(hR:Sl 1 zAS ra o.rs):∃ v,v=idA o.last ∧ ∀ M xs M0,icyL (icy 12) M xs=some ([.agg (rnR o ra)],M0)→zCN fuel (d+6) 83 xs M=some (v,M):=by
 have ora:=hR.one
 have hat:=fun M=>@zIO fuel d o.sp (IntKind.i64.wrap (o.sp.n - 1)) M
 refine zTC tf83 rfl (fun M=>by simp only[icyL,zCP hR.fz]) (by simp [a83]) fun b' ht hx=>?_
 have h0:=hx 0 _ rfl
 clear hx
 simp only[a83,c83] at ht ⊢
 unfold Rn.last
 cases hm:o.sp.may with
 | false =>
  simp only[hm,Bool.false_eq_true,if_false] at hat
  simp (disch:=try exact SX) only[RV,seval,zA0,h0,hR.fz.rows,hR.fz.one,hR.fz.cells,hR.fz.icy,hR.fz.frz,hat,Bool.false_eq_true,if_false,zF7,zCR]
  first | rfl | simp [ownV]
 | true =>
  have hb:=Spn.may_le hm
  rw[wrap_i64 (by omega) (by omega)] at hat
  have w1:IntKind.i64.wrap (o.sp.n - 1)=o.sp.n - 1:=wrap_i64 (by omega) (by omega)
  simp only[hm,if_true,if_neg (show ¬(o.sp.n - 1<0∨o.sp.n≤o.sp.n - 1) by omega)] at hat
  simp (disch:=try exact SX) only[RV,seval,zA0,h0,hR.fz.rows,hR.fz.one,hR.fz.cells,hR.fz.icy,hR.fz.frz,hat,w1,if_true,zF7,zCR]
  first | rfl | simp [ownV]
theorem zUQ {o:Rn}{x:AV}(hS:SlM M 1 zAS x o.rs)(wf:Wf M):zCN fuel (d+6) 83 [.agg (rnR o x)] M=some (idA o.last,M):=by
 obtain⟨a',N',i1,b1,_⟩:=zGH (H:=rnH o) (zIK o) hS wf zCM (k:=12) (by omega)
 obtain⟨v,rfl,hc⟩:=last_any (fuel:=fuel) (d:=d) (o:=o) b1
 have i1:icy 12 M (.agg (rnR o x))=some (.agg (rnR o a'),N'):=i1
 exact hc M _ N' (by simp only[icyL,i1])
theorem zQF {o:Rn}{x:AV}(hS:SlM M 1 zAS x o.rs)(wf:Wf M)(k:Q (idA o.last) M):W3 (zCN fuel (d+6) 83 [.agg (rnR o x)] M) Q:=⟨_,_,zUQ hS wf,k⟩
end Go.Proofs.YtlmeadmpldjdaaaGreat
