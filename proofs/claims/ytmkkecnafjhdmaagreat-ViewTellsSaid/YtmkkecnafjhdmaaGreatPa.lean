/-
  Texts joined: Tc In SaA SaB SbD SaD SaC RfA RnMay RfB SaE SaF SbG SaG SaH SaI TpZ RgC SaJ SaK SaL SaM SaN SaO SbO RgD SbP SaQ SaR SaS SaT SaU SbI SaV TwC RgE SaZ SwP.
-/
import Derived.Test.YtmkkecnafjhdmaaGreatTb
import Derived.Test.YtmkkecnafjhdmaaGreatRows
import Derived.Test.YtmkkecnafjhdmaaGreatEg
import Derived.KernelRfl
set_option linter.unusedSimpArgs false
set_option linter.unusedVariables false
set_option maxHeartbeats 64000000
set_option maxRecDepth 100000
namespace Go.Proofs.YtmkkecnafjhdmaaGreat
open Go Go.Ax
theorem zNZ:(tbl.map noX).map clr=msk (tbl.map noX) (tabList Tryz.prog 159 0):=by kernel_rfl
theorem tabOK:TabOK Glob.any Tryz.prog (fsT tbl):=tab_msk0 zNZ (by kernel_rfl)
theorem ovlOK:OvlOK Tryz.prog :=
 ovlOK_of (g:=110) (tS:=67) (tR:=4) (by kernel_rfl) Tryz.func110 (by kernel_rfl) (by kernel_rfl) (by kernel_rfl) (by kernel_rfl) (by kernel_rfl)
theorem insFn:InsO (pursAt Tryz.prog 74) 3 4 :=
 ⟨by kernel_rfl,by kernel_rfl,by kernel_rfl,by kernel_rfl,by kernel_rfl,by kernel_rfl,by kernel_rfl,by kernel_rfl,by kernel_rfl,by kernel_rfl,by kernel_rfl⟩
theorem zMZ:InsProg Tryz.prog :=
 insProg_of (g:=74) (t0:=67) (e0:=94) (ti0:=(Tryz.prog.info? 94).getD default) (O:=pursAt Tryz.prog 74) (g':=111)
  (z:=(zeroOf Tryz.prog 94).getD default) (tint:=3) (tb:=4) (by kernel_rfl) Tryz.func74 (by kernel_rfl) (by kernel_rfl) (by kernel_rfl) (by kernel_rfl) (by kernel_rfl) insFn (by kernel_rfl) (by kernel_rfl) (by kernel_rfl)
theorem insOK:InsOK Glob.any Tryz.prog:=insOK_of ovlOK zMZ
abbrev U32 (n:Int):AV:=.sc (.int .u32 n)
structure Lb where
 lv:Int
 cats:Int
 deriving DecidableEq
structure Hd where
 lb:Lb
 num:Int
 deriving DecidableEq
structure Eid where
 hd:Hd
 c:Int
 deriving DecidableEq
structure Spn where
 f:Eid
 n:Int
 deriving DecidableEq
structure Op where
 kd:Int
 hd:Hd
 sr:Int
 sp:Spn
 af:Eid
 to:Lb
 rs:List Int
 deriving DecidableEq
structure Rn where
 sp:Spn
 af:Eid
 rs:List Int
 deriving DecidableEq
abbrev Lb.z:Lb:=⟨0,0⟩
abbrev Hd.z:Hd:=⟨⟨0,0⟩,0⟩
abbrev Eid.z:Eid:=⟨⟨⟨0,0⟩,0⟩,0⟩
def i64R (x:Int):Prop:=-9223372036854775808≤x∧x≤9223372036854775807
def Lb.ok (x:Lb):Prop:=0≤x.lv∧x.lv≤255∧0≤x.cats∧x.cats<4294967296
def Hd.ok (x:Hd):Prop:=x.lb.ok∧0≤x.num∧x.num≤255
def Eid.ok (x:Eid):Prop:=x.hd.ok∧i64R x.c
def Spn.ok (x:Spn):Prop:=x.f.ok∧i64R x.n
def i32s (l:List Int):Prop:=∀ x∈l, -2147483648≤x∧x≤2147483647
def Op.ok (o:Op):Prop:=(0≤o.kd∧o.kd≤255)∧o.hd.ok∧i64R o.sr∧o.sp.ok∧o.af.ok∧o.to.ok∧i32s o.rs
def Rn.ok (o:Rn):Prop:=o.sp.ok∧o.af.ok∧i32s o.rs
theorem Lb.z_ok:Lb.z.ok:=by unfold Lb.ok;decide
theorem Hd.z_ok:Hd.z.ok:=⟨Lb.z_ok,by decide,by decide⟩
theorem Eid.z_ok:Eid.z.ok:=⟨Hd.z_ok,by decide,by decide⟩
abbrev lbR (x:Lb):List AV:=[U8 x.lv,U32 x.cats]
abbrev hdR (x:Hd):List AV:=[U8 x.lb.lv,U32 x.lb.cats,U8 x.num]
abbrev idR (x:Eid):List AV:=[U8 x.hd.lb.lv,U32 x.hd.lb.cats,U8 x.hd.num,I64 x.c]
abbrev spR (x:Spn):List AV:=[U8 x.f.hd.lb.lv,U32 x.f.hd.lb.cats,U8 x.f.hd.num,I64 x.f.c,I64 x.n]
abbrev opR (o:Op)(ra:AV):List AV:=[U8 o.kd,U8 o.hd.lb.lv,U32 o.hd.lb.cats,U8 o.hd.num,I64 o.sr,U8 o.sp.f.hd.lb.lv,U32 o.sp.f.hd.lb.cats,U8 o.sp.f.hd.num,I64 o.sp.f.c,I64 o.sp.n,U8 o.af.hd.lb.lv,U32 o.af.hd.lb.cats,U8 o.af.hd.num,I64 o.af.c,U8 o.to.lv,U32 o.to.cats,ra]
abbrev rnR (o:Rn)(ra:AV):List AV:=[U8 o.sp.f.hd.lb.lv,U32 o.sp.f.hd.lb.cats,U8 o.sp.f.hd.num,I64 o.sp.f.c,I64 o.sp.n,U8 o.af.hd.lb.lv,U32 o.af.hd.lb.cats,U8 o.af.hd.num,I64 o.af.c,ra]
abbrev lbA (x:Lb):AV:=.agg (lbR x)
abbrev hdA (x:Hd):AV:=.agg (hdR x)
abbrev idA (x:Eid):AV:=.agg (idR x)
abbrev spA (x:Spn):AV:=.agg (spR x)
def zA3 (r:List AV)(x:Int):Prop:=r=[I32 x]
def isLb (r:List AV)(x:Lb):Prop:=r=lbR x∧x.ok
def zBW (r:List AV)(x:Eid):Prop:=r=idR x∧x.ok
def zGE (r:List AV)(x:Spn):Prop:=r=spR x∧x.ok
def isOp (r:List AV)(x:Op):Prop:=∃ ra,r=opR x ra∧Sl 1 zA3 ra x.rs∧x.ok
def isRn (r:List AV)(x:Rn):Prop:=∃ ra,r=rnR x ra∧Sl 1 zA3 ra x.rs∧x.ok
theorem zCP:FzT zA3:=fun r x h y hy=>by
 rw[h,List.mem_singleton] at hy;subst hy;exact fz_sc_int _ _
theorem zAB (x:Lb):∀ y∈lbR x,Fz y:=fun y hy=>by
 simp only[lbR,List.mem_cons,List.not_mem_nil,or_false] at hy
 rcases hy with rfl | rfl <;> exact fz_sc_int _ _
theorem zAQ (x:Eid):∀ y∈idR x,Fz y:=fun y hy=>by
 simp only[idR,List.mem_cons,List.not_mem_nil,or_false] at hy
 rcases hy with rfl | rfl | rfl | rfl <;> exact fz_sc_int _ _
theorem zDN (x:Spn):∀ y∈spR x,Fz y:=fun y hy=>by
 simp only[spR,List.mem_cons,List.not_mem_nil,or_false] at hy
 rcases hy with rfl | rfl | rfl | rfl | rfl <;> exact fz_sc_int _ _
theorem zM2 {o:Op}{ra:AV}(h:Fz ra):∀ y∈opR o ra,Fz y:=fun y hy=>by
 simp only[opR,List.mem_cons,List.not_mem_nil,or_false] at hy
 rcases hy with rfl | rfl | rfl | rfl | rfl | rfl | rfl | rfl | rfl | rfl | rfl | rfl | rfl | rfl | rfl | rfl | rfl
 all_goals first | exact fz_sc_int _ _ | exact h
theorem zM3 {o:Rn}{ra:AV}(h:Fz ra):∀ y∈rnR o ra,Fz y:=fun y hy=>by
 simp only[rnR,List.mem_cons,List.not_mem_nil,or_false] at hy
 rcases hy with rfl | rfl | rfl | rfl | rfl | rfl | rfl | rfl | rfl | rfl
 all_goals first | exact fz_sc_int _ _ | exact h
theorem zEC:FzT isLb:=fun r x h=>by rw[h.1];exact zAB x
theorem zCO:FzT zBW:=fun r x h=>by rw[h.1];exact zAQ x
theorem zD3:FzT zGE:=fun r x h=>by rw[h.1];exact zDN x
theorem zKV:FzT isOp:=fun r x h=>by
 obtain⟨ra,rfl,hr,_⟩:=h
 exact zM2 hr.fz
theorem zB1:FzT isRn:=fun r x h=>by
 obtain⟨ra,rfl,hr,_⟩:=h
 exact zM3 hr.fz
theorem Lb.eta (x:Lb):Lb.mk x.lv x.cats=x:=rfl
theorem Hd.eta (x:Hd):Hd.mk x.lb x.num=x:=rfl
theorem Eid.eta (x:Eid):Eid.mk x.hd x.c=x:=rfl
theorem Spn.eta (x:Spn):Spn.mk x.f x.n=x:=rfl
theorem ETA:type_of% (And.intro @Lb.eta (And.intro @Hd.eta (And.intro @Eid.eta @Spn.eta))):=And.intro @Lb.eta (And.intro @Hd.eta (And.intro @Eid.eta @Spn.eta))
theorem zMA (a0:Int)(a1:Int):PT.iss [.int .u8,.int .u32] [.int .u8 a0,.int .u32 a1]:=by
 exact zB0D
def zLM (d:Option AV)(u v:AV):Option AV:=match u,v with
 | .agg [.sc (.int .u8 a0),.sc (.int .u32 a1)],.agg [.sc (.int .u8 b0),.sc (.int .u32 b1)]=>some (BL (decide (a0=b0)&&decide (a1=b1)))
 | _,_=>d
theorem pLbE {t:List AV}(i j:Nat):pureOp Tryz.prog t (mkO (.binOp .eql 25 (.tmp i) (.tmp j) 25) 4)=zLM (pureD Tryz.prog t (mkO (.binOp .eql 25 (.tmp i) (.tmp j) 25) 4)) (evalA t (.tmp i)) (evalA t (.tmp j)):=by
 unfold zLM
 split
 ·rename_i a0 a1 b0 b1 h1 h2
  obtain⟨r,hr,he⟩:=pEqS (P:=Tryz.prog) [.int .u8,.int .u32] false 25 25 4 i j (by kernel_rfl) (by decide) (by kernel_rfl) h1 h2 rfl rfl (zMA _ _) (zMA _ _)
  exact zB0K
 ·rfl
theorem zA5 (d:Option AV)(a0 a1:Int)(b0 b1:Int):zLM d (.agg [.sc (.int .u8 a0),.sc (.int .u32 a1)]) (.agg [.sc (.int .u8 b0),.sc (.int .u32 b1)])=some (BL (decide ((⟨a0,a1⟩:Lb)=⟨b0,b1⟩))):=by
 simp only[zLM]
 congr 4
 rw[Bool.eq_iff_iff]
 simp []
theorem zMB (a0:Int)(a1:Int):PT.iss [.int .u8,.int .u32] [.int .u8 a0,.int .u32 a1]:=by
 exact zB0D
def zLN (d:Option AV)(u v:AV):Option AV:=match u,v with
 | .agg [.sc (.int .u8 a0),.sc (.int .u32 a1)],.agg [.sc (.int .u8 b0),.sc (.int .u32 b1)]=>some (BL (!(decide (a0=b0)&&decide (a1=b1))))
 | _,_=>d
theorem pLbN {t:List AV}(i j:Nat):pureOp Tryz.prog t (mkO (.binOp .neq 25 (.tmp i) (.tmp j) 25) 4)=zLN (pureD Tryz.prog t (mkO (.binOp .neq 25 (.tmp i) (.tmp j) 25) 4)) (evalA t (.tmp i)) (evalA t (.tmp j)):=by
 unfold zLN
 split
 ·rename_i a0 a1 b0 b1 h1 h2
  obtain⟨r,hr,he⟩:=pEqS (P:=Tryz.prog) [.int .u8,.int .u32] true 25 25 4 i j (by kernel_rfl) (by decide) (by kernel_rfl) h1 h2 rfl rfl (zMB _ _) (zMB _ _)
  exact zB0K
 ·rfl
theorem zB0 (d:Option AV)(a0 a1:Int)(b0 b1:Int):zLN d (.agg [.sc (.int .u8 a0),.sc (.int .u32 a1)]) (.agg [.sc (.int .u8 b0),.sc (.int .u32 b1)])=some (BL (!decide ((⟨a0,a1⟩:Lb)=⟨b0,b1⟩))):=by
 simp only[zLN]
 congr 4
 rw[Bool.eq_iff_iff]
 simp []
theorem zM7 (a0:Int)(a1:Int)(a2:Int):PT.iss [.st [.int .u8,.int .u32],.int .u8] [.int .u8 a0,.int .u32 a1,.int .u8 a2]:=by
 simp only[PT.iss,PT.is]
 exact⟨[.int .u8 a0,.int .u32 a1],[.int .u8 a2],rfl,⟨[.int .u8 a0],[.int .u32 a1],rfl,⟨_,rfl⟩,⟨[.int .u32 a1],[],rfl,⟨_,rfl⟩,rfl⟩⟩,⟨[.int .u8 a2],[],rfl,⟨_,rfl⟩,rfl⟩⟩
def zLJ (d:Option AV)(u v:AV):Option AV:=match u,v with
 | .agg [.sc (.int .u8 a0),.sc (.int .u32 a1),.sc (.int .u8 a2)],.agg [.sc (.int .u8 b0),.sc (.int .u32 b1),.sc (.int .u8 b2)]=>some (BL (decide (a0=b0)&&decide (a1=b1)&&decide (a2=b2)))
 | _,_=>d
theorem pHdE {t:List AV}(i j:Nat):pureOp Tryz.prog t (mkO (.binOp .eql 27 (.tmp i) (.tmp j) 27) 4)=zLJ (pureD Tryz.prog t (mkO (.binOp .eql 27 (.tmp i) (.tmp j) 27) 4)) (evalA t (.tmp i)) (evalA t (.tmp j)):=by
 unfold zLJ
 split
 ·rename_i a0 a1 a2 b0 b1 b2 h1 h2
  obtain⟨r,hr,he⟩:=pEqS (P:=Tryz.prog) [.st [.int .u8,.int .u32],.int .u8] false 27 27 4 i j (by kernel_rfl) (by decide) (by kernel_rfl) h1 h2 rfl rfl (zM7 _ _ _) (zM7 _ _ _)
  have e:r=(decide (a0=b0)&&decide (a1=b1)&&decide (a2=b2)):=by
   rw[Bool.eq_iff_iff,he]
   simp [and_assoc]
  rw[← e]
  exact hr
 ·rfl
theorem zAC (d:Option AV)(a0 a1 a2:Int)(b0 b1 b2:Int):zLJ d (.agg [.sc (.int .u8 a0),.sc (.int .u32 a1),.sc (.int .u8 a2)]) (.agg [.sc (.int .u8 b0),.sc (.int .u32 b1),.sc (.int .u8 b2)])=some (BL (decide ((⟨⟨a0,a1⟩,a2⟩:Hd)=⟨⟨b0,b1⟩,b2⟩))):=by
 simp only[zLJ]
 exact zB0l
theorem zM8 (a0:Int)(a1:Int)(a2:Int)(a3:Int):PT.iss [.st [.st [.int .u8,.int .u32],.int .u8],.int .i64] [.int .u8 a0,.int .u32 a1,.int .u8 a2,.int .i64 a3]:=by
 exact zB0d
def zLK (d:Option AV)(u v:AV):Option AV:=match u,v with
 | .agg [.sc (.int .u8 a0),.sc (.int .u32 a1),.sc (.int .u8 a2),.sc (.int .i64 a3)],.agg [.sc (.int .u8 b0),.sc (.int .u32 b1),.sc (.int .u8 b2),.sc (.int .i64 b3)]=>some (BL (decide (a0=b0)&&decide (a1=b1)&&decide (a2=b2)&&decide (a3=b3)))
 | _,_=>d
theorem pIdE {t:List AV}(i j:Nat):pureOp Tryz.prog t (mkO (.binOp .eql 37 (.tmp i) (.tmp j) 37) 4)=zLK (pureD Tryz.prog t (mkO (.binOp .eql 37 (.tmp i) (.tmp j) 37) 4)) (evalA t (.tmp i)) (evalA t (.tmp j)):=by
 unfold zLK
 split
 ·rename_i a0 a1 a2 a3 b0 b1 b2 b3 h1 h2
  obtain⟨r,hr,he⟩:=pEqS (P:=Tryz.prog) [.st [.st [.int .u8,.int .u32],.int .u8],.int .i64] false 37 37 4 i j (by kernel_rfl) (by decide) (by kernel_rfl) h1 h2 rfl rfl (zM8 _ _ _ _) (zM8 _ _ _ _)
  exact zB0v
 ·rfl
theorem zA0 (d:Option AV)(a0 a1 a2 a3:Int)(b0 b1 b2 b3:Int):zLK d (.agg [.sc (.int .u8 a0),.sc (.int .u32 a1),.sc (.int .u8 a2),.sc (.int .i64 a3)]) (.agg [.sc (.int .u8 b0),.sc (.int .u32 b1),.sc (.int .u8 b2),.sc (.int .i64 b3)])=some (BL (decide ((⟨⟨⟨a0,a1⟩,a2⟩,a3⟩:Eid)=⟨⟨⟨b0,b1⟩,b2⟩,b3⟩))):=by
 simp only[zLK]
 exact zB0l
theorem zM9 (a0:Int)(a1:Int)(a2:Int)(a3:Int):PT.iss [.st [.st [.int .u8,.int .u32],.int .u8],.int .i64] [.int .u8 a0,.int .u32 a1,.int .u8 a2,.int .i64 a3]:=by
 exact zB0d
def zLL (d:Option AV)(u v:AV):Option AV:=match u,v with
 | .agg [.sc (.int .u8 a0),.sc (.int .u32 a1),.sc (.int .u8 a2),.sc (.int .i64 a3)],.agg [.sc (.int .u8 b0),.sc (.int .u32 b1),.sc (.int .u8 b2),.sc (.int .i64 b3)]=>some (BL (!(decide (a0=b0)&&decide (a1=b1)&&decide (a2=b2)&&decide (a3=b3))))
 | _,_=>d
theorem pIdN {t:List AV}(i j:Nat):pureOp Tryz.prog t (mkO (.binOp .neq 37 (.tmp i) (.tmp j) 37) 4)=zLL (pureD Tryz.prog t (mkO (.binOp .neq 37 (.tmp i) (.tmp j) 37) 4)) (evalA t (.tmp i)) (evalA t (.tmp j)):=by
 unfold zLL
 split
 ·rename_i a0 a1 a2 a3 b0 b1 b2 b3 h1 h2
  obtain⟨r,hr,he⟩:=pEqS (P:=Tryz.prog) [.st [.st [.int .u8,.int .u32],.int .u8],.int .i64] true 37 37 4 i j (by kernel_rfl) (by decide) (by kernel_rfl) h1 h2 rfl rfl (zM9 _ _ _ _) (zM9 _ _ _ _)
  exact zB0v
 ·rfl
theorem zA4 (d:Option AV)(a0 a1 a2 a3:Int)(b0 b1 b2 b3:Int):zLL d (.agg [.sc (.int .u8 a0),.sc (.int .u32 a1),.sc (.int .u8 a2),.sc (.int .i64 a3)]) (.agg [.sc (.int .u8 b0),.sc (.int .u32 b1),.sc (.int .u8 b2),.sc (.int .i64 b3)])=some (BL (!decide ((⟨⟨⟨a0,a1⟩,a2⟩,a3⟩:Eid)=⟨⟨⟨b0,b1⟩,b2⟩,b3⟩))):=by
 simp only[zLL]
 exact zB0l
theorem zMC (a0:Int)(a1:Int)(a2:Int)(a3:Int)(a4:Int):PT.iss [.st [.st [.st [.int .u8,.int .u32],.int .u8],.int .i64],.int .i64] [.int .u8 a0,.int .u32 a1,.int .u8 a2,.int .i64 a3,.int .i64 a4]:=by
 exact zB09
def zLO (d:Option AV)(u v:AV):Option AV:=match u,v with
 | .agg [.sc (.int .u8 a0),.sc (.int .u32 a1),.sc (.int .u8 a2),.sc (.int .i64 a3),.sc (.int .i64 a4)],.agg [.sc (.int .u8 b0),.sc (.int .u32 b1),.sc (.int .u8 b2),.sc (.int .i64 b3),.sc (.int .i64 b4)]=>some (BL (decide (a0=b0)&&decide (a1=b1)&&decide (a2=b2)&&decide (a3=b3)&&decide (a4=b4)))
 | _,_=>d
theorem pSpE {t:List AV}(i j:Nat):pureOp Tryz.prog t (mkO (.binOp .eql 60 (.tmp i) (.tmp j) 60) 4)=zLO (pureD Tryz.prog t (mkO (.binOp .eql 60 (.tmp i) (.tmp j) 60) 4)) (evalA t (.tmp i)) (evalA t (.tmp j)):=by
 unfold zLO
 split
 ·rename_i a0 a1 a2 a3 a4 b0 b1 b2 b3 b4 h1 h2
  obtain⟨r,hr,he⟩:=pEqS (P:=Tryz.prog) [.st [.st [.st [.int .u8,.int .u32],.int .u8],.int .i64],.int .i64] false 60 60 4 i j (by kernel_rfl) (by decide) (by kernel_rfl) h1 h2 rfl rfl (zMC _ _ _ _ _) (zMC _ _ _ _ _)
  exact zB0e
 ·rfl
theorem zB5 (d:Option AV)(a0 a1 a2 a3 a4:Int)(b0 b1 b2 b3 b4:Int):zLO d (.agg [.sc (.int .u8 a0),.sc (.int .u32 a1),.sc (.int .u8 a2),.sc (.int .i64 a3),.sc (.int .i64 a4)]) (.agg [.sc (.int .u8 b0),.sc (.int .u32 b1),.sc (.int .u8 b2),.sc (.int .i64 b3),.sc (.int .i64 b4)])=some (BL (decide ((⟨⟨⟨⟨a0,a1⟩,a2⟩,a3⟩,a4⟩:Spn)=⟨⟨⟨⟨b0,b1⟩,b2⟩,b3⟩,b4⟩))):=by
 simp only[zLO]
 exact zB0l
theorem zMD (a0:Int)(a1:Int)(a2:Int)(a3:Int)(a4:Int):PT.iss [.st [.st [.st [.int .u8,.int .u32],.int .u8],.int .i64],.int .i64] [.int .u8 a0,.int .u32 a1,.int .u8 a2,.int .i64 a3,.int .i64 a4]:=by
 exact zB09
def zLP (d:Option AV)(u v:AV):Option AV:=match u,v with
 | .agg [.sc (.int .u8 a0),.sc (.int .u32 a1),.sc (.int .u8 a2),.sc (.int .i64 a3),.sc (.int .i64 a4)],.agg [.sc (.int .u8 b0),.sc (.int .u32 b1),.sc (.int .u8 b2),.sc (.int .i64 b3),.sc (.int .i64 b4)]=>some (BL (!(decide (a0=b0)&&decide (a1=b1)&&decide (a2=b2)&&decide (a3=b3)&&decide (a4=b4))))
 | _,_=>d
theorem pSpN {t:List AV}(i j:Nat):pureOp Tryz.prog t (mkO (.binOp .neq 60 (.tmp i) (.tmp j) 60) 4)=zLP (pureD Tryz.prog t (mkO (.binOp .neq 60 (.tmp i) (.tmp j) 60) 4)) (evalA t (.tmp i)) (evalA t (.tmp j)):=by
 unfold zLP
 split
 ·rename_i a0 a1 a2 a3 a4 b0 b1 b2 b3 b4 h1 h2
  obtain⟨r,hr,he⟩:=pEqS (P:=Tryz.prog) [.st [.st [.st [.int .u8,.int .u32],.int .u8],.int .i64],.int .i64] true 60 60 4 i j (by kernel_rfl) (by decide) (by kernel_rfl) h1 h2 rfl rfl (zMD _ _ _ _ _) (zMD _ _ _ _ _)
  exact zB0e
 ·rfl
theorem zJT (d:Option AV)(a0 a1 a2 a3 a4:Int)(b0 b1 b2 b3 b4:Int):zLP d (.agg [.sc (.int .u8 a0),.sc (.int .u32 a1),.sc (.int .u8 a2),.sc (.int .i64 a3),.sc (.int .i64 a4)]) (.agg [.sc (.int .u8 b0),.sc (.int .u32 b1),.sc (.int .u8 b2),.sc (.int .i64 b3),.sc (.int .i64 b4)])=some (BL (!decide ((⟨⟨⟨⟨a0,a1⟩,a2⟩,a3⟩,a4⟩:Spn)=⟨⟨⟨⟨b0,b1⟩,b2⟩,b3⟩,b4⟩))):=by
 simp only[zLP]
 exact zB0l
variable {fuel : Nat} {M : Mem} {Q : AV → Mem → Prop} {d : Nat}
def zEX (a b:Int):Int:=IntKind.u32.wrap ((BitVec.ofInt 32 a &&& ~~~ BitVec.ofInt 32 b).toNat:Nat)
def Lb.leq (a b:Lb):Bool:=decide (a.lv≤b.lv)&&decide (zEX a.cats b.cats=0)
def Lb.may (a:Lb):Bool:=!decide (15<a.lv)
def Hd.may (h:Hd):Bool:=h.lb.may&&decide (h.num<8)
def Eid.may (x:Eid):Bool:=x.hd.may&&decide (1≤x.c)&&decide (x.c≤1099511627776)
def Spn.may (s:Spn):Bool:=s.f.may&&decide (1≤s.n)&&decide (s.n≤64)&&decide (s.f.c+s.n≤1099511627777)
def err (b:Bool):Int:=if b then 0 else 8
theorem zA6:err true=0:=rfl
theorem zAD:err false=8:=rfl
theorem zKK (P:Program)(ty:TypeId)(a b:Int):binV P .andNot ty .u32 a .u32 b=some (.int .u32 (zEX a b)):=by
 simp only[binV,binOp,ne_eq,not_true_eq_false,if_false,Op.intBits]
 rfl
theorem zCZ (a b:Lb)(M:Mem):zCN fuel (d+1) 34 [lbA a,lbA b] M=some (BL (a.leq b),M):=by
 apply w3_eq
 refine call_gc tf34 rfl (by simp (disch:=try exact SX) only[RV,seval]) (by simp [a34]) fun b' ht hx=>?_
 obtain⟨h0,h1⟩:=hx2 hx
 clear hx
 simp only[a34,c34] at ht ⊢
 unfold Lb.leq
 by_cases q:a.lv≤b.lv
 ·have q1:decide (a.lv≤b.lv)=true:=decide_eq_true q
  simp (disch:=try exact SX) only[RV,seval,h0,h1,q1,zKK]
 ·have q1:decide (a.lv≤b.lv)=false:=decide_eq_false q
  simp (disch:=try exact SX) only[RV,seval,h0,h1,q1,Bool.false_and]
theorem zC3 (a:Lb)(M:Mem):zCN fuel (d+1) 40 [lbA a] M=some (I64 (err a.may),M):=by
 apply w3_eq
 refine call_gc tf40 rfl (by simp (disch:=try exact SX) only[RV,seval]) (by simp [a40]) fun b' ht hx=>?_
 have h0:=hx 0 _ rfl
 clear hx
 simp only[a40,c40] at ht ⊢
 unfold Lb.may
 cases q:decide (15<a.lv) <;> simp (disch:=try exact SX) only[RV,seval,h0,q,zA6,zAD]
theorem zE4 (b:Bool)(M:Mem):zCN fuel (d+1) 59 [BL b] M=some (I64 (err b),M):=by
 apply w3_eq
 refine call_gc tf59 rfl (by simp (disch:=try exact SX) only[RV]) (by simp [a59]) fun b' ht hx=>?_
 have h0:=hx 0 _ rfl
 clear hx
 simp only[a59,c59] at ht ⊢
 cases b <;> simp (disch:=try exact SX) only[RV,seval,h0,zA6,zAD]
theorem zCA (h:Hd)(M:Mem):zCN fuel (d+2) 33 [hdA h] M=some (I64 (err h.may),M):=by
 have hl:=fun M=>@zC3 fuel d h.lb M
 have hr:=fun b M=>@zE4 fuel d b M
 apply w3_eq
 refine call_gc tf33 rfl (by simp (disch:=try exact SX) only[RV,seval]) (by simp [a33]) fun b' ht hx=>?_
 have h0:=hx 0 _ rfl
 clear hx
 simp only[a33,c33] at ht ⊢
 unfold Hd.may
 cases hm:h.lb.may <;> rw[hm] at hl
 ·exact zB0z
 ·simp (disch:=try exact SX) only[RV,seval,h0,hl,hr,zA6]
theorem zEQ (x:Eid)(M:Mem):zCN fuel (d+3) 78 [idA x] M=some (I64 (err x.may),M):=by
 have hl:=fun M=>@zCA fuel d x.hd M
 have hr:=fun b M=>@zE4 fuel (d+1) b M
 apply w3_eq
 refine call_gc tf78 rfl (by simp (disch:=try exact SX) only[RV,seval]) (by simp [a78]) fun b' ht hx=>?_
 have h0:=hx 0 _ rfl
 clear hx
 simp only[a78,c78] at ht ⊢
 unfold Eid.may
 cases hm:x.hd.may <;> rw[hm] at hl
 ·exact zB0z
 ·cases q:decide (1≤x.c)
  ·simp (disch:=try exact SX) only[RV,seval,h0,hl,hr,zA6,q,Bool.false_and]
  ·simp (disch:=try exact SX) only[RV,seval,h0,hl,hr,zA6,q]
theorem zCL (s:Spn)(M:Mem):zCN fuel (d+4) 57 [spA s] M=some (I64 (err s.may),M):=by
 have hl:=fun M=>@zEQ fuel d s.f M
 have hr:=fun b M=>@zE4 fuel (d+2) b M
 apply w3_eq
 refine call_gc tf57 rfl (by simp (disch:=try exact SX) only[RV,seval]) (by simp [a57]) fun b' ht hx=>?_
 have h0:=hx 0 _ rfl
 clear hx
 simp only[a57,c57] at ht ⊢
 unfold Spn.may
 cases hm:s.f.may <;> rw[hm] at hl
 ·exact zB0z
 ·cases q1:decide (1≤s.n)
  ·simp (disch:=try exact SX) only[RV,seval,h0,hl,hr,zA6,q1,Bool.false_and]
  ·cases q2:decide (s.n≤64)
   ·simp (disch:=try exact SX) only[RV,seval,h0,hl,hr,zA6,q1,q2,Bool.false_and]
   ·have w:IntKind.i64.wrap (IntKind.i64.wrap (s.f.c+s.n) - 1)=s.f.c+s.n - 1:=by
     unfold Eid.may at hm
     simp only[Bool.and_eq_true,decide_eq_true_eq] at hm q1 q2
     rw[wrap_i64 (n:=s.f.c+s.n) (by omega) (by omega),wrap_i64 (by omega) (by omega)]
    have q3:decide (s.f.c+s.n - 1≤1099511627776)=decide (s.f.c+s.n≤1099511627777):=by
     exact zB0G
    simp (disch:=try exact SX) only[RV,seval,h0,hl,hr,zA6,q1,q2,w,q3]
def zEB (x:Int):Bool:=(decide (0≤x)&&decide (x<55296)) || (decide (57343<x)&&decide (x≤1114111))
def okR (x:Int):Bool:=decide (x = -1) || zEB x
def chkR (l:List Int):Int:=if 64<l.length then 4 else err (l.all okR)
theorem zKC (x:Int)(M:Mem):zCN fuel (d+1) 136 [I32 x] M=some (BL (zEB x),M):=by
 apply w3_eq
 refine call_gc tf136 rfl (by simp (disch:=try exact SX) only[RV]) (by simp [a136]) fun b' ht hx=>?_
 have h0:=hx 0 _ rfl
 clear hx
 simp only[a136,c136] at ht ⊢
 unfold zEB
 cases q1:decide (0≤x) <;> cases q2:decide (x<55296) <;> cases q3:decide (57343<x) <;> cases q4:decide (x≤1114111)
 all_goals simp (disch:=try exact SX) only[RV,seval,h0,q1,q2,q3,q4]
theorem zKF (x:Int)(M:Mem):zCN fuel (d+2) 135 [I32 x] M=some (BL (!okR x),M):=by
 have hv:=fun M=>@zKC fuel d x M
 apply w3_eq
 refine call_gc tf135 rfl (by simp (disch:=try exact SX) only[RV]) (by simp [a135]) fun b' ht hx=>?_
 have h0:=hx 0 _ rfl
 clear hx
 simp only[a135,c135] at ht ⊢
 unfold okR
 cases q:decide (x = -1) <;> simp (disch:=try exact SX) only[RV,seval,h0,q,hv]
theorem zIT {α:Type}(p:α→Bool)(l:List α):(l.any fun x => !p x) = !l.all p:=by
 exact zB0Q
theorem zEK {a:AV}{l:List Int}(hS:Sl 1 zA3 a l)(hf:100<fuel)(M:Mem):zCN fuel (d+5) 99 [a] M=some (I64 (chkR l),M):=by
 have ll:=hS.len
 apply w3_eq
 refine call_gc tf99 rfl (by simp (disch:=try exact SX) only[icyL,hS.fz.icy]) (by simp [a99]) fun b' ht hx=>?_
 have h0:=hx 0 _ rfl
 clear hx
 simp only[a99,c99] at ht ⊢
 unfold chkR
 by_cases q:64<l.length
 ·exact zB0L
 ·have q1:decide ((64:Int)<l.length)=false:=DF
  have hh:=fun M=>has_gc (P:=Tryz.prog) (fs:=fsT tbl) (fuel:=fuel) (l:=l) (ag:=false) (n:=d+2) tf137 tf153 (fun _=>rfl) zCP hS (by omega) (by omega) (fz_fn0 135) (p:=fun x => !okR x) (fun r x hr _ M=>by
   obtain rfl:=hr
   exact @zKF fuel d x M) M
  rw[zIT] at hh
  cases hb:l.all okR <;> rw[hb] at hh <;> simp (disch:=try exact SX) only[RV,seval,h0,ll,q1,q,hh,if_false,zA6,zAD]
theorem zF5 {a:AV}{l:List Int}(hS:Sl 1 zA3 a l)(hl:l.length≤1000000000)(wf:Wf M)
  (k:∀ a' M',Wf M'→M.size≤M'.size→(∀ j,j<M.size→M'.get j=M.get j)→SlM M' 1 zA3 a' l→(∀ id,rowOf a'=some id→M.size≤id)→M'.wm=M.wm→M'.dirty=M.dirty→Q a' M'):W3 (zCN fuel (d+1) 64 [a] M) Q :=
 clone_0 zCP.cel tf64 Tryz.underlying61 hS (by omega) (by omega) wf k
theorem zJI (M:Mem):zCN fuel (d+1) 128 [] M=some (lbA Lb.z,M):=by
 apply w3_eq
 refine call_gc tf128 rfl (by simp (disch:=try exact SX) only[icyL]) (by simp [a128]) fun b' ht hx=>?_
 clear hx
 simp only[a128,c128] at ht ⊢
 simp (disch:=try exact SX) only[RV,seval,fillA]
theorem zC9 {o:Op}{ra:AV}(h:Fz ra)(M:Mem):icy 12 M (.agg (opR o ra))=some (.agg (opR o ra),M):=fz_icyA (zM2 h) (by omega) M
def Op.bare (o:Op):Bool:=decide (o.af=Eid.z)&&decide ((o.rs.length:Int)=0)
def Op.part (o:Op):Bool :=
 if o.kd=1 then decide (o.to=Lb.z)&&(decide (o.af=Eid.z) || o.af.may)&&decide (o.sp.f.hd=o.hd)&&decide ((o.rs.length:Int)=o.sp.n)&&decide (chkR o.rs=0)
 else if o.kd=2 then decide (o.to=Lb.z)&&o.bare
 else o.bare&&o.to.may
def Op.may (o:Op):Bool:=!decide (o.kd=0) && !decide (4≤o.kd)&&o.hd.may && !decide (o.sr<1) && !decide (16777216≤o.sr)&&o.sp.may&&o.part
theorem zM0 {o:Op}{ra:AV}(hS:Sl 1 zA3 ra o.rs)(wf:Wf M)(k:∀ N,Kept M N→Q (BL o.bare) N):W3 (zCN fuel (d+1) 126 [.agg (opR o ra)] M) Q:=by
 have pIdE:=@pIdE
 have ll:=hS.len
 unfold Op.bare at k
 refine call_0 tf126 rfl (by simp [a126]) fun b' ht hx=>?_
 have h0:=hx 0 _ rfl
 clear hx
 simp only[a126,c126] at ht ⊢
 cases q:decide (o.af=Eid.z) <;> rw[q] at k <;> simp only[Bool.false_and,Bool.true_and] at k <;> simp (disch:=try exact SX) only[RV,seval,fillA,h0,↓pIdE,zA0,ETA,q,ll]
 all_goals exact k _ ((Kept.refl wf).add _)
theorem zHB {o:Op}{ra:AV}(hS:Sl 1 zA3 ra o.rs)(wf:Wf M)(k:∀ N,Kept M N→Q (BL (decide (o.to=Lb.z))) N):W3 (zCN fuel (d+2) 127 [.agg (opR o ra)] M) Q:=by
 have pLbE:=@pLbE
 have hl:=fun M=>@zJI fuel d M
 refine call_0 tf127 rfl (by simp [a127]) fun b' ht hx=>?_
 have h0:=hx 0 _ rfl
 clear hx
 simp only[a127,c127] at ht ⊢
 simp (disch:=try exact SX) only[RV,seval,h0,↓pLbE,zA5,ETA,hl]
 exact zB0s
def Spn.at (s:Spn)(n:Int):Eid:=⟨s.f.hd,s.f.c+n⟩
theorem zHI (x:Eid)(n:Int)(M:Mem):zCN fuel (d+1) 58 [idA x,I64 n] M=some (idA ⟨x.hd,IntKind.i64.wrap (x.c+n)⟩,M):=by
 apply w3_eq
 refine call_gc tf58 rfl (by simp (disch:=try exact SX) only[RV,seval]) (by simp [a58]) fun b' ht hx=>?_
 obtain⟨h0,h1⟩:=hx2 hx
 clear hx
 simp only[a58,c58] at ht ⊢
 simp (disch:=try exact SX) only[RV,seval,h0,h1]
def Spn.has (s:Spn)(x:Eid):Option Int:=if s.may=true∧x.hd=s.f.hd∧s.f.c≤x.c∧x.c<s.f.c+s.n then some (x.c - s.f.c) else none
theorem Spn.may_le {s:Spn}(h:s.may=true):1≤s.f.c∧s.f.c≤1099511627776∧1≤s.n∧s.n≤64∧s.f.c+s.n≤1099511627777:=by
 unfold Spn.may Eid.may at h
 simp only[Bool.and_eq_true,decide_eq_true_eq] at h
 omega
theorem zEU (s:Spn)(x:Eid)(M:Mem):zCN fuel (d+5) 29 [spA s,idA x] M=some (.tup [I64 ((s.has x).getD 0),BL (s.has x).isSome],M):=by
 have hc:=fun M=>@zCL fuel d s M
 have hn:=fun x n M=>@zHI fuel (d+3) x n M
 have pIdN:=@pIdN
 apply w3_eq
 refine call_gc tf29 rfl (by simp (disch:=try exact SX) only[RV,seval]) (by simp [a29]) fun b' ht hx=>?_
 obtain⟨h0,h1⟩:=hx2 hx
 clear hx
 simp only[a29,c29] at ht ⊢
 cases hm:s.may with
 | false =>
  rw[hm] at hc
  have e:s.has x=none:=by unfold Spn.has;rw[if_neg (by simp [hm])]
  simp (disch:=try exact SX) only[RV,seval,h0,h1,hc,zAD,e,Option.getD_none,Option.isSome_none]
 | true =>
  rw[hm] at hc
  have hb:=Spn.may_le hm
  generalize hw:IntKind.i64.wrap (x.c - s.f.c)=n at *
  by_cases q1:n<0
  ·have e:s.has x=none:=by
    exact zB0C
   have q:decide (n<0)=true:=decide_eq_true q1
   simp (disch:=try exact SX) only[RV,seval,h0,h1,hc,zA6,hw,q,e,Option.getD_none,Option.isSome_none]
  ·by_cases q2:s.n≤n
   ·have e:s.has x=none:=by
     exact zB0C
    have q:decide (n<0)=false:=decide_eq_false q1
    have q':decide (s.n≤n)=true:=decide_eq_true q2
    simp (disch:=try exact SX) only[RV,seval,h0,h1,hc,zA6,hw,q,q',e,Option.getD_none,Option.isSome_none]
   ·have q:decide (n<0)=false:=decide_eq_false q1
    have q':decide (s.n≤n)=false:=decide_eq_false q2
    have w2:IntKind.i64.wrap (s.f.c+n)=s.f.c+n:=wrap_i64 (by omega) (by omega)
    by_cases q3:x=⟨s.f.hd,s.f.c+n⟩
    ·have e:s.has x=some n:=by
      unfold Spn.has
      rw[if_pos ⟨hm,by rw[q3],by rw[q3];show s.f.c≤s.f.c+n;omega,by rw[q3];show s.f.c+n<_;omega⟩,q3]
      congr 1
      show s.f.c+n - s.f.c=n
      omega
     have q4:decide (x=⟨s.f.hd,s.f.c+n⟩)=true:=decide_eq_true q3
     simp (disch:=try exact SX) only[RV,seval,h0,h1,hc,zA6,hw,q,q',hn,w2,↓pIdN,zA4,ETA,q4,e,Option.getD_some,Option.isSome_some]
    ·have e:s.has x=none:=by
      unfold Spn.has
      rw[if_neg]
      rintro⟨_,h0,h1,h2⟩
      rw[wrap_i64 (by omega) (by omega)] at hw
      apply q3
      obtain⟨xh,xc⟩:=x
      simp only at h0 hw ⊢
      rw[h0,← hw]
      congr 1
      omega
     have q4:decide (x=⟨s.f.hd,s.f.c+n⟩)=false:=decide_eq_false q3
     simp (disch:=try exact SX) only[RV,seval,h0,h1,hc,zA6,hw,q,q',hn,w2,↓pIdN,zA4,ETA,q4,e,Option.getD_none,Option.isSome_none]
theorem zDR (s:Spn)(n:Int)(M:Mem):zCN fuel (d+5) 69 [spA s,I64 n] M=some (if s.may then (if n<0∨s.n≤n then .tup [idA Eid.z,I64 2] else .tup [idA (s.at n),I64 0]) else .tup [idA Eid.z,I64 8],M):=by
 have hc:=fun M=>@zCL fuel d s M
 have hn:=fun x n M=>@zHI fuel (d+3) x n M
 apply w3_eq
 refine call_gc tf69 rfl (by simp (disch:=try exact SX) only[RV,seval]) (by simp [a69]) fun b' ht hx=>?_
 obtain⟨h0,h1⟩:=hx2 hx
 clear hx
 simp only[a69,c69] at ht ⊢
 cases hm:s.may with
 | false =>
  rw[hm] at hc
  simp (disch:=try exact SX) only[RV,seval,fillA,h0,hc,zAD,Bool.false_eq_true,if_false]
 | true =>
  rw[hm] at hc
  have hb:=Spn.may_le hm
  by_cases q1:n<0
  ·simp (disch:=try exact SX) only[RV,seval,fillA,h0,h1,hc,zA6,q1,true_or,if_true]
  ·by_cases q2:s.n≤n
   ·simp (disch:=try exact SX) only[RV,seval,fillA,h0,h1,hc,zA6,q1,q2,or_true,if_true]
   ·have w2:IntKind.i64.wrap (s.f.c+n)=s.f.c+n:=wrap_i64 (by omega) (by omega)
    unfold Spn.at
    simp (disch:=try exact SX) only[RV,seval,h0,h1,hc,zA6,q1,q2,or_self,if_true,if_false,hn,w2]
def bitI (c:Int)(i:Nat):Bool:=decide ((c.toNat / 2 ^ i) % 2=1)
theorem zJH {a b:Int}(ha:0≤a∧a<4294967296)(hb:0≤b∧b<4294967296):zEX a b=0 ↔ ∀ i,i<32→bitI a i=true→bitI b i=true:=by
 obtain⟨n,rfl⟩:∃ n:Nat,a=n:=⟨a.toNat,by omega⟩
 obtain⟨m,rfl⟩:∃ m:Nat,b=m:=⟨b.toNat,by omega⟩
 have e1:∀ (n i:Nat),i<32→bitI (n:Int) i=(BitVec.ofInt 32 (n:Int)).getLsbD i:=fun n i hi=>by
  rw[BitVec.ofInt_natCast,BitVec.getLsbD_ofNat,decide_eq_true hi,Bool.true_and,Nat.testBit_eq_decide_div_mod_eq]
  rfl
 have e2:zEX n m=((BitVec.ofInt 32 (n:Int) &&& ~~~ BitVec.ofInt 32 (m:Int)).toNat:Int):=by
  have:=(BitVec.ofInt 32 (n:Int) &&& ~~~ BitVec.ofInt 32 (m:Int)).isLt
  unfold zEX
  generalize (BitVec.ofInt 32 (n:Int) &&& ~~~ BitVec.ofInt 32 (m:Int)).toNat=z at *
  simp [IntKind.wrap,IntKind.bits,IntKind.signed]
  omega
 rw[e2]
 have e3:((BitVec.ofInt 32 (n:Int) &&& ~~~ BitVec.ofInt 32 (m:Int)).toNat:Int)=0↔(BitVec.ofInt 32 (n:Int) &&& ~~~ BitVec.ofInt 32 (m:Int))=0#32:=by
  rw[← BitVec.toNat_inj];simp
 rw[e3]
 constructor
 ·intro h i hi h1
  rw[e1 _ _ hi] at h1 ⊢
  have:=congrArg (fun v=>BitVec.getLsbD v i) h
  simp only[BitVec.getLsbD_and,BitVec.getLsbD_not,h1,hi,BitVec.getLsbD_zero,decide_true,Bool.true_and,Bool.not_eq_false'] at this
  exact this
 ·intro h
  apply BitVec.eq_of_getLsbD_eq
  intro i hi
  have:=h i hi
  rw[e1 _ _ hi,e1 _ _ hi] at this
  simp only[BitVec.getLsbD_and,BitVec.getLsbD_not,hi,BitVec.getLsbD_zero,decide_true,Bool.true_and]
  cases h1:(BitVec.ofInt 32 (n:Int)).getLsbD i with
  | false=>rfl
  | true=>rw[this h1];rfl
theorem zDZ (v:Lb)(M:Mem):zCN fuel (d+1) 51 [lbA v] M=some (BL v.may,M):=by
 apply w3_eq
 refine call_gc tf51 rfl (by simp (disch:=try exact SX) only[RV,seval]) (by simp [a51]) fun b' ht hx=>?_
 have h0:=hx 0 _ rfl
 clear hx
 simp only[a51,c51] at ht ⊢
 unfold Lb.may
 by_cases q:15<v.lv
 ·have q1:decide (v.lv≤15)=false:=DF
  have q2:decide (15<v.lv)=true:=decide_eq_true q
  simp (disch:=try exact SX) only[RV,seval,h0,q1,q2]
 ·have q1:decide (v.lv≤15)=true:=DT
  have q2:decide (15<v.lv)=false:=decide_eq_false q
  simp (disch:=try exact SX) only[RV,seval,h0,q1,q2]
theorem zJC (v:Lb)(hv:v.ok)(i:Nat)(hi:i<32)(M:Mem):zCN fuel (d+1) 85 [lbA v,I64 i] M=some (BL (bitI v.cats i),M):=by
 have cv:=fun t r x=>pConv2 (P:=Tryz.prog) (t:=t) Tryz.underlying3 Tryz.underlying177 r x
 have w:IntKind.u64.wrap (i:Int)=i:=by simp [IntKind.wrap,IntKind.bits,IntKind.signed];omega
 have sh:∀ ty,binV Tryz.prog .shr ty .u32 v.cats .u64 (i:Int)=some (.int .u32 ((v.cats.toNat / 2 ^ i:Nat):Int)):=fun ty=>by
  rw[vShr _ _ _ _ _ (by omega)]
  have:min (Int.toNat (i:Int)) (IntKind.u32).bits=i:=by simp [IntKind.bits];omega
  rw[this]
  obtain⟨n,hn⟩:∃ n:Nat,v.cats=n:=⟨v.cats.toNat,by have:=hv.2.2.1;omega⟩
  have h2:(0:Int)≤2 ^ i:=by exact_mod_cast Nat.zero_le (2 ^ i)
  rw[hn,Int.fdiv_eq_ediv_of_nonneg _ h2,Int.toNat_natCast]
  simp
 have hr:∀ (ty:TypeId) (n:Nat),binV Tryz.prog .rem ty .u32 (n:Int) .u32 2=some (.int .u32 ((n % 2:Nat):Int)):=fun ty n=>by
  rw[vRem,if_neg (by omega)]
  simp [Int.tmod_eq_emod_of_nonneg]
 apply w3_eq
 refine call_gc tf85 rfl (by simp (disch:=try exact SX) only[RV,seval]) (by simp [a85]) fun b' ht hx=>?_
 obtain⟨h0,h1⟩:=hx2 hx
 clear hx
 simp only[a85,c85] at ht ⊢
 unfold bitI
 have q:decide (((v.cats.toNat / 2 ^ i % 2:Nat):Int)=1)=decide (v.cats.toNat / 2 ^ i % 2=1):=by
  exact zB0G
 simp (disch:=try exact SX) only[RV,seval,h0,h1,cv,pc1_int,w,sh,hr,q]
theorem zB6 (a b:Lb)(ha:a.ok)(hb:b.ok)(hf:40<fuel)(M:Mem):zCN fuel (d+2) 54 [lbA a,lbA b] M=some (BL (a.leq b),M):=by
 have hh:=fun i hi M=>@zJC fuel d a ha i hi M
 have kh:=fun i hi M=>@zJC fuel d b hb i hi M
 have key:=zJH ha.2.2 hb.2.2
 apply w3_eq
 refine call_gc tf54 rfl (by simp (disch:=try exact SX) only[RV,seval]) (by simp [a54]) fun b' ht hx=>?_
 obtain⟨h0,h1⟩:=hx2 hx
 clear hx
 simp only[a54,c54] at ht ⊢
 simp (disch:=try exact SX) only[RV,seval,h0,h1]
 refine w_loop (I:=fun n t N => ∃ (i:Nat),n=32 - i∧i≤32∧nth undefA t 2 = .ptr 0 0∧nth undefA t 3 = .ptr 1 0∧nth undefA t 5=I64 i∧N=(mem0.add (.row false [U8 a.lv,U32 a.cats])).add (.row false [U8 b.lv,U32 b.cats])∧(∀ j,j<i→bitI a.cats j=true→bitI b.cats j=true)) (n:=32) (by omega) ?_ ?_
 ·refine⟨0,rfl,Nat.zero_le _, ?_, ?_, ?_,rfl,(fun _ h=>absurd h (by omega))⟩ <;> simp (disch:=try exact SX) only[RV,seval]
  all_goals first | rfl | assumption | done
 ·rintro n t N hlt ⟨i,rfl,hi,g2,g3,g5,hm,hj⟩
  simp only[ht] at hlt ⊢
  subst hm
  by_cases hc:i<32
  ·have q1:decide ((i:Int)<32)=true:=DT
   have w1:IntKind.i64.wrap ((i:Int)+1)=((i+1:Nat):Int):=WI
   cases b1:bitI a.cats i with
   | false =>
    simp (disch:=try exact SX) only[RV,seval,g2,g3,g5,q1,w1,hh,b1]
    exact⟨hlt,32 - (i+1),by omega,i+1,rfl,by omega,rfl,fun j hj' hb'=>by
     rcases Nat.lt_succ_iff_lt_or_eq.1 hj' with h | rfl
     ·exact hj j h hb'
     ·rw[b1] at hb';cases hb'⟩
   | true =>
    cases b2:bitI b.cats i with
    | true =>
     simp (disch:=try exact SX) only[RV,seval,g2,g3,g5,q1,w1,hh,kh,b1,b2]
     exact⟨hlt,32 - (i+1),by omega,i+1,rfl,by omega,rfl,fun j hj' hb'=>by
      rcases Nat.lt_succ_iff_lt_or_eq.1 hj' with h | rfl
      ·exact hj j h hb'
      ·exact b2⟩
    | false =>
     have e:a.leq b=false:=by
      unfold Lb.leq
      rw[Bool.and_eq_false_iff]
      right
      rw[decide_eq_false_iff_not,key]
      intro h
      have:=h i hc b1
      rw[b2] at this;cases this
     simp (disch:=try exact SX) only[RV,seval,g2,g3,g5,q1,hh,kh,b1,b2,e]
  ·obtain rfl:i=32:=by omega
   have e:a.leq b=decide (a.lv≤b.lv):=by
    unfold Lb.leq
    rw[decide_eq_true (p:=zEX a.cats b.cats=0) (key.2 hj),Bool.and_true]
   have q1:decide (((32:Nat):Int)<32)=false:=rfl
   simp (disch:=try exact SX) only[RV,seval,g2,g3,g5,q1,e]
theorem zLR (x:Int)(M:Mem):zCN fuel (d+1) 119 [I64 x] M=some (BL (zEB x),M):=by
 apply w3_eq
 refine call_gc tf119 rfl (by simp (disch:=try exact SX) only[RV]) (by simp [a119]) fun b' ht hx=>?_
 have h0:=hx 0 _ rfl
 clear hx
 simp only[a119,c119] at ht ⊢
 have key:zEB x=(decide (0≤x)&&decide (x≤1114111)&&(decide (x<55296) || decide (57343<x))):=by
  unfold zEB
  by_cases h1:0≤x <;> by_cases h2:x≤1114111 <;> by_cases h3:x<55296 <;> by_cases h4:57343<x <;> simp [h1,h2,h3,h4] <;> omega
 rw[key]
 cases q1:decide (0≤x) <;> cases q2:decide (x≤1114111) <;> cases q3:decide (x<55296) <;> cases q4:decide (57343<x)
 all_goals simp (disch:=try exact SX) only[RV,seval,h0,q1,q2,q3,q4]
theorem zD0 (h:Hd)(M:Mem):zCN fuel (d+2) 36 [hdA h] M=some (BL h.may,M):=by
 have hm:=fun M=>@zDZ fuel d h.lb M
 apply w3_eq
 refine call_gc tf36 rfl (by simp (disch:=try exact SX) only[RV,seval]) (by simp [a36]) fun b' ht hx=>?_
 have h0:=hx 0 _ rfl
 clear hx
 simp only[a36,c36] at ht ⊢
 unfold Hd.may
 cases q:h.lb.may <;> rw[q] at hm <;> simp (disch:=try exact SX) only[RV,seval,h0,hm,Bool.false_and]
theorem zE2 (x:Eid)(M:Mem):zCN fuel (d+3) 90 [idA x] M=some (BL x.may,M):=by
 have hm:=fun M=>@zD0 fuel d x.hd M
 apply w3_eq
 refine call_gc tf90 rfl (by simp (disch:=try exact SX) only[RV,seval]) (by simp [a90]) fun b' ht hx=>?_
 have h0:=hx 0 _ rfl
 clear hx
 simp only[a90,c90] at ht ⊢
 unfold Eid.may
 cases q:x.hd.may <;> rw[q] at hm
 ·simp (disch:=try exact SX) only[RV,seval,h0,hm,Bool.false_and]
 ·cases q1:decide (1≤x.c) <;> simp (disch:=try exact SX) only[RV,seval,h0,hm,q1,Bool.false_and]
theorem zEJ (s:Spn)(M:Mem):zCN fuel (d+4) 88 [spA s] M=some (BL s.may,M):=by
 have hm:=fun M=>@zE2 fuel d s.f M
 apply w3_eq
 refine call_gc tf88 rfl (by simp (disch:=try exact SX) only[RV,seval]) (by simp [a88]) fun b' ht hx=>?_
 have h0:=hx 0 _ rfl
 clear hx
 simp only[a88,c88] at ht ⊢
 unfold Spn.may
 cases q:s.f.may <;> rw[q] at hm
 ·simp (disch:=try exact SX) only[RV,seval,h0,hm,Bool.false_and]
 ·cases q1:decide (1≤s.n)
  ·simp (disch:=try exact SX) only[RV,seval,h0,hm,q1,Bool.false_and]
  ·cases q2:decide (s.n≤64)
   ·simp (disch:=try exact SX) only[RV,seval,h0,hm,q1,q2,Bool.false_and]
   ·have w:IntKind.i64.wrap (1099511627777 - s.n)=1099511627777 - s.n:=by
     rw[decide_eq_true_eq] at q1 q2
     exact wrap_i64 (by omega) (by omega)
    have q3:decide (s.f.c≤1099511627777 - s.n)=decide (s.f.c+s.n≤1099511627777):=by
     exact zB0G
    simp (disch:=try exact SX) only[RV,seval,h0,hm,q1,q2,w,q3]
theorem zIG (x:Eid)(M:Mem):zCN fuel (d+1) 89 [idA x] M=some (BL (decide (x=Eid.z)),M):=by
 apply w3_eq
 refine call_gc tf89 rfl (by simp (disch:=try exact SX) only[RV,seval]) (by simp [a89]) fun b' ht hx=>?_
 have h0:=hx 0 _ rfl
 clear hx
 simp only[a89,c89] at ht ⊢
 simp (disch:=try exact SX) only[RV,seval,fillA,h0,↓pIdE,zA0,ETA]
theorem zGL (x:Eid)(M:Mem):zCN fuel (d+1) 120 [idA x] M=some (BL (decide (x=Eid.z)),M):=by
 apply w3_eq
 refine call_gc tf120 rfl (by simp (disch:=try exact SX) only[RV,seval]) (by simp [a120]) fun b' ht hx=>?_
 have h0:=hx 0 _ rfl
 clear hx
 simp only[a120,c120] at ht ⊢
 simp (disch:=try exact SX) only[RV,seval,fillA,h0,↓pIdE,zA0,ETA]
def Rn.may (r:Rn):Bool:=r.sp.may&&(decide (r.af=Eid.z) || (r.af.may&&decide (r.af.c<r.sp.f.c)))&&decide ((r.rs.length:Int)=r.sp.n)&&decide (chkR r.rs=0)
theorem zAP {o:Rn}{ra:AV}(h:Fz ra)(M:Mem):icy 12 M (.agg (rnR o ra))=some (.agg (rnR o ra),M):=fz_icyA (zM3 h) (by omega) M
theorem zE0 {a:AV}{l:List Int}(hS:Sl 1 zA3 a l)(hi32:i32s l)(hf:100<fuel)(M:Mem):zCN fuel (d+2) 91 [a] M=some (I64 (chkR l),M):=by
 have ll:=hS.len
 have cv:=fun t r x=>pConv2 (P:=Tryz.prog) (t:=t) Tryz.underlying21 Tryz.underlying3 r x
 apply w3_eq
 refine call_gc tf91 rfl (by simp (disch:=try exact SX) only[icyL,hS.fz.icy]) (by simp [a91]) fun b' ht hx=>?_
 have h0:=hx 0 _ rfl
 clear hx
 simp only[a91,c91] at ht ⊢
 unfold chkR
 by_cases q:64<l.length
 ·exact zB0L
 ·have q1:decide ((64:Int)<l.length)=false:=DF
  rw[if_neg q]
  simp (disch:=try exact SX) only[RV,seval,h0,ll,q1]
  refine w_loop (I:=fun n t N => ∃ (i:Nat),n=l.length - i∧i≤l.length∧nth undefA t 0=a∧nth undefA t 3=I64 i∧N=mem0∧(l.take i).all okR=true) (n:=l.length) (by omega) ?_ ?_
  ·refine⟨0,rfl,Nat.zero_le _, ?_, ?_,rfl,rfl⟩ <;> simp (disch:=try exact SX) only[RV,seval,h0]
   all_goals first | rfl | assumption | done
  ·rintro n t N hlt ⟨i,rfl,hi,g0,g3,hm,hj⟩
   simp only[ht] at hlt ⊢
   subst hm
   by_cases hc:i<l.length
   ·have q2:decide ((i:Int)<l.length)=true:=DT
    have w1:IntKind.i64.wrap ((i:Int)+1)=((i+1:Nat):Int):=WI
    obtain⟨r,hr,hrr,_⟩:=hS.iad i hc
    have hrr:r=[I32 l[i]]:=hrr
    subst hrr
    have hrg:=hi32 l[i] (List.getElem_mem hc)
    have hw:IntKind.i64.wrap l[i]=l[i]:=wrap_i64 (by omega) (by omega)
    have his:=fun M=>@zLR fuel d l[i] M
    have htk:(l.take (i+1)).all okR=((l.take i).all okR&&okR l[i]):=by
     rw[List.take_add_one,List.getElem?_eq_getElem hc,List.all_append]
     simp
    have bad:okR l[i]=false→l.all okR=false:=fun h=>by
     rw[← Bool.not_eq_true,List.all_eq_true]
     intro h2
     rw[h2 _ (List.getElem_mem hc)] at h
     cases h
    cases q3:decide (l[i] = -1) with
    | true =>
     have ok:okR l[i]=true:=by unfold okR;rw[q3];rfl
     simp (disch:=try exact SX) only[RV,seval,g0,g3,ll,q2,w1,hr,q3]
     exact⟨hlt,l.length - (i+1),by omega,i+1,rfl,by omega,rfl,by rw[htk,hj,ok];rfl⟩
    | false =>
     cases q4:zEB l[i] with
     | true =>
      rw[q4] at his
      have ok:okR l[i]=true:=by unfold okR;rw[q3,q4];rfl
      simp (disch:=try exact SX) only[RV,seval,g0,g3,ll,q2,w1,hr,q3,cv,pc1_int,hw,his]
      exact⟨hlt,l.length - (i+1),by omega,i+1,rfl,by omega,rfl,by rw[htk,hj,ok];rfl⟩
     | false =>
      rw[q4] at his
      have ok:okR l[i]=false:=by unfold okR;rw[q3,q4];rfl
      rw[bad ok]
      simp (disch:=try exact SX) only[RV,seval,g0,g3,ll,q2,hr,q3,cv,pc1_int,hw,his,zAD]
   ·obtain rfl:i=l.length:=by omega
    have q2:decide ((l.length:Int)<l.length)=false:=DF
    rw[List.take_length] at hj
    rw[hj]
    simp (disch:=try exact SX) only[RV,seval,g0,g3,ll,zA6]
theorem zK0 {o:Op}{ra:AV}(hS:Sl 1 zA3 ra o.rs)(ho:o.ok)(hf:100<fuel)(M:Mem):zCN fuel (d+5) 60 [.agg (opR o ra)] M=some (BL o.may,M):=by
 have ll:=hS.len
 have hh:=fun M=>@zD0 fuel (d+2) o.hd M
 have hs:=fun M=>@zEJ fuel d o.sp M
 have hz:=fun M=>@zIG fuel (d+3) o.af M
 have ha:=fun M=>@zE2 fuel (d+1) o.af M
 have hto:=fun M=>@zDZ fuel (d+3) o.to M
 have hc:=fun M=>zE0 (fuel:=fuel) (d:=d+2) hS ho.2.2.2.2.2.2 hf M
 apply w3_eq
 refine call_gc tf60 rfl (by simp only[icyL,zC9 hS.fz]) (by simp [a60]) fun b' ht hx=>?_
 have h0:=hx 0 _ rfl
 clear hx
 simp only[a60,c60] at ht ⊢
 unfold Op.may
 have k0:=ho.1
 cases q3:o.hd.may <;> rw[q3] at hh
 ·simp (disch:=try exact SX) only[RV,seval,h0,hh,Bool.false_and,Bool.and_false]
 cases q4:decide (o.sr<1)
 rotate_left
 ·simp (disch:=try exact SX) only[RV,seval,h0,hh,q4,Bool.false_and,Bool.and_false]
 cases q5:decide (16777216≤o.sr)
 rotate_left
 ·simp (disch:=try exact SX) only[RV,seval,h0,hh,q4,q5,Bool.false_and,Bool.and_false]
 cases q6:o.sp.may <;> rw[q6] at hs
 ·simp (disch:=try exact SX) only[RV,seval,h0,hh,q4,q5,hs,Bool.false_and,Bool.and_false]
 simp only[Bool.not_false,Bool.and_true]
 by_cases k1:o.kd=1
 ·have e0:decide (o.kd=0)=false:=DF
  have e4:decide (4≤o.kd)=false:=DF
  have e1:decide (o.kd=1)=true:=decide_eq_true k1
  have ep:o.part=(decide (o.to=Lb.z)&&(decide (o.af=Eid.z) || o.af.may)&&decide (o.sp.f.hd=o.hd)&&decide ((o.rs.length:Int)=o.sp.n)&&decide (chkR o.rs=0)):=by unfold Op.part;rw[if_pos k1]
  rw[e0,e4,ep]
  simp only[Bool.not_false,Bool.true_and]
  cases b1:decide (o.to=Lb.z)
  ·simp (disch:=try exact SX) only[RV,seval,fillA,h0,hh,q4,q5,hs,↓pLbE,zA5,ETA,e1,b1,Bool.false_and]
  cases b2:decide (o.af=Eid.z) <;> rw[b2] at hz
  ·cases b3:o.af.may <;> rw[b3] at ha
   ·simp (disch:=try exact SX) only[RV,seval,fillA,h0,hh,q4,q5,hs,↓pLbE,zA5,ETA,e1,b1,hz,ha,Bool.false_and]
   ·cases b4:decide (o.sp.f.hd=o.hd)
    ·simp (disch:=try exact SX) only[RV,seval,fillA,h0,hh,q4,q5,hs,↓pHdE,zAC,↓pLbE,zA5,ETA,e1,b1,hz,ha,b4,Bool.false_and]
    ·cases b5:decide ((o.rs.length:Int)=o.sp.n)
     ·simp (disch:=try exact SX) only[RV,seval,fillA,h0,hh,q4,q5,hs,↓pHdE,zAC,↓pLbE,zA5,ETA,e1,b1,hz,ha,b4,ll,b5,Bool.false_and]
     ·simp (disch:=try exact SX) only[RV,seval,fillA,h0,hh,q4,q5,hs,↓pHdE,zAC,↓pLbE,zA5,ETA,e1,b1,hz,ha,b4,ll,b5,hc]
  ·cases b4:decide (o.sp.f.hd=o.hd)
   ·simp (disch:=try exact SX) only[RV,seval,fillA,h0,hh,q4,q5,hs,↓pHdE,zAC,↓pLbE,zA5,ETA,e1,b1,hz,b4,Bool.false_and]
   ·cases b5:decide ((o.rs.length:Int)=o.sp.n)
    ·simp (disch:=try exact SX) only[RV,seval,fillA,h0,hh,q4,q5,hs,↓pHdE,zAC,↓pLbE,zA5,ETA,e1,b1,hz,b4,ll,b5,Bool.false_and]
    ·simp (disch:=try exact SX) only[RV,seval,fillA,h0,hh,q4,q5,hs,↓pHdE,zAC,↓pLbE,zA5,ETA,e1,b1,hz,b4,ll,b5,hc]
 ·have e1:decide (o.kd=1)=false:=decide_eq_false k1
  cases b2:decide (o.af=Eid.z) <;> rw[b2] at hz
  ·have ep:o.part=false:=by
    unfold Op.part Op.bare
    rw[if_neg k1,b2]
    split <;> simp
   rw[ep,Bool.and_false]
   simp (disch:=try exact SX) only[RV,seval,fillA,h0,hh,q4,q5,hs,↓pLbE,zA5,ETA,e1,hz]
  ·by_cases b3:0<o.rs.length
   ·have b3':decide ((0:Int)<o.rs.length)=true:=DT
    have ep:o.part=false:=by
     unfold Op.part Op.bare
     rw[if_neg k1,decide_eq_false (show ¬((o.rs.length:Int)=0) by omega)]
     split <;> simp
    rw[ep,Bool.and_false]
    simp (disch:=try exact SX) only[RV,seval,fillA,h0,hh,q4,q5,hs,↓pLbE,zA5,ETA,e1,hz,ll,b3']
   ·have b3':decide ((0:Int)<o.rs.length)=false:=DF
    have eb:o.bare=true:=by
     unfold Op.bare
     rw[b2,decide_eq_true (show (o.rs.length:Int)=0 by omega)]
     rfl
    by_cases k2:o.kd=2
    ·have e2:decide (o.kd=2)=true:=decide_eq_true k2
     have e3:decide (o.kd=3)=false:=DF
     have ep:o.part=decide (o.to=Lb.z):=by unfold Op.part;rw[if_neg k1,if_pos k2,eb,Bool.and_true]
     rw[ep,decide_eq_false (show ¬(o.kd=0) by omega),decide_eq_false (show ¬(4≤o.kd) by omega)]
     simp only[Bool.not_false,Bool.true_and]
     cases b1:decide (o.to=Lb.z)
     all_goals simp (disch:=try exact SX) only[RV,seval,fillA,h0,hh,q4,q5,hs,↓pLbE,zA5,ETA,e1,hz,ll,b3',e2,e3,b1]
    ·have e2:decide (o.kd=2)=false:=decide_eq_false k2
     have ep:o.part=o.to.may:=by unfold Op.part;rw[if_neg k1,if_neg k2,eb,Bool.true_and]
     by_cases k3:o.kd=3
     ·have e3:decide (o.kd=3)=true:=decide_eq_true k3
      rw[ep,decide_eq_false (show ¬(o.kd=0) by omega),decide_eq_false (show ¬(4≤o.kd) by omega)]
      simp only[Bool.not_false,Bool.true_and]
      simp (disch:=try exact SX) only[RV,seval,fillA,h0,hh,q4,q5,hs,↓pLbE,zA5,ETA,e1,hz,ll,b3',e2,e3,hto]
     ·have e3:decide (o.kd=3)=false:=decide_eq_false k3
      have ek:(!decide (o.kd=0) && !decide (4≤o.kd))=false:=by
       by_cases h:o.kd=0
       ·rw[decide_eq_true h];rfl
       ·rw[decide_eq_true (show 4≤o.kd by omega)];simp
      rw[ek,Bool.false_and]
      simp (disch:=try exact SX) only[RV,seval,fillA,h0,hh,q4,q5,hs,↓pLbE,zA5,ETA,e1,hz,ll,b3',e2,e3]
theorem zIB {o:Rn}{ra:AV}(hS:Sl 1 zA3 ra o.rs)(ho:i32s o.rs)(hf:100<fuel)(M:Mem):zCN fuel (d+5) 93 [.agg (rnR o ra)] M=some (BL o.may,M):=by
 have ll:=hS.len
 have hs:=fun M=>@zEJ fuel d o.sp M
 have hz:=fun M=>@zGL fuel (d+3) o.af M
 have ha:=fun M=>@zE2 fuel (d+1) o.af M
 have hc:=fun M=>zE0 (fuel:=fuel) (d:=d+2) hS ho hf M
 apply w3_eq
 refine call_gc tf93 rfl (by simp only[icyL,zAP hS.fz]) (by simp [a93]) fun b' ht hx=>?_
 have h0:=hx 0 _ rfl
 clear hx
 simp only[a93,c93] at ht ⊢
 unfold Rn.may
 cases q6:o.sp.may <;> rw[q6] at hs
 ·simp (disch:=try exact SX) only[RV,seval,h0,hs,Bool.false_and]
 simp only[Bool.true_and]
 cases b5:decide ((o.rs.length:Int)=o.sp.n)
 ·simp (disch:=try exact SX) only[RV,seval,h0,hs,ll,b5,Bool.false_and,Bool.and_false]
 cases b6:decide (chkR o.rs=0)
 ·simp (disch:=try exact SX) only[RV,seval,h0,hs,ll,b5,hc,b6,Bool.and_false]
 simp only[Bool.and_true]
 cases b2:decide (o.af=Eid.z) <;> rw[b2] at hz
 ·cases b3:o.af.may <;> rw[b3] at ha
  ·simp (disch:=try exact SX) only[RV,seval,h0,hs,ll,b5,hc,b6,hz,ha,Bool.false_and]
  ·cases b4:decide (o.af.c<o.sp.f.c)
   all_goals simp (disch:=try exact SX) only[RV,seval,h0,hs,ll,b5,hc,b6,hz,ha,b4,Bool.and_false]
 ·simp (disch:=try exact SX) only[RV,seval,h0,hs,ll,b5,hc,b6,hz]
theorem zNT {o:Op}{ra:AV}{x:Nat}(hS:Sl 1 zA3 ra o.rs)(hk1:o.kd=1)(hf:100<fuel)(wf:Wf M)(hx1:M.get x=some (.row false [.fn 127 [] []]))(k:∀ N,Kept M N→Q (BL o.part) N) :
  W3 (zCN fuel (d+6) 129 [.agg (opR o ra),.ptr x 0] M) Q:=by
 have ll:=hS.len
 have lx:=Mem.get_lt hx1
 have hc:=fun M=>@zEQ fuel (d+2) o.af M
 have hr:=fun M=>zEK (fuel:=fuel) (d:=d) hS hf M
 have z4:decide ((4:Int)=0)=false:=rfl
 unfold Op.part at k
 rw[if_pos hk1] at k
 have kept:=fun cs=>(Kept.refl wf).add (.row false cs)
 have key:∀ b:Bool,((decide (o.af=Eid.z) || o.af.may)=b)→True:=fun _ _=>trivial
 refine call_0 tf129 rfl (by simp [a129]) fun b' ht hx=>?_
 obtain⟨h0,h1⟩:=hx2 hx
 clear hx
 simp only[a129,c129] at ht ⊢
 have tail:∀ b:Bool,(decide (o.af=Eid.z) || o.af.may)=b → ∀ t:List AV,t.length=b'.length→True:=fun _ _ _ _=>trivial
 clear tail key
 cases q:decide (o.af=Eid.z) <;> cases q':o.af.may <;> rw[q'] at hc <;> simp only[q,q',Bool.or_false,Bool.or_true,Bool.false_and,Bool.and_false,Bool.and_true] at k
 all_goals
  (simp (disch:=try exact SX) only[RV,seval,fillA,h0,h1,↓pIdE,zA0,ETA,q,hc,zA6,zAD,hx1])
  refine zHB hS (by simp (disch:=try exact SX) only[RV,wf]) fun N hN=>?_
  have hg:=hN.get M.size (by rw[add_size];omega)
  rw[get_add_new wf _ _ (Nat.le_refl _) (Nat.lt_succ_self _)] at hg
  have lg:=Mem.get_lt hg
  have kN:=((Kept.refl wf).add _).trans hN
  cases q1:decide (o.to=Lb.z) <;> (try simp only[q1,Bool.false_and,Bool.true_and] at k)
  all_goals (simp (disch:=try exact SX) only[RV,seval,hg,↓pHdE,zAC,ETA])
  all_goals first | exact k _ kN | skip
 all_goals
  cases q2:decide (o.sp.f.hd=o.hd) <;> (try simp only[q2,Bool.false_and,Bool.true_and] at k)
  all_goals (simp (disch:=try exact SX) only[RV,seval,hg])
  all_goals first | exact k _ kN | skip
 all_goals
  cases q3:decide ((o.rs.length:Int)=o.sp.n) <;> (try simp only[q3,Bool.false_and,Bool.true_and] at k)
  all_goals (simp (disch:=try exact SX) only[RV,seval,hg,ll,q3,hr])
  all_goals exact k _ kN
theorem zNS {o:Op}{ra:AV}{x y:Nat}(hS:Sl 1 zA3 ra o.rs)(wf:Wf M)(hx1:M.get x=some (.row false [.fn 127 [] []]))(hy1:M.get y=some (.row false [.fn 126 [] []]))(k:∀ N,Kept M N→Q (BL (decide (o.to=Lb.z)&&o.bare)) N) :
  W3 (zCN fuel (d+3) 131 [.agg (opR o ra),.ptr x 0,.ptr y 0] M) Q:=by
 have lx:=Mem.get_lt hx1
 have ly:=Mem.get_lt hy1
 refine call_0 tf131 rfl (by simp [a131]) fun b' ht hx=>?_
 obtain⟨h0,h1,h2⟩:=hx3 hx
 clear hx
 simp only[a131,c131] at ht ⊢
 simp (disch:=try exact SX) only[RV,seval,h0,h1,hx1]
 refine zHB hS (by simp (disch:=try exact SX) only[RV,wf]) fun N hN=>?_
 have hg:=hN.get M.size (by rw[add_size];omega)
 rw[get_add_new wf _ _ (Nat.le_refl _) (Nat.lt_succ_self _)] at hg
 have lg:=Mem.get_lt hg
 have gy:=(hN.get y (by rw[add_size];omega)).trans ((get_add wf _ _ ly).trans hy1)
 have lgy:=Mem.get_lt gy
 have kN:=((Kept.refl wf).add _).trans hN
 cases q1:decide (o.to=Lb.z) <;> simp only[q1,Bool.false_and,Bool.true_and] at k <;> simp (disch:=try exact SX) only[RV,seval,h2,hg,gy]
 ·exact k _ kN
 ·refine zM0 hS hN.wf fun N' hN'=>?_
  simp (disch:=try exact SX) only[RV,seval]
  exact k _ (kN.trans hN')
theorem zLQ {o:Op}{ra:AV}{y:Nat}(hS:Sl 1 zA3 ra o.rs)(wf:Wf M)(hy1:M.get y=some (.row false [.fn 126 [] []]))(k:∀ N,Kept M N→Q (BL (o.bare&&o.to.may)) N) :
  W3 (zCN fuel (d+2) 133 [.agg (opR o ra),.ptr y 0] M) Q:=by
 have ly:=Mem.get_lt hy1
 have hl:=fun M=>@zC3 fuel d o.to M
 refine call_0 tf133 rfl (by simp [a133]) fun b' ht hx=>?_
 obtain⟨h0,h1⟩:=hx2 hx
 clear hx
 simp only[a133,c133] at ht ⊢
 simp (disch:=try exact SX) only[RV,seval,h0,h1,hy1]
 refine zM0 hS (by simp (disch:=try exact SX) only[RV,wf]) fun N hN=>?_
 have hg:=hN.get M.size (by rw[add_size];omega)
 rw[get_add_new wf _ _ (Nat.le_refl _) (Nat.lt_succ_self _)] at hg
 have lg:=Mem.get_lt hg
 have kN:=((Kept.refl wf).add _).trans hN
 cases q1:o.bare <;> simp only[q1,Bool.false_and,Bool.true_and] at k
 ·exact zB0M
 ·cases q2:o.to.may <;> rw[q2] at hl k <;> simp (disch:=try exact SX) only[RV,seval,hg,hl,zA6,zAD] <;> exact k _ kN
theorem zN3 (wf:Wf M)(hw:M.wm≤M.size)(k:∀ N x y,Kept M N→N.get x=some (.row false [.fn 127 [] []])→N.get y=some (.row false [.fn 126 [] []])→M.size≤x→M.size≤y→Q (.agg [.sc .nilFunc,.sc .nilFunc,.fn 129 [] [.ptr x 0],.fn 130 [] [],.fn 131 [] [.ptr x 0,.ptr y 0],.fn 132 [] [],.fn 133 [] [.ptr y 0],.fn 134 [] []]) N) :
  W3 (zCN fuel (d+1) 98 [] M) Q:=by
 have onf:oneA (.sc .nilFunc)=true:=rfl
 have sn:scs Value.nilFunc=[.sc .nilFunc]:=rfl
 refine call_0 tf98 rfl (by simp [a98]) fun b' ht hx=>?_
 clear hx
 simp only[a98,c98] at ht ⊢
 simp (disch:=try exact SX) only[RV,seval,fillA,sn]
 refine k _ (M.size+1+1) (M.size+1) ((((((Kept.refl wf).add _).add _).upd hw (by omega) _).add _).upd hw (by omega) _ |>.upd hw (by omega) _) ?_ ?_ (by omega) (by omega)
 ·exact zB04
 ·exact zB04
theorem zBM {o:Op}{ra:AV}(hS:Sl 1 zA3 ra o.rs)(ho:o.ok)(hf:100<fuel)(M:Mem):zCN fuel (d+7) 65 [.agg (opR o ra)] M=some (I64 (err o.may),M):=by
 have hh:=fun M=>@zCA fuel (d+4) o.hd M
 have hs:=fun M=>@zCL fuel (d+2) o.sp M
 apply w3_eq
 refine call_gc tf65 rfl (by simp only[icyL,zC9 hS.fz]) (by simp [a65]) fun b' ht hx=>?_
 have h0:=hx 0 _ rfl
 clear hx
 simp only[a65,c65] at ht ⊢
 unfold Op.may
 cases q1:decide (o.kd=0)
 ·cases q2:decide (4≤o.kd)
  ·cases q3:o.hd.may <;> rw[q3] at hh
   ·simp (disch:=try exact SX) only[RV,seval,h0,q1,q2,hh,zAD,Bool.false_and,Bool.and_false,sc_ex]
   ·cases q4:decide (o.sr<1)
    ·cases q5:decide (16777216≤o.sr)
     ·cases q6:o.sp.may <;> rw[q6] at hs
      ·simp (disch:=try exact SX) only[RV,seval,h0,q1,q2,q4,q5,hh,hs,zA6,zAD,Bool.false_and,Bool.and_false,sc_ex]
      ·simp (disch:=try exact SX) only[RV,seval,h0,q1,q2,q4,q5,hh,hs,zA6]
       refine zN3 (by simp (disch:=try exact SX) only[RV]) (by simp only[lo_size];exact Nat.le_refl _) fun N x y hN gx gy lx ly=>?_
       have hd:N.dirty=false:=hN.di
       have hsz:1≤N.size:=hN.le
       have g0:N.get 0=some (.row false (opR o ra)):=hN.get 0 (by show 0<1;omega)
       have wN:=hN.wf
       have hk:o.kd=1∨o.kd=2∨o.kd=3:=by
        have:=ho.1
        simp only[decide_eq_false_iff_not] at q1 q2
        omega
       rcases hk with hk | hk | hk
       ·have n1:natOf (U8 o.kd)=some 1:=by rw[hk];rfl
        have ep:o.part=o.part:=rfl
        rw[ep]
        simp (disch:=try exact SX) only[RV,seval,hd,g0,n1,x_idx,idx_agg]
        refine⟨rfl,rfl,rfl, ?_⟩
        refine zNT hS hk hf (by simp (disch:=try exact SX) only[RV];exact wN) (by simp (disch:=try exact SX) only[RV,gx])  fun N' hN'=>?_
        have hd':N'.dirty=false:=hN'.di
        cases qp:o.part <;> simp (disch:=try exact SX) only[RV,seval,hd',zA6,zAD,sc_ex]
       ·have n1:natOf (U8 o.kd)=some 2:=by rw[hk];rfl
        have ep:o.part=(decide (o.to=Lb.z)&&o.bare):=by unfold Op.part;rw[if_neg (by omega),if_pos hk]
        rw[ep]
        simp (disch:=try exact SX) only[RV,seval,hd,g0,n1,x_idx,idx_agg]
        refine⟨rfl,rfl,rfl, ?_⟩
        refine zNS hS (by simp (disch:=try exact SX) only[RV];exact wN) (by simp (disch:=try exact SX) only[RV,gx]) (by simp (disch:=try exact SX) only[RV,gy])  fun N' hN'=>?_
        have hd':N'.dirty=false:=hN'.di
        cases qp:(decide (o.to=Lb.z)&&o.bare) <;> simp (disch:=try exact SX) only[RV,seval,hd',zA6,zAD,sc_ex]
       ·have n1:natOf (U8 o.kd)=some 3:=by rw[hk];rfl
        have ep:o.part=(o.bare&&o.to.may):=by unfold Op.part;rw[if_neg (by omega),if_neg (by omega)]
        rw[ep]
        simp (disch:=try exact SX) only[RV,seval,hd,g0,n1,x_idx,idx_agg]
        refine⟨rfl,rfl,rfl, ?_⟩
        refine zLQ hS (by simp (disch:=try exact SX) only[RV];exact wN) (by simp (disch:=try exact SX) only[RV,gy])  fun N' hN'=>?_
        have hd':N'.dirty=false:=hN'.di
        cases qp:(o.bare&&o.to.may) <;> simp (disch:=try exact SX) only[RV,seval,hd',zA6,zAD,sc_ex]
     ·simp (disch:=try exact SX) only[RV,seval,h0,q1,q2,q4,q5,hh,zA6,zAD,Bool.false_and,Bool.and_false,sc_ex]
    ·simp (disch:=try exact SX) only[RV,seval,h0,q1,q2,q4,hh,zA6,zAD,Bool.false_and,Bool.and_false,sc_ex]
  ·simp (disch:=try exact SX) only[RV,seval,h0,q1,q2,zAD,Bool.false_and,Bool.and_false,sc_ex]
 ·simp (disch:=try exact SX) only[RV,seval,h0,q1,zAD,Bool.false_and,sc_ex]
theorem zAM {o:Rn}{ra:AV}(hS:Sl 1 zA3 ra o.rs)(hf:100<fuel)(M:Mem):zCN fuel (d+6) 66 [.agg (rnR o ra)] M=some (I64 (err o.may),M):=by
 have ll:=hS.len
 have hc:=fun M=>@zEQ fuel (d+2) o.af M
 have hs:=fun M=>@zCL fuel (d+1) o.sp M
 have hr:=fun M=>zEK (fuel:=fuel) (d:=d) hS hf M
 apply w3_eq
 refine call_gc tf66 rfl (by simp only[icyL,zAP hS.fz]) (by simp [a66]) fun b' ht hx=>?_
 have h0:=hx 0 _ rfl
 clear hx
 simp only[a66,c66] at ht ⊢
 unfold Rn.may
 cases q0:o.sp.may <;> rw[q0] at hs <;> simp only[Bool.false_and,Bool.true_and]
 all_goals
  cases q1:decide (o.af=Eid.z)
  ·cases q2:o.af.may <;> rw[q2] at hc
   ·simp (disch:=try exact SX) only[RV,seval,fillA,h0,↓pIdE,zA0,ETA,q1,hc,hs,zA6,zAD,Bool.false_and]
   ·cases q3:decide (o.af.c<o.sp.f.c)
    ·simp (disch:=try exact SX) only[RV,seval,fillA,h0,↓pIdE,zA0,ETA,q1,hc,hs,q3,zA6,zAD,Bool.false_and]
    ·cases q4:decide ((o.rs.length:Int)=o.sp.n)
     ·simp (disch:=try exact SX) only[RV,seval,fillA,h0,↓pIdE,zA0,ETA,q1,hc,hs,q3,q4,ll,zA6,zAD,Bool.false_and]
     ·cases q5:decide (chkR o.rs=0)
      ·exact zB0P
      ·exact zB0P
  ·cases q4:decide ((o.rs.length:Int)=o.sp.n)
   ·simp (disch:=try exact SX) only[RV,seval,fillA,h0,↓pIdE,zA0,ETA,q1,hs,q4,ll,zA6,zAD,Bool.false_and]
   ·cases q5:decide (chkR o.rs=0)
    ·exact zB0U
    ·exact zB0U
def Op.rn (o:Op):Rn:=⟨o.sp,o.af,o.rs⟩
def rnZ:AV:=.agg (rnR ⟨⟨Eid.z,0⟩,Eid.z,[]⟩ NIL)
def rofE (o:Op):Int:=if o.may=true then (if o.kd=1∧o.rn.may=true then 0 else 2) else 8
def rofK (o:Op)(r:AV):Prop:=if rofE o=0 then ∃ ra,r = .tup [.agg (rnR o.rn ra),I64 0]∧Sl 1 zA3 ra o.rs else r = .tup [rnZ,I64 (rofE o)]
theorem zMO {l:List Int}(h:chkR l=0):l.length≤64:=by
 unfold chkR at h
 by_cases hc:64<l.length
 ·rw[if_pos hc] at h
  cases h
 ·omega
theorem may_len {o:Op}(h:o.may=true):o.rs.length≤64:=by
 unfold Op.may Op.part Op.bare at h
 simp only[Bool.and_eq_true] at h
 have h:=h.2
 split at h
 ·simp only[Bool.and_eq_true,decide_eq_true_eq] at h
  exact zMO h.2
 ·split at h <;> simp only[Bool.and_eq_true,decide_eq_true_eq] at h <;> omega
theorem zG0 {o:Op}{ra:AV}(hS:Sl 1 zA3 ra o.rs)(ho:o.ok)(hf:100<fuel):∃ r,rofK o r ∧ ∀ M,zCN fuel (d+8) 42 [.agg (opR o ra)] M=some (r,M):=by
 have hc:=fun M=>@zBM fuel d o ra hS ho hf M
 refine gc_ex tf42 rfl (fun M=>by simp only[icyL,zC9 hS.fz]) ?_
 refine call_gc tf42 rfl (by simp only[icyL,zC9 hS.fz]) (by simp [a42]) fun b' ht hx=>?_
 have h0:=hx 0 _ rfl
 clear hx
 simp only[a42,c42] at ht ⊢
 unfold rofK rofE
 cases q1:o.may with
 | false =>
  rw[q1] at hc
  simp (disch:=try exact SX) only[RV,seval,fillA,h0,hc,zAD,Bool.false_eq_true,if_false]
  exact⟨_,rfl,rfl⟩
 | true =>
  rw[q1] at hc
  have hl:=may_len q1
  simp (disch:=try exact SX) only[RV,seval,h0,hc,zA6,if_true]
  refine zF5 hS (by omega) (by simp (disch:=try exact SX) only[RV]) fun a' M' wf' le' kp' sm' new' wm' di'=>?_
  have hd:M'.dirty=false:=di'
  have hsz:2≤M'.size:=le'
  have g0:M'.get 0=some (.row false (opR o ra)):=by rw[kp' 0 (by show 0<2;omega)];simp (disch:=try exact SX) only[RV]
  have g1:M'.get 1=some (.row false (rnR ⟨⟨Eid.z,0⟩,Eid.z,[]⟩ NIL)):=by rw[kp' 1 (by show 1<2;omega)];simp (disch:=try exact SX) only[RV]
  have oa:=sm'.one
  have ca:=sm'.cells
  have rl:∀ j,rowOf a'=some j→2≤j:=new'
  have hz:∀ y∈spR o.sp++idR o.af,Fz y:=fun y hy=>(List.mem_append.1 hy).elim (zDN o.sp y) (zAQ o.af y)
  have rr:=fun a2 b2 M=>@zAM fuel (d+1) o.rn a2 b2 hf M
  simp (disch:=try exact SX) only[RV,seval,fillA,hd,g0,ca]
  refine⟨rfl, ?_⟩
  cases q2:decide (o.kd=1) with
  | false =>
   have q2':=of_decide_eq_false q2
   simp (disch:=try exact SX) only[RV,seval,fillA,g1]
   rw[if_neg (fun h=>q2' h.1)]
   simp only[show ((2:Int)=0)=False by decide,if_false]
   exact⟨_,rfl,rfl⟩
  | true =>
   have q2':=of_decide_eq_true q2
   simp (disch:=try exact SX) only[RV,seval]
   refine w3_handrow (spR o.sp++idR o.af) a' (n:=d+6) tf66 rfl hz (sm'.keep fun j hj=>?_) (by simp (disch:=try exact SX) only[RV,wf']) zCP (fun a2 b2 M=>rr a2 b2 M) fun a2 N2 b2 w2 s2 k2 r2 f2=>?_
   ·have:=sm'.lt j hj
    exact zB04
   have z1:N2.get 1=some (.row false (rnR ⟨⟨Eid.z,0⟩,Eid.z,[]⟩ NIL)):=by
    rw[k2 1 (fun e=>by have:=rl 1 e;omega)]
    simp (disch:=try exact SX) only[RV,g1]
   have z5:N2.get M'.size=some (.row false (rnR o.rn a')):=by
    rw[k2 _ (fun e=>by have:=sm'.lt _ e;omega)]
    simp (disch:=try exact SX) only[RV]
    rfl
   have hs2:M'.size<N2.size:=by rw[s2];simp (disch:=try exact SX) only[RV];omega
   have e2:=f2 (N2.upd 1 (.row false (rnR o.rn a'))) 11 (by omega) (fun j hj=>get_upd_ne w2 _ _ _ (fun e=>by have:=rl j hj;omega))
   cases q3:o.rn.may with
   | false =>
    simp (disch:=try exact SX) only[RV,seval,fillA,z1,zAD,Bool.false_eq_true,and_false,if_false]
    exact⟨_,rfl,rfl⟩
   | true =>
    simp (disch:=try exact SX) only[RV,seval,z1,z5,zA6,q2',if_true,e2]
    exact⟨_,⟨a2,rfl,b2⟩,rfl⟩
theorem zLH {o:Op}{ra:AV}(hS:Sl 1 zA3 ra o.rs)(hl:o.rs.length≤1000000000)(wf:Wf M)(hw:M.wm≤M.size)(k:∀ a' N,Kept M N→SlM N 1 zA3 a' o.rs→(∀ id,rowOf a'=some id→M.size≤id)→Q (.agg (opR o a')) N) :
  W3 (zCN fuel (d+2) 41 [.agg (opR o ra)] M) Q:=by
 refine call_0 tf41 rfl (by simp [a41]) fun b' ht hx=>?_
 have h0:=hx 0 _ rfl
 clear hx
 simp only[a41,c41] at ht ⊢
 simp (disch:=try exact SX) only[RV,seval,h0]
 refine zF5 hS hl (by simp (disch:=try exact SX) only[RV,wf]) fun a' M' wf' le' kp' sm' new' wm' di'=>?_
 simp only[add_size] at le' kp' new'
 have g0:M'.get M.size=some (.row false (opR o ra)):=by rw[kp' _ (by omega)];simp (disch:=try exact SX) only[RV]
 have g1:M'.get (M.size+1)=some (.row false (opR ⟨0,Hd.z,0,⟨Eid.z,0⟩,Eid.z,Lb.z,[]⟩ NIL)):=by rw[kp' _ (by omega)];simp (disch:=try exact SX) only[RV]
 have oa:=sm'.one
 have ca:=sm'.cells
 have z0:M.size<M'.size:=by omega
 have z1:M.size+1<M'.size:=by omega
 simp (disch:=try exact SX) only[RV,seval,g0,g1,ca]
 have kM':Kept M M':=⟨wf',by omega,fun j hj=>by rw[kp' j (by omega),get_add (wf.add _) _ _ (by rw[add_size];omega),get_add wf _ _ hj],wm',di'⟩
 refine k a' _ ((kM'.upd hw (Nat.le_refl _) _).upd hw (by omega) _) (sm'.keep fun j hj=>?_) (fun id h=>by have:=new' id h;omega)
 have:=new' j hj
 exact zB04
def Spn.ids (s:Spn):List Eid:=(List.range s.n.toNat).map fun (i:Nat)=>s.at i
theorem zFJ {s:Spn}(hs:s.ok)(hm:s.may=true)(i:Nat)(hi:i<s.n.toNat):(s.at i).ok:=by
 have:=Spn.may_le hm
 exact⟨hs.1.1,by show -9223372036854775808≤s.f.c+i;omega,by show s.f.c+i≤_;omega⟩
theorem zDW {s:Spn}(hs:s.ok)(hm:s.may=true)(hf:100<fuel):∃ r,Sl 4 zBW r s.ids ∧ ∀ M,zCN fuel (d+6) 97 [spA s] M=some (r,M):=by
 have hb:=Spn.may_le hm
 obtain⟨m,hmn⟩:∃ m:Nat,s.n=m:=⟨s.n.toNat,by omega⟩
 have ei:s.ids=(List.range m).map fun (i:Nat)=>s.at i:=by unfold Spn.ids;rw[hmn];rfl
 have hat:=fun n M=>@zDR fuel d s n M
 simp only[hm,if_true] at hat
 rw[ei]
 refine gc_ex tf97 rfl (fun M=>by simp only[icyL,fz_icyA (zDN s) (show 1<12 by omega)]) ?_
 refine call_gc tf97 rfl (by simp only[icyL,fz_icyA (zDN s) (show 1<12 by omega)]) (by simp [a97]) fun b' ht hx=>?_
 have h0:=hx 0 _ rfl
 clear hx
 simp only[a97,c97] at ht ⊢
 simp (disch:=try exact SX) only[RV,seval,h0,hmn]
 refine w_loop (I:=fun n t N => ∃ (i:Nat) (o:AV),n=m - i∧i≤m∧nth undefA t 1 = .ptr 0 0∧nth undefA t 2=o∧nth undefA t 7=I64 m∧nth undefA t 8=I64 i∧Wf N∧N.get 0=some (.row false (spR s))∧SlM N 4 zBW o ((List.range i).map fun (j:Nat)=>s.at j)∧(∀ j,rowOf o=some j→0<j)) (n:=m) (by omega) ?_ ?_
 ·refine⟨0,NIL,rfl,Nat.zero_le _, ?_, ?_, ?_, ?_,Wf.mem0.add _,by simp (disch:=try exact SX) only[RV],SlM.nil,(fun _ h=>by cases h)⟩ <;> simp (disch:=try exact SX) only[RV,seval]
  all_goals first | rfl | assumption | done
 ·rintro n t N hlt ⟨i,o,rfl,hi,g1,g2,g7,g8,w,g,sm,ro⟩
  simp only[ht] at hlt ⊢
  by_cases hc:i<m
  ·have q1:decide ((i:Int)<m)=true:=DT
   have hi':¬((i:Int)<0∨s.n≤i):=by omega
   have hat:=fun M=>hat i M
   simp only[hi',if_false] at hat
   have ok:=zFJ hs hm i (by omega)
   have lN:=Mem.get_lt g
   have w1:IntKind.i64.wrap ((i:Int)+1)=((i+1:Nat):Int):=WI
   simp (disch:=try exact SX) only[RV,seval,fillA,g1,g2,g7,g8,q1,g,hat]
   refine⟨rows_lt sm.rl (by omega), ?_⟩
   refine app1 ((w.add _).upd _ _) (sm.keep fun j hj=>?_) zCO (x:=s.at i) ⟨rfl,ok⟩ rfl (by omega) (by simp;omega) (by simp;omega) fun o' M' m' w' le' kp' nw' wm' rl' on' oc'=>?_
   ·have:=sm.lt j hj
    exact zB04
   simp only[upd_size,add_size] at le' kp' nw'
   simp (disch:=try exact SX) only[RV,seval,g1,g2,g7,g8,w1]
   refine⟨hlt,m - (i+1),by omega,i+1,o',rfl,by omega,rfl,rfl,w', ?_, ?_,fun j hj=>?_⟩
   ·rw[kp' 0 (by omega) (fun e=>by have:=ro 0 e;omega)]
    simp (disch:=try exact SX) only[RV,g]
   ·rw[List.range_succ,List.map_append];exact m'
   ·exact zB0t
  ·obtain rfl:i=m:=by omega
   obtain⟨rr,hz,hr⟩:=sm.frz zCO.cel (k:=12) (by omega)
   simp (disch:=try exact SX) only[RV,seval,g2,g7,g8,hz]
   exact⟨rr,hr,rfl⟩
structure El where
 id:Eid
 af:Eid
 ch:Int
 deriving DecidableEq
theorem zE1 {s:Spn}(hs:s.ok)(hm:s.may=true)(hf:100<fuel):∃ r,Sl 4 zBW r s.ids ∧ ∀ M,zCN fuel (d+1) 86 [spA s] M=some (r,M):=by
 have hb:=Spn.may_le hm
 obtain⟨m,hmn⟩:∃ m:Nat,s.n=m:=⟨s.n.toNat,by omega⟩
 have ei:s.ids=(List.range m).map fun (i:Nat)=>s.at i:=by unfold Spn.ids;rw[hmn];rfl
 rw[ei]
 refine gc_ex tf86 rfl (fun M=>by simp only[icyL,fz_icyA (zDN s) (show 1<12 by omega)]) ?_
 refine call_gc tf86 rfl (by simp only[icyL,fz_icyA (zDN s) (show 1<12 by omega)]) (by simp [a86]) fun b' ht hx=>?_
 have h0:=hx 0 _ rfl
 clear hx
 simp only[a86,c86] at ht ⊢
 simp (maxSteps:=2000000) (disch:=try exact SX) only[RV,h0]
 refine w_loop (I:=fun n t N => ∃ (i:Nat) (o:AV),n=m - i∧i≤m∧nth undefA t 1 = .ptr 0 0∧nth undefA t 3=o∧nth undefA t 4=I64 i∧Wf N∧N.get 0=some (.row false (spR s))∧SlM N 4 zBW o ((List.range i).map fun (j:Nat)=>s.at j)∧(∀ j,rowOf o=some j→0<j)) (n:=m) (by omega) ?_ ?_
 ·refine⟨0,NIL,rfl,Nat.zero_le _, ?_, ?_, ?_,Wf.mem0.add _,by simp (maxSteps:=2000000) (disch:=try exact SX) only[RV],SlM.nil,(fun _ h=>by cases h)⟩ <;> simp (maxSteps:=2000000) (disch:=try exact SX) only[RV,reduceIte,Nat.reduceEqDiff]
  all_goals first | rfl | assumption | done
 ·rintro n t N hlt ⟨i,o,rfl,hi,g1,g3,g4,w,g,sm,ro⟩
  simp only[ht] at hlt ⊢
  have lN:=Mem.get_lt g
  by_cases hc:i<m
  ·have q1:decide ((i:Int)<s.n)=true:=DT
   have ok:=zFJ hs hm i (by omega)
   have w1:IntKind.i64.wrap ((i:Int)+1)=((i+1:Nat):Int):=WI
   have w2:IntKind.i64.wrap (s.f.c+i)=s.f.c+i:=wrap_i64 (by omega) (by omega)
   simp (maxSteps:=2000000) (disch:=try exact SX) only[RV,fillA,reduceIte,Nat.reduceEqDiff,Nat.reduceBEq,Nat.reduceAdd,g1,g3,g4,q1,g,w2]
   refine⟨rows_lt sm.rl (by omega), ?_⟩
   refine app1 (bytes:=24) w sm zCO (x:=s.at i) ⟨rfl,ok⟩ rfl (by omega) (by simp;omega) (by simp;omega) fun o' M' m' w' le' kp' nw' wm' rl' on' oc'=>?_
   simp (maxSteps:=2000000) (disch:=try exact SX) only[RV,reduceIte,Nat.reduceEqDiff,g1,g3,g4,w',w1]
   refine⟨hlt,m - (i+1),by omega,i+1,o',rfl,by omega,rfl,rfl, ?_,by rw[List.range_succ,List.map_append];exact m',fun j hj=>?_⟩
   ·rw[kp' 0 lN (fun h=>by have:=ro 0 h;omega)];exact g
   ·exact zB0t
  ·obtain rfl:i=m:=by omega
   have q1:decide ((i:Int)<s.n)=false:=DF
   obtain⟨r,hz,hsr⟩:=sm.frz zCO.cel (k:=12) (by omega)
   simp (maxSteps:=2000000) (disch:=try exact SX) only[RV,reduceIte,Nat.reduceEqDiff,g1,g3,g4,q1,g,hz]
   exact⟨r,hsr,rfl⟩
theorem Rn.spB {r:Rn}(h:r.may=true):r.sp.may=true:=by
 unfold Rn.may at h
 simp only[Bool.and_eq_true] at h
 exact h.1.1.1
theorem Rn.may_iffB {r:Rn}(h:r.may=true):(r.rs.length:Int)=r.sp.n∧r.rs.length≤64:=by
 unfold Rn.may at h
 simp only[Bool.and_eq_true,decide_eq_true_eq] at h
 have hb:=Spn.may_le h.1.1.1
 have:=h.1.2
 omega
def Rn.bh (r:Rn)(n:Int):Eid:=if 0<n then r.sp.at (n - 1) else r.af
def Rn.elB (r:Rn):List El:=(List.range r.sp.n.toNat).map fun (i:Nat)=>⟨r.sp.at i,r.bh i,r.rs.getD i 0⟩
def elsB (l:List Rn):List El:=l.flatMap Rn.elB
abbrev elR9 (x:El):List AV:=[U8 x.id.hd.lb.lv,U32 x.id.hd.lb.cats,U8 x.id.hd.num,I64 x.id.c,U8 x.af.hd.lb.lv,U32 x.af.hd.lb.cats,U8 x.af.hd.num,I64 x.af.c,I32 x.ch]
def isEl (r:List AV)(x:El):Prop:=r=elR9 x∧x.id.ok∧x.af.ok
theorem zGB (x:El):∀ y∈elR9 x,Fz y:=fun y hy=>by
 simp only[elR9,List.mem_cons,List.not_mem_nil,or_false] at hy
 rcases hy with rfl | rfl | rfl | rfl | rfl | rfl | rfl | rfl | rfl <;> exact fz_sc_int _ _
theorem zFH:FzT isEl:=fun r x h=>by rw[h.1];exact zGB x
theorem zFU {o:Rn}{ra:AV}(hS:Sl 1 zA3 ra o.rs)(n:Int)(M:Mem):zCN fuel (d+1) 116 [.agg (rnR o ra),I64 n] M=some (idA ⟨o.sp.f.hd,IntKind.i64.wrap (o.sp.f.c+n)⟩,M):=by
 apply w3_eq
 refine call_gc tf116 rfl (by simp only[icyL,zAP hS.fz,icy12]) (by simp [a116]) fun b' ht hx=>?_
 obtain⟨h0,h1⟩:=hx2 hx
 clear hx
 simp only[a116,c116] at ht ⊢
 simp (maxSteps:=2000000) (disch:=try exact SX) only[RV,fillA,reduceIte,Nat.reduceEqDiff,Nat.reduceBEq,Nat.reduceAdd,Nat.reduceSub,h0,h1]
theorem zJV {o:Rn}{ra:AV}(hS:Sl 1 zA3 ra o.rs)(hm:o.may=true)(n:Nat)(hn:n<64)(M:Mem):zCN fuel (d+2) 117 [.agg (rnR o ra),I64 n] M=some (idA (o.bh n),M):=by
 have hb:=Spn.may_le (Rn.spB hm)
 have hi:=fun n M=>zFU (fuel:=fuel) (d:=d) hS n M
 apply w3_eq
 refine call_gc tf117 rfl (by simp only[icyL,zAP hS.fz,icy12]) (by simp [a117]) fun b' ht hx=>?_
 obtain⟨h0,h1⟩:=hx2 hx
 clear hx
 simp only[a117,c117] at ht ⊢
 unfold Rn.bh
 by_cases q:n=0
 ·subst q
  have q1:decide (((0:Nat):Int)=0)=true:=rfl
  simp (maxSteps:=2000000) (disch:=try exact SX) only[RV,reduceIte,Nat.reduceEqDiff,Nat.reduceAdd,Nat.reduceSub,h0,h1,q1]
  rfl
 ·have q1:decide ((n:Int)=0)=false:=DF
  have q2:(0:Int)<n:=by omega
  have w1:IntKind.i64.wrap ((n:Int) - 1)=(n:Int) - 1:=wrap_i64 (by omega) (by omega)
  have w2:IntKind.i64.wrap (o.sp.f.c+((n:Int) - 1))=o.sp.f.c+((n:Int) - 1):=wrap_i64 (by omega) (by omega)
  simp (maxSteps:=2000000) (disch:=try exact SX) only[RV,reduceIte,Nat.reduceEqDiff,Nat.reduceAdd,Nat.reduceSub,h0,h1,q1,w1,hi,w2]
  rw[if_pos q2]
  rfl
theorem zCC (r:Rn):r.elB.length=r.sp.n.toNat:=by simp [Rn.elB]
theorem zKQ (r:Rn)(i:Nat)(h:i<r.sp.n.toNat):r.elB.take (i+1)=r.elB.take i++[⟨r.sp.at i,r.bh i,r.rs.getD i 0⟩]:=by
 rw[List.take_add_one,List.getElem?_eq_getElem (by rw[zCC];exact h)]
 simp [Rn.elB]
theorem zIZ (l:List Rn)(i:Nat)(h:i<l.length):elsB (l.take (i+1))=elsB (l.take i)++l[i].elB:=by
 have e:l.take (i+1)=l.take i++[l[i]]:=by rw[List.take_add_one,List.getElem?_eq_getElem h];rfl
 rw[e]
 unfold elsB
 rw[List.flatMap_append]
 simp
theorem zKS {l:List Rn}(h:∀ r∈l,r.may=true):(elsB l).length≤64*l.length:=by
 induction l with
 | nil=>simp [elsB]
 | cons r l ih =>
  have hb:=Spn.may_le (Rn.spB (h r List.mem_cons_self))
  have:=ih fun x hx=>h x (List.mem_cons_of_mem _ hx)
  have e:elsB (r::l)=r.elB++elsB l:=by simp [elsB]
  rw[e,List.length_append,zCC,List.length_cons]
  omega
theorem zIC {a:AV}{l:List Rn}(hS:Sl 10 isRn a l)(hm:∀ r∈l,r.may=true)(hl:l.length≤10000)(hf:l.length+200<fuel):∃ r,Sl 9 isEl r (elsB l) ∧ ∀ M,zCN fuel (d+3) 84 [a] M=some (r,M):=by
 have ll:=hS.len
 refine gc_ex tf84 rfl (fun M=>by simp only[icyL,fun M=>hS.icy M 12 (by omega)]) ?_
 refine call_gc tf84 rfl (by simp only[icyL,fun M=>hS.icy M 12 (by omega)]) (by simp [a84]) fun b' ht hx=>?_
 have h0:=hx 0 _ rfl
 clear hx
 simp only[a84,c84] at ht ⊢
 simp (maxSteps:=2000000) (disch:=try exact SX) only[RV]
 refine w_loop (I:=fun nq tq Nq => ∃ (iq:Nat) (o:AV),nq=l.length - iq∧iq≤l.length∧nth undefA tq 0=a∧nth undefA tq 3=o∧nth undefA tq 4=I64 iq∧Wf Nq∧SlM Nq 9 isEl o (elsB (l.take iq))) (n:=l.length) (by omega) ?_ ?_
 ·refine⟨0,NIL,rfl,Nat.zero_le _, ?_, ?_, ?_,Wf.mem0,SlM.nil⟩ <;> simp (maxSteps:=2000000) (disch:=try exact SX) only[RV,reduceIte,Nat.reduceEqDiff,h0]
  all_goals first | rfl | assumption | done
 ·rintro nq tq Nq hltq ⟨iq,o,rfl,hiq,gq0,gq3,gq4,wq,sq⟩
  simp only[ht] at hltq ⊢
  by_cases hc:iq<l.length
  ·have c1:decide ((iq:Int)<l.length)=true:=DT
   have w1:IntKind.i64.wrap ((iq:Int)+1)=((iq+1:Nat):Int):=WI
   obtain⟨rr,hiad,hri,_⟩:=hS.iad iq hc
   have hmr:=hm l[iq] (List.getElem_mem hc)
   have hsn:=zIZ l iq hc
   have htl:=zKS (l:=l.take iq) fun r hr=>hm r (List.mem_of_mem_take hr)
   have htk:(l.take iq).length≤10000:=by rw[List.length_take];omega
   generalize l[iq]=x at *
   obtain⟨ra,rfl,hra,hok⟩:=hri
   have hb:=Spn.may_le (Rn.spB hmr)
   have hlen:=(Rn.may_iffB hmr).1
   obtain⟨m,hmn⟩:∃ m:Nat,x.sp.n=m:=⟨x.sp.n.toNat,by omega⟩
   have hid:=fun n M=>zFU (fuel:=fuel) (d:=d+1) hra n M
   have hbh:=fun n hn M=>zJV (fuel:=fuel) (d:=d) hra hmr n hn M
   generalize elsB (l.take iq)=E at *
   simp (maxSteps:=2000000) (disch:=try exact SX) only[RV,reduceIte,Nat.reduceEqDiff,gq0,gq4,ll,c1]
   refine w_loop (I:=fun nk tk Nk => ∃ (ik:Nat) (o2:AV),nk=m - ik∧ik≤m∧nth undefA tk 0=a∧nth undefA tk 3=o2∧nth undefA tk 4=I64 iq∧nth undefA tk 5=I64 ik∧Wf Nk∧SlM Nk 9 isEl o2 (E++x.elB.take ik)) (n:=m) (by omega) ?_ ?_
   ·refine⟨0,o,rfl,Nat.zero_le _, ?_, ?_, ?_, ?_,wq,(by simpa using sq)⟩ <;> simp (maxSteps:=2000000) (disch:=try exact SX) only[RV,reduceIte,Nat.reduceEqDiff,gq0,gq3,gq4]
    all_goals first | rfl | assumption | done
   ·rintro nk tk Nk hltk ⟨ik,o2,rfl,hik,gk0,gk3,gk4,gk5,wk,sk⟩
    simp only[hltq] at hltk ⊢
    have ok2:=sk.one
    have ck2:=sk.cells
    have hEl:(E++x.elB.take ik).length≤640064:=by rw[List.length_append,List.length_take,zCC];omega
    by_cases hc2:ik<m
    ·have c2:decide ((ik:Int)<x.sp.n)=true:=DT
     have w2:IntKind.i64.wrap ((ik:Int)+1)=((ik+1:Nat):Int):=WI
     have w3:IntKind.i64.wrap (x.sp.f.c+ik)=x.sp.f.c+ik:=wrap_i64 (by omega) (by omega)
     have hxl:ik<x.rs.length:=by omega
     obtain⟨rc,hia,rfl,_⟩:=hra.iad ik hxl
     have hbh1:=fun M=>hbh ik (by omega) M
     have hok1:(x.sp.at ik).ok:=⟨hok.1.1.1,by show -9223372036854775808≤x.sp.f.c+ik;omega,by show x.sp.f.c+ik≤_;omega⟩
     have hok2:(x.bh ik).ok:=by
      unfold Rn.bh
      split
      ·exact⟨hok.1.1.1,by show -9223372036854775808≤x.sp.f.c+((ik:Int) - 1);omega,by show x.sp.f.c+((ik:Int) - 1)≤_;omega⟩
      ·exact hok.2.1
     have hgd:x.rs.getD ik 0=x.rs[ik]:=by rw[List.getD_eq_getElem?_getD,List.getElem?_eq_getElem hxl];rfl
     have htke:=zKQ x ik (by omega)
     rw[hgd] at htke
     simp (maxSteps:=2000000) (disch:=try exact SX) only[RV,fillA,reduceIte,Nat.reduceEqDiff,Nat.reduceBEq,Nat.reduceAdd,gk0,gk3,gk4,gk5,c2,hiad,hid,w3,hbh1,hia]
     refine⟨rows_lt sk.rl (by omega), ?_⟩
     refine app1 (bytes:=56) wk sk zFH (x:=⟨x.sp.at ik,x.bh ik,x.rs[ik]⟩) ⟨rfl,hok1,hok2⟩ rfl (by omega) (by omega) (by omega) fun o' M' m' w' le' kp' nw' wm' rl' on' oc'=>?_
     simp (maxSteps:=2000000) (disch:=try exact SX) only[RV,reduceIte,Nat.reduceEqDiff,Nat.reduceAdd,gk0,gk3,gk4,gk5,w',w2]
     exact⟨hltk,m - (ik+1),by omega,ik+1,o',rfl,by omega,rfl,rfl,by rw[htke,← List.append_assoc];exact m'⟩
    ·obtain rfl:ik=m:=by omega
     have c2:decide ((ik:Int)<x.sp.n)=false:=DF
     rw[List.take_of_length_le (by rw[zCC];omega),← hsn] at sk
     simp (maxSteps:=2000000) (disch:=try exact SX) only[RV,reduceIte,Nat.reduceEqDiff,gk0,gk3,gk4,gk5,c2,hiad,w1]
     exact⟨hltk,l.length - (iq+1),by omega,iq+1,o2,rfl,by omega,rfl,rfl,wk,sk⟩
  ·obtain rfl:iq=l.length:=by omega
   have c1:decide ((l.length:Int)<l.length)=false:=DF
   rw[List.take_length] at sq
   obtain⟨r,hz,hsr⟩:=sq.frz zFH.cel (k:=12) (by omega)
   simp (maxSteps:=2000000) (disch:=try exact SX) only[RV,reduceIte,Nat.reduceEqDiff,gq0,gq3,gq4,ll,hz]
   exact⟨r,hsr,rfl⟩
def whI (l:List El)(x:Eid):Int:=posF (fun e=>decide (e.id=x)) l
theorem zND (l:List El)(x:Eid):decide (0≤whI l x)=l.any fun e=>decide (e.id=x):=posF_any _ _
theorem zBZ {a:AV}{l:List El}(hS:Sl 9 isEl a l)(x:Eid)(hl:l.length≤1000000000)(hf:l.length<fuel)(M:Mem):zCN fuel (d+1) 94 [a,idA x] M=some (I64 (whI l x),M):=by
 have ll:=hS.len
 apply w3_eq
 refine call_gc tf94 rfl (by simp only[icyL,fun M=>hS.icy M 12 (by omega),fz_icyA (zAQ x) (show 1<12 by omega)]) (by simp [a94]) fun b' ht hx=>?_
 obtain⟨h0,h1⟩:=hx2 hx
 clear hx
 simp only[a94,c94] at ht ⊢
 unfold whI
 simp (maxSteps:=2000000) (disch:=try exact SX) only[RV,h1]
 refine w_loop (I:=fun n t N => ∃ (i:Nat),n=l.length - i∧i≤l.length∧nth undefA t 0=a∧nth undefA t 3 = .ptr 0 0∧nth undefA t 5=I64 i∧Wf N∧N.get 0=some (.row false (idR x))∧(∀ j (x1:j<l.length),j<i→decide (l[j].id=x)=false)) (n:=l.length) (by omega) ?_ ?_
 ·refine⟨0,rfl,Nat.zero_le _, ?_, ?_, ?_,Wf.mem0.add _,by simp (maxSteps:=2000000) (disch:=try exact SX) only[RV],(fun _ _ h=>absurd h (by omega))⟩ <;> simp (maxSteps:=2000000) (disch:=try exact SX) only[RV,reduceIte,Nat.reduceEqDiff,h0]
  all_goals first | rfl | assumption | done
 ·rintro n t N hlt ⟨i,rfl,hi,g0,g3,g5,w,g,hj⟩
  simp only[ht] at hlt ⊢
  have lg:=Mem.get_lt g
  by_cases hc:i<l.length
  ·have q1:decide ((i:Int)<l.length)=true:=DT
   have w1:IntKind.i64.wrap ((i:Int)+1)=((i+1:Nat):Int):=WI
   obtain⟨r,hiad,⟨rfl,_⟩,_⟩:=hS.iad i hc
   cases q2:decide (l[i].id=x) with
   | true =>
    have e:=posF_at (p:=fun e:El=>decide (e.id=x)) hc q2 (fun j hj'=>hj j (by omega) hj')
    simp (maxSteps:=2000000) (disch:=try exact SX) only[RV,reduceIte,Nat.reduceEqDiff,Nat.reduceBEq,Nat.reduceAdd,g0,g3,g5,ll,q1,hiad,g,↓pIdE,zA0,ETA,q2]
    rw[e]
   | false =>
    simp (maxSteps:=2000000) (disch:=try exact SX) only[RV,reduceIte,Nat.reduceEqDiff,Nat.reduceBEq,Nat.reduceAdd,g0,g3,g5,ll,q1,hiad,g,↓pIdE,zA0,ETA,q2,w1]
    exact⟨hlt,l.length - (i+1),by omega,i+1,rfl,by omega,rfl,w,fun j x1 hj'=>by
     rcases Nat.lt_succ_iff_lt_or_eq.1 hj' with h | rfl
     ·exact hj j x1 h
     ·exact q2⟩
  ·obtain rfl:i=l.length:=by omega
   have e:=posF_no (p:=fun e:El=>decide (e.id=x)) (l:=l) (fun j hj'=>hj j hj' hj')
   simp (maxSteps:=2000000) (disch:=try exact SX) only[RV,reduceIte,Nat.reduceEqDiff,g0,g5,ll]
   rw[e]
def cM1:ACode:=(.region [⟨some 8,.alloc 25 (.agg #[(.int .u8 0),(.int .u32 0)]),none,[]⟩,⟨none,.store 2 (.tmp 8) (.tmp 17),none,[]⟩] false)
def cM2:ACode:=(.block 1 (.seq (.region [⟨some 18,.load 1 false (.tmp 7),none,[]⟩,⟨some 19,.load 2 true (.tmp 8),none,[]⟩,⟨some 20,.call (.func 81) [(.tmp 18),(.tmp 19)],none,[]⟩,⟨some 21,.pur (mkO (.unOp .not 4 (.tmp 20)) 4),none,[]⟩] false) (.cond (.tmp 21) (.region [⟨some 22,.load 1 false (.tmp 7),none,[]⟩,⟨some 23,.load 2 true (.tmp 8),none,[]⟩,⟨some 24,.bsl 25 2 (.agg #[(.int .u8 0),(.int .u32 0)]) 1 [(0,2,(.tmp 23))],none,[]⟩,⟨some 25,.app 25 2 8 (.agg #[(.int .u8 0),(.int .u32 0)]) (.tmp 22) (.tmp 24),none,[]⟩,⟨none,.store 1 (.tmp 7) (.tmp 25),none,[]⟩] false) .skip)))
def addL (out:List Lb)(x:Lb):List Lb:=if out.any (fun y=>decide (x=y)) then out else out++[x]
structure MI (M:Mem) (tm:List AV) (a:AV) (x:Eid) (v:Lb) (o:AV) (out:List Lb):Prop where
 wf:Wf M
 sz:9≤M.size
 g3:M.get 3=some (.row false [o])
 g4:M.get 4=some (.row false [a])
 g5:M.get 5=some (.row false (idR x))
 g6:M.get 6=some (.row false (lbR v))
 g7:M.get 7=some (.dfr false)
 g8:M.get 8=some (.loop .ready none tm [17] cM1 cM2 7)
 sm:SlM M 2 isLb o out
 ro:∀ j,rowOf o=some j→j=2∨9≤j
variable {tm : List AV} {a o : AV} {x : Eid} {v : Lb} {out : List Lb}
theorem MI.keep {N:Mem}(h:MI M tm a x v o out)(wf:Wf N)(hs:M.size≤N.size)(k:∀ j,j<M.size→N.get j=M.get j):MI N tm a x v o out:=by
 have:=h.sz
 exact⟨wf,by omega,(k 3 (by omega)).trans h.g3,(k 4 (by omega)).trans h.g4,(k 5 (by omega)).trans h.g5,(k 6 (by omega)).trans h.g6,(k 7 (by omega)).trans h.g7,(k 8 (by omega)).trans h.g8,h.sm.keep fun j hj=>k j (h.sm.lt j hj),h.ro⟩
theorem MI.back {X:Mem}{o':AV}{out':List Lb}(h:MI M tm a x v o out)(wX:Wf X)(hs:M.size≤X.size)(x3:X.get 3=some (.row false [o']))(gX:∀ j,j<9→j≠2→j≠3→j≠8→X.get j=M.get j)(sm:SlM X 2 isLb o' out')(ro:∀ j,rowOf o'=some j→j=2∨9≤j):MI (X.upd 8 (.loop .ready none tm [17] cM1 cM2 7)) tm a x v o' out':=by
 have:=h.sz
 have u:∀ j,j≠8→(X.upd 8 (.loop .ready none tm [17] cM1 cM2 7)).get j=X.get j:=fun j hj=>get_upd_ne wX _ _ _ (fun e=>hj e.symm)
 exact⟨wX.upd _ _,by rw[upd_size];omega,(u 3 (by omega)).trans x3,((u 4 (by omega)).trans (gX 4 (by omega) (by omega) (by omega) (by omega))).trans h.g4,((u 5 (by omega)).trans (gX 5 (by omega) (by omega) (by omega) (by omega))).trans h.g5,((u 6 (by omega)).trans (gX 6 (by omega) (by omega) (by omega) (by omega))).trans h.g6,((u 7 (by omega)).trans (gX 7 (by omega) (by omega) (by omega) (by omega))).trans h.g7,get_upd_eq wX _ _ (by omega),sm.keep fun j hj=>u j (by have:=ro j hj;omega),ro⟩
theorem zNO {to:Lb}(h:MI M tm a x v o out)(h7:nth undefA tm 7 = .ptr 3 0)(hlen:tm.length=27)(ht:to.ok)(hn:out.length≤100000)(hf:out.length<fuel)
  (k:∀ o' N,MI N tm a x v o' (addL out to)→M.size≤N.size→Q (BL true) N) :
  W3 (callN Tryz.prog (fsT tbl) fuel (d+3) (.yl 8) [lbA to] M) Q:=by
 have l3:=Mem.get_lt h.g3
 have g3:=h.g3
 have g8:=h.g8
 have wf:=h.wf
 have sz:=h.sz
 have sm:=h.sm
 have ro:=h.ro
 have oo:=sm.one
 have oc:=sm.cells
 refine call_yl h.g8 rfl ?_
 have e1:setAll tm [17] [lbA to]=St tm [(17,lbA to)]:=rfl
 rw[e1]
 unfold cM1 cM2
 simp (disch:=try exact SX) only[RV,seval,h7,wf]
 refine⟨tm,[17],_,_,7,g8, ?_⟩
 generalize hX:((M.add _).upd M.size _).upd 8 _=X
 have wX:Wf X:=by rw[← hX];exact((wf.add _).upd _ _).upd _ _
 have sX:X.size=M.size+1:=by rw[← hX];rfl
 have gX:∀ j,j<M.size→j≠8→X.get j=M.get j:=fun j a b=>by
  rw[← hX,get_upd_ne ((wf.add _).upd _ _) _ _ _ (fun e=>b e.symm),get_upd_ne (wf.add _) _ _ _ (by omega),get_add wf _ _ a]
 have x8:X.get 8=some (.loop .busy none tm [17] cM1 cM2 7):=by
  rw[← hX,get_upd_eq ((wf.add _).upd _ _) _ _ (by rw[upd_size,add_size];omega)]
 have xM:X.get M.size=some (.row false (lbR to)):=by
  rw[← hX,get_upd_ne ((wf.add _).upd _ _) _ _ _ (by omega),get_upd_eq (wf.add _) _ _ (by rw[add_size];omega)]
 have lM:M.size<X.size:=by omega
 have l3':3<X.size:=by omega
 have x3:X.get 3=some (.row false [o]):=(gX 3 l3 (by omega)).trans g3
 have smX:SlM X 2 isLb o out:=sm.keep fun j hj=>gX j (sm.lt j hj) (by have:=ro j hj;omega)
 have hcn:=hasV_own (P:=Tryz.prog) (fs:=fsT tbl) (fuel:=fuel) (n:=d) (v:=lbR to) tf81 tf114 zEC smX wX (by omega) (by omega) (by omega) (zAB to) rfl @pLbE (p:=fun y=>decide (to=y)) (fun dd r y hy _=>by rw[hy.1];exact zA5 dd to.lv to.cats y.lv y.cats)
 unfold addL at k
 cases hb:out.any (fun y=>decide (to=y)) with
 | true =>
  rw[hb] at hcn k
  simp (disch:=try exact SX) only[RV,seval,g3,xM,hcn]
  rw[if_pos rfl] at k
  exact⟨wX,_,_,_,_,_,_,_,x8,k o _ (h.back wX (by omega) x3 (fun j a b c e=>gX j (by omega) e) smX ro) (by rw[upd_size];omega)⟩
 | false =>
  rw[hb] at hcn k
  rw[if_neg (by decide)] at k
  simp (disch:=try exact SX) only[RV,seval,fillA,h7,g3,x3,xM,hcn]
  refine⟨rows_lt smX.rl (by omega), ?_⟩
  refine app1 wX smX zEC (x:=to) ⟨rfl,ht⟩ rfl (by omega) (by omega) (by omega) fun o' M' m' w' le' kp' nw' wm' rl' on' oc'=>?_
  have ro':∀ j,rowOf o'=some j→j=2∨9≤j:=fun j hj=>by
   exact zB0t
  have z3:M'.get 3=some (.row false [o]):=(kp' 3 (by omega) (fun e=>by have:=ro 3 e;omega)).trans x3
  have z8:=(kp' 8 (by omega) (fun e=>by have:=ro 8 e;omega)).trans x8
  have l3:3<M'.size:=by omega
  simp (disch:=try exact SX) only[RV,seval,h7,z3,z8,w',oc']
  refine⟨_,_,_,_,_,_,_,rfl,k o' _ (h.back (w'.upd _ _) (by rw[upd_size];omega) (get_upd_eq w' _ _ (by omega)) (fun j a b c e=>?_) (m'.keep fun j hj=>get_upd_ne w' _ _ _ (by have:=ro' j hj;omega)) ro') (by simp only[upd_size];omega)⟩
  rw[get_upd_ne w' _ _ _ (fun e=>c e.symm),kp' j (by omega) (fun e=>by have:=ro j e;omega)]
  exact gX j (by omega) e
variable {l : List Op}
def zB7 (x:Eid)(v:Lb)(o:Op):Bool:=decide (o.kd=3)&&(o.sp.has x).isSome&&o.hd.lb.leq v
def zAE (l:List Op)(x:Eid)(v:Lb):List Lb:=(l.filter (zB7 x v)).map (·.to)
def made (l:List Op)(x:Eid)(v:Lb):List Lb:=(zAE l x v).foldl addL [x.hd.lb]
theorem zKG (out:List Lb)(x:Lb):(addL out x).length≤out.length+1:=by
 unfold addL
 split
 ·omega
 ·simp
theorem zDA:∀ (r:List Lb) (out:List Lb),(r.foldl addL out).length≤out.length+r.length
 | [],out=>by simp
 | y::r,out=>by
  have h1:=zDA r (addL out y)
  have h2:=zKG out y
  simp only[List.foldl_cons,List.length_cons]
  omega
theorem zBK (l:List Op)(x:Eid)(v:Lb):(zAE l x v).length≤l.length:=by
 unfold zAE
 exact zB0T
theorem take_snoc {α:Type}(l:List α)(i:Nat)(h:i<l.length):l.take (i+1)=l.take i++[l[i]]:=by
 rw[List.take_add_one,List.getElem?_eq_getElem h];rfl
theorem zE3 (l:List Op)(o:Op)(x:Eid)(v:Lb):zAE (l++[o]) x v=zAE l x v++(if zB7 x v o then [o.to] else []):=by
 unfold zAE
 rw[List.filter_append,List.map_append]
 cases h:zB7 x v o <;> simp [h]
theorem zK1 {o0:AV}(hS:Sl 17 isOp a l)(hl:l.length≤50000)(hn:out.length≤50000)(hf:l.length+out.length<fuel)(h:MI M tm a x v o0 out)(h7:nth undefA tm 7 = .ptr 3 0)(hlen:tm.length=27)
  (k:∀ u o' N,MI N tm a x v o' ((zAE l x v).foldl addL out)→Q u N) :
  W3 (zCN fuel (d+6) 113 [.yl 8,.ptr 4 0,.ptr 5 0,.ptr 6 0] M) Q:=by
 have ll:=hS.len
 have g4':=h.g4
 have l4:=Mem.get_lt g4'
 refine call_0 tf113 rfl (by simp [a113]) fun b' ht hx=>?_
 obtain⟨h0,h1,h2⟩:=hx3 hx
 have h3:=hx 3 _ rfl
 clear hx
 simp only[a113,c113] at ht ⊢
 simp (disch:=try exact SX) only[RV,seval,h1,g4',ll]
 refine w_loop (I:=fun n t N => ∃ (i:Nat) (o:AV),n=l.length - i∧i≤l.length∧nth undefA t 0 = .yl 8∧nth undefA t 1 = .ptr 4 0∧nth undefA t 2 = .ptr 5 0∧nth undefA t 3 = .ptr 6 0∧nth undefA t 9=a∧nth undefA t 10=I64 l.length∧nth undefA t 11=I64 i∧MI N tm a x v o ((zAE (l.take i) x v).foldl addL out)) (n:=l.length) (by omega) ?_ ?_
 ·refine⟨0,o0,rfl,Nat.zero_le _, ?_, ?_, ?_, ?_, ?_, ?_, ?_,h⟩ <;> simp (disch:=try exact SX) only[RV,seval,h0,h1,h2,h3]
  all_goals first | rfl | assumption | done
 ·rintro n t N hlt ⟨i,o,rfl,hi,g0,g1,g2,g3,g9,g10,g11,m⟩
  simp only[ht] at hlt ⊢
  clear h0 h1 h2 h3 ht b'
  by_cases hc:i<l.length
  ·have q1:decide ((i:Int)<l.length)=true:=DT
   have w1:IntKind.i64.wrap ((i:Int)+1)=((i+1:Nat):Int):=WI
   obtain⟨r,hiad,hr,hrl⟩:=hS.iad i hc
   have hsn:=zE3 (l.take i) l[i] x v
   rw[← take_snoc l i hc] at hsn
   have b1:=zDA (zAE (l.take i) x v) out
   have b2:=zBK (l.take i) x v
   rw[List.length_take] at b2
   generalize l[i]=e at *
   obtain⟨ra,rfl,hra,hok⟩:=hr
   have ora:=hra.one
   have wf:=m.wf
   have sz:=m.sz
   have m5:=m.g5
   have m6:=m.g6
   have l5:=Mem.get_lt m5
   have l6:=Mem.get_lt m6
   have hh:=fun M=>@zEU fuel d e.sp x M
   have hle:=fun M=>@zCZ fuel (d+4) e.hd.lb v M
   have mA:MI ((N.add (.row false (opR ⟨0,Hd.z,0,⟨Eid.z,0⟩,Eid.z,Lb.z,[]⟩ NIL))).upd N.size (.row false (opR e ra))) tm a x v o ((zAE (l.take i) x v).foldl addL out):=m.keep ((wf.add _).upd _ _) (by rw[upd_size,add_size];omega) (fun j hj=>by rw[get_upd_ne (wf.add _) _ _ _ (by omega),get_add wf _ _ hj])
   cases c1:decide (e.kd=3) with
   | false =>
    have hcc:zB7 x v e=false:=by unfold zB7;rw[c1];rfl
    rw[hcc,if_neg (by decide),List.append_nil] at hsn
    cases c2:(e.sp.has x).isSome <;> rw[c2] at hh
    all_goals
     exact zB0p
   | true =>
    cases c2:(e.sp.has x).isSome <;> rw[c2] at hh
    ·have hcc:zB7 x v e=false:=by unfold zB7;rw[c1,c2];rfl
     rw[hcc,if_neg (by decide),List.append_nil] at hsn
     exact zB0p
    ·cases c3:e.hd.lb.leq v <;> rw[c3] at hle
     ·have hcc:zB7 x v e=false:=by unfold zB7;rw[c1,c2,c3];rfl
      rw[hcc,if_neg (by decide),List.append_nil] at hsn
      simp (disch:=try exact SX) only[RV,seval,g0,g1,g2,g3,g9,g10,g11,q1,hiad,m5,m6,hh,c1,hle,w1]
      exact⟨hlt,l.length - (i+1),by omega,i+1,o,rfl,by omega,rfl,by rw[hsn];exact mA⟩
     ·have hcc:zB7 x v e=true:=by unfold zB7;rw[c1,c2,c3];rfl
      rw[hcc,if_pos rfl] at hsn
      simp (disch:=try exact SX) only[RV,seval,g0,g2,g3,g9,g10,g11,q1,hiad,m5,m6,hh,c1,hle]
      refine zNO (d:=d+2) mA h7 hlen hok.2.2.2.2.2.1 (by omega) (by omega) fun o' N' m' le'=>?_
      simp (disch:=try exact SX) only[RV,seval,g0,g1,g2,g3,g9,g10,g11,w1]
      exact⟨hlt,l.length - (i+1),by omega,i+1,o',rfl,by omega,rfl,by rw[hsn,List.foldl_append];exact m'⟩
  ·obtain rfl:i=l.length:=by omega
   have q1:decide ((l.length:Int)<l.length)=false:=DF
   rw[List.take_length] at m
   simp (disch:=try exact SX) only[RV,seval,g10,g11]
   exact k _ _ _ m
theorem zLS (hS:Sl 17 isOp a l)(wf:Wf M)(k:Q (.fn 113 [] [.ptr M.size 0,.ptr (M.size+1) 0,.ptr (M.size+1+1) 0]) (((M.add (.row false [a])).add (.row false (idR x))).add (.row false (lbR v)))) :
  W3 (zCN fuel (d+1) 80 [a,idA x,lbA v] M) Q:=by
 refine call_0 tf80 rfl (by simp [a80]) fun b' ht hx=>?_
 obtain⟨h0,h1,h2⟩:=hx3 hx
 clear hx
 simp only[a80,c80] at ht ⊢
 simp (disch:=try exact SX) only[RV,seval,h0,h1,h2,hS.fz.cells]
 exact k
theorem zIH {X:Mem}{tm:List AV}{o0:AV}{out:List Lb}(hS:Sl 17 isOp a l)(hl:l.length≤50000)(hn:out.length≤50000)(hf:l.length+out.length<fuel)(w:Wf X)(h7:nth undefA tm 7 = .ptr 3 0)(hlen:tm.length=27)(hX:X.size=7)(g3:X.get 3=some (.row false [o0]))(g4:X.get 4=some (.row false [a]))(g5:X.get 5=some (.row false (idR x)))(g6:X.get 6=some (.row false (lbR v)))(sm:SlM X 2 isLb o0 out)(ro:∀ j,rowOf o0=some j→j=2)
  (k:∀ u o' N,MI N tm a x v o' ((zAE l x v).foldl addL out)→Q u N) :
  W3 (zCN fuel (d+6) 113 ([]++[.yl (X.size+1)]++[.ptr 4 0,.ptr 5 0,.ptr 6 0]) ((X.add (.dfr false)).add (.loop .ready none tm [17] cM1 cM2 X.size))) Q:=by
 have w1:=w.add (.dfr false)
 have u:∀ j,j<7→((X.add (.dfr false)).add (.loop .ready none tm [17] cM1 cM2 X.size)).get j=X.get j:=fun j hj=>by
  rw[get_add w1 _ _ (by rw[add_size];omega),get_add w _ _ (by omega)]
 have e:X.size+1=8:=by omega
 have key:=zK1 (d:=d) (fuel:=fuel) (Q:=Q) (M:=(X.add (.dfr false)).add (.loop .ready none tm [17] cM1 cM2 X.size)) (x:=x) (v:=v) (o0:=o0) (out:=out) hS hl hn hf ⟨w1.add _,by simp only[add_size];omega,(u 3 (by omega)).trans g3,(u 4 (by omega)).trans g4,(u 5 (by omega)).trans g5,(u 6 (by omega)).trans g6,by rw[get_add w1 _ _ (by rw[add_size];omega),← hX];exact get_add_new w _ _ (Nat.le_refl _) (Nat.lt_succ_self _),by
   have:=get_add_new w1 (.loop .ready none tm [17] cM1 cM2 X.size) 8 (by rw[add_size];omega) (by rw[add_size];omega)
   rw[hX] at this ⊢
   exact this,sm.keep fun j hj=>u j (by have:=ro j hj;omega),fun j hj => .inl (ro j hj)⟩ h7 hlen k
 rw[← e] at key
 exact key
theorem zHF (hS:Sl 17 isOp a l)(hl:l.length≤40000)(hf:l.length+100<fuel)(hx:x.ok):∃ r,Sl 2 isLb r (made l x v) ∧ ∀ M,zCN fuel (d+7) 50 [a,idA x,lbA v] M=some (r,M):=by
 refine gc_ex tf50 rfl (fun M=>by simp only[icyL,fun M=>hS.icy M 12 (by omega),fz_icyA (zAQ x) (show 1<12 by omega),fz_icyA (zAB v) (show 1<12 by omega)]) ?_
 refine call_gc tf50 rfl (by simp only[icyL,fun M=>hS.icy M 12 (by omega),fz_icyA (zAQ x) (show 1<12 by omega),fz_icyA (zAB v) (show 1<12 by omega)]) (by simp [a50]) fun b' ht hx=>?_
 obtain⟨h0,h1,h2⟩:=hx3 hx
 clear hx
 simp only[a50,c50] at ht ⊢
 simp (disch:=try exact SX) only[RV,seval,fillA,h0,h1,h2]
 refine zLS hS (by simp (disch:=try exact SX) only[RV]) ?_
 simp (disch:=try exact SX) only[RV,seval]
 refine w_range (g:=113) (first:=[]) (cap:=[.ptr 4 0,.ptr 5 0,.ptr 6 0]) (by simp (disch:=try exact SX) only[RV]) (by simp (disch:=try exact SX) only[RV,seval]) ?_
 refine zIH (x:=x) (v:=v) (out:=[x.hd.lb]) (o0:=.sl 2 0 1 (some 1) 2) (d:=d) hS (by omega) (by simp) (by simp;omega) ?_ ?_ ?_ ?_ ?_ ?_ ?_ ?_ ?_ ?_ fun u o N m=>?_
 ·exact zB04
 ·exact zB0f
 ·rw[St_len];exact ht
 ·exact zB0f
 ·exact zB04
 ·exact zB04
 ·exact zB04
 ·exact zB04
 ·refine .inr ⟨2,[lbR x.hd.lb],some 1,rfl,.inr rfl, ?_,.cons ⟨rfl,hx.1.1⟩ .nil,by simp⟩
  simp (disch:=try exact SX) only[RV]
  rfl
 ·rintro j ⟨⟩
  rfl
 ·have g3:=m.g3
  have g7:=m.g7
  have wf:=m.wf
  have sm:=m.sm
  have ro:=m.ro
  have sz:=m.sz
  refine⟨wf,by have:=m.sz;simp only[add_size,upd_size,mem0_size];omega,_,_,_,_,_,m.g8, ?_⟩
  generalize hX:N.upd _ _=X
  have wX:Wf X:=by rw[← hX];exact wf.upd _ _
  have gX:∀ j,j≠8→X.get j=N.get j:=fun j hj=>by rw[← hX];exact get_upd_ne wf _ _ _ (fun e=>hj e.symm)
  have x3:=(gX 3 (by omega)).trans g3
  have x7:=(gX 7 (by omega)).trans g7
  have l3':=Mem.get_lt x3
  simp (disch:=try exact SX) only[RV,seval,x3]
  refine fin_mark wX x7 ?_
  obtain⟨rr,hz,hr⟩:=(sm.keep fun j hj=>by rw[get_upd_ne wX _ _ _ (by have:=ro j hj;omega)];exact gX j (by have:=ro j hj;omega):SlM (X.upd 7 (.dfr true)) 2 isLb o _).frz zEC.cel (k:=12) (by omega)
  simp (disch:=try exact SX) only[RV,seval,hz]
  exact⟨rr,hr,rfl⟩
def zBQ (ls:List Lb)(b:Lb):Bool:=ls.any fun y=>decide (b=y)
def zAL (pre:List Op)(o:Op):Bool:=if o.kd=3 then o.hd.lb.leq o.to&&(o.sp.ids.all fun id=>zBQ (made pre id o.hd.lb) o.hd.lb) else true
theorem may_sp {o:Op}(h:o.may=true):o.sp.may=true:=by
 unfold Op.may at h
 simp only[Bool.and_eq_true] at h
 exact h.1.2
theorem zEZ (l:List Op)(x:Eid)(v:Lb):(made l x v).length≤l.length+1:=by
 have h1:=zDA (zAE l x v) [x.hd.lb]
 have h2:=zBK l x v
 unfold made
 simp only[List.length_singleton] at h1
 omega
theorem zEV (s:Spn):s.ids.length=s.n.toNat:=(List.length_map _).trans List.length_range
theorem zGD (s:Spn)(i:Nat)(h:i<s.ids.length):s.ids[i]=s.at i:=(List.getElem_map _).trans (by rw[List.getElem_range])
theorem zH4 {o:Op}{ra:AV}(hS:Sl 17 isOp a l)(hl:l.length≤40000)(hf:l.length+200<fuel)(hR:Sl 1 zA3 ra o.rs)(ho:o.ok)(hm:o.may=true)(M:Mem):zCN fuel (d+8) 112 [a,.agg (opR o ra)] M=some (BL (zAL l o),M):=by
 have hsm:=may_sp hm
 have hb:=Spn.may_le hsm
 obtain⟨m,hmn⟩:∃ m:Nat,o.sp.n=m:=⟨o.sp.n.toNat,by omega⟩
 have il:o.sp.ids.length=m:=by rw[zEV,hmn];rfl
 have hat:=fun n M=>@zDR fuel (d+2) o.sp n M
 simp only[hsm,if_true] at hat
 have hle:=fun M=>@zCZ fuel (d+6) o.hd.lb o.to M
 apply w3_eq
 refine call_g2 tf112 rfl (by simp only[icyL,fun M=>hS.icy M 12 (by omega),zC9 hR.fz]) (by simp [a112]) fun b' ht hx=>?_
 obtain⟨h0,h1⟩:=hx2 hx
 clear hx
 simp only[a112,c112] at ht ⊢
 unfold zAL
 by_cases q3:o.kd=3
 ·have k3:decide (o.kd=3)=true:=decide_eq_true q3
  rw[if_pos q3]
  simp (disch:=try exact SX) only[RV,seval,h1,k3,hle,hmn]
  refine w_loop (I:=fun n t N => ∃ (i:Nat),n=m - i∧i≤m∧nth undefA t 0=a∧nth undefA t 3 = .ptr 0 0∧nth undefA t 5=BL (o.hd.lb.leq o.to&&(o.sp.ids.take i).all fun id=>zBQ (made l id o.hd.lb) o.hd.lb)∧nth undefA t 20=I64 m∧nth undefA t 21=I64 i∧Wf N∧N.get 0=some (.row false (opR o ra))) (n:=m) (by omega) ?_ ?_
  ·exact zB0j
  ·rintro n t N hlt ⟨i,rfl,hi,g0,g3,g5,g20,g21,w,g⟩
   simp only[ht] at hlt ⊢
   by_cases hc:i<m
   ·have q1:decide ((i:Int)<m)=true:=DT
    have hi':¬((i:Int)<0∨o.sp.n≤i):=by omega
    have hat:=fun M=>hat i M
    simp only[hi',if_false] at hat
    have ok:=zFJ ho.2.2.2.1 hsm i (by omega)
    have lN:=Mem.get_lt g
    have w1:IntKind.i64.wrap ((i:Int)+1)=((i+1:Nat):Int):=WI
    obtain⟨r,hr,hmade⟩:=zHF (fuel:=fuel) (d:=d) (x:=o.sp.at i) (v:=o.hd.lb) hS hl (by omega) ok
    have hml:=zEZ l (o.sp.at i) o.hd.lb
    have hcn:∀ M,zCN fuel (d+7) 81 [r,lbA o.hd.lb] M=some (BL (zBQ (made l (o.sp.at i) o.hd.lb) o.hd.lb),M):=fun M=>hasV_g2 (P:=Tryz.prog) (fs:=fsT tbl) (fuel:=fuel) (n:=d+5) (v:=lbR o.hd.lb) tf81 tf114 zEC hr (by omega) (by omega) (by omega) (zAB o.hd.lb) rfl @pLbE (p:=fun y=>decide (o.hd.lb=y)) (fun dd r y hy _=>by rw[hy.1];exact zA5 dd o.hd.lb.lv o.hd.lb.cats y.lv y.cats) M
    have hsn:(o.sp.ids.take (i+1)).all (fun id=>zBQ (made l id o.hd.lb) o.hd.lb)=((o.sp.ids.take i).all (fun id=>zBQ (made l id o.hd.lb) o.hd.lb)&&zBQ (made l (o.sp.at i) o.hd.lb) o.hd.lb):=by
     rw[take_snoc _ i (by omega),List.all_append,zGD];simp
    have hall:∀ b,b=(o.hd.lb.leq o.to&&(o.sp.ids.take (i+1)).all fun id=>zBQ (made l id o.hd.lb) o.hd.lb)→b=false→(o.hd.lb.leq o.to&&o.sp.ids.all fun id=>zBQ (made l id o.hd.lb) o.hd.lb)=false:=by
     intro b hb1 hb2
     rw[hb2] at hb1
     rw[← List.take_append_drop (i+1) o.sp.ids,List.all_append,← Bool.and_assoc,← hb1,Bool.false_and]
    have orr:=hr.one
    cases hb:(o.hd.lb.leq o.to&&(o.sp.ids.take i).all fun id=>zBQ (made l id o.hd.lb) o.hd.lb) with
    | false =>
     rw[hb] at g5
     have hal:=hall _ rfl (by rw[hsn,← Bool.and_assoc,hb,Bool.false_and])
     simp (disch:=try exact SX) only[RV,seval,g3,g5,g20,g21,q1,g,hat,sc_ex]
     rw[hal]
    | true =>
     rw[hb] at g5
     cases hcc:zBQ (made l (o.sp.at i) o.hd.lb) o.hd.lb with
     | false =>
      rw[hcc] at hcn
      have hal:=hall _ rfl (by rw[hsn,hcc,Bool.and_false,Bool.and_false])
      simp (disch:=try exact SX) only[RV,seval,g0,g3,g5,g20,g21,q1,g,hat,hmade,hcn,sc_ex]
      rw[hal]
     | true =>
      rw[hcc] at hcn
      have hal:(o.hd.lb.leq o.to&&(o.sp.ids.take (i+1)).all fun id=>zBQ (made l id o.hd.lb) o.hd.lb)=true:=by rw[hsn,hcc,Bool.and_true];exact hb
      simp (disch:=try exact SX) only[RV,seval,g0,g3,g5,g20,g21,q1,w,g,hat,hmade,hcn,w1]
      exact⟨hlt,m - (i+1),by omega,i+1,rfl,by omega,by rw[hal],rfl⟩
   ·obtain rfl:i=m:=by omega
    have q1:decide ((i:Int)<i)=false:=DF
    have et:o.sp.ids.take i=o.sp.ids:=List.take_of_length_le (by omega)
    rw[et] at g5
    simp (disch:=try exact SX) only[RV,seval,g5,g20,g21,sc_ex]
 ·have k3:decide (o.kd=3)=false:=decide_eq_false q3
  rw[if_neg q3]
  simp (disch:=try exact SX) only[RV,seval,h1,k3,sc_ex]
def zD6:List Op→List Op→Bool
 | _,[]=>true
 | pre,o::l=>o.may&&zAL pre o&&zD6 (pre++[o]) l
def zAU (l:List Op):Int:=if 2048<l.length then 4 else err (zD6 [] l)
theorem drop_step {α:Type}(l:List α)(i:Nat)(h:i<l.length):l.drop i=l[i]::l.drop (i+1):=List.drop_eq_getElem_cons h
theorem zDK (hS:Sl 17 isOp a l)(hl:l.length≤40000)(hf:l.length+200<fuel)(M:Mem):zCN fuel (d+9) 77 [a] M=some (I64 (zAU l),M):=by
 have ll:=hS.len
 apply w3_eq
 refine call_g2 tf77 rfl (by simp only[icyL,fun M=>hS.icy M 12 (by omega)]) (by simp [a77]) fun b' ht hx=>?_
 have h0:=hx 0 _ rfl
 clear hx
 simp only[a77,c77] at ht ⊢
 unfold zAU
 by_cases q0:2048<l.length
 ·have q1:decide ((2048:Int)<l.length)=true:=DT
  simp (disch:=try exact SX) only[RV,seval,h0,ll,q1,q0,if_true,sc_ex]
 ·have q1:decide ((2048:Int)<l.length)=false:=DF
  simp (disch:=try exact SX) only[RV,seval,h0,ll,q1,q0,if_false]
  refine w_loop (I:=fun n t N => ∃ (i:Nat),n=l.length - i∧i≤l.length∧nth undefA t 0=a∧nth undefA t 8=a∧nth undefA t 9=I64 l.length∧nth undefA t 10=I64 i∧Wf N∧zD6 [] l=zD6 (l.take i) (l.drop i)) (n:=l.length) (by omega) ?_ ?_
  ·refine⟨0,rfl,Nat.zero_le _, ?_, ?_, ?_, ?_,Wf.mem0,rfl⟩ <;> simp (disch:=try exact SX) only[RV,seval,h0]
   all_goals first | rfl | assumption | done
  ·rintro n t N hlt ⟨i,rfl,hi,g0,g8,g9,g10,w,inv⟩
   simp only[ht] at hlt ⊢
   by_cases hc:i<l.length
   ·have q2:decide ((i:Int)<l.length)=true:=DT
    have w1:IntKind.i64.wrap ((i:Int)+1)=((i+1:Nat):Int):=WI
    obtain⟨r,hiad,hr,hrl⟩:=hS.iad i hc
    obtain⟨p,hp1,hp2⟩:=sl_to hS (j:=i) (by omega)
    rw[drop_step l i hc,zD6,← take_snoc l i hc] at inv
    have hkeep:l.take i++l[i]::l.drop (i+1)=l:=by rw[← drop_step l i hc,List.take_append_drop]
    generalize l[i]=e at *
    obtain⟨ra,rfl,hra,hok⟩:=hr
    have ora:=hra.one
    have hck:=fun M=>@zBM fuel (d+1) e ra hra hok (by omega) M
    cases hm:e.may with
    | false =>
     rw[hm] at hck
     simp only[hm,Bool.false_and] at inv
     rw[inv]
     simp (disch:=try exact SX) only[RV,seval,g8,g9,g10,q2,hiad,hck,zAD,sc_ex]
    | true =>
     rw[hm] at hck
     have hfi:=fun M=>zH4 (fuel:=fuel) (d:=d) hp2 (by simp;omega) (by simp;omega) hra hok hm M
     cases hr':zAL (l.take i) e with
     | false =>
      rw[hr'] at hfi
      simp only[hm,hr',Bool.false_and,Bool.and_false] at inv
      rw[inv]
      simp (disch:=try exact SX) only[RV,seval,g0,g8,g9,g10,hS.fz.rows,q2,hiad,hck,zA6,zAD,hp1,hfi,sc_ex]
     | true =>
      rw[hr'] at hfi
      simp only[hm,hr',Bool.true_and] at inv
      simp (disch:=try exact SX) only[RV,seval,g0,g8,g9,g10,hS.fz.rows,q2,hiad,w,hck,zA6,hp1,hfi,w1]
      exact⟨hlt,l.length - (i+1),by omega,i+1,rfl,by omega,rfl,inv⟩
   ·obtain rfl:i=l.length:=by omega
    have q1:decide ((l.length:Int)<l.length)=false:=DF
    rw[List.drop_length,zD6] at inv
    rw[inv]
    simp (disch:=try exact SX) only[RV,seval,g9,g10,zA6,sc_ex]
def chfE (l:List Op)(o:Op):Int:=if zAU l=0 then err o.may else zAU l
def chfB (l:List Op)(o:Op):Bool:=decide (chfE l o=0)&&zAL l o
theorem zKN {o:Op}{ra:AV}(hS:Rd M 17 isOp a l)(hl:l.length≤40000)(hf:l.length+200<fuel)(hR:Sl 1 zA3 ra o.rs)(ho:o.ok)(wf:Wf M)(k:∀ N,Kept M N→Q (.tup [BL (chfB l o),I64 (chfE l o)]) N) :
  W3 (zCN fuel (d+10) 152 [a,.agg (opR o ra)] M) Q:=by
 have wA:=wf.add (.row false (opR o ra))
 have hS':Rd (M.add (.row false (opR o ra))) 17 isOp a l:=hS.keep fun j hj=>get_add wf _ _ (by
  rcases hS with h | h
  ·rcases h with⟨rfl,_⟩ | ⟨_,_,rfl,_⟩ <;> cases hj
  ·exact h.lt j hj)
 have hch:=lendR0 (P:=Tryz.prog) (fs:=fsT tbl) (fuel:=fuel) (n:=d+8) (N:=M.add (.row false (opR o ra))) tf77 rfl zKV hS' wA (fun a' h M=>zDK (d:=d) h hl hf M)
 have hck:=fun M=>@zBM fuel (d+2) o ra hR ho (by omega) M
 unfold chfB at k
 unfold chfE at k
 refine call_0 tf152 rfl (by simp [a152]) fun b' ht hx=>?_
 obtain⟨h0,h1⟩:=hx2 hx
 clear hx
 simp only[a152,c152] at ht ⊢
 by_cases q0:zAU l=0
 ·rw[q0] at hch
  simp only[q0,if_true] at k
  cases hm:o.may with
  | false =>
   rw[hm] at hck k
   simp (disch:=try exact SX) only[RV,seval,h0,h1,hch,hck,zAD]
   exact zB0s
  | true =>
   have hfi:=lendR1 (P:=Tryz.prog) (fs:=fsT tbl) (fuel:=fuel) (n:=d+8) (N:=M.add (.row false (opR o ra))) (y:=.agg (opR o ra)) tf112 rfl zKV hS' wA (zC9 hR.fz) (fun a' h M=>zH4 (d:=d+1) h hl hf hR ho hm M)
   rw[hm] at hck k
   simp (disch:=try exact SX) only[RV,seval,h0,h1,hch,hck,zA6,hfi]
   exact zB0s
 ·have q1:decide (zAU l=0)=false:=decide_eq_false q0
  simp only[q0,if_false,decide_false,Bool.false_and] at k
  simp (disch:=try exact SX) only[RV,seval,h0,h1,hch,q1]
  exact zB0s
def askE (l:List Op)(x:Eid)(v:Lb):Int:=if zAU l=0 then err (x.may&&v.may) else zAU l
theorem zIU (hS:Sl 17 isOp a l)(hl:l.length≤40000)(hf:l.length+200<fuel)(M:Mem):zCN fuel (d+10) 47 [a,idA x,lbA v] M=some (I64 (askE l x v),M):=by
 have hch:=fun M=>zDK (fuel:=fuel) (d:=d) hS hl hf M
 have hc:=fun M=>@zEQ fuel (d+6) x M
 have hv:=fun M=>@zC3 fuel (d+8) v M
 apply w3_eq
 refine call_gc tf47 rfl (by simp only[icyL,fun M=>hS.icy M 12 (by omega),fz_icyA (zAQ x) (show 1<12 by omega),fz_icyA (zAB v) (show 1<12 by omega)]) (by simp [a47]) fun b' ht hx=>?_
 obtain⟨h0,h1,h2⟩:=hx3 hx
 clear hx
 simp only[a47,c47] at ht ⊢
 unfold askE
 by_cases q0:zAU l=0
 ·rw[q0] at hch
  rw[if_pos q0]
  cases h5:x.may <;> cases h6:v.may <;> rw[h5] at hc <;> rw[h6] at hv
  all_goals simp (disch:=try exact SX) only[RV,seval,h0,h1,h2,hch,hc,hv,zA6,zAD,pB_max2,BMM]
  all_goals rfl
 ·have q1:decide (zAU l=0)=false:=decide_eq_false q0
  rw[if_neg q0]
  simp (disch:=try exact SX) only[RV,seval,h0,h1,h2,hch,q1]
def zC0 (l:List Op)(x:Eid)(v:Lb):Bool:=decide (askE l x v=0) && !((made l x v).any fun to => !to.leq v)
theorem zLU {to:Lb}{y:Nat}(wf:Wf M)(hy:M.get y=some (.row false (lbR v)))(k:∀ N,Kept M N→Q (BL (!to.leq v)) N):W3 (zCN fuel (d+2) 48 [lbA to,.ptr y 0] M) Q:=by
 have ly:=Mem.get_lt hy
 have hl:=fun M=>@zCZ fuel d to v M
 refine call_0 tf48 rfl (by simp [a48]) fun b' ht hx=>?_
 obtain⟨h0,h1⟩:=hx2 hx
 clear hx
 simp only[a48,c48] at ht ⊢
 simp (disch:=try exact SX) only[RV,seval,h0,h1,hy,hl]
 exact zB0s
theorem zK8 (hS:Sl 17 isOp a l)(hl:l.length≤40000)(hf:l.length+200<fuel)(hx:x.ok)(M:Mem):zCN fuel (d+11) 26 [a,idA x,lbA v] M=some (.tup [BL (zC0 l x v),I64 (askE l x v)],M):=by
 have has:=fun M=>zIU (fuel:=fuel) (d:=d) (x:=x) (v:=v) hS hl hf M
 apply w3_eq
 refine call_gc tf26 rfl (by simp only[icyL,fun M=>hS.icy M 12 (by omega),fz_icyA (zAQ x) (show 1<12 by omega),fz_icyA (zAB v) (show 1<12 by omega)]) (by simp [a26]) fun b' ht hx=>?_
 obtain⟨h0,h1,h2⟩:=hx3 hx
 clear hx
 simp only[a26,c26] at ht ⊢
 unfold zC0
 by_cases q0:askE l x v=0
 ·rw[q0] at has
  obtain⟨r,hr,hm⟩:=zHF (fuel:=fuel) (d:=d+3) (x:=x) (v:=v) hS hl (by omega) hx
  rw[q0]
  simp (disch:=try exact SX) only[RV,seval,h0,h1,h2,has,hm]
  have hml:=zEZ l x v
  refine has_0 (st:=2) (ag:=true) (n:=d+8) (first:=[]) (cap:=[.ptr 1 0]) tf49 tf79 (by simp) zEC hr (by omega) (by omega) (p:=fun to => !to.leq v) (by simp (disch:=try exact SX) only[RV]) (fun n hn=>by simp only[add_size,mem0_size] at hn;simp (disch:=try exact SX) only[RV]) (fun r to hr _ N Q' hk hQ=>?_) fun N hk=>?_
  ·obtain⟨rfl,_⟩:=hr
   refine zLU (d:=d+6) hk.wf ?_ (fun N' hk'=>hQ N' (hk.trans hk'))
   rw[hk.get 1 (by simp (disch:=try exact SX) only[RV,seval])]
   exact zB04
  ·exact zB0f
 ·have q1:decide (askE l x v=0)=false:=decide_eq_false q0
  simp (disch:=try exact SX) only[RV,seval,h0,h1,h2,has,q1,Bool.false_and]
theorem zL0 {s:Spn}(hm:s.may=true)(x:Eid):(s.has x).isSome=(decide (s.f.hd=x.hd)&&decide (s.f.c≤x.c)&&decide (x.c<s.f.c+s.n)):=by
 unfold Spn.has
 by_cases h1:s.f.hd=x.hd
 ·by_cases h2:s.f.c≤x.c
  ·by_cases h3:x.c<s.f.c+s.n
   ·rw[if_pos ⟨hm,h1.symm,h2,h3⟩];simp [h1,h2,h3]
   ·rw[if_neg (fun h=>h3 h.2.2.2)];simp [h3]
  ·rw[if_neg (fun h=>h2 h.2.2.1)];simp [h2]
 ·rw[if_neg (fun h=>h1 h.2.1.symm)];simp [h1]
theorem zID {s:Spn}(hm:s.may=true)(x:Eid)(M:Mem):zCN fuel (d+1) 118 [spA s,idA x] M=some (BL (s.has x).isSome,M):=by
 have hb:=Spn.may_le hm
 have w:IntKind.i64.wrap (s.f.c+s.n)=s.f.c+s.n:=wrap_i64 (by omega) (by omega)
 rw[zL0 hm]
 apply w3_eq
 refine call_gc tf118 rfl (by simp (disch:=try exact SX) only[RV,seval]) (by simp [a118]) fun b' ht hx=>?_
 obtain⟨h0,h1⟩:=hx2 hx
 clear hx
 simp only[a118,c118] at ht ⊢
 cases q1:decide (s.f.hd=x.hd) with
 | false=>simp (disch:=try exact SX) only[RV,seval,h0,h1,↓pHdE,zAC,ETA,q1,Bool.false_and]
 | true =>
  cases q2:decide (s.f.c≤x.c) with
  | false=>simp (disch:=try exact SX) only[RV,seval,h0,h1,↓pHdE,zAC,ETA,q1,q2,Bool.false_and]
  | true=>simp (disch:=try exact SX) only[RV,seval,h0,h1,↓pHdE,zAC,ETA,q1,q2,w]
theorem zCT (hS:Sl 17 isOp a l)(hm:∀ o∈l,o.may=true)(hv:v.ok)(hl:l.length≤40000)(hf:l.length+200<fuel):∃ r,Sl 2 isLb r (zAE l x v) ∧ ∀ M,zCN fuel (d+3) 87 [a,idA x,lbA v] M=some (r,M):=by
 have ll:=hS.len
 refine gc_ex tf87 rfl (fun M=>by simp only[icyL,fun M=>hS.icy M 12 (by omega),fz_icyA (zAQ x) (show 1<12 by omega),fz_icyA (zAB v) (show 1<12 by omega)]) ?_
 refine call_gc tf87 rfl (by simp only[icyL,fun M=>hS.icy M 12 (by omega),fz_icyA (zAQ x) (show 1<12 by omega),fz_icyA (zAB v) (show 1<12 by omega)]) (by simp [a87]) fun b' ht hx=>?_
 obtain⟨h0,h1,h2⟩:=hx3 hx
 clear hx
 simp only[a87,c87] at ht ⊢
 simp (disch:=try exact SX) only[RV,seval,h1,h2]
 refine w_loop (I:=fun n t N => ∃ (i:Nat) (o:AV),n=l.length - i∧i≤l.length∧nth undefA t 0=a∧nth undefA t 4 = .ptr 0 0∧nth undefA t 5 = .ptr 1 0∧nth undefA t 7=o∧nth undefA t 8=I64 i∧Wf N∧N.get 0=some (.row false (idR x))∧N.get 1=some (.row false (lbR v))∧SlM N 2 isLb o (zAE (l.take i) x v)∧(∀ j,rowOf o=some j→2≤j)) (n:=l.length) (by omega) ?_ ?_
 ·refine⟨0,NIL,rfl,Nat.zero_le _, ?_, ?_, ?_, ?_, ?_,(Wf.mem0.add _).add _,by simp (disch:=try exact SX) only[RV],by simp (disch:=try exact SX) only[RV],SlM.nil,(fun _ h=>by cases h)⟩ <;> simp (disch:=try exact SX) only[RV,seval,h0]
  all_goals first | rfl | assumption | done
 ·rintro n t N hlt ⟨i,o,rfl,hi,g0,g4,g5,g7,g8,w,m0,m1,sm,ro⟩
  simp only[ht] at hlt ⊢
  have l0:=Mem.get_lt m0
  have l1:=Mem.get_lt m1
  by_cases hc:i<l.length
  ·have q1:decide ((i:Int)<l.length)=true:=DT
   have w1:IntKind.i64.wrap ((i:Int)+1)=((i+1:Nat):Int):=WI
   obtain⟨r,hiad,hr,_⟩:=hS.iad i hc
   have hsn:=zE3 (l.take i) l[i] x v
   rw[← take_snoc l i hc] at hsn
   have hmi:=hm l[i] (List.getElem_mem hc)
   have hrl:=zBK (l.take i) x v
   rw[List.length_take] at hrl
   generalize l[i]=e at *
   obtain⟨ra,rfl,hra,hok⟩:=hr
   have hh:=fun M=>zID (fuel:=fuel) (d:=d+1) (may_sp hmi) x M
   have hle:=fun M=>zB6 (fuel:=fuel) (d:=d) e.hd.lb v hok.2.1.1 hv (by omega) M
   unfold zB7 at hsn
   cases q2:decide (e.kd=3) with
   | false =>
    simp only[q2,Bool.false_and,Bool.false_eq_true,if_false,List.append_nil] at hsn
    simp (disch:=try exact SX) only[RV,seval,g0,g4,g5,g7,g8,ll,q1,hiad,q2,m0,m1,w1]
    exact zB0q
   | true =>
    cases q3:(e.sp.has x).isSome with
    | false =>
     rw[q3] at hh
     simp only[q2,q3,Bool.false_and,Bool.and_false,Bool.false_eq_true,if_false,List.append_nil] at hsn
     simp (disch:=try exact SX) only[RV,seval,g0,g4,g5,g7,g8,ll,q1,hiad,q2,m0,m1,hh,w1]
     exact zB0q
    | true =>
     rw[q3] at hh
     cases q4:e.hd.lb.leq v with
     | false =>
      rw[q4] at hle
      simp only[q2,q3,q4,Bool.and_false,Bool.false_eq_true,if_false,List.append_nil] at hsn
      simp (disch:=try exact SX) only[RV,seval,g0,g4,g5,g7,g8,ll,q1,hiad,q2,m0,m1,hh,hle,w1]
      exact zB0q
     | true =>
      rw[q4] at hle
      simp only[q2,q3,q4,Bool.and_self,if_true] at hsn
      simp (disch:=try exact SX) only[RV,seval,fillA,g0,g4,g5,g7,g8,ll,q1,hiad,q2,m0,m1,hh,hle]
      refine⟨rows_lt sm.rl (by omega), ?_⟩
      refine app1 (bytes:=8) w sm zEC (x:=e.to) ⟨rfl,hok.2.2.2.2.2.1⟩ rfl (by omega) (by omega) (by omega) fun o' M' m' w' le' kp' nw' wm' rl' on' oc'=>?_
      simp (disch:=try exact SX) only[RV,seval,g0,g4,g5,g7,g8,w',w1]
      refine⟨hlt,l.length - (i+1),by omega,i+1,o',rfl,by omega,rfl,rfl, ?_, ?_,by rw[hsn];exact m',fun j hj=>?_⟩
      ·rw[kp' 0 l0 (fun h=>by have:=ro 0 h;omega)];exact m0
      ·rw[kp' 1 l1 (fun h=>by have:=ro 1 h;omega)];exact m1
      ·exact zB0t
  ·obtain rfl:i=l.length:=by omega
   have q1:decide ((l.length:Int)<l.length)=false:=DF
   rw[List.take_length] at sm
   obtain⟨r,hz,hsr⟩:=sm.frz zEC.cel (k:=12) (by omega)
   simp (disch:=try exact SX) only[RV,seval,g0,g7,g8,ll,hz]
   exact⟨r,hsr,rfl⟩
theorem zD5 {ls:List Lb}(hS:Sl 2 isLb a ls)(b:Lb)(hl:ls.length≤1000000000)(hf:ls.length<fuel)(M:Mem):zCN fuel (d+1) 121 [a,lbA b] M=some (BL (zBQ ls b),M):=by
 have ll:=hS.len
 apply w3_eq
 refine call_g2 tf121 rfl (by simp only[icyL,fun M=>hS.icy M 12 (by omega),fz_icyA (zAB b) (show 1<12 by omega)]) (by simp [a121]) fun b' ht hx=>?_
 obtain⟨h0,h1⟩:=hx2 hx
 clear hx
 simp only[a121,c121] at ht ⊢
 unfold zBQ
 simp (disch:=try exact SX) only[RV,h1]
 refine w_loop (I:=fun n t N => ∃ (i:Nat),n=ls.length - i∧i≤ls.length∧nth undefA t 0=a∧nth undefA t 3 = .ptr 0 0∧nth undefA t 5=I64 i∧Wf N∧N.get 0=some (.row false (lbR b))∧(ls.take i).any (fun y=>decide (b=y))=false) (n:=ls.length) (by omega) ?_ ?_
 ·exact zB0k
 ·rintro n t N hlt ⟨i,rfl,hi,g0,g3,g5,w,g,hj⟩
  simp only[ht] at hlt ⊢
  have lg:=Mem.get_lt g
  by_cases hc:i<ls.length
  ·have q1:decide ((i:Int)<ls.length)=true:=DT
   have w1:IntKind.i64.wrap ((i:Int)+1)=((i+1:Nat):Int):=WI
   obtain⟨r,hiad,⟨rfl,_⟩,_⟩:=hS.iad i hc
   have hsn:=take_snoc ls i hc
   have hmem:=List.getElem_mem hc
   generalize ls[i]=y at *
   cases q2:decide (y=b) with
   | true =>
    have e:ls.any (fun y=>decide (b=y))=true:=List.any_eq_true.2 ⟨y,hmem,by rw[of_decide_eq_true q2];exact decide_eq_true rfl⟩
    simp (disch:=try exact SX) only[RV,seval,g0,g3,g5,ll,q1,hiad,g,↓pLbE,zA5,ETA,q2,sc_ex]
    rw[e]
   | false =>
    simp (disch:=try exact SX) only[RV,seval,g0,g3,g5,ll,q1,hiad,g,↓pLbE,zA5,ETA,q2,w1]
    refine⟨hlt,ls.length - (i+1),by omega,i+1,rfl,by omega,rfl,w, ?_⟩
    rw[hsn,List.any_append,hj]
    have:decide (b=y)=false:=decide_eq_false fun h=>of_decide_eq_false q2 h.symm
    simp [this]
  ·obtain rfl:i=ls.length:=by omega
   have q1:decide ((ls.length:Int)<ls.length)=false:=DF
   rw[List.take_length] at hj
   simp (disch:=try exact SX) only[RV,seval,g0,g5,ll,hj,sc_ex]
theorem zJX (hS:Sl 17 isOp a l)(hm:∀ o∈l,o.may=true)(hx:x.ok)(hv:v.ok)(hl:l.length≤40000)(hf:l.length+200<fuel):∃ r,Sl 2 isLb r (made l x v) ∧ ∀ M,zCN fuel (d+4) 122 [a,idA x,lbA v] M=some (r,M):=by
 obtain⟨rr,hrr,hra⟩:=zCT (fuel:=fuel) (d:=d) (x:=x) hS hm hv hl hf
 have lrr:=hrr.len
 have hrl:=zBK l x v
 refine gc_ex tf122 rfl (fun M=>by simp only[icyL,fun M=>hS.icy M 12 (by omega),fz_icyA (zAQ x) (show 1<12 by omega),fz_icyA (zAB v) (show 1<12 by omega)]) ?_
 refine call_gc tf122 rfl (by simp only[icyL,fun M=>hS.icy M 12 (by omega),fz_icyA (zAQ x) (show 1<12 by omega),fz_icyA (zAB v) (show 1<12 by omega)]) (by simp [a122]) fun b' ht hx=>?_
 obtain⟨h0,h1,h2⟩:=hx3 hx
 clear hx
 simp only[a122,c122] at ht ⊢
 unfold made
 generalize zAE l x v=R at *
 simp (disch:=try exact SX) only[RV,seval,fillA,h0,h1,h2,hra]
 refine w_loop (I:=fun n t N => ∃ (i:Nat) (o:AV),n=R.length - i∧i≤R.length∧nth undefA t 7=o∧nth undefA t 8=rr∧nth undefA t 9=I64 i∧Wf N∧SlM N 2 isLb o ((R.take i).foldl addL [x.hd.lb])) (n:=R.length) (by omega) ?_ ?_
 ·refine⟨0,.sl 2 0 1 (some 1) 2,rfl,Nat.zero_le _, ?_, ?_, ?_,((Wf.mem0.add _).add _).add _,slm_lit (rows:=[lbR x.hd.lb]) (.cons ⟨rfl,hx.1.1⟩ .nil) (by simp) rfl (.inr rfl) (by simp (disch:=try exact SX) only[RV];rfl)⟩ <;> simp (disch:=try exact SX) only[RV,seval]
  all_goals first | rfl | assumption | done
 ·rintro n t N hlt ⟨i,o,rfl,hi,g7,g8,g9,w,sm⟩
  simp only[ht] at hlt ⊢
  have hfl:=zDA (R.take i) [x.hd.lb]
  rw[List.length_take,List.length_singleton] at hfl
  by_cases hc:i<R.length
  ·have q1:decide ((i:Int)<R.length)=true:=DT
   have w1:IntKind.i64.wrap ((i:Int)+1)=((i+1:Nat):Int):=WI
   obtain⟨r,hiad,⟨hr1,hr2⟩,_⟩:=hrr.iad i hc
   subst hr1
   have hsn:(R.take (i+1)).foldl addL [x.hd.lb]=addL ((R.take i).foldl addL [x.hd.lb]) R[i]:=by rw[take_snoc R i hc,List.foldl_append];rfl
   generalize R[i]=y at *
   generalize (R.take i).foldl addL [x.hd.lb]=E at *
   have ham:=lend1 (P:=Tryz.prog) (fs:=fsT tbl) (fuel:=fuel) (n:=d+2) (N:=N) (y:=lbA y) tf121 rfl zEC sm w (fun M=>fz_icyA (zAB y) (by omega) M) (fun a' h M=>zD5 (fuel:=fuel) (d:=d+2) h y (by omega) (by omega) M)
   have hadd:addL E y=if zBQ E y then E else E++[y]:=rfl
   rw[hadd] at hsn
   have rlo:=rows_lt sm.rl (Nat.le_refl N.size)
   cases q2:zBQ E y with
   | true =>
    rw[q2] at ham
    rw[q2,if_pos rfl] at hsn
    simp (disch:=try exact SX) only[RV,seval,g7,g8,g9,lrr,q1,hiad,ham,w1]
    exact⟨hlt,R.length - (i+1),by omega,i+1,o,rfl,by omega,rfl,rfl,w,by rw[hsn];exact sm⟩
   | false =>
    rw[q2] at ham
    rw[q2,if_neg (by decide)] at hsn
    simp (disch:=try exact SX) only[RV,seval,fillA,g7,g8,g9,lrr,q1,hiad,ham]
    refine⟨rows_lt sm.rl (by omega), ?_⟩
    refine app1 (bytes:=8) w sm zEC (x:=y) ⟨rfl,hr2⟩ rfl (by omega) (by omega) (by omega) fun o' M' m' w' le' kp' nw' wm' rl' on' oc'=>?_
    simp (disch:=try exact SX) only[RV,seval,g7,g8,g9,w',w1]
    exact⟨hlt,R.length - (i+1),by omega,i+1,o',rfl,by omega,rfl,rfl,by rw[hsn];exact m'⟩
  ·obtain rfl:i=R.length:=by omega
   have q1:decide ((R.length:Int)<R.length)=false:=DF
   rw[List.take_length] at sm
   obtain⟨r,hz,hsr⟩:=sm.frz zEC.cel (k:=12) (by omega)
   simp (disch:=try exact SX) only[RV,seval,g7,g8,g9,lrr,hz]
   exact⟨r,hsr,rfl⟩
def idV (x:Eid):List Value:=[.int .u8 x.hd.lb.lv,.int .u32 x.hd.lb.cats,.int .u8 x.hd.num,.int .i64 x.c]
theorem zM4 (x:Eid):PT.iss [.st [.st [.int .u8,.int .u32],.int .u8],.int .i64] (idV x):=by
 simp only[PT.iss,PT.is]
 exact⟨[.int .u8 x.hd.lb.lv,.int .u32 x.hd.lb.cats,.int .u8 x.hd.num],[.int .i64 x.c],rfl,⟨[.int .u8 x.hd.lb.lv,.int .u32 x.hd.lb.cats],[.int .u8 x.hd.num],rfl,⟨[.int .u8 x.hd.lb.lv],[.int .u32 x.hd.lb.cats],rfl,⟨_,rfl⟩,⟨[.int .u32 x.hd.lb.cats],[],rfl,⟨_,rfl⟩,rfl⟩⟩,⟨[.int .u8 x.hd.num],[],rfl,⟨_,rfl⟩,rfl⟩⟩,⟨[.int .i64 x.c],[],rfl,⟨_,rfl⟩,rfl⟩⟩
theorem zMY (x y:Eid):idV x=idV y↔x=y:=by
 obtain⟨⟨⟨a,b⟩,c⟩,e⟩:=x
 obtain⟨⟨⟨a',b'⟩,c'⟩,e'⟩:=y
 simp [idV,and_assoc]
theorem id_ck (b:Bool)(n1 n2 n3 n4:Int):(pureRun Tryz.prog (Instr.checkKey b 10000 37 (.agg #[.int .u8 n1,.int .u32 n2,.int .u8 n3,.int .i64 n4]))).isSome=true:=by
 cases b <;> kernel_rfl
def zET:KeyT Tryz.prog 37 idA where
 val x:=.agg (idV x).toArray
 hval x:=rfl
 ck b x:=id_ck b _ _ _ _
 eq x y:=by
  obtain⟨r,h1,h2⟩:=PT.eq (P:=Tryz.prog) (.st [.st [.st [.int .u8,.int .u32],.int .u8],.int .i64]) 37 10000 (by kernel_rfl) (by decide) (xs:=idV x) (ys:=idV y) (by simpa only[PT.is] using zM4 x) (by simpa only[PT.is] using zM4 y)
  have e:r=decide (x=y):=by
   rw[Bool.eq_iff_iff,h2,zMY]
   simp
  rw[← e]
  exact h1
 same x:=by simp [Instr.sameBits,idV]
variable {o : Op} {ra ops : AV} {B id m : Nat}
def zA2 (l:List Op):List Eid:=l.flatMap fun o=>if o.kd=1 then o.sp.ids else []
structure IsHist (N:Mem) (B id m:Nat) (ops:AV) (l:List Op):Prop where
 hg:N.get id=some (.row false [ops,.mp m])
 sm:SlM N 17 isOp ops l
 mg:∃ obj,N.get m=some obj∧IsSet idA (BL true) obj (zA2 l)
 ib:B≤id
 mb:B≤m
 ob:∀ j,rowOf ops=some j→B≤j
 ne:id≠m
 n1:rowOf ops≠some id
 n2:rowOf ops≠some m
theorem IsHist.keep {N:Mem}(h:IsHist M B id m ops l)(k:∀ j,j<M.size→N.get j=M.get j):IsHist N B id m ops l:=by
 exact zB0m
def zB9 (l:List Op)(o:Op)(x:Eid):Bool:=decide (x∈zA2 l)&&x.hd.lb.leq o.hd.lb
theorem zME (p:Prop)[Decidable p]:(if p then BL true else .sc (.bool false))=BL (decide p):=by
 by_cases h:p <;> simp [h]
theorem zMJ (hH:IsHist M B id m ops l)(hR:Sl 1 zA3 ra o.rs)(wf:Wf M)(hw:M.wm≤M.size)(k:∀ N,Kept M N→Q (BL (zB9 l o x)) N) :
  W3 (zCN fuel (d+2) 148 [.ptr id 0,.agg (opR o ra),idA x] M) Q:=by
 have hg:=hH.hg
 obtain⟨obj,mg,hset⟩:=hH.mg
 have li:=Mem.get_lt hg
 have lm:=Mem.get_lt mg
 have mg2:((M.add (.row false (opR o ra))).add (.row false (idR x))).get m=some obj:=by
  rw[get_add (wf.add _) _ _ (by rw[add_size];omega),get_add wf _ _ lm];exact mg
 have hlk:=lk_set zET (z:=.bool false) mg2 hset x
 rw[zME] at hlk
 have hle:=fun M=>@zCZ fuel d x.hd.lb o.hd.lb M
 have one_mp:oneA (.mp m)=true:=rfl
 have kk:=(((Kept.refl wf).add (.row false (opR o ra))).add (.row false (idR x)))
 unfold zB9 at k
 refine call_0 tf148 rfl (by simp [a148]) fun b' ht hx=>?_
 obtain⟨h0,h1,h2⟩:=hx3 hx
 clear hx
 simp only[a148,c148] at ht ⊢
 cases q:decide (x∈zA2 l) with
 | false =>
  rw[q] at hlk
  simp only[q,Bool.false_and] at k
  simp (disch:=try exact SX) only[RV,seval,h0,h1,h2,hg,x_lk,hlk]
  exact k _ kk
 | true =>
  rw[q] at hlk
  simp only[q,Bool.true_and] at k
  simp (disch:=try exact SX) only[RV,seval,h0,h1,h2,hg,x_lk,hlk,hle]
  exact k _ kk
theorem zNE {bh bo:Nat}(hH:IsHist M B id m ops l)(hR:Sl 1 zA3 ra o.rs)(wf:Wf M)(hw:M.wm≤M.size)(hb:M.get bh=some (.row false [.ptr id 0]))(hbo:M.get bo=some (.row false (opR o ra)))(k:∀ N,Kept M N→Q (BL (!zB9 l o x)) N) :
  W3 (zCN fuel (d+3) 158 [idA x,.ptr bh 0,.ptr bo 0] M) Q:=by
 have lb:=Mem.get_lt hb
 have lbo:=Mem.get_lt hbo
 refine call_0 tf158 rfl (by simp [a158]) fun b' ht hx=>?_
 obtain⟨h0,h1,h2⟩:=hx3 hx
 clear hx
 simp only[a158,c158] at ht ⊢
 simp (disch:=try exact SX) only[RV,seval,h0,h1,h2,hb,hbo]
 refine zMJ (d:=d) (B:=B) (m:=m) (ops:=ops) (hH.keep fun j hj=>get_add wf _ _ hj) hR (wf.add _) (by rw[add_size];show M.wm≤_;omega) fun N hN=>?_
 simp (disch:=try exact SX) only[RV,seval]
 exact k _ (((Kept.refl wf).add _).trans hN)
def allB (l:List Op)(o:Op):Bool:=o.sp.ids.all fun x=>zB9 l o x
theorem zH1 {α:Type}(p:α→Bool)(l:List α):(l.any fun x => !p x) = !l.all p:=by
 exact zB0Q
theorem zNF (hH:IsHist M B id m ops l)(hR:Sl 1 zA3 ra o.rs)(ho:o.ok)(hm:o.may=true)(hf:300<fuel)(wf:Wf M)(hw:M.wm≤M.size)(k:∀ N,Kept M N→Q (BL (allB l o)) N) :
  W3 (zCN fuel (d+7) 151 [.ptr id 0,.agg (opR o ra)] M) Q:=by
 have hb:=Spn.may_le (may_sp hm)
 obtain⟨r,hr,hn⟩:=zDW (fuel:=fuel) (d:=d) ho.2.2.2.1 (may_sp hm) (by omega)
 have il:=zEV o.sp
 have ea:(o.sp.ids.any fun x => !zB9 l o x) = !allB l o:=zH1 _ _
 refine call_0 tf151 rfl (by simp [a151]) fun b' ht hx=>?_
 obtain⟨h0,h1⟩:=hx2 hx
 clear hx
 simp only[a151,c151] at ht ⊢
 simp (disch:=try exact SX) only[RV,seval,h0,h1,hn]
 have kA:=((Kept.refl wf).add (.row false [.ptr id 0])).add (.row false (opR o ra))
 have wA:=kA.wf
 have gA:((M.add (.row false [.ptr id 0])).add (.row false (opR o ra))).get M.size=some (.row false [.ptr id 0]):=by simp (disch:=try exact SX) only[RV]
 have gB:((M.add (.row false [.ptr id 0])).add (.row false (opR o ra))).get (M.size+1)=some (.row false (opR o ra)):=by simp (disch:=try exact SX) only[RV]
 have sA:((M.add (.row false [.ptr id 0])).add (.row false (opR o ra))).size=M.size+2:=rfl
 generalize (M.add (.row false [.ptr id 0])).add (.row false (opR o ra))=X at *
 refine has_0 (st:=4) (ag:=true) (n:=d+4) (first:=[]) (cap:=[.ptr M.size 0,.ptr (M.size+1) 0]) tf149 tf157 (by simp) zCO hr (by omega) (by omega) (p:=fun x => !zB9 l o x) wA (fun n hn=>by rw[sA] at hn;simp (disch:=try exact SX) only[RV]) (fun r x hr _ N Q' hk hQ=>?_) fun N hk=>?_
 ·obtain⟨rfl,_⟩:=hr
  refine zNE (d:=d+1) (B:=B) (m:=m) (ops:=ops) (hH.keep fun j hj=>(hk.get j (by omega)).trans (kA.get j hj)) hR hk.wf (by rw[hk.wm,kA.wm];have:=hk.le;omega) ((hk.get _ (by omega)).trans gA) ((hk.get _ (by omega)).trans gB) fun N' hk'=>hQ N' (hk.trans hk')
 ·rw[ea]
  simp (disch:=try exact SX) only[RV,seval]
  rw[Bool.not_not]
  exact k _ (kA.trans hk)
def remE (l:List Op)(o:Op):Int:=if allB l o then (if o.sp.f.hd.lb=o.hd.lb then 0 else 2) else 6
def raiE (l:List Op)(o:Op):Int:=if allB l o then (if chfE l o=0∧chfB l o=true then 0 else 2) else 6
theorem zLT (hH:IsHist M B id m ops l)(hR:Sl 1 zA3 ra o.rs)(ho:o.ok)(hm:o.may=true)(hf:300<fuel)(wf:Wf M)(hw:M.wm≤M.size)(k:∀ N,Kept M N→Q (I64 (remE l o)) N) :
  W3 (zCN fuel (d+8) 124 [.ptr id 0,.agg (opR o ra)] M) Q:=by
 unfold remE at k
 refine call_0 tf124 rfl (by simp [a124]) fun b' ht hx=>?_
 obtain⟨h0,h1⟩:=hx2 hx
 clear hx
 simp only[a124,c124] at ht ⊢
 simp (disch:=try exact SX) only[RV,seval,h0,h1]
 refine zNF (d:=d) (B:=B) (m:=m) (ops:=ops) (hH.keep fun j hj=>get_add wf _ _ hj) hR ho hm hf (wf.add _) (by rw[add_size];show M.wm≤_;omega) fun N hN=>?_
 have hg:=hN.get M.size (by rw[add_size];omega)
 rw[get_add_new wf _ _ (Nat.le_refl _) (Nat.lt_succ_self _)] at hg
 have lg:=Mem.get_lt hg
 have kN:=((Kept.refl wf).add _).trans hN
 cases q1:allB l o <;> simp only[q1,if_true,Bool.false_eq_true,if_false] at k
 ·exact zB0M
 ·cases q2:decide (o.sp.f.hd.lb=o.hd.lb)
  ·rw[if_neg (of_decide_eq_false q2)] at k
   simp (disch:=try exact SX) only[RV,seval,hg,↓pLbN,zB0,ETA,q2]
   exact k _ kN
  ·rw[if_pos (of_decide_eq_true q2)] at k
   simp (disch:=try exact SX) only[RV,seval,hg,↓pLbN,zB0,ETA,q2]
   exact k _ kN
theorem zN6 (hH:IsHist M B id m ops l)(hl:l.length≤40000)(hR:Sl 1 zA3 ra o.rs)(ho:o.ok)(hm:o.may=true)(hf:l.length+300<fuel)(wf:Wf M)(hw:M.wm≤M.size)(k:∀ N,Kept M N→Q (I64 (raiE l o)) N) :
  W3 (zCN fuel (d+11) 125 [.ptr id 0,.agg (opR o ra)] M) Q:=by
 unfold raiE at k
 refine call_0 tf125 rfl (by simp [a125]) fun b' ht hx=>?_
 obtain⟨h0,h1⟩:=hx2 hx
 clear hx
 simp only[a125,c125] at ht ⊢
 simp (disch:=try exact SX) only[RV,seval,h0,h1]
 refine zNF (d:=d+3) (B:=B) (m:=m) (ops:=ops) (hH.keep fun j hj=>get_add wf _ _ hj) hR ho hm (by omega) (wf.add _) (by rw[add_size];show M.wm≤_;omega) fun N hN=>?_
 have hg:=hN.get M.size (by rw[add_size];omega)
 rw[get_add_new wf _ _ (Nat.le_refl _) (Nat.lt_succ_self _)] at hg
 have lg:=Mem.get_lt hg
 have kN:=((Kept.refl wf).add _).trans hN
 have hH':IsHist N B id m ops l:=hH.keep fun j hj=>kN.get j hj
 have hg2:=hH'.hg
 have li':=Mem.get_lt hg2
 cases q1:allB l o <;> simp only[q1,if_true,Bool.false_eq_true,if_false] at k
 ·exact zB0M
 ·simp (disch:=try exact SX) only[RV,seval,h0,hg,hg2]
  refine zKN (d:=d) (l:=l) (.inr (hH'.sm.keep fun j hj=>rfl)) hl (by omega) hR ho (by rw[lo_wf];exact hN.wf) fun N2 hN2=>?_
  have k2:=kN.trans hN2.bk
  have hd:N2.dirty=false:=hN2.di
  by_cases q2:chfE l o=0
  ·cases q3:chfB l o
   ·rw[if_neg (by simp [q2,q3])] at k
    simp (disch:=try exact SX) only[RV,seval,hd,q2]
    exact k _ k2
   ·rw[if_pos ⟨q2,q3⟩] at k
    simp (disch:=try exact SX) only[RV,seval,hd,q2]
    exact k _ k2
  ·rw[if_neg (by simp [q2])] at k
   have q2':decide (chfE l o=0)=false:=decide_eq_false q2
   simp (disch:=try exact SX) only[RV,seval,hd,q2']
   exact k _ k2
theorem zM5 {bh:Nat}(hH:IsHist M B id m ops l)(wf:Wf M)(hb:M.get bh=some (.row false [.ptr id 0]))(k:∀ N,Kept M N→Q (BL (decide (x∈zA2 l))) N) :
  W3 (zCN fuel (d+1) 150 [idA x,.ptr bh 0] M) Q:=by
 have lb:=Mem.get_lt hb
 have hg:=hH.hg
 have li:=Mem.get_lt hg
 obtain⟨obj,mg,hset⟩:=hH.mg
 have lm:=Mem.get_lt mg
 have mg2:(M.add (.row false (idR x))).get m=some obj:=by
  rw[get_add wf _ _ lm];exact mg
 have hlk:=lk_set zET (z:=.bool false) mg2 hset x
 rw[zME] at hlk
 refine call_0 tf150 rfl (by simp [a150]) fun b' ht hx=>?_
 obtain⟨h0,h1⟩:=hx2 hx
 clear hx
 simp only[a150,c150] at ht ⊢
 simp (disch:=try exact SX) only[RV,seval,h0,h1,hb,hg,x_lk,hlk]
 exact zB0s
def insE (l:List Op)(o:Op):Int :=
 if o.af≠Eid.z∧zB9 l o o.af=false then 6
 else if rofE o≠0∨(o.sp.ids.any fun x=>decide (x∈zA2 l))=true then 2
 else if 8192<((zA2 l).length:Int)+o.sp.n then 4 else 0
theorem zK2 {o:Op}{r:AV}(h:rofK o r):∃ rn ra,r = .tup [.agg (rnR rn ra),I64 (rofE o)]∧oneA ra=true∧cellsA ra=[ra]:=by
 unfold rofK at h
 split at h
 ·rename_i h0
  obtain⟨ra,rfl,hr⟩:=h
  exact⟨_,ra,by rw[h0],hr.one,hr.cells⟩
 ·exact⟨⟨⟨Eid.z,0⟩,Eid.z,[]⟩,NIL,h,rfl,rfl⟩
theorem zL6 (hH:IsHist M B id m ops l)(htl:(zA2 l).length≤1000000)(hR:Sl 1 zA3 ra o.rs)(ho:o.ok)(hm:o.may=true)(hf:300<fuel)(wf:Wf M)(hw:M.wm≤M.size)(k:∀ N,Kept M N→Q (I64 (insE l o)) N) :
  W3 (zCN fuel (d+9) 123 [.ptr id 0,.agg (opR o ra)] M) Q:=by
 have ora:=hR.one
 have li:=Mem.get_lt hH.hg
 have hb:=Spn.may_le (may_sp hm)
 obtain⟨r,hr,hn⟩:=zDW (fuel:=fuel) (d:=d+2) ho.2.2.2.1 (may_sp hm) (by omega)
 obtain⟨rr,hk,hof⟩:=zG0 (fuel:=fuel) (d:=d) hR ho (by omega)
 obtain⟨rn,r2,rfl,o2,c2⟩:=zK2 hk
 have il:=zEV o.sp
 have kA:=((Kept.refl wf).add (.row false [.ptr id 0])).add (.row false (opR o ra))
 have wA:=kA.wf
 have gA:((M.add (.row false [.ptr id 0])).add (.row false (opR o ra))).get M.size=some (.row false [.ptr id 0]):=by simp (disch:=try exact SX) only[RV]
 have gB:((M.add (.row false [.ptr id 0])).add (.row false (opR o ra))).get (M.size+1)=some (.row false (opR o ra)):=by simp (disch:=try exact SX) only[RV]
 have sA:((M.add (.row false [.ptr id 0])).add (.row false (opR o ra))).size=M.size+2:=rfl
 unfold insE at k
 refine call_0 tf123 rfl (by simp [a123]) fun b' ht hx=>?_
 obtain⟨h0,h1⟩:=hx2 hx
 clear hx
 simp only[a123,c123] at ht ⊢
 cases qz:decide (o.af=Eid.z) with
 | false =>
  simp (disch:=try exact SX) only[RV,seval,fillA,h0,h1,↓pIdN,zA4,ETA,qz]
  generalize (M.add (.row false [.ptr id 0])).add (.row false (opR o ra))=X at *
  refine zMJ (d:=d+6) (B:=B) (m:=m) (ops:=ops) (hH.keep fun j hj=>kA.get j hj) hR wA (by rw[kA.wm];omega) fun N hN=>?_
  cases qs:zB9 l o o.af with
  | false =>
   rw[if_pos ⟨of_decide_eq_false qz,qs⟩] at k
   simp (disch:=try exact SX) only[RV,seval]
   exact k _ (kA.trans hN)
  | true =>
   rw[if_neg (by simp [qs])] at k
   have wN:=hN.wf
   have g0:=(hN.get M.size (by omega)).trans gA
   have g1:=(hN.get (M.size+1) (by omega)).trans gB
   have kN:=kA.trans hN
   have l0:=Mem.get_lt g0
   have l1:=Mem.get_lt g1
   simp (disch:=try exact SX) only[RV,seval,g1,hof]
   exact zB03
 | true =>
  rw[if_neg (fun h=>h.1 (of_decide_eq_true qz))] at k
  simp (disch:=try exact SX) only[RV,seval,fillA,h0,h1,↓pIdN,zA4,ETA,qz]
  generalize (M.add (.row false [.ptr id 0])).add (.row false (opR o ra))=N at *
  have wN:=wA
  have g0:=gA
  have g1:=gB
  have kN:=kA
  have qs:=qz
  have l0:=Mem.get_lt g0
  have l1:=Mem.get_lt g1
  simp (disch:=try exact SX) only[RV,seval,hof]
  exact zB03
def zBG (l:List Op)(o:Op):Int:=if o.kd=1 then insE l o else if o.kd=2 then remE l o else raiE l o
def fitE (l:List Op)(o:Op):Int:=if zBG l o=0 then (if 2048≤l.length then 4 else 0) else zBG l o
theorem zMF {o:Op}(h:o.may=true)(ho:o.ok):o.kd=1∨o.kd=2∨o.kd=3:=by
 unfold Op.may at h
 simp only[Bool.and_eq_true,Bool.not_eq_true',decide_eq_false_iff_not] at h
 have:=ho.1
 omega
theorem zNI (hH:IsHist M B id m ops l)(htl:(zA2 l).length≤1000000)(hl:l.length≤40000)(hR:Sl 1 zA3 ra o.rs)(ho:o.ok)(hm:o.may=true)(hf:l.length+300<fuel)(wf:Wf M)(hw:M.wm≤M.size)(k:∀ N,Kept M N→Q (I64 (fitE l o)) N) :
  W3 (zCN fuel (d+12) 96 [.ptr id 0,.agg (opR o ra)] M) Q:=by
 have ora:=hR.one
 have li:=Mem.get_lt hH.hg
 have wA:=wf.add (.row false (opR o ra))
 have gA:(M.add (.row false (opR o ra))).get M.size=some (.row false (opR o ra)):=get_add_new wf _ _ (Nat.le_refl _) (Nat.lt_succ_self _)
 have hHA:IsHist (M.add (.row false (opR o ra))).lo B id m ops l:=hH.keep fun j hj=>get_add wf _ _ hj
 have onf:oneA (.sc .nilFunc)=true:=rfl
 have tail:∀ N2,Kept (M.add (.row false (opR o ra))).lo N2→True:=fun _ _=>trivial
 clear tail
 have done:∀ N2,Kept (M.add (.row false (opR o ra))).lo N2→Kept M ((M.add (.row false (opR o ra))).bk N2):=fun N2 h=>((Kept.refl wf).add _).trans h.bk
 have kq:∀ N2,Kept (M.add (.row false (opR o ra))).lo N2→IsHist ((M.add (.row false (opR o ra))).bk N2) B id m ops l:=fun N2 h=>hH.keep fun j hj=>(done N2 h).get j hj
 unfold fitE at k
 refine call_0 tf96 rfl (by simp [a96]) fun b' ht hx=>?_
 obtain⟨h0,h1⟩:=hx2 hx
 clear hx
 simp only[a96,c96] at ht ⊢
 have hw':(M.add (.row false (opR o ra))).lo.wm≤(M.add (.row false (opR o ra))).lo.size:=Nat.le_refl _
 rcases zMF hm ho with hk | hk | hk
 ·have n1:natOf (U8 o.kd)=some 1:=by rw[hk];rfl
  have ep:zBG l o=insE l o:=by unfold zBG;rw[if_pos hk]
  rw[ep] at k
  simp (disch:=try exact SX) only[RV,seval,fillA,h0,h1,n1,x_idx,idx_agg]
  refine zL6 (d:=d+2) hHA htl hR ho hm (by omega) wA hw' fun N2 hN2=>?_
  have hd:N2.dirty=false:=hN2.di
  have hq:=kq N2 hN2
  have kN:=done N2 hN2
  have hg:N2.get id=some (.row false [ops,.mp m]):=hq.hg
  have lg:id<N2.size:=Mem.get_lt hg
  have ll:=hq.sm.len
  by_cases q1:insE l o=0
  ·rw[if_pos q1] at k
   have q1':decide (insE l o=0)=true:=decide_eq_true q1
   exact zB05
  ·rw[if_neg q1] at k
   have q1':decide (insE l o=0)=false:=decide_eq_false q1
   exact zB0E
 ·have n1:natOf (U8 o.kd)=some 2:=by rw[hk];rfl
  have ep:zBG l o=remE l o:=by unfold zBG;rw[if_neg (by omega),if_pos hk]
  rw[ep] at k
  simp (disch:=try exact SX) only[RV,seval,fillA,h0,h1,n1,x_idx,idx_agg]
  refine zLT (d:=d+3) hHA hR ho hm (by omega) wA hw' fun N2 hN2=>?_
  have hd:N2.dirty=false:=hN2.di
  have hq:=kq N2 hN2
  have kN:=done N2 hN2
  have hg:N2.get id=some (.row false [ops,.mp m]):=hq.hg
  have lg:id<N2.size:=Mem.get_lt hg
  have ll:=hq.sm.len
  by_cases q1:remE l o=0
  ·rw[if_pos q1] at k
   have q1':decide (remE l o=0)=true:=decide_eq_true q1
   exact zB05
  ·rw[if_neg q1] at k
   have q1':decide (remE l o=0)=false:=decide_eq_false q1
   exact zB0E
 ·have n1:natOf (U8 o.kd)=some 3:=by rw[hk];rfl
  have ep:zBG l o=raiE l o:=by unfold zBG;rw[if_neg (by omega),if_neg (by omega)]
  rw[ep] at k
  simp (disch:=try exact SX) only[RV,seval,fillA,h0,h1,n1,x_idx,idx_agg]
  refine zN6 (d:=d) hHA hl hR ho hm (by omega) wA hw' fun N2 hN2=>?_
  have hd:N2.dirty=false:=hN2.di
  have hq:=kq N2 hN2
  have kN:=done N2 hN2
  have hg:N2.get id=some (.row false [ops,.mp m]):=hq.hg
  have lg:id<N2.size:=Mem.get_lt hg
  have ll:=hq.sm.len
  by_cases q1:raiE l o=0
  ·rw[if_pos q1] at k
   have q1':decide (raiE l o=0)=true:=decide_eq_true q1
   exact zB05
  ·rw[if_neg q1] at k
   have q1':decide (raiE l o=0)=false:=decide_eq_false q1
   exact zB0E
def zA1:List Op→List Op→Bool
 | _,[]=>true
 | pre,o::l=>o.may&&decide (fitE pre o=0)&&zA1 (pre++[o]) l
theorem zJ5 {pre:List Op}{o:Op}(h:fitE pre o=0)(hk:o.kd=1):∀ x∈o.sp.ids,x ∉ zA2 pre:=by
 have h1:zBG pre o=0:=by
  unfold fitE at h
  split at h
  ·assumption
  ·exact h
 unfold zBG at h1
 rw[if_pos hk] at h1
 unfold insE at h1
 intro x hx hin
 split at h1
 ·cases h1
 ·split at h1
  ·cases h1
  ·rename_i h2
   exact h2 (.inr (List.any_eq_true.2 ⟨x,hx,decide_eq_true hin⟩))
theorem zEL (l:List Op)(o:Op):zA2 (l++[o])=zA2 l++(if o.kd=1 then o.sp.ids else []):=by
 unfold zA2
 rw[List.flatMap_append]
 simp
structure HS (N:Mem) (B id m:Nat) (ops:AV) (l:List Op) (S:List Eid):Prop where
 hg:N.get id=some (.row false [ops,.mp m])
 sm:SlM N 17 isOp ops l
 mg:∃ obj,N.get m=some obj∧IsSet idA (BL true) obj S
 ib:B≤id
 mb:B≤m
 ob:∀ j,rowOf ops=some j→B≤j
 ne:id≠m
 n1:rowOf ops≠some id
 n2:rowOf ops≠some m
theorem HS.keep {N:Mem}{S:List Eid}(h:HS M B id m ops l S)(k:∀ j,j<M.size→N.get j=M.get j):HS N B id m ops l S:=by
 exact zB0m
theorem HS.of (h:IsHist M B id m ops l):HS M B id m ops l (zA2 l):=⟨h.hg,h.sm,h.mg,h.ib,h.mb,h.ob,h.ne,h.n1,h.n2⟩
theorem HS.to {S:List Eid}(h:HS M B id m ops l S)(e:S=zA2 l):IsHist M B id m ops l:=by
 subst e;exact⟨h.hg,h.sm,h.mg,h.ib,h.mb,h.ob,h.ne,h.n1,h.n2⟩
theorem of_0 (hS:Sl 17 isOp a l)(hl:l.length≤10000)(hf:l.length+400<fuel)(wf:Wf M)(hw:M.wm≤M.size)
  (kf:∀ N,Wf N→M.size≤N.size→(∀ j,j<M.size→N.get j=M.get j)→zA1 [] l=false→Q (.tup [.sc (.pointer none),BL false]) N)
  (kt:∀ N ops,Wf N→M.size+2≤N.size→N.wm=M.wm→(∀ j,j<M.size→N.get j=M.get j)→zA1 [] l=true→IsHist N M.size (M.size+1) M.size ops l→(zA2 l).length≤64*l.length→Q (.tup [.ptr (M.size+1) 0,BL true]) N) :
  W3 (zCN fuel (d+13) 63 [a] M) Q:=by
 have ll:=hS.len
 have cmp:cellsA (.mp M.size)=[.mp M.size]:=rfl
 refine call_0 tf63 rfl (by simp [a63]) fun b' ht hx=>?_
 have h0:=hx 0 _ rfl
 clear hx
 simp only[a63,c63] at ht ⊢
 have hH0:IsHist ((M.add (.map [] 0)).add (.row false [NIL,.mp M.size])) M.size (M.size+1) M.size NIL []:=⟨by simp (disch:=try exact SX) only[RV],SlM.nil,⟨.map [] 0,by simp (disch:=try exact SX) only[RV],IsSet.nil _ _⟩,by omega,by omega,fun j hj=>(by cases hj),by omega,fun hj=>(by cases hj),fun hj=>(by cases hj)⟩
 simp (disch:=try exact SX) only[RV,seval,fillA,h0,ll,x_mkmap,cmp]
 refine w_loop (I:=fun n t N => ∃ (i:Nat) (ops:AV),n=l.length - i∧i≤l.length∧nth undefA t 4 = .ptr (M.size+1) 0∧nth undefA t 12=a∧nth undefA t 13=I64 l.length∧nth undefA t 14=I64 i∧Wf N∧M.size+2≤N.size∧N.wm=M.wm∧(∀ j,j<M.size→N.get j=M.get j)∧IsHist N M.size (M.size+1) M.size ops (l.take i)∧zA1 [] l=zA1 (l.take i) (l.drop i)∧(zA2 (l.take i)).length≤64*i) (n:=l.length) (by omega) ?_ ?_
 ·refine⟨0,NIL,rfl,Nat.zero_le _, ?_, ?_, ?_, ?_,(wf.add _).add _,by simp only[add_size];omega,rfl,fun j hj=>by rw[get_add (wf.add _) _ _ (by rw[add_size];omega),get_add wf _ _ hj],hH0,rfl,Nat.le_refl 0⟩ <;> simp (disch:=try exact SX) only[RV,seval]
  all_goals first | rfl | assumption | done
 ·rintro n t N hlt ⟨i,ops,rfl,hi,g4,g12,g13,g14,w,sz,wm,kp,hH,inv,tl⟩
  simp only[ht] at hlt ⊢
  by_cases hc:i<l.length
  ·have q2:decide ((i:Int)<l.length)=true:=DT
   have w1:IntKind.i64.wrap ((i:Int)+1)=((i+1:Nat):Int):=WI
   obtain⟨r,hiad,hr,hrl⟩:=hS.iad i hc
   rw[drop_step l i hc,zA1,← take_snoc l i hc] at inv
   have hts:=zEL (l.take i) l[i]
   have hsn:=take_snoc l i hc
   rw[← hsn] at hts
   generalize l[i]=e at *
   obtain⟨ra,rfl,hra,hok⟩:=hr
   have ora:=hra.one
   have hck:=fun M=>@zBM fuel (d+5) e ra hra hok (by omega) M
   cases hm:e.may with
   | false =>
    rw[hm] at hck
    simp only[hm,Bool.false_and] at inv
    simp (disch:=try exact SX) only[RV,seval,g12,g13,g14,q2,hiad,hck,zAD]
    exact kf _ ((w.add _).upd _ _) (by simp only[upd_size,add_size];omega) (fun j hj=>by rw[get_upd_ne (w.add _) _ _ _ (by omega),get_add w _ _ (by omega)];exact kp j hj) inv
   | true =>
    rw[hm] at hck
    simp (disch:=try exact SX) only[RV,seval,g4,g12,g13,g14,q2,hiad,hck,zA6]
    have hwN:N.wm≤N.size:=by omega
    have kX:=((Kept.refl w).add (.row false (opR ⟨0,Hd.z,0,⟨Eid.z,0⟩,Eid.z,Lb.z,[]⟩ NIL))).upd hwN (Nat.le_refl _) (.row false (opR e ra))
    have hli:(l.take i).length=i:=by rw[List.length_take];omega
    refine zNI (d:=d) (B:=M.size) (m:=M.size) (ops:=ops) (l:=l.take i) (hH.keep kX.get) (by omega) (by omega) hra hok hm (by omega) kX.wf (kX.wml hwN) fun N2 hN2=>?_
    have kN:=kX.trans hN2
    have gE:N2.get N.size=some (.row false (opR e ra)):=by
     rw[hN2.get _ (by rw[upd_size,add_size];omega)]
     exact get_upd_eq (w.add _) _ _ (by rw[add_size];omega)
    have lE:=Mem.get_lt gE
    have w2:=kN.wf
    have hH2:=hH.keep kN.get
    have hg2:=hH2.hg
    have lg2:=Mem.get_lt hg2
    have sm2:=hH2.sm
    have oo2:=sm2.one
    have oc2:=sm2.cells
    have rl2:=sm2.rl
    have le2:=kN.le
    by_cases q3:fitE (l.take i) e=0
    ·have q3':decide (fitE (l.take i) e=0)=true:=decide_eq_true q3
     simp only[hm,q3',Bool.true_and] at inv
     simp (disch:=try exact SX) only[RV,seval,fillA,g4,q3',gE,hg2]
     refine⟨rows_lt rl2 (by omega), ?_⟩
     refine app1 w2 sm2 zKV (x:=e) ⟨ra,rfl,hra,hok⟩ rfl (by omega) (by omega) (by omega) fun ops' M3 m3 w3 le3 kp3 nw3 wm3 rl3 on3 oc3=>?_
     have gH3:M3.get (M.size+1)=some (.row false [ops,.mp M.size]):=(kp3 _ lg2 hH2.n1).trans hg2
     have gE3:M3.get N.size=some (.row false (opR e ra)):=(kp3 _ lE (fun h=>by have:=hH.sm.lt _ h;omega)).trans gE
     have l3:=Mem.get_lt gH3
     have lE3:=Mem.get_lt gE3
     simp (disch:=try exact SX) only[RV,seval,gH3,gE3,oc3]
     have ob':∀ j,rowOf ops'=some j→j≠M.size+1∧j≠M.size∧M.size≤j:=fun j hj=>by
      rcases nw3 j hj with h | h
      ·exact⟨fun e=>hH.n1 (e ▸ h),fun e=>hH.n2 (e ▸ h),hH.ob j h⟩
      ·omega
     have hS4:HS (M3.upd (M.size+1) (.row false [ops',.mp M.size])) M.size (M.size+1) M.size ops' (l.take (i+1)) (zA2 (l.take i)):=by
      obtain⟨obj,mg,hset⟩:=hH2.mg
      refine⟨get_upd_eq w3 _ _ l3, ?_,⟨obj, ?_,hset⟩,by omega,by omega,fun j hj=>(ob' j hj).2.2,by omega,fun hj=>(ob' _ hj).1 rfl,fun hj=>(ob' _ hj).2.1 rfl⟩
      ·rw[hsn]
       exact m3.keep fun j hj=>get_upd_ne w3 _ _ _ (fun e=>(ob' j hj).1 e.symm)
      ·rw[get_upd_ne w3 _ _ _ (by omega),kp3 _ (Mem.get_lt mg) hH2.n2];exact mg
     have kp4:∀ j,j<M.size→(M3.upd (M.size+1) (.row false [ops',.mp M.size])).get j=M.get j:=fun j hj=>by
      rw[get_upd_ne w3 _ _ _ (by omega),kp3 j (by omega) (fun h=>by have:=hH.ob j h;omega),kN.get j (by omega)];exact kp j hj
     have w4:=w3.upd (M.size+1) (.row false [ops',.mp M.size])
     have wm4:(M3.upd (M.size+1) (.row false [ops',.mp M.size])).wm=M.wm:=by
      show M3.wm=M.wm
      rw[wm3,kN.wm,wm]
     have gE4:(M3.upd (M.size+1) (.row false [ops',.mp M.size])).get N.size=some (.row false (opR e ra)):=by rw[get_upd_ne w3 _ _ _ (by omega)];exact gE3
     have sz4:M.size+2≤(M3.upd (M.size+1) (.row false [ops',.mp M.size])).size:=by rw[upd_size];omega
     have lE4:N.size<(M3.upd (M.size+1) (.row false [ops',.mp M.size])).size:=by rw[upd_size];exact lE3
     generalize M3.upd (M.size+1) (.row false [ops',.mp M.size])=X4 at *
     by_cases q4:e.kd=1
     ·have q4':decide (e.kd=1)=true:=decide_eq_true q4
      rw[if_pos q4] at hts
      obtain⟨r,hr,hn⟩:=zDW (fuel:=fuel) (d:=d+6) hok.2.2.2.1 (may_sp hm) (by omega)
      have hbn:=Spn.may_le (may_sp hm)
      have il:=zEV e.sp
      have rlen:=hr.len
      simp (disch:=try exact SX) only[RV,seval,q4',gE4,hn,rlen]
      refine w_loop (I:=fun nk tk Nk => ∃ (ik:Nat),nk=e.sp.ids.length - ik∧ik≤e.sp.ids.length∧nth undefA tk 4 = .ptr (M.size+1) 0∧nth undefA tk 12=a∧nth undefA tk 13=I64 l.length∧nth undefA tk 14=I64 i∧nth undefA tk 42=r∧nth undefA tk 43=I64 e.sp.ids.length∧nth undefA tk 44=I64 ik∧Wf Nk∧M.size+2≤Nk.size∧Nk.wm=M.wm∧(∀ j,j<M.size→Nk.get j=M.get j)∧HS Nk M.size (M.size+1) M.size ops' (l.take (i+1)) (zA2 (l.take i)++e.sp.ids.take ik)) (n:=e.sp.ids.length) (by omega) ?_ ?_
      ·refine⟨0,rfl,Nat.zero_le _, ?_, ?_, ?_, ?_, ?_, ?_, ?_,w4,sz4,wm4,kp4,(by rw[List.take_zero,List.append_nil];exact hS4)⟩ <;> simp (disch:=try exact SX) only[RV,seval,g4,g12,g13,g14]
       all_goals first | rfl | assumption | done
      ·rintro nk tk Nk hltk ⟨ik,rfl,hik,gk4,gk12,gk13,gk14,gk42,gk43,gk44,wk,szk,wmk,kpk,hSk⟩
       simp only[hlt] at hltk ⊢
       by_cases hck:ik<e.sp.ids.length
       ·have q5:decide ((ik:Int)<e.sp.ids.length)=true:=DT
        have w1k:IntKind.i64.wrap ((ik:Int)+1)=((ik+1:Nat):Int):=WI
        obtain⟨rx,hiadx,hrx,hrlx⟩:=hr.iad ik hck
        have fr:e.sp.ids[ik] ∉ zA2 (l.take i)++e.sp.ids.take ik:=by
         intro hin
         rcases List.mem_append.1 hin with h | h
         ·exact zJ5 q3 q4 _ (List.getElem_mem hck) h
         ·obtain⟨j,hj,he⟩:=List.getElem_of_mem h
          rw[List.getElem_take] at he
          rw[List.length_take] at hj
          rw[zGD,zGD] at he
          have:=congrArg Eid.c he
          simp only[Spn.at] at this
          omega
        have sn:=take_snoc e.sp.ids ik hck
        generalize e.sp.ids[ik]=x at *
        obtain⟨rfl,hxo⟩:=hrx
        have gk:=hSk.hg
        obtain⟨obj,mgk,hset⟩:=hSk.mg
        have lk:=Mem.get_lt gk
        have lmk:=Mem.get_lt mgk
        simp (disch:=try exact SX) only[RV,seval,gk4,gk42,gk43,gk44,q5,hiadx,gk,x_mu]
        have wk2:=(wk.add (.row false (idR ⟨⟨⟨0,0⟩,0⟩,0⟩))).upd Nk.size (.row false (idR x))
        have keep2:∀ j,j<Nk.size→((Nk.add (.row false (idR ⟨⟨⟨0,0⟩,0⟩,0⟩))).upd Nk.size (.row false (idR x))).get j=Nk.get j:=fun j hj=>by
         rw[get_upd_ne (wk.add _) _ _ _ (by omega),get_add wk _ _ hj]
        refine mu_set zET (l:=zA2 (l.take i)++e.sp.ids.take ik) wk2 (by simp only[upd_size,add_size];omega) ((keep2 _ lmk).trans mgk) hset x fun o' hs'=>?_
        rw[if_neg fr] at hs'
        have hS5:HS (((Nk.add (.row false (idR ⟨⟨⟨0,0⟩,0⟩,0⟩))).upd Nk.size (.row false (idR x))).upd M.size o') M.size (M.size+1) M.size ops' (l.take (i+1)) (zA2 (l.take i)++e.sp.ids.take (ik+1)):=by
         have u:∀ j,j<Nk.size→j≠M.size→(((Nk.add (.row false (idR ⟨⟨⟨0,0⟩,0⟩,0⟩))).upd Nk.size (.row false (idR x))).upd M.size o').get j=Nk.get j:=fun j hj hne=>by
          rw[get_upd_ne wk2 _ _ _ (fun e=>hne e.symm),keep2 j hj]
         refine⟨(u _ lk (by omega)).trans gk,hSk.sm.keep fun j hj=>u j (hSk.sm.lt j hj) (fun e=>hSk.n2 (e ▸ hj)),⟨o',get_upd_eq wk2 _ _ (by simp only[upd_size,add_size];omega), ?_⟩,hSk.ib,hSk.mb,hSk.ob,hSk.ne,hSk.n1,hSk.n2⟩
         rw[sn,← List.append_assoc]
         exact hs'
        have wm5:(((Nk.add (.row false (idR ⟨⟨⟨0,0⟩,0⟩,0⟩))).upd Nk.size (.row false (idR x))).upd M.size o').wm=M.wm:=wmk
        have kp5:∀ j,j<M.size→(((Nk.add (.row false (idR ⟨⟨⟨0,0⟩,0⟩,0⟩))).upd Nk.size (.row false (idR x))).upd M.size o').get j=M.get j:=fun j hj=>by
         rw[get_upd_ne wk2 _ _ _ (by omega),keep2 j (by omega)];exact kpk j hj
        simp (disch:=try exact SX) only[RV,seval,gk4,gk12,gk13,gk14,gk42,gk43,gk44,w1k]
        exact⟨hltk,e.sp.ids.length - (ik+1),by omega,ik+1,rfl,by omega,rfl,wk,by omega,wm5,kp5,hS5⟩
       ·obtain rfl:ik=e.sp.ids.length:=by omega
        have q5:decide ((e.sp.ids.length:Int)<e.sp.ids.length)=false:=DF
        rw[List.take_length] at hSk
        simp (disch:=try exact SX) only[RV,seval,gk4,gk12,gk13,gk14,gk43,gk44,w1]
        exact⟨hltk,l.length - (i+1),by omega,i+1,ops',rfl,by omega,rfl,wk,szk,wmk,kpk,hSk.to hts.symm,inv,by rw[hts,List.length_append];omega⟩
     ·have q4':decide (e.kd=1)=false:=decide_eq_false q4
      rw[if_neg q4,List.append_nil] at hts
      simp (disch:=try exact SX) only[RV,seval,g4,g12,g13,g14,q4',w1]
      exact⟨hlt,l.length - (i+1),by omega,i+1,ops',rfl,by omega,rfl,w4,sz4,wm4,kp4,hS4.to hts.symm,inv,by rw[hts];omega⟩
    ·have q3':decide (fitE (l.take i) e=0)=false:=decide_eq_false q3
     simp only[hm,q3',Bool.false_and,Bool.and_false] at inv
     simp (disch:=try exact SX) only[RV,seval,q3']
     exact kf _ w2 (by omega) (fun j hj=>(kN.get j (by omega)).trans (kp j hj)) inv
  ·obtain rfl:i=l.length:=by omega
   have q1:decide ((l.length:Int)<l.length)=false:=DF
   rw[List.drop_length,zA1] at inv
   rw[List.take_length] at hH tl
   simp (disch:=try exact SX) only[RV,seval,g4,g13,g14]
   exact kt _ _ w sz wm kp inv hH tl
theorem im88:imax 8 8=8:=by decide
theorem im80:imax 8 0=8:=by decide
theorem im08:imax 0 8=8:=by decide
theorem im00:imax 0 0=0:=by decide
theorem IMX:type_of% (And.intro im88 (And.intro im80 (And.intro im08 im00))):=And.intro im88 (And.intro im80 (And.intro im08 im00))
abbrev opH (o:Op):List AV:=[U8 o.kd,U8 o.hd.lb.lv,U32 o.hd.lb.cats,U8 o.hd.num,I64 o.sr,U8 o.sp.f.hd.lb.lv,U32 o.sp.f.hd.lb.cats,U8 o.sp.f.hd.num,I64 o.sp.f.c,I64 o.sp.n,U8 o.af.hd.lb.lv,U32 o.af.hd.lb.cats,U8 o.af.hd.num,I64 o.af.c,U8 o.to.lv,U32 o.to.cats]
def opK:NK Op Int where
 st:=17
 H:=opH
 f:=Op.rs
 T:=zA3
 ok:=Op.ok
 hl:=fun _=>rfl
 hz:=fun o y hy=>by
  simp only[opH,List.mem_cons,List.not_mem_nil,or_false] at hy
  rcases hy with rfl | rfl | rfl | rfl | rfl | rfl | rfl | rfl | rfl | rfl | rfl | rfl | rfl | rfl | rfl | rfl
  all_goals exact fz_sc_int _ _
 ft:=zCP
theorem zMG (h:Sl opK.st opK.is a l):Sl 17 isOp a l:=h
theorem zBU (hS:Sl 17 isOp a l)(hl:l.length≤10000)(hf:l.length+400<fuel)(M:Mem):zCN fuel (d+14) 39 [a] M=some (I64 (err (zA1 [] l)),M):=by
 apply w3_eq
 refine call_gc tf39 rfl (by simp only[icyL,fun M=>hS.icy M 12 (by omega)]) (by simp [a39]) fun b' ht hx=>?_
 have h0:=hx 0 _ rfl
 clear hx
 simp only[a39,c39] at ht ⊢
 simp (disch:=try exact SX) only[RV,seval,h0]
 refine of_0 (d:=d) hS hl hf Wf.mem0 (Nat.le_refl _) (fun N w s k hh=>?_) (fun N ops w s wm k hh _ _=>?_)
 ·rw[hh]
  simp (disch:=try exact SX) only[RV,seval,zAD,sc_ex]
 ·rw[hh]
  simp (disch:=try exact SX) only[RV,seval,zA6,sc_ex]
def zAS (l:List Op)(v:Lb):Int:=err (zA1 [] l&&v.may)
def lowL (l:List Op)(v:Lb):List Op:=l.filter fun o=>o.hd.lb.leq v
theorem zHE (l:List Op)(o:Op)(v:Lb):lowL (l++[o]) v=lowL l v++(if o.hd.lb.leq v then [o] else []):=by
 unfold lowL
 rw[List.filter_append]
 cases h:o.hd.lb.leq v <;> simp [h]
theorem zEY (l:List Op)(v:Lb):(lowL l v).length≤l.length:=List.length_filter_le _ _
def zNQ (l:List Op)(v:Lb)(r:AV):Prop:=∃ r1,r = .tup [r1,I64 (zAS l v)]∧Sl 17 isOp r1 (if zAS l v=0 then lowL l v else [])
theorem zLF (hS:Sl 17 isOp a l)(hl:l.length≤10000)(hf:l.length+400<fuel)(hd:∀ o∈l,o.rs.length≤1000000000):∃ r,zNQ l v r ∧ ∀ M,zCN fuel (d+15) 20 [a,lbA v] M=some (r,M):=by
 have ll:=hS.len
 have hck:=fun M=>zBU (fuel:=fuel) (d:=d) hS hl hf M
 have hlc:=fun M=>@zC3 fuel (d+13) v M
 refine gc_ex tf20 rfl (fun M=>by simp only[icyL,fun M=>hS.icy M 12 (by omega),fz_icyA (zAB v) (show 1<12 by omega)]) ?_
 refine call_gc tf20 rfl (by simp only[icyL,fun M=>hS.icy M 12 (by omega),fz_icyA (zAB v) (show 1<12 by omega)]) (by simp [a20]) fun b' ht hx=>?_
 obtain⟨h0,h1⟩:=hx2 hx
 clear hx
 simp only[a20,c20] at ht ⊢
 unfold zNQ zAS
 cases q1:zA1 [] l with
 | false =>
  rw[q1] at hck
  cases q2:v.may <;> rw[q2] at hlc
  all_goals
   exact zB0R
 | true =>
  rw[q1] at hck
  cases q2:v.may <;> rw[q2] at hlc
  ·exact zB0R
  ·simp (disch:=try exact SX) only[RV,seval,h0,h1,hck,hlc,zA6,pB_max2,BMM,IMX,ll]
   refine w_loop (I:=fun n t N => ∃ (i:Nat) (out:AV),n=l.length - i∧i≤l.length∧nth undefA t 3 = .ptr 0 0∧nth undefA t 4=out∧nth undefA t 17=a∧nth undefA t 18=I64 l.length∧nth undefA t 19=I64 i∧Wf N∧N.get 0=some (.row false (lbR v))∧N.wm=0∧opK.NN N 1 out (lowL (l.take i) v)) (n:=l.length) (by omega) ?_ ?_
   ·refine⟨0,NIL,rfl,Nat.zero_le _, ?_, ?_, ?_, ?_, ?_,Wf.mem0.add _,by simp (disch:=try exact SX) only[RV],rfl,NK.NN.nil _ _⟩ <;> simp (disch:=try exact SX) only[RV,seval]
    all_goals first | rfl | assumption | done
   ·rintro n t N hlt ⟨i,out,rfl,hi,g3,g4,g17,g18,g19,w,g,wm,hN⟩
    simp only[ht] at hlt ⊢
    by_cases hc:i<l.length
    ·have q3:decide ((i:Int)<l.length)=true:=DT
     have w1:IntKind.i64.wrap ((i:Int)+1)=((i+1:Nat):Int):=WI
     obtain⟨r,hiad,hr,hrl⟩:=hS.iad i hc
     have hls:=zHE (l.take i) l[i] v
     rw[← take_snoc l i hc] at hls
     have hlo:=hd l[i] (List.getElem_mem hc)
     have hll:=zEY (l.take i) v
     rw[List.length_take] at hll
     generalize l[i]=e at *
     obtain⟨ra,rfl,hra,hok⟩:=hr
     have ora:=hra.one
     have lN:=Mem.get_lt g
     have hle:=fun M=>@zCZ fuel (d+13) e.hd.lb v M
     have kX:=((Kept.refl w).add (.row false (opR ⟨0,Hd.z,0,⟨Eid.z,0⟩,Eid.z,Lb.z,[]⟩ NIL))).upd (by omega) (Nat.le_refl _) (.row false (opR e ra))
     cases q4:e.hd.lb.leq v with
     | false =>
      rw[q4] at hle
      rw[q4,if_neg (by decide),List.append_nil] at hls
      simp (disch:=try exact SX) only[RV,seval,g3,g4,g17,g18,g19,q3,hiad,w,g,hle,w1]
      exact⟨hlt,l.length - (i+1),by omega,i+1,out,rfl,by omega,rfl,rfl,wm,by rw[hls];exact hN.keep fun j a b=>kX.get j b⟩
     | true =>
      rw[q4] at hle
      rw[q4,if_pos rfl] at hls
      simp (disch:=try exact SX) only[RV,seval,g3,g4,g17,g18,g19,q3,hiad,g,hle]
      refine zLH (d:=d+12) hra hlo kX.wf (by rw[kX.wm];omega) fun a' N2 hN2 sm2 nw2=>?_
      have k2:=kX.trans hN2
      have w2:=k2.wf
      have oa:=sm2.one
      have ca:=sm2.cells
      have rr2:=hN.rows (show N.size≤N2.size+1 by have:=k2.le;omega)
      simp (disch:=try exact SX) only[RV,seval,fillA,rr2]
      have hsz:N.size+1≤N2.size:=hN2.le
      refine NK.NN.app (K:=opK) (B:=1) (l:=lowL (l.take i) v) (x:=e) (ra:=a') w2 (hN.keep fun j a b=>k2.get j b) ⟨rfl,oa,ca⟩ ⟨sm2,fun j hj=>by have:=nw2 j hj;simp only[upd_size,add_size] at this;omega,hok⟩ (fun j hj hj2=>by have h1:=hN.lt j hj;have h2:=nw2 j hj2;simp only[upd_size,add_size] at h2;omega) (by omega) (by omega) (by omega) fun o' M' hN' w' le' kp' nw' wm'=>?_
      simp (disch:=try exact SX) only[RV,seval,g3,g4,g17,g18,g19,w1]
      refine⟨hlt,l.length - (i+1),by omega,i+1,o',rfl,by omega,rfl,rfl,w', ?_, ?_,by rw[hls];exact hN'⟩
      ·rw[kp' 0 (by omega) (fun h=>by have:=hN.lt 0 h;omega),k2.get 0 lN];exact g
      ·rw[wm',k2.wm];exact wm
    ·obtain rfl:i=l.length:=by omega
     have q3:decide ((l.length:Int)<l.length)=false:=DF
     rw[List.take_length] at hN
     obtain⟨o',hz,hs⟩:=hN.frz (k:=11) (by omega)
     have hz:=hz N (fun _ _=>rfl)
     simp (disch:=try exact SX) only[RV,seval,g4,g18,g19,hz]
     exact⟨_,⟨o',rfl,zMG hs⟩,rfl⟩
end Go.Proofs.YtmkkecnafjhdmaaGreat
namespace Go.Ax
open Go
variable {α : Type} {M N : Mem} {st : Nat} {T : List AV → α → Prop} {v o : AV} {l : List α}
def SlR (M:Mem)(st:Nat)(T:List AV→α→Prop)(v:AV)(l:List α):Prop :=
 (v=NIL∧l=[]) ∨ ∃ (id:Nat) (rows:List (List AV)) (cap:Option Nat),v = .sl id 0 rows.length cap st∧M.rd id=some rows.flatten∧All2 T rows l ∧ ∀ r∈rows,r.length=st
theorem SlR.of (h:SlM M st T v l):SlR M st T v l:=by
 rcases h with h | ⟨id,rows,cap,rfl,_,hg,hA,hr⟩
 ·exact .inl h
 ·exact .inr ⟨id,rows,cap,rfl,rd_row hg,hA,hr⟩
theorem SlR.keep (h:SlR M st T v l)(k:∀ j,N.rd j=M.rd j):SlR N st T v l:=by
 rcases h with h | ⟨id,rows,cap,h1,h2,h3,h4⟩
 ·exact .inl h
 ·exact .inr ⟨id,rows,cap,h1,(k id).trans h2,h3,h4⟩
theorem SlR.icyk (h:SlR M st T v l)(wf:Wf M)(hT:FzT T){k:Nat}(hk:1<k):∃ v' M',Go.Ax.icy k M v=some (v',M')∧Sl st T v' l∧Wf M'∧M'.size=M.size∧(∀ j,M'.rd j=M.rd j) ∧ ∀ j,rowOf v≠some j→M'.get j=M.get j:=by
 obtain⟨k,rfl⟩:∃ j,k=j+1:=⟨k - 1,by omega⟩
 rcases h with⟨rfl,rfl⟩ | ⟨id,rows,cap,rfl,hg,hA,hr⟩
 ·exact⟨NIL,M,rfl,.inl ⟨rfl,rfl⟩,wf,rfl,fun _=>rfl,fun _ _=>rfl⟩
 ·have hfl:=flat_len hr
  have hcs:∀ N,icyL (Go.Ax.icy k) N rows.flatten=some (rows.flatten,N):=icyL_same (by omega) fun x hx N=>hT.celI.flat hA x hx N k (by omega)
  have hble:Nat.ble (0+rows.length*st) rows.flatten.length=true:=ble_t (by omega)
  have hsl:slot rows.flatten 0 (rows.length*st)=rows.flatten:=slot_all _ _ hfl.symm
  have hrd:=hg
  rw[rd_get] at hrd
  cases ho:M.get id with
  | none=>rw[ho] at hrd;cases hrd
  | some x =>
   rw[ho] at hrd
   cases x with
   | row b ds =>
    have e:ds=rows.flatten:=by simpa [rd1] using hrd
    subst e
    exact⟨_,M.upd id (.fro rows.flatten),by simp only[Go.Ax.icy,hg,hble,hcs,ho,put_upd wf (Mem.get_lt ho),hsl],.inr ⟨rows,cap,rfl,hA,hr⟩,wf.upd _ _,rfl,NK.rd_fro wf ho,fun j hj=>get_upd_ne wf _ _ _ (fun e=>hj (by rw[e];rfl))⟩
   | fro ds=>exact⟨_,M,by simp only[Go.Ax.icy,hg,hble,hcs,ho,hsl],.inr ⟨rows,cap,rfl,hA,hr⟩,wf,rfl,fun _=>rfl,fun _ _=>rfl⟩
   | _=>simp [rd1] at hrd
theorem SlR.hand {P:Program}{fs:Nat→Option AFunc}{fuel f n:Nat}{af:AFunc}{rest:List AV}{R:AV→Prop}{Q:AV→Mem→Prop}(h:fs f=some af)(hg:af.gc=1)(hN:SlR M st T o l)(wf:Wf M)(hT:FzT T)(hr:∀ M,icyL (Go.Ax.icy 12) M rest=some (rest,M))(hc:∀ o',Sl st T o' l → ∃ r,R r ∧ ∀ M,callN P fs fuel (n+1) (.fn f) (o'::rest) M=some (r,M))
  (k:∀ r M',R r→Wf M'→M'.size=M.size→SlR M' st T o l→(∀ j,rowOf o≠some j→M'.get j=M.get j)→Q r M'):W3 (callN P fs fuel (n+1) (.fn f) (o::rest) M) Q:=by
 obtain⟨o',M',i1,s1,w1,z1,r1,g1⟩:=hN.icyk wf hT (k:=12) (by omega)
 obtain⟨r,hR,hcall⟩:=hc o' s1
 refine⟨r,M',call_own (bs:=o'::rest) h hg (hcall mem0) (M3:=mem0) ?_ ?_,k r M' hR w1 z1 (hN.keep r1) g1⟩
 ·simp only[icyL,s1.icy mem0 12 (by omega),hr]
 ·simp only[icyL,i1,hr]
end Go.Ax
namespace Go.Proofs.YtmkkecnafjhdmaaGreat
open Go Go.Ax
variable {fuel : Nat} {M : Mem} {Q : AV → Mem → Prop} {d : Nat} {l : List Op} {a : AV} {x : Eid} {v : Lb}
theorem zFV {o:Op}{ra:AV}(hS:Sl 17 isOp a l)(hR:Sl 1 zA3 ra o.rs)(ho:o.ok)(hm:∀ o∈l,o.may=true)(hom:o.may=true)(hl:l.length≤40000)(hf:l.length+200<fuel)(M:Mem):zCN fuel (d+5) 95 [a,.agg (opR o ra)] M=some (BL (zAL l o),M):=by
 have hsm:=may_sp hom
 have hb:=Spn.may_le hsm
 obtain⟨rn,hrn,hall⟩:=zE1 (fuel:=fuel) (d:=d+3) ho.2.2.2.1 hsm (by omega)
 have lrn:=hrn.len
 have hle:=fun M=>zB6 (fuel:=fuel) (d:=d+2) o.hd.lb o.to ho.2.1.1 ho.2.2.2.2.2.1 (by omega) M
 have hil:o.sp.ids.length≤64:=by unfold Spn.ids;rw[List.length_map,List.length_range];omega
 have hiok:∀ y∈o.sp.ids,y.ok:=fun y hy=>by
  exact zB0I
 apply w3_eq
 refine call_gc tf95 rfl (by simp only[icyL,fun M=>hS.icy M 12 (by omega),zC9 hR.fz]) (by simp [a95]) fun b' ht hx=>?_
 obtain⟨h0,h1⟩:=hx2 hx
 clear hx
 simp only[a95,c95] at ht ⊢
 unfold zAL
 by_cases hk:o.kd=3
 ·have hk':=decide_eq_true hk
  rw[if_pos hk]
  generalize o.sp.ids=I at *
  simp (disch:=try exact SX) only[RV,seval,h1,hk',hall]
  refine w_loop (I:=fun n t N => ∃ (i:Nat),n=I.length - i∧i≤I.length∧nth undefA t 0=a∧nth undefA t 3 = .ptr 0 0∧nth undefA t 5=rn∧nth undefA t 6=I64 i∧Wf N∧N.get 0=some (.row false (opR o ra))∧(I.take i).all (fun id=>zBQ (made l id o.hd.lb) o.hd.lb)=true) (n:=I.length) (by omega) ?_ ?_
  ·refine⟨0,rfl,Nat.zero_le _, ?_, ?_, ?_, ?_,Wf.mem0.add _,by simp (disch:=try exact SX) only[RV],rfl⟩ <;> simp (disch:=try exact SX) only[RV,seval,h0]
   all_goals first | rfl | assumption | done
  ·rintro n t N hlt ⟨i,rfl,hi,g0,g3,g5,g6,w,g,hj⟩
   simp only[ht] at hlt ⊢
   have lg:=Mem.get_lt g
   by_cases hc:i<I.length
   ·have q1:decide ((i:Int)<I.length)=true:=DT
    have w1:IntKind.i64.wrap ((i:Int)+1)=((i+1:Nat):Int):=WI
    obtain⟨r,hiad,⟨hr1,_⟩,_⟩:=hrn.iad i hc
    subst hr1
    have hsn:=take_snoc I i hc
    have hmem:=List.getElem_mem hc
    generalize I[i]=y at *
    obtain⟨rf,hrf,hof⟩:=zJX (fuel:=fuel) (d:=d) (x:=y) (v:=o.hd.lb) hS hm (hiok y hmem) ho.2.1.1 hl hf
    have hml:=zEZ l y o.hd.lb
    have ham:=fun M=>zD5 (fuel:=fuel) (d:=d+3) hrf o.hd.lb (by omega) (by omega) M
    cases q2:zBQ (made l y o.hd.lb) o.hd.lb with
    | true =>
     rw[q2] at ham
     simp (disch:=try exact SX) only[RV,seval,g0,g3,g5,g6,lrn,q1,hiad,g,hof,ham,w1]
     exact zB0O
    | false =>
     rw[q2] at ham
     have e:(I.all fun id=>zBQ (made l id o.hd.lb) o.hd.lb)=false:=by
      exact zB0F
     simp (disch:=try exact SX) only[RV,seval,g0,g3,g5,g6,lrn,q1,hiad,g,hof,ham]
     rw[e,Bool.and_false]
   ·obtain rfl:i=I.length:=by omega
    have q1:decide ((I.length:Int)<I.length)=false:=DF
    rw[List.take_length] at hj
    simp (disch:=try exact SX) only[RV,seval,g3,g5,g6,lrn,g,hle]
    rw[hj,Bool.and_true]
 ·have hk':=decide_eq_false hk
  rw[if_neg hk]
  simp (disch:=try exact SX) only[RV,seval,h1,hk']
def isB (l:List Op)(x:Eid)(v:Lb):Bool:=((zAE l x v).all fun to=>to.leq v)&&x.hd.lb.leq v
theorem zJW (hS:Sl 17 isOp a l)(hm:∀ o∈l,o.may=true)(hx:x.ok)(hv:v.ok)(hl:l.length≤40000)(hf:l.length+200<fuel)(M:Mem):zCN fuel (d+4) 56 [a,idA x,lbA v] M=some (BL (isB l x v),M):=by
 obtain⟨rr,hrr,hra⟩:=zCT (fuel:=fuel) (d:=d) (x:=x) hS hm hv hl hf
 have lrr:=hrr.len
 have hrl:=zBK l x v
 have hle:=fun M=>zB6 (fuel:=fuel) (d:=d+1) x.hd.lb v hx.1.1 hv (by omega) M
 apply w3_eq
 refine call_gc tf56 rfl (by simp only[icyL,fun M=>hS.icy M 12 (by omega),fz_icyA (zAQ x) (show 1<12 by omega),fz_icyA (zAB v) (show 1<12 by omega)]) (by simp [a56]) fun b' ht hx=>?_
 obtain⟨h0,h1,h2⟩:=hx3 hx
 clear hx
 simp only[a56,c56] at ht ⊢
 unfold isB
 generalize zAE l x v=R at *
 simp (disch:=try exact SX) only[RV,seval,h0,h1,h2,hra]
 refine w_loop (I:=fun n t N => ∃ (i:Nat),n=R.length - i∧i≤R.length∧nth undefA t 4 = .ptr 0 0∧nth undefA t 5 = .ptr 1 0∧nth undefA t 7=rr∧nth undefA t 8=I64 i∧Wf N∧N.get 0=some (.row false (idR x))∧N.get 1=some (.row false (lbR v))∧(R.take i).all (fun to=>to.leq v)=true) (n:=R.length) (by omega) ?_ ?_
 ·refine⟨0,rfl,Nat.zero_le _, ?_, ?_, ?_, ?_,(Wf.mem0.add _).add _,by simp (disch:=try exact SX) only[RV],by simp (disch:=try exact SX) only[RV],rfl⟩ <;> simp (disch:=try exact SX) only[RV,seval]
  all_goals first | rfl | assumption | done
 ·rintro n t N hlt ⟨i,rfl,hi,g4,g5,g7,g8,w,m0,m1,hj⟩
  simp only[ht] at hlt ⊢
  have l0:=Mem.get_lt m0
  have l1:=Mem.get_lt m1
  by_cases hc:i<R.length
  ·have q1:decide ((i:Int)<R.length)=true:=DT
   have w1:IntKind.i64.wrap ((i:Int)+1)=((i+1:Nat):Int):=WI
   obtain⟨r,hiad,⟨hr1,hr2⟩,_⟩:=hrr.iad i hc
   subst hr1
   have hsn:=take_snoc R i hc
   have hmem:=List.getElem_mem hc
   generalize R[i]=y at *
   have hly:=fun M=>zB6 (fuel:=fuel) (d:=d+1) y v hr2 hv (by omega) M
   cases q2:y.leq v with
   | true =>
    rw[q2] at hly
    simp (disch:=try exact SX) only[RV,seval,g4,g5,g7,g8,lrr,q1,hiad,m0,m1,hly,w1]
    exact⟨hlt,R.length - (i+1),by omega,i+1,rfl,by omega,rfl,w,by rw[hsn,List.all_append,hj];simp [q2]⟩
   | false =>
    rw[q2] at hly
    have e:(R.all fun to=>to.leq v)=false:=by
     exact zB0F
    simp (disch:=try exact SX) only[RV,seval,g5,g7,g8,lrr,q1,hiad,m1,hly]
    rw[e,Bool.false_and]
  ·obtain rfl:i=R.length:=by omega
   have q1:decide ((R.length:Int)<R.length)=false:=DF
   rw[List.take_length] at hj
   simp (disch:=try exact SX) only[RV,seval,g4,g5,g7,g8,lrr,m0,m1,hle]
   rw[hj,Bool.true_and]
def zAZ (l:List Op):List El:=l.flatMap fun o=>if o.kd=1 then o.rn.elB else []
theorem zJO (l:List Op)(o:Op):zAZ (l++[o])=zAZ l++(if o.kd=1 then o.rn.elB else []):=by simp [zAZ]
theorem zMP (r:Rn):r.elB.map (·.id)=r.sp.ids:=by simp [Rn.elB,Spn.ids,Function.comp_def]
theorem zF0 (l:List Op):(zAZ l).map (·.id)=zA2 l:=by
 induction l with
 | nil=>rfl
 | cons o l ih =>
  have e1:zAZ (o::l)=(if o.kd=1 then o.rn.elB else [])++zAZ l:=by simp [zAZ]
  have e2:zA2 (o::l)=(if o.kd=1 then o.sp.ids else [])++zA2 l:=by simp [zA2]
  rw[e1,e2,List.map_append,ih]
  split
  ·rw[zMP];rfl
  ·rfl
theorem zLD (l:List Op):(zAZ l).length=(zA2 l).length:=by rw[← zF0,List.length_map]
theorem zHT (l:List Op)(x:Eid):decide (0≤whI (zAZ l) x)=decide (x∈zA2 l):=by
 rw[zND,← zF0,Bool.eq_iff_iff,List.any_eq_true,decide_eq_true_iff,List.mem_map]
 constructor
 ·rintro⟨e,he,h⟩;exact⟨e,he,of_decide_eq_true h⟩
 ·rintro⟨e,he,h⟩;exact⟨e,he,decide_eq_true h⟩
theorem zDD {l:List Op}(hr:∀ o∈l,o.kd=1→o.rn.may=true):(zAZ l).length≤64*l.length:=by
 induction l with
 | nil=>simp [zAZ]
 | cons o l ih =>
  have e1:zAZ (o::l)=(if o.kd=1 then o.rn.elB else [])++zAZ l:=by simp [zAZ]
  have:=ih fun p hp=>hr p (List.mem_cons_of_mem _ hp)
  rw[e1,List.length_append,List.length_cons]
  split
  ·rename_i hk
   have hb:=Spn.may_le (Rn.spB (hr o List.mem_cons_self hk))
   rw[zCC]
   omega
  ·simp;omega
theorem op_rn {o:Op}(h:o.ok):o.rn.ok:=⟨h.2.2.2.1,h.2.2.2.2.1,h.2.2.2.2.2.2⟩
theorem zCF (hS:Sl 17 isOp a l)(hr:∀ o∈l,o.kd=1→o.rn.may=true)(hl:l.length≤40000)(hf:l.length+300<fuel):∃ r,Sl 9 isEl r (zAZ l) ∧ ∀ M,zCN fuel (d+4) 53 [a] M=some (r,M):=by
 have ll:=hS.len
 refine gc_ex tf53 rfl (fun M=>by simp only[icyL,fun M=>hS.icy M 12 (by omega)]) ?_
 refine call_gc tf53 rfl (by simp only[icyL,fun M=>hS.icy M 12 (by omega)]) (by simp [a53]) fun b' ht hx=>?_
 have h0:=hx 0 _ rfl
 clear hx
 simp only[a53,c53] at ht ⊢
 simp (disch:=try exact SX) only[RV]
 refine w_loop (I:=fun n t N => ∃ (i:Nat) (o:AV),n=l.length - i∧i≤l.length∧nth undefA t 0=a∧nth undefA t 3=o∧nth undefA t 4=I64 i∧Wf N∧SlM N 9 isEl o (zAZ (l.take i))) (n:=l.length) (by omega) ?_ ?_
 ·exact zB0u
 ·rintro n t N hlt ⟨i,o,rfl,hi,g0,g3,g4,w,sm⟩
  simp only[ht] at hlt ⊢
  by_cases hc:i<l.length
  ·have q1:decide ((i:Int)<l.length)=true:=DT
   have w1:IntKind.i64.wrap ((i:Int)+1)=((i+1:Nat):Int):=WI
   obtain⟨r,hiad,hri,_⟩:=hS.iad i hc
   have hsn:=zJO (l.take i) l[i]
   rw[← take_snoc l i hc] at hsn
   have hmi:=hr l[i] (List.getElem_mem hc)
   have hlen:=zDD (l:=l.take i) fun o ho=>hr o (List.mem_of_mem_take ho)
   rw[List.length_take] at hlen
   generalize l[i]=e at *
   obtain⟨ra,rfl,hra,hok⟩:=hri
   have ora:=hra.one
   by_cases hk:e.kd=1
   ·have hk':=decide_eq_true hk
    rw[if_pos hk] at hsn
    have hrm:=hmi hk
    have hb:=Spn.may_le (Rn.spB hrm)
    simp (disch:=try exact SX) only[RV,seval,fillA,g0,g3,g4,ll,q1,hiad,hra.fz.cells,hk']
    have wX:Wf (((N.add (.row false (rnR ⟨⟨Eid.z,0⟩,Eid.z,[]⟩ NIL))).upd N.size (.row false (rnR e.rn ra))).add (.row false (rnR e.rn ra))):=((w.add _).upd _ _).add _
    have hsm:SlM (((N.add (.row false (rnR ⟨⟨Eid.z,0⟩,Eid.z,[]⟩ NIL))).upd N.size (.row false (rnR e.rn ra))).add (.row false (rnR e.rn ra))) 10 isRn (.sl (N.size+1) 0 1 (some 1) 10) [e.rn]:=slm_lit (rows:=[rnR e.rn ra]) (.cons ⟨ra,rfl,hra,op_rn hok⟩ .nil) (by simp) rfl (.inr rfl) (by rw[get_add_new ((w.add _).upd _ _) _ _ (by simp only[upd_size,add_size];omega) (by simp only[upd_size,add_size];omega)];rfl)
    refine SlR.hand (n:=d+2) (rest:=[]) (R:=fun r=>Sl 9 isEl r e.rn.elB) tf84 rfl (SlR.of hsm) wX zB1 (fun _=>rfl) (fun o' ho'=>?_) fun r N2 hrr w2 s2 n2 k2=>?_
    ·obtain⟨r,h1,h2⟩:=zIC (fuel:=fuel) (d:=d) ho' (fun r hr=>by rw[List.mem_singleton] at hr;rw[hr];exact hrm) (by simp) (by simp;omega)
     exact⟨r,by simpa [elsB] using h1,h2⟩
    ·have sm2:SlM N2 9 isEl o (zAZ (l.take i)):=sm.keep fun j hj=>by
      have hlj:=sm.lt j hj
      rw[k2 j (by simp only[rowOf];intro h;cases h;omega),get_add ((w.add _).upd _ _) _ _ (by simp only[upd_size,add_size];omega),get_upd_ne (w.add _) _ _ _ (by omega),get_add w _ _ hlj]
     have rl2:=rows_lt sm2.rl (Nat.le_refl N2.size)
     simp (disch:=try exact SX) only[RV,seval,rl2,hrr.fz.rows]
     refine w3_app (bytes:=56) w2 sm2 zFH.cel hrr (by omega) (by rw[zCC];omega) (by rw[zCC];omega) fun o' M' m' w' le' sz' kp' nw' wm' rl' on' oc'=>?_
     simp (disch:=try exact SX) only[RV,seval,g0,g3,g4,w',w1]
     exact⟨hlt,l.length - (i+1),by omega,i+1,o',rfl,by omega,rfl,rfl,by rw[hsn];exact m'⟩
   ·have hk':=decide_eq_false hk
    rw[if_neg hk,List.append_nil] at hsn
    simp (disch:=try exact SX) only[RV,seval,g0,g3,g4,ll,q1,hiad,hk',w1]
    exact⟨hlt,l.length - (i+1),by omega,i+1,o,rfl,by omega,rfl,rfl,w,by rw[hsn];exact sm⟩
  ·obtain rfl:i=l.length:=by omega
   have q1:decide ((l.length:Int)<l.length)=false:=DF
   rw[List.take_length] at sm
   obtain⟨r,hz,hsr⟩:=sm.frz zFH.cel (k:=12) (by omega)
   simp (disch:=try exact SX) only[RV,seval,g0,g3,g4,ll,hz]
   exact⟨r,hsr,rfl⟩
theorem zGO {o:Op}{ae:AV}{E:List El}(hE:Sl 9 isEl ae E)(hx:x.ok)(hv:v.ok)(hl:E.length≤1000000000)(hf:E.length+100<fuel)(M:Mem):zCN fuel (d+3) 92 [ae,idA x,lbA v] M=some (BL (decide (0≤whI E x)&&x.hd.lb.leq v),M):=by
 have hw:=fun M=>zBZ (fuel:=fuel) (d:=d+1) hE x hl (by omega) M
 have hle:=fun M=>zB6 (fuel:=fuel) (d:=d) x.hd.lb v hx.1.1 hv (by omega) M
 apply w3_eq
 refine call_gc tf92 rfl (by simp only[icyL,fun M=>hE.icy M 12 (by omega),fz_icyA (zAQ x) (show 1<12 by omega),fz_icyA (zAB v) (show 1<12 by omega)]) (by simp [a92]) fun b' ht hx=>?_
 obtain⟨h0,h1,h2⟩:=hx3 hx
 clear hx
 simp only[a92,c92] at ht ⊢
 cases q:decide (0≤whI E x) with
 | false=>simp (disch:=try exact SX) only[RV,seval,h0,h1,h2,hw,q,Bool.false_and]
 | true=>simp (disch:=try exact SX) only[RV,seval,h0,h1,h2,hw,q,hle]
theorem zBL:∀ {pre l:List Op},zA1 pre l=true → ∀ o∈l,o.may=true
 | _,[],_,_,h=>by cases h
 | pre,o::l,h,p,hp=>by
  simp only[zA1,Bool.and_eq_true] at h
  rcases List.mem_cons.1 hp with rfl | hp
  ·exact h.1.1
  ·exact zBL h.2 p hp
theorem zCY (a b:Int):zEX a b=0↔BitVec.ofInt 32 a &&& ~~~ BitVec.ofInt 32 b=0#32:=by
 have e:zEX a b=((BitVec.ofInt 32 a &&& ~~~ BitVec.ofInt 32 b).toNat:Int):=by
  have:=(BitVec.ofInt 32 a &&& ~~~ BitVec.ofInt 32 b).isLt
  unfold zEX
  generalize (BitVec.ofInt 32 a &&& ~~~ BitVec.ofInt 32 b).toNat=z at *
  simp [IntKind.wrap,IntKind.bits,IntKind.signed]
  omega
 rw[e,← BitVec.toNat_inj]
 simp
theorem zHU (x y z:BitVec 32)(h1:x &&& ~~~ y=0#32)(h2:y &&& ~~~ z=0#32):x &&& ~~~ z=0#32:=by
 apply BitVec.eq_of_getLsbD_eq
 intro i hi
 have a1:=congrArg (fun v=>BitVec.getLsbD v i) h1
 have a2:=congrArg (fun v=>BitVec.getLsbD v i) h2
 simp only[BitVec.getLsbD_and,BitVec.getLsbD_not,hi,BitVec.getLsbD_zero,decide_true,Bool.true_and] at a1 a2 ⊢
 cases hx:x.getLsbD i <;> cases hy:y.getLsbD i <;> cases hz:z.getLsbD i <;> simp_all
theorem zDU {a b c:Lb}(h1:a.leq b=true)(h2:b.leq c=true):a.leq c=true:=by
 unfold Lb.leq at *
 simp only[Bool.and_eq_true,decide_eq_true_eq,zCY] at *
 exact⟨Int.le_trans h1.1 h2.1,zHU _ _ _ h1.2 h2.2⟩
theorem zHC (a:Lb):a.leq a=true:=by
 unfold Lb.leq
 simp only[Bool.and_eq_true,decide_eq_true_eq,zCY]
 refine⟨Int.le_refl _, ?_⟩
 apply BitVec.eq_of_getLsbD_eq
 intro i hi
 simp only[BitVec.getLsbD_and,BitVec.getLsbD_not,hi,BitVec.getLsbD_zero,decide_true,Bool.true_and]
 cases (BitVec.ofInt 32 a.cats).getLsbD i <;> rfl
theorem zII (l:List Op)(v u:Lb)(h:u.leq v=true)(x:Eid):zAE (lowL l v) x u=zAE l x u:=by
 unfold zAE lowL
 rw[List.filter_filter]
 congr 1
 apply List.filter_congr
 intro o _
 cases hc:zB7 x u o with
 | false=>rfl
 | true =>
  have hl:o.hd.lb.leq u=true:=by
   unfold zB7 at hc
   simp only[Bool.and_eq_true] at hc
   exact hc.2
  rw[zDU hl h];rfl
theorem zLB (l:List Op)(v u:Lb)(h:u.leq v=true)(x:Eid):made (lowL l v) x u=made l x u:=by
 unfold made
 rw[zII l v u h]
theorem zGR (l:List Op)(v:Lb)(o:Op)(h:o.hd.lb.leq v=true):zAL (lowL l v) o=zAL l o:=by
 unfold zAL
 simp only[zLB l v _ h]
theorem zJ6 {pre:List Op}{o:Op}(h:fitE pre o=0):pre.length<2048:=by
 unfold fitE at h
 split at h
 ·split at h
  ·cases h
  ·omega
 ·rename_i h1;exact absurd h h1
theorem zCM {pre:List Op}{o:Op}(h:fitE pre o=0):zBG pre o=0:=by
 unfold fitE at h
 split at h
 ·assumption
 ·exact h
theorem zJ7 {pre:List Op}{o:Op}(hm:o.may=true)(h:fitE pre o=0):zAL pre o=true:=by
 by_cases hk:o.kd=3
 ·have h1:=zCM h
  unfold zBG at h1
  rw[if_neg (by omega),if_neg (by omega)] at h1
  unfold raiE at h1
  split at h1
  ·split at h1
   ·rename_i h2
    have:=h2.2
    unfold chfB at this
    simp only[Bool.and_eq_true] at this
    exact this.2
   ·cases h1
  ·cases h1
 ·unfold zAL
  rw[if_neg hk]
theorem zEF:∀ {pre l:List Op},zA1 pre l=true→zD6 pre l=true
 | _,[],_=>rfl
 | pre,o::l,h=>by
  simp only[zA1,Bool.and_eq_true,decide_eq_true_eq] at h
  simp only[zD6,Bool.and_eq_true]
  exact⟨⟨h.1.1,zJ7 h.1.1 h.1.2⟩,zEF h.2⟩
theorem zH6:∀ {pre l:List Op},zA1 pre l=true→l≠[]→pre.length+l.length≤2048
 | _,[],_,h=>absurd rfl h
 | pre,[o],h,_=>by
  simp only[zA1,Bool.and_eq_true,decide_eq_true_eq] at h
  have:=zJ6 h.1.2
  simp only[List.length_singleton]
  omega
 | pre,o::p::l,h,_=>by
  simp only[zA1,Bool.and_eq_true] at h
  have:=zH6 (pre:=pre++[o]) (l:=p::l) (by simp only[zA1,Bool.and_eq_true];exact h.2) (by simp)
  simp only[List.length_append,List.length_cons,List.length_nil] at this ⊢
  omega
theorem zB3 {l:List Op}(h:zA1 [] l=true):zAU l=0:=by
 have h1:¬2048<l.length:=by
  by_cases e:l=[]
  ·subst e;simp
  ·have:=zH6 h e
   simp only[List.length_nil] at this
   omega
 unfold zAU
 rw[if_neg h1,zEF h]
 rfl
end Go.Proofs.YtmkkecnafjhdmaaGreat
