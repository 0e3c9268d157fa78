/-
  Texts joined: Tc In SaA SaB SbD RuP RuG SaD SaC RfA RjA RjB RnMay RfB SaE SaF SbG SaG SaH SaI TpZ RgC SaJ SaK SaL SaM SaN SaO SbO RgD SbP SaQ SaR SaS SaT.
-/
import Derived.Test.YtginjhihkleaoaaGreatTb
import Derived.Test.YtginjhihkleaoaaGreatRows
import Derived.Test.YtginjhihkleaoaaGreatEg
import Derived.KernelRfl
import Derived.Lib.RuneBytes
import Derived.Lib.TrimUEq
set_option linter.unusedSimpArgs false
set_option linter.unusedVariables false
set_option maxHeartbeats 64000000
set_option maxRecDepth 100000
namespace Go.Proofs.YtginjhihkleaoaaGreat
open Go Go.Ax
theorem zPK:(tbl.map noX).map clr=msk (tbl.map noX) (tabList Tryz.prog 172 0):=by kernel_rfl
theorem tabOK:TabOK Glob.any Tryz.prog (fsT tbl):=tab_msk0 zPK (by kernel_rfl)
theorem ovlOK:OvlOK Tryz.prog :=
 ovlOK_of (g:=140) (tS:=79) (tR:=4) (by kernel_rfl) Tryz.func140 (by kernel_rfl) (by kernel_rfl) (by kernel_rfl) (by kernel_rfl) (by kernel_rfl)
theorem insFn:InsO (pursAt Tryz.prog 95) 3 4 :=
 ⟨by kernel_rfl,by kernel_rfl,by kernel_rfl,by kernel_rfl,by kernel_rfl,by kernel_rfl,by kernel_rfl,by kernel_rfl,by kernel_rfl,by kernel_rfl,by kernel_rfl⟩
theorem zO6:InsProg Tryz.prog :=
 insProg_of (g:=95) (t0:=79) (e0:=105) (ti0:=(Tryz.prog.info? 105).getD default) (O:=pursAt Tryz.prog 95) (g':=141)
  (z:=(zeroOf Tryz.prog 105).getD default) (tint:=3) (tb:=4) (by kernel_rfl) Tryz.func95 (by kernel_rfl) (by kernel_rfl) (by kernel_rfl) (by kernel_rfl) (by kernel_rfl) insFn (by kernel_rfl) (by kernel_rfl) (by kernel_rfl)
theorem insOK:InsOK Glob.any Tryz.prog:=insOK_of ovlOK zO6
abbrev U32 (n:Int):AV:=.sc (.int .u32 n)
structure Lb where
 lv:Int
 cats:Int
 deriving DecidableEq
structure Hd where
 lb:Lb
 num:Int
 deriving DecidableEq
structure Eid where
 hd:Hd
 c:Int
 deriving DecidableEq
structure Spn where
 f:Eid
 n:Int
 deriving DecidableEq
structure Op where
 kd:Int
 hd:Hd
 sr:Int
 sp:Spn
 af:Eid
 to:Lb
 rs:List Int
 deriving DecidableEq
structure Rn where
 sp:Spn
 af:Eid
 rs:List Int
 deriving DecidableEq
abbrev Lb.z:Lb:=⟨0,0⟩
abbrev Hd.z:Hd:=⟨⟨0,0⟩,0⟩
abbrev Eid.z:Eid:=⟨⟨⟨0,0⟩,0⟩,0⟩
def i64R (x:Int):Prop:=-9223372036854775808≤x∧x≤9223372036854775807
def Lb.ok (x:Lb):Prop:=0≤x.lv∧x.lv≤255∧0≤x.cats∧x.cats<4294967296
def Hd.ok (x:Hd):Prop:=x.lb.ok∧0≤x.num∧x.num≤255
def Eid.ok (x:Eid):Prop:=x.hd.ok∧i64R x.c
def Spn.ok (x:Spn):Prop:=x.f.ok∧i64R x.n
def i32s (l:List Int):Prop:=∀ x∈l, -2147483648≤x∧x≤2147483647
def Op.ok (o:Op):Prop:=(0≤o.kd∧o.kd≤255)∧o.hd.ok∧i64R o.sr∧o.sp.ok∧o.af.ok∧o.to.ok∧i32s o.rs
def Rn.ok (o:Rn):Prop:=o.sp.ok∧o.af.ok∧i32s o.rs
theorem Lb.z_ok:Lb.z.ok:=by unfold Lb.ok;decide
theorem Hd.z_ok:Hd.z.ok:=⟨Lb.z_ok,by decide,by decide⟩
theorem Eid.z_ok:Eid.z.ok:=⟨Hd.z_ok,by decide,by decide⟩
abbrev lbR (x:Lb):List AV:=[U8 x.lv,U32 x.cats]
abbrev hdR (x:Hd):List AV:=[U8 x.lb.lv,U32 x.lb.cats,U8 x.num]
abbrev idR (x:Eid):List AV:=[U8 x.hd.lb.lv,U32 x.hd.lb.cats,U8 x.hd.num,I64 x.c]
abbrev spR (x:Spn):List AV:=[U8 x.f.hd.lb.lv,U32 x.f.hd.lb.cats,U8 x.f.hd.num,I64 x.f.c,I64 x.n]
abbrev opR (o:Op)(ra:AV):List AV:=[U8 o.kd,U8 o.hd.lb.lv,U32 o.hd.lb.cats,U8 o.hd.num,I64 o.sr,U8 o.sp.f.hd.lb.lv,U32 o.sp.f.hd.lb.cats,U8 o.sp.f.hd.num,I64 o.sp.f.c,I64 o.sp.n,U8 o.af.hd.lb.lv,U32 o.af.hd.lb.cats,U8 o.af.hd.num,I64 o.af.c,U8 o.to.lv,U32 o.to.cats,ra]
abbrev rnR (o:Rn)(ra:AV):List AV:=[U8 o.sp.f.hd.lb.lv,U32 o.sp.f.hd.lb.cats,U8 o.sp.f.hd.num,I64 o.sp.f.c,I64 o.sp.n,U8 o.af.hd.lb.lv,U32 o.af.hd.lb.cats,U8 o.af.hd.num,I64 o.af.c,ra]
abbrev lbA (x:Lb):AV:=.agg (lbR x)
abbrev hdA (x:Hd):AV:=.agg (hdR x)
abbrev idA (x:Eid):AV:=.agg (idR x)
abbrev spA (x:Spn):AV:=.agg (spR x)
def zA3 (r:List AV)(x:Int):Prop:=r=[I32 x]
def isLb (r:List AV)(x:Lb):Prop:=r=lbR x∧x.ok
def zC3 (r:List AV)(x:Eid):Prop:=r=idR x∧x.ok
def zGC (r:List AV)(x:Spn):Prop:=r=spR x∧x.ok
def isOp (r:List AV)(x:Op):Prop:=∃ ra,r=opR x ra∧Sl 1 zA3 ra x.rs∧x.ok
def isRn (r:List AV)(x:Rn):Prop:=∃ ra,r=rnR x ra∧Sl 1 zA3 ra x.rs∧x.ok
theorem zBQ:FzT zA3:=fun r x h y hy=>by
 rw[h,List.mem_singleton] at hy;subst hy;exact fz_sc_int _ _
theorem zA8 (x:Lb):∀ y∈lbR x,Fz y:=fun y hy=>by
 simp only[lbR,List.mem_cons,List.not_mem_nil,or_false] at hy
 rcases hy with rfl | rfl <;> exact fz_sc_int _ _
theorem zAU (x:Eid):∀ y∈idR x,Fz y:=fun y hy=>by
 simp only[idR,List.mem_cons,List.not_mem_nil,or_false] at hy
 rcases hy with rfl | rfl | rfl | rfl <;> exact fz_sc_int _ _
theorem zE3 (x:Spn):∀ y∈spR x,Fz y:=fun y hy=>by
 simp only[spR,List.mem_cons,List.not_mem_nil,or_false] at hy
 rcases hy with rfl | rfl | rfl | rfl | rfl <;> exact fz_sc_int _ _
theorem zN8 {o:Op}{ra:AV}(h:Fz ra):∀ y∈opR o ra,Fz y:=fun y hy=>by
 simp only[opR,List.mem_cons,List.not_mem_nil,or_false] at hy
 rcases hy with rfl | rfl | rfl | rfl | rfl | rfl | rfl | rfl | rfl | rfl | rfl | rfl | rfl | rfl | rfl | rfl | rfl
 all_goals first | exact fz_sc_int _ _ | exact h
theorem zN9 {o:Rn}{ra:AV}(h:Fz ra):∀ y∈rnR o ra,Fz y:=fun y hy=>by
 simp only[rnR,List.mem_cons,List.not_mem_nil,or_false] at hy
 rcases hy with rfl | rfl | rfl | rfl | rfl | rfl | rfl | rfl | rfl | rfl
 all_goals first | exact fz_sc_int _ _ | exact h
theorem zEU:FzT isLb:=fun r x h=>by rw[h.1];exact zA8 x
theorem zCW:FzT zC3:=fun r x h=>by rw[h.1];exact zAU x
theorem zDD:FzT zGC:=fun r x h=>by rw[h.1];exact zE3 x
theorem zDJ:FzT isOp:=fun r x h=>by
 obtain⟨ra,rfl,hr,_⟩:=h
 exact zN8 hr.fz
theorem zB7:FzT isRn:=fun r x h=>by
 obtain⟨ra,rfl,hr,_⟩:=h
 exact zN9 hr.fz
theorem Lb.eta (x:Lb):Lb.mk x.lv x.cats=x:=rfl
theorem Hd.eta (x:Hd):Hd.mk x.lb x.num=x:=rfl
theorem Eid.eta (x:Eid):Eid.mk x.hd x.c=x:=rfl
theorem Spn.eta (x:Spn):Spn.mk x.f x.n=x:=rfl
theorem ETA:type_of% (And.intro @Lb.eta (And.intro @Hd.eta (And.intro @Eid.eta @Spn.eta))):=And.intro @Lb.eta (And.intro @Hd.eta (And.intro @Eid.eta @Spn.eta))
theorem zNF (a0:Int)(a1:Int):PT.iss [.int .u8,.int .u32] [.int .u8 a0,.int .u32 a1]:=by
 exact zB0G
def zMU (d:Option AV)(u v:AV):Option AV:=match u,v with
 | .agg [.sc (.int .u8 a0),.sc (.int .u32 a1)],.agg [.sc (.int .u8 b0),.sc (.int .u32 b1)]=>some (BL (decide (a0=b0)&&decide (a1=b1)))
 | _,_=>d
theorem pLbE {t:List AV}(i j:Nat):pureOp Tryz.prog t (mkO (.binOp .eql 25 (.tmp i) (.tmp j) 25) 4)=zMU (pureD Tryz.prog t (mkO (.binOp .eql 25 (.tmp i) (.tmp j) 25) 4)) (evalA t (.tmp i)) (evalA t (.tmp j)):=by
 unfold zMU
 split
 ·rename_i a0 a1 b0 b1 h1 h2
  obtain⟨r,hr,he⟩:=pEqS (P:=Tryz.prog) [.int .u8,.int .u32] false 25 25 4 i j (by kernel_rfl) (by decide) (by kernel_rfl) h1 h2 rfl rfl (zNF _ _) (zNF _ _)
  exact zB0Q
 ·rfl
theorem zA6 (d:Option AV)(a0 a1:Int)(b0 b1:Int):zMU d (.agg [.sc (.int .u8 a0),.sc (.int .u32 a1)]) (.agg [.sc (.int .u8 b0),.sc (.int .u32 b1)])=some (BL (decide ((⟨a0,a1⟩:Lb)=⟨b0,b1⟩))):=by
 simp only[zMU]
 congr 4
 rw[Bool.eq_iff_iff]
 simp []
theorem zNG (a0:Int)(a1:Int):PT.iss [.int .u8,.int .u32] [.int .u8 a0,.int .u32 a1]:=by
 exact zB0G
def zMV (d:Option AV)(u v:AV):Option AV:=match u,v with
 | .agg [.sc (.int .u8 a0),.sc (.int .u32 a1)],.agg [.sc (.int .u8 b0),.sc (.int .u32 b1)]=>some (BL (!(decide (a0=b0)&&decide (a1=b1))))
 | _,_=>d
theorem pLbN {t:List AV}(i j:Nat):pureOp Tryz.prog t (mkO (.binOp .neq 25 (.tmp i) (.tmp j) 25) 4)=zMV (pureD Tryz.prog t (mkO (.binOp .neq 25 (.tmp i) (.tmp j) 25) 4)) (evalA t (.tmp i)) (evalA t (.tmp j)):=by
 unfold zMV
 split
 ·rename_i a0 a1 b0 b1 h1 h2
  obtain⟨r,hr,he⟩:=pEqS (P:=Tryz.prog) [.int .u8,.int .u32] true 25 25 4 i j (by kernel_rfl) (by decide) (by kernel_rfl) h1 h2 rfl rfl (zNG _ _) (zNG _ _)
  exact zB0Q
 ·rfl
theorem zAO (d:Option AV)(a0 a1:Int)(b0 b1:Int):zMV d (.agg [.sc (.int .u8 a0),.sc (.int .u32 a1)]) (.agg [.sc (.int .u8 b0),.sc (.int .u32 b1)])=some (BL (!decide ((⟨a0,a1⟩:Lb)=⟨b0,b1⟩))):=by
 simp only[zMV]
 congr 4
 rw[Bool.eq_iff_iff]
 simp []
theorem zNC (a0:Int)(a1:Int)(a2:Int):PT.iss [.st [.int .u8,.int .u32],.int .u8] [.int .u8 a0,.int .u32 a1,.int .u8 a2]:=by
 simp only[PT.iss,PT.is]
 exact⟨[.int .u8 a0,.int .u32 a1],[.int .u8 a2],rfl,⟨[.int .u8 a0],[.int .u32 a1],rfl,⟨_,rfl⟩,⟨[.int .u32 a1],[],rfl,⟨_,rfl⟩,rfl⟩⟩,⟨[.int .u8 a2],[],rfl,⟨_,rfl⟩,rfl⟩⟩
def zMR (d:Option AV)(u v:AV):Option AV:=match u,v with
 | .agg [.sc (.int .u8 a0),.sc (.int .u32 a1),.sc (.int .u8 a2)],.agg [.sc (.int .u8 b0),.sc (.int .u32 b1),.sc (.int .u8 b2)]=>some (BL (decide (a0=b0)&&decide (a1=b1)&&decide (a2=b2)))
 | _,_=>d
theorem pHdE {t:List AV}(i j:Nat):pureOp Tryz.prog t (mkO (.binOp .eql 27 (.tmp i) (.tmp j) 27) 4)=zMR (pureD Tryz.prog t (mkO (.binOp .eql 27 (.tmp i) (.tmp j) 27) 4)) (evalA t (.tmp i)) (evalA t (.tmp j)):=by
 unfold zMR
 split
 ·rename_i a0 a1 a2 b0 b1 b2 h1 h2
  obtain⟨r,hr,he⟩:=pEqS (P:=Tryz.prog) [.st [.int .u8,.int .u32],.int .u8] false 27 27 4 i j (by kernel_rfl) (by decide) (by kernel_rfl) h1 h2 rfl rfl (zNC _ _ _) (zNC _ _ _)
  have e:r=(decide (a0=b0)&&decide (a1=b1)&&decide (a2=b2)):=by
   rw[Bool.eq_iff_iff,he]
   simp [and_assoc]
  rw[← e]
  exact hr
 ·rfl
theorem zAD (d:Option AV)(a0 a1 a2:Int)(b0 b1 b2:Int):zMR d (.agg [.sc (.int .u8 a0),.sc (.int .u32 a1),.sc (.int .u8 a2)]) (.agg [.sc (.int .u8 b0),.sc (.int .u32 b1),.sc (.int .u8 b2)])=some (BL (decide ((⟨⟨a0,a1⟩,a2⟩:Hd)=⟨⟨b0,b1⟩,b2⟩))):=by
 simp only[zMR]
 exact zB0J
theorem zND (a0:Int)(a1:Int)(a2:Int)(a3:Int):PT.iss [.st [.st [.int .u8,.int .u32],.int .u8],.int .i64] [.int .u8 a0,.int .u32 a1,.int .u8 a2,.int .i64 a3]:=by
 exact zB0d
def zMS (d:Option AV)(u v:AV):Option AV:=match u,v with
 | .agg [.sc (.int .u8 a0),.sc (.int .u32 a1),.sc (.int .u8 a2),.sc (.int .i64 a3)],.agg [.sc (.int .u8 b0),.sc (.int .u32 b1),.sc (.int .u8 b2),.sc (.int .i64 b3)]=>some (BL (decide (a0=b0)&&decide (a1=b1)&&decide (a2=b2)&&decide (a3=b3)))
 | _,_=>d
theorem pIdE {t:List AV}(i j:Nat):pureOp Tryz.prog t (mkO (.binOp .eql 31 (.tmp i) (.tmp j) 31) 4)=zMS (pureD Tryz.prog t (mkO (.binOp .eql 31 (.tmp i) (.tmp j) 31) 4)) (evalA t (.tmp i)) (evalA t (.tmp j)):=by
 unfold zMS
 split
 ·rename_i a0 a1 a2 a3 b0 b1 b2 b3 h1 h2
  obtain⟨r,hr,he⟩:=pEqS (P:=Tryz.prog) [.st [.st [.int .u8,.int .u32],.int .u8],.int .i64] false 31 31 4 i j (by kernel_rfl) (by decide) (by kernel_rfl) h1 h2 rfl rfl (zND _ _ _ _) (zND _ _ _ _)
  exact zB0w
 ·rfl
theorem zA0 (d:Option AV)(a0 a1 a2 a3:Int)(b0 b1 b2 b3:Int):zMS d (.agg [.sc (.int .u8 a0),.sc (.int .u32 a1),.sc (.int .u8 a2),.sc (.int .i64 a3)]) (.agg [.sc (.int .u8 b0),.sc (.int .u32 b1),.sc (.int .u8 b2),.sc (.int .i64 b3)])=some (BL (decide ((⟨⟨⟨a0,a1⟩,a2⟩,a3⟩:Eid)=⟨⟨⟨b0,b1⟩,b2⟩,b3⟩))):=by
 simp only[zMS]
 exact zB0J
theorem zNE (a0:Int)(a1:Int)(a2:Int)(a3:Int):PT.iss [.st [.st [.int .u8,.int .u32],.int .u8],.int .i64] [.int .u8 a0,.int .u32 a1,.int .u8 a2,.int .i64 a3]:=by
 exact zB0d
def zMT (d:Option AV)(u v:AV):Option AV:=match u,v with
 | .agg [.sc (.int .u8 a0),.sc (.int .u32 a1),.sc (.int .u8 a2),.sc (.int .i64 a3)],.agg [.sc (.int .u8 b0),.sc (.int .u32 b1),.sc (.int .u8 b2),.sc (.int .i64 b3)]=>some (BL (!(decide (a0=b0)&&decide (a1=b1)&&decide (a2=b2)&&decide (a3=b3))))
 | _,_=>d
theorem pIdN {t:List AV}(i j:Nat):pureOp Tryz.prog t (mkO (.binOp .neq 31 (.tmp i) (.tmp j) 31) 4)=zMT (pureD Tryz.prog t (mkO (.binOp .neq 31 (.tmp i) (.tmp j) 31) 4)) (evalA t (.tmp i)) (evalA t (.tmp j)):=by
 unfold zMT
 split
 ·rename_i a0 a1 a2 a3 b0 b1 b2 b3 h1 h2
  obtain⟨r,hr,he⟩:=pEqS (P:=Tryz.prog) [.st [.st [.int .u8,.int .u32],.int .u8],.int .i64] true 31 31 4 i j (by kernel_rfl) (by decide) (by kernel_rfl) h1 h2 rfl rfl (zNE _ _ _ _) (zNE _ _ _ _)
  exact zB0w
 ·rfl
theorem zA5 (d:Option AV)(a0 a1 a2 a3:Int)(b0 b1 b2 b3:Int):zMT d (.agg [.sc (.int .u8 a0),.sc (.int .u32 a1),.sc (.int .u8 a2),.sc (.int .i64 a3)]) (.agg [.sc (.int .u8 b0),.sc (.int .u32 b1),.sc (.int .u8 b2),.sc (.int .i64 b3)])=some (BL (!decide ((⟨⟨⟨a0,a1⟩,a2⟩,a3⟩:Eid)=⟨⟨⟨b0,b1⟩,b2⟩,b3⟩))):=by
 simp only[zMT]
 exact zB0J
theorem zNH (a0:Int)(a1:Int)(a2:Int)(a3:Int)(a4:Int):PT.iss [.st [.st [.st [.int .u8,.int .u32],.int .u8],.int .i64],.int .i64] [.int .u8 a0,.int .u32 a1,.int .u8 a2,.int .i64 a3,.int .i64 a4]:=by
 simp only[PT.iss,PT.is]
 exact⟨[.int .u8 a0,.int .u32 a1,.int .u8 a2,.int .i64 a3],[.int .i64 a4],rfl,⟨[.int .u8 a0,.int .u32 a1,.int .u8 a2],[.int .i64 a3],rfl,⟨[.int .u8 a0,.int .u32 a1],[.int .u8 a2],rfl,⟨[.int .u8 a0],[.int .u32 a1],rfl,⟨_,rfl⟩,⟨[.int .u32 a1],[],rfl,⟨_,rfl⟩,rfl⟩⟩,⟨[.int .u8 a2],[],rfl,⟨_,rfl⟩,rfl⟩⟩,⟨[.int .i64 a3],[],rfl,⟨_,rfl⟩,rfl⟩⟩,⟨[.int .i64 a4],[],rfl,⟨_,rfl⟩,rfl⟩⟩
def zMW (d:Option AV)(u v:AV):Option AV:=match u,v with
 | .agg [.sc (.int .u8 a0),.sc (.int .u32 a1),.sc (.int .u8 a2),.sc (.int .i64 a3),.sc (.int .i64 a4)],.agg [.sc (.int .u8 b0),.sc (.int .u32 b1),.sc (.int .u8 b2),.sc (.int .i64 b3),.sc (.int .i64 b4)]=>some (BL (decide (a0=b0)&&decide (a1=b1)&&decide (a2=b2)&&decide (a3=b3)&&decide (a4=b4)))
 | _,_=>d
theorem pSpE {t:List AV}(i j:Nat):pureOp Tryz.prog t (mkO (.binOp .eql 33 (.tmp i) (.tmp j) 33) 4)=zMW (pureD Tryz.prog t (mkO (.binOp .eql 33 (.tmp i) (.tmp j) 33) 4)) (evalA t (.tmp i)) (evalA t (.tmp j)):=by
 unfold zMW
 split
 ·rename_i a0 a1 a2 a3 a4 b0 b1 b2 b3 b4 h1 h2
  obtain⟨r,hr,he⟩:=pEqS (P:=Tryz.prog) [.st [.st [.st [.int .u8,.int .u32],.int .u8],.int .i64],.int .i64] false 33 33 4 i j (by kernel_rfl) (by decide) (by kernel_rfl) h1 h2 rfl rfl (zNH _ _ _ _ _) (zNH _ _ _ _ _)
  have e:r=(decide (a0=b0)&&decide (a1=b1)&&decide (a2=b2)&&decide (a3=b3)&&decide (a4=b4)):=by
   rw[Bool.eq_iff_iff,he]
   simp [and_assoc]
  rw[← e]
  exact hr
 ·rfl
theorem zBD (d:Option AV)(a0 a1 a2 a3 a4:Int)(b0 b1 b2 b3 b4:Int):zMW d (.agg [.sc (.int .u8 a0),.sc (.int .u32 a1),.sc (.int .u8 a2),.sc (.int .i64 a3),.sc (.int .i64 a4)]) (.agg [.sc (.int .u8 b0),.sc (.int .u32 b1),.sc (.int .u8 b2),.sc (.int .i64 b3),.sc (.int .i64 b4)])=some (BL (decide ((⟨⟨⟨⟨a0,a1⟩,a2⟩,a3⟩,a4⟩:Spn)=⟨⟨⟨⟨b0,b1⟩,b2⟩,b3⟩,b4⟩))):=by
 simp only[zMW]
 exact zB0J
variable {fuel : Nat} {M : Mem} {Q : AV → Mem → Prop} {d : Nat}
def zFK (a b:Int):Int:=IntKind.u32.wrap ((BitVec.ofInt 32 a &&& ~~~ BitVec.ofInt 32 b).toNat:Nat)
def Lb.leq (a b:Lb):Bool:=decide (a.lv≤b.lv)&&decide (zFK a.cats b.cats=0)
def Lb.may (a:Lb):Bool:=!decide (15<a.lv)
def Hd.may (h:Hd):Bool:=h.lb.may&&decide (h.num<8)
def Eid.may (x:Eid):Bool:=x.hd.may&&decide (1≤x.c)&&decide (x.c≤1099511627776)
def Spn.may (s:Spn):Bool:=s.f.may&&decide (1≤s.n)&&decide (s.n≤64)&&decide (s.f.c+s.n≤1099511627777)
def err (b:Bool):Int:=if b then 0 else 8
theorem zA4:err true=0:=rfl
theorem zAC:err false=8:=rfl
theorem zLR (P:Program)(ty:TypeId)(a b:Int):binV P .andNot ty .u32 a .u32 b=some (.int .u32 (zFK a b)):=by
 simp only[binV,binOp,ne_eq,not_true_eq_false,if_false,Op.intBits]
 rfl
theorem zCK (a b:Lb)(M:Mem):zCN fuel (d+1) 26 [lbA a,lbA b] M=some (BL (a.leq b),M):=by
 apply w3_eq
 refine call_gc tf26 rfl (by simp (disch:=try exact SX) only[RV,seval]) (by simp [a26]) fun b' ht hx=>?_
 obtain⟨h0,h1⟩:=hx2 hx
 clear hx
 simp only[a26,c26] at ht ⊢
 unfold Lb.leq
 by_cases q:a.lv≤b.lv
 ·have q1:decide (a.lv≤b.lv)=true:=decide_eq_true q
  simp (disch:=try exact SX) only[RV,seval,h0,h1,q1,zLR]
 ·have q1:decide (a.lv≤b.lv)=false:=decide_eq_false q
  simp (disch:=try exact SX) only[RV,seval,h0,h1,q1,Bool.false_and]
theorem zBR (a:Lb)(M:Mem):zCN fuel (d+1) 25 [lbA a] M=some (I64 (err a.may),M):=by
 apply w3_eq
 refine call_gc tf25 rfl (by simp (disch:=try exact SX) only[RV,seval]) (by simp [a25]) fun b' ht hx=>?_
 have h0:=hx 0 _ rfl
 clear hx
 simp only[a25,c25] at ht ⊢
 unfold Lb.may
 cases q:decide (15<a.lv) <;> simp (disch:=try exact SX) only[RV,seval,h0,q,zA4,zAC]
theorem zEN (b:Bool)(M:Mem):zCN fuel (d+1) 52 [BL b] M=some (I64 (err b),M):=by
 apply w3_eq
 refine call_gc tf52 rfl (by simp (disch:=try exact SX) only[RV]) (by simp [a52]) fun b' ht hx=>?_
 have h0:=hx 0 _ rfl
 clear hx
 simp only[a52,c52] at ht ⊢
 cases b <;> simp (disch:=try exact SX) only[RV,seval,h0,zA4,zAC]
theorem zBT (h:Hd)(M:Mem):zCN fuel (d+2) 33 [hdA h] M=some (I64 (err h.may),M):=by
 have hl:=fun M=>@zBR fuel d h.lb M
 have hr:=fun b M=>@zEN fuel d b M
 apply w3_eq
 refine call_gc tf33 rfl (by simp (disch:=try exact SX) only[RV,seval]) (by simp [a33]) fun b' ht hx=>?_
 have h0:=hx 0 _ rfl
 clear hx
 simp only[a33,c33] at ht ⊢
 unfold Hd.may
 cases hm:h.lb.may <;> rw[hm] at hl
 ·exact zB0C
 ·simp (disch:=try exact SX) only[RV,seval,h0,hl,hr,zA4]
theorem zFC (x:Eid)(M:Mem):zCN fuel (d+3) 112 [idA x] M=some (I64 (err x.may),M):=by
 have hl:=fun M=>@zBT fuel d x.hd M
 have hr:=fun b M=>@zEN fuel (d+1) b M
 apply w3_eq
 refine call_gc tf112 rfl (by simp (disch:=try exact SX) only[RV,seval]) (by simp [a112]) fun b' ht hx=>?_
 have h0:=hx 0 _ rfl
 clear hx
 simp only[a112,c112] at ht ⊢
 unfold Eid.may
 cases hm:x.hd.may <;> rw[hm] at hl
 ·exact zB0C
 ·cases q:decide (1≤x.c)
  ·simp (disch:=try exact SX) only[RV,seval,h0,hl,hr,zA4,q,Bool.false_and]
  ·simp (disch:=try exact SX) only[RV,seval,h0,hl,hr,zA4,q]
theorem zCU (s:Spn)(M:Mem):zCN fuel (d+4) 70 [spA s] M=some (I64 (err s.may),M):=by
 have hl:=fun M=>@zFC fuel d s.f M
 have hr:=fun b M=>@zEN fuel (d+2) b M
 apply w3_eq
 refine call_gc tf70 rfl (by simp (disch:=try exact SX) only[RV,seval]) (by simp [a70]) fun b' ht hx=>?_
 have h0:=hx 0 _ rfl
 clear hx
 simp only[a70,c70] at ht ⊢
 unfold Spn.may
 cases hm:s.f.may <;> rw[hm] at hl
 ·exact zB0C
 ·cases q1:decide (1≤s.n)
  ·simp (disch:=try exact SX) only[RV,seval,h0,hl,hr,zA4,q1,Bool.false_and]
  ·cases q2:decide (s.n≤64)
   ·simp (disch:=try exact SX) only[RV,seval,h0,hl,hr,zA4,q1,q2,Bool.false_and]
   ·have w:IntKind.i64.wrap (IntKind.i64.wrap (s.f.c+s.n) - 1)=s.f.c+s.n - 1:=by
     unfold Eid.may at hm
     simp only[Bool.and_eq_true,decide_eq_true_eq] at hm q1 q2
     rw[wrap_i64 (n:=s.f.c+s.n) (by omega) (by omega),wrap_i64 (by omega) (by omega)]
    have q3:decide (s.f.c+s.n - 1≤1099511627776)=decide (s.f.c+s.n≤1099511627777):=by
     exact zB0L
    simp (disch:=try exact SX) only[RV,seval,h0,hl,hr,zA4,q1,q2,w,q3]
def zC8 (x:Int):Bool:=(decide (0≤x)&&decide (x<55296)) || (decide (57343<x)&&decide (x≤1114111))
def okR (x:Int):Bool:=decide (x = -1) || zC8 x
def chkR (l:List Int):Int:=if 64<l.length then 4 else err (l.all okR)
theorem zLJ (x:Int)(M:Mem):zCN fuel (d+1) 149 [I32 x] M=some (BL (zC8 x),M):=by
 apply w3_eq
 refine call_gc tf149 rfl (by simp (disch:=try exact SX) only[RV]) (by simp [a149]) fun b' ht hx=>?_
 have h0:=hx 0 _ rfl
 clear hx
 simp only[a149,c149] at ht ⊢
 unfold zC8
 cases q1:decide (0≤x) <;> cases q2:decide (x<55296) <;> cases q3:decide (57343<x) <;> cases q4:decide (x≤1114111)
 all_goals simp (disch:=try exact SX) only[RV,seval,h0,q1,q2,q3,q4]
theorem zLM (x:Int)(M:Mem):zCN fuel (d+2) 148 [I32 x] M=some (BL (!okR x),M):=by
 have hv:=fun M=>@zLJ fuel d x M
 apply w3_eq
 refine call_gc tf148 rfl (by simp (disch:=try exact SX) only[RV]) (by simp [a148]) fun b' ht hx=>?_
 have h0:=hx 0 _ rfl
 clear hx
 simp only[a148,c148] at ht ⊢
 unfold okR
 cases q:decide (x = -1) <;> simp (disch:=try exact SX) only[RV,seval,h0,q,hv]
theorem zJU {α:Type}(p:α→Bool)(l:List α):(l.any fun x => !p x) = !l.all p:=by
 exact zB0Z
theorem zF5 {a:AV}{l:List Int}(hS:Sl 1 zA3 a l)(hf:100<fuel)(M:Mem):zCN fuel (d+5) 117 [a] M=some (I64 (chkR l),M):=by
 have ll:=hS.len
 apply w3_eq
 refine call_gc tf117 rfl (by simp (disch:=try exact SX) only[icyL,hS.fz.icy]) (by simp [a117]) fun b' ht hx=>?_
 have h0:=hx 0 _ rfl
 clear hx
 simp only[a117,c117] at ht ⊢
 unfold chkR
 by_cases q:64<l.length
 ·exact zB0R
 ·have q1:decide ((64:Int)<l.length)=false:=DF
  have hh:=fun M=>has_gc (P:=Tryz.prog) (fs:=fsT tbl) (fuel:=fuel) (l:=l) (ag:=false) (n:=d+2) tf150 tf166 (fun _=>rfl) zBQ hS (by omega) (by omega) (fz_fn0 148) (p:=fun x => !okR x) (fun r x hr _ M=>by
   obtain rfl:=hr
   exact @zLM fuel d x M) M
  rw[zJU] at hh
  cases hb:l.all okR <;> rw[hb] at hh <;> simp (disch:=try exact SX) only[RV,seval,h0,ll,q1,q,hh,if_false,zA4,zAC]
theorem zFV {a:AV}{l:List Int}(hS:Sl 1 zA3 a l)(hl:l.length≤1000000000)(wf:Wf M)
  (k:∀ a' M',Wf M'→M.size≤M'.size→(∀ j,j<M.size→M'.get j=M.get j)→SlM M' 1 zA3 a' l→(∀ id,rowOf a'=some id→M.size≤id)→M'.wm=M.wm→M'.dirty=M.dirty→Q a' M'):W3 (zCN fuel (d+1) 87 [a] M) Q :=
 clone_0 zBQ.cel tf87 Tryz.underlying34 hS (by omega) (by omega) wf k
def isR (n:Nat):Bool:=decide (n≤1114111)&&(decide (n<55296) || decide (57343<n))
def zAN (c:Nat):Nat × Nat:=if c<128 then (1,c) else if 192≤c∧c<224 then (2,c - 192) else if 224≤c∧c<240 then (3,c - 224) else if 240≤c∧c<248 then (4,c - 240) else (0,0)
def numN (n:Nat):List UInt8→Nat
 | []=>n
 | b::l=>numN (64*n+b.toNat % 64) l
def zDZ (n:Nat):List Nat:=if n<128 then [n] else if n<2048 then [192+n / 64,128+n % 64] else if n<65536 then [224+n / 4096,128+n / 64 % 64,128+n % 64] else [240+n / 262144,128+n / 4096 % 64,128+n / 64 % 64,128+n % 64]
def zAX (n:Nat):List UInt8:=(zDZ n).map UInt8.ofNat
def zAS (l:List UInt8):Option (Nat × Nat):=match l with
 | []=>none
 | c::tl=>if (zAN c.toNat).1=0∨(c::tl).length<(zAN c.toNat).1 then none
  else if isR (numN (zAN c.toNat).2 (tl.take ((zAN c.toNat).1 - 1)))=true∧zAX (numN (zAN c.toNat).2 (tl.take ((zAN c.toNat).1 - 1)))=(c::tl).take (zAN c.toNat).1 then
   some (numN (zAN c.toNat).2 (tl.take ((zAN c.toNat).1 - 1)),(zAN c.toNat).1) else none
theorem zDQ (a:Nat)(x:UInt8):UInt8.ofNat a=x↔a % 256=x.toNat:=by
 constructor
 ·rintro rfl;simp
 ·intro h
  apply UInt8.toNat_inj.1
  simp [h]
theorem zOP (n:Nat)(c:UInt8):zAX n=[c]↔n<128∧n=c.toNat:=by
 unfold zAX zDZ
 split
 ·simp [zDQ];omega
 ·split
  ·simp;omega
  ·split <;> simp <;> omega
theorem zOQ (n:Nat)(c x:UInt8):zAX n=[c,x]↔128≤n∧n<2048∧192+n / 64=c.toNat∧128+n % 64=x.toNat:=by
 unfold zAX zDZ
 split
 ·simp;omega
 ·split
  ·exact zB0z
  ·split <;> simp <;> omega
theorem bytes3 (n:Nat)(c x y:UInt8):zAX n=[c,x,y]↔2048≤n∧n<65536∧224+n / 4096=c.toNat∧128+n / 64 % 64=x.toNat∧128+n % 64=y.toNat:=by
 unfold zAX zDZ
 split
 ·simp;omega
 ·split
  ·simp;omega
  ·split
   ·exact zB0z
   ·simp;omega
theorem bytes4 (n:Nat)(c x y z:UInt8)(hn:n<2097152):zAX n=[c,x,y,z]↔65536≤n∧240+n / 262144=c.toNat∧128+n / 4096 % 64=x.toNat∧128+n / 64 % 64=y.toNat∧128+n % 64=z.toNat:=by
 unfold zAX zDZ
 split
 ·simp;omega
 ·split
  ·simp;omega
  ·split
   ·simp;omega
   ·exact zB0z
theorem zBL {n b0 b1 b2 b3:Nat}(h1:128≤b0)(h2:¬ (b0 / 32=6∧(1<n∧b1 / 64=2)))(h3:¬ (b0 / 16=14∧(1<n∧b1 / 64=2)∧(2<n∧b2 / 64=2)))(h4:¬ (b0 / 8=30∧(1<n∧b1 / 64=2)∧(2<n∧b2 / 64=2)∧(3<n∧b3 / 64=2))):Lib.decodeN n b0 b1 b2 b3=(65533,1):=by
 unfold Lib.decodeN
 rw[if_neg (by omega),if_neg h2,if_neg h3,if_neg h4]
theorem zG7 (c:UInt8)(tl:List UInt8):Lib.decodeL (c::tl)=(zAS (c::tl)).getD (65533,1):=by
 rw[Lib.decodeL_N]
 have hc:=c.toNat_lt
 simp only[List.getD_cons_zero,List.length_cons]
 by_cases a1:c.toNat<128
 ·have hh:zAN c.toNat=(1,c.toNat):=by simp [zAN,a1]
  simp only[zAS,hh,List.length_cons,Nat.sub_self,List.take_zero,numN,List.take_succ_cons]
  rw[if_neg (by omega),if_pos ⟨by simp [isR];omega,(zOP _ _).2 ⟨a1,rfl⟩⟩]
  unfold Lib.decodeN
  rw[if_pos a1];rfl
 by_cases a2:192≤c.toNat∧c.toNat<224
 ·have hh:zAN c.toNat=(2,c.toNat - 192):=by simp [zAN,a1,a2]
  simp only[zAS,hh,List.length_cons]
  match tl with
  | []=>rw[if_pos (by simp),zBL (by omega) (by simp) (by simp) (by simp)];rfl
  | x::tl =>
   have hx:=x.toNat_lt
   rw[if_neg (by simp)]
   simp only[Nat.reduceSub,List.take_succ_cons,List.take_zero,numN,zOQ,List.getD_cons_succ,List.getD_cons_zero,List.length_cons]
   by_cases a3:x.toNat / 64=2
   ·unfold Lib.decodeN
    rw[if_neg a1,if_pos (by omega)]
    by_cases a4:c.toNat % 32*64+x.toNat % 64 ≥ 128
    ·rw[if_pos a4,if_pos ⟨by simp [isR];omega,by omega⟩]
     simp;omega
    ·rw[if_neg a4,if_neg (by rintro⟨_,h⟩;omega)];rfl
   ·exact zB0r
 by_cases b2:224≤c.toNat∧c.toNat<240
 ·have hh:zAN c.toNat=(3,c.toNat - 224):=by unfold zAN;rw[if_neg a1,if_neg a2,if_pos b2]
  simp only[zAS,hh,List.length_cons]
  match tl with
  | []=>rw[if_pos (by simp),zBL (by omega) (by simp) (by simp) (by simp)];rfl
  | [x]=>rw[if_pos (by simp),zBL (by omega) (by omega) (by simp) (by simp)];rfl
  | x::y::tl =>
   have hx:=x.toNat_lt
   have hy:=y.toNat_lt
   rw[if_neg (by simp)]
   simp only[Nat.reduceSub,List.take_succ_cons,List.take_zero,numN,bytes3,List.getD_cons_succ,List.getD_cons_zero,List.length_cons]
   by_cases a3:x.toNat / 64=2∧y.toNat / 64=2
   ·obtain⟨a3,a5⟩:=a3
    unfold Lib.decodeN
    rw[if_neg a1,if_neg (by omega),if_pos (by omega)]
    have e:64*(64*(c.toNat - 224)+x.toNat % 64)+y.toNat % 64=c.toNat % 16*4096+x.toNat % 64*64+y.toNat % 64:=by omega
    rw[e]
    by_cases a4:c.toNat % 16*4096+x.toNat % 64*64+y.toNat % 64 ≥ 2048∧(c.toNat % 16*4096+x.toNat % 64*64+y.toNat % 64<55296∨(57344≤c.toNat % 16*4096+x.toNat % 64*64+y.toNat % 64∧c.toNat % 16*4096+x.toNat % 64*64+y.toNat % 64≤1114111))
    ·rw[if_pos a4,if_pos ⟨by simp [isR];omega,by omega⟩];rfl
    ·rw[if_neg a4,if_neg (by rintro⟨h',h⟩;simp [isR] at h';omega)];rfl
   ·exact zB0r
 by_cases c2:240≤c.toNat∧c.toNat<248
 ·have hh:zAN c.toNat=(4,c.toNat - 240):=by unfold zAN;rw[if_neg a1,if_neg a2,if_neg b2,if_pos c2]
  simp only[zAS,hh,List.length_cons]
  match tl with
  | []=>rw[if_pos (by simp),zBL (by omega) (by simp) (by simp) (by simp)];rfl
  | [x]=>rw[if_pos (by simp),zBL (by omega) (by omega) (by simp) (by simp)];rfl
  | [x,y]=>rw[if_pos (by simp),zBL (by omega) (by omega) (by omega) (by simp)];rfl
  | x::y::z::tl =>
   have hx:=x.toNat_lt
   have hy:=y.toNat_lt
   rw[if_neg (by simp)]
   have e:64*(64*(64*(c.toNat - 240)+x.toNat % 64)+y.toNat % 64)+z.toNat % 64=c.toNat % 8*262144+x.toNat % 64*4096+y.toNat % 64*64+z.toNat % 64:=by omega
   have hb:=bytes4 (c.toNat % 8*262144+x.toNat % 64*4096+y.toNat % 64*64+z.toNat % 64) c x y z (by omega)
   simp only[Nat.reduceSub,List.take_succ_cons,List.take_zero,numN,List.getD_cons_succ,List.getD_cons_zero,List.length_cons]
   rw[e];simp only[hb]
   by_cases a3:x.toNat / 64=2∧y.toNat / 64=2∧z.toNat / 64=2
   ·obtain⟨a3,a5,a6⟩:=a3
    unfold Lib.decodeN
    rw[if_neg a1,if_neg (by omega),if_neg (by omega),if_pos (by omega)]
    by_cases a4:c.toNat % 8*262144+x.toNat % 64*4096+y.toNat % 64*64+z.toNat % 64 ≥ 65536∧(c.toNat % 8*262144+x.toNat % 64*4096+y.toNat % 64*64+z.toNat % 64<55296∨(57344≤c.toNat % 8*262144+x.toNat % 64*4096+y.toNat % 64*64+z.toNat % 64∧c.toNat % 8*262144+x.toNat % 64*4096+y.toNat % 64*64+z.toNat % 64≤1114111))
    ·rw[if_pos a4,if_pos ⟨by simp [isR];omega,by omega⟩];rfl
    ·rw[if_neg a4,if_neg (by rintro⟨h',h⟩;simp [isR] at h';omega)];rfl
   ·exact zB0r
 ·have hh:zAN c.toNat=(0,0):=by simp [zAN,a1,a2,b2,c2]
  simp only[zAS,hh]
  rw[if_pos (by simp),zBL (by omega) (by omega) (by omega) (by omega)];rfl
def oddL:List UInt8:=[239,191,189]
theorem zKU:zAX 65533=oddL:=by decide
theorem zB3 {l:List UInt8}{n k:Nat}(h:zAS l=some (n,k)):isR n=true∧zAX n=l.take k∧0<k∧k≤l.length:=by
 unfold zAS at h
 split at h
 ·cases h
 ·split at h
  ·cases h
  ·rename_i c tl h1
   split at h
   ·rename_i h2
    simp only[Option.some.injEq,Prod.mk.injEq] at h
    obtain⟨rfl,rfl⟩:=h
    exact⟨h2.1,h2.2,by omega,by omega⟩
   ·cases h
theorem zG8 (tl:List UInt8):zAS (239::191::189::tl)=some (65533,3):=by
 simp [zAS,zAN,numN,isR,zAX,zDZ]
def ofF:Nat→List UInt8→Option (List Int)
 | 0,_=>some []
 | f+1,l=>match l with
  | []=>some []
  | c::tl=>match zAS (c::tl) with
   | none=>none
   | some (n,k)=>(ofF f ((c::tl).drop k)).map ((n:Int) :: ·)
def ofL (l:List UInt8):Option (List Int):=ofF l.length l
def ofM (l:List UInt8):List Int:=match ofL l with | none=>[] | some m=>if 64<m.length then [] else m
def ofE (l:List UInt8):Int:=match ofL l with | none=>3 | some m=>if 64<m.length then 4 else 0
theorem zIF:∀ (f g:Nat) (l:List UInt8),l.length≤f→l.length≤g→ofF f l=ofF g l
 | 0,g,l,h,_=>by
  have:l=[]:=List.eq_nil_of_length_eq_zero (by omega)
  subst this
  cases g <;> rfl
 | f+1,0,l,_,h=>by
  have:l=[]:=List.eq_nil_of_length_eq_zero (by omega)
  subst this;rfl
 | f+1,g+1,[],_,_=>rfl
 | f+1,g+1,c::tl,h1,h2=>by
  cases hf:zAS (c::tl) with
  | none=>simp only[ofF,hf]
  | some p =>
   obtain⟨n,k⟩:=p
   have:=(zB3 hf).2.2.1
   simp only[ofF,hf]
   rw[zIF f g _ (by rw[List.length_drop];simp only[List.length_cons] at h1 ⊢;omega) (by rw[List.length_drop];simp only[List.length_cons] at h2 ⊢;omega)]
theorem zFN:ofL []=some []:=rfl
theorem zIG (l:List UInt8)(h:l≠[]):ofL l=match zAS l with | none=>none | some (n,k)=>(ofL (l.drop k)).map ((n:Int) :: ·):=by
 cases l with
 | nil=>exact absurd rfl h
 | cons c tl =>
  show ofF (tl.length+1) (c::tl)=_
  cases hf:zAS (c::tl) with
  | none=>simp only[ofF,hf]
  | some p =>
   obtain⟨n,k⟩:=p
   have:=(zB3 hf).2.2.1
   simp only[ofF,hf,ofL]
   rw[zIF tl.length _ _ (by rw[List.length_drop];simp only[List.length_cons];omega) (Nat.le_refl _)]
def pre (s p:List UInt8):Bool:=decide (s.take p.length=p)
theorem zHA (s p:List UInt8):∀ M,zCN fuel (d+1) 53 [STR s,STR p] M=some (BL (pre s p),M):=by
 intro M
 apply w3_eq
 refine call_gc tf53 rfl (by simp (disch:=try exact SX) only[RV]) (by simp [a53]) fun b ht hx=>?_
 obtain⟨h0,h1⟩:=hx2 hx
 clear hx
 simp only[a53,c53] at ht ⊢
 have sl:=fun t lo hi r x=>pSubS (P:=Tryz.prog) (t:=t) Tryz.underlying9 x lo hi r
 have ln:=fun t x r=>pLenS (P:=Tryz.prog) (t:=t) Tryz.underlying9 x r
 by_cases hp:p.length≤s.length
 ·have q1:decide ((p.length:Int)≤s.length)=true:=DT
  have st:=fun d=>sub_to (d:=d) hp
  simp (disch:=try exact SX) only[RV,seval,h0,h1,sl,ln,str_size,q1,st]
  rfl
 ·have q1:decide ((p.length:Int)≤s.length)=false:=DF
  have:pre s p=false:=by
   simp only[pre,decide_eq_false_iff_not]
   intro h
   have:=congrArg List.length h
   rw[List.length_take] at this;omega
  rw[this]
  simp (disch:=try exact SX) only[RV,seval,h0,h1,ln,str_size,q1]
theorem zHP (s p:List UInt8):∀ M,zCN fuel (d+2) 34 [STR s,STR p] M=some (BL (pre s p),M):=by
 intro M
 apply w3_eq
 refine call_gc tf34 rfl (by simp (disch:=try exact SX) only[RV]) (by simp [a34]) fun b ht hx=>?_
 obtain⟨h0,h1⟩:=hx2 hx
 clear hx
 simp only[a34,c34] at ht ⊢
 have lr:=zHA (fuel:=fuel) (d:=d) s p
 simp (disch:=try exact SX) only[RV,seval,h0,h1,lr]
theorem zHK (l:List UInt8)(hl:l.length≤100000)(hf:l.length+10<fuel):∃ r,Sl 1 zA3 r (ofM l) ∧ ∀ M,zCN fuel (d+3) 16 [STR l] M=some (.tup [r,I64 (ofE l)],M):=by
 have ic:∀ M,icyL (icy 12) M [STR l]=some ([STR l],M):=fun M=>by simp (disch:=try exact SX) only[RV]
 have key:W3 (zCN fuel (d+3) 16 [STR l] mem0) (fun r _ => ∃ r',r = .tup [r',I64 (ofE l)]∧Sl 1 zA3 r' (ofM l)):=by
  refine call_gc tf16 rfl (ic mem0) (by simp [a16]) fun b ht hx=>?_
  have h0:=hx 0 _ rfl
  clear hx
  simp only[a16,c16] at ht ⊢
  simp (disch:=try exact SX) only[RV,seval,h0,@x_rng,rng_str]
  refine w_loop (I:=fun n t N => ∃ (i:Nat) (o:AV) (acc:List Int),n=l.length - i∧i≤l.length∧nth undefA t 0=STR l∧nth undefA t 2=o∧nth undefA t 7 = .ptr 0 0∧Wf N∧N.get 0=some (.siter ⟨l.toArray⟩ i)∧SlM N 1 zA3 o acc∧rowOf o≠some 0∧acc.length≤i∧ofL l=(ofL (l.drop i)).map (acc ++ ·)) (n:=l.length) (by omega) ?_ ?_
  ·refine⟨0,NIL,[],by omega,by omega, ?_, ?_, ?_,by simp (disch:=try exact SX) only[RV],by simp (disch:=try exact SX) only[RV],SlM.nil,(fun h=>by cases h),by simp, ?_⟩
   ·simp (disch:=try exact SX) only[RV,seval,h0]
   ·exact zB0c
   ·exact zB0c
   ·simp
  ·rintro n t N hl' ⟨i,o,acc,rfl,hi,t0,t2,t7,wfN,g0,hN,ho0,hacc,hof⟩
   simp only[ht] at hl' ⊢
   clear h0 ht b
   have lN:=Mem.get_lt g0
   by_cases hlt:i<l.length
   ·have hne:l.drop i≠[]:=by
     intro h;have:=congrArg List.length h;rw[List.length_drop] at this;simp at this;omega
    have hdec:Utf8.decode ⟨l.toArray⟩ i=(zAS (l.drop i)).getD (65533,1):=by
     have:=Lib.decodeL_drop ⟨l.toArray⟩ i
     rw[← this]
     show Lib.decodeL (l.drop i)=_
     cases hd:l.drop i with
     | nil=>exact absurd hd hne
     | cons c tl=>exact zG7 c tl
    have nx:=nxt_on (s:=⟨l.toArray⟩) wfN g0 lN (by rw[str_size];exact hlt)
    rw[hdec] at nx
    rw[zIG _ hne] at hof
    have sl:=fun t lo hi r x=>pSubS (P:=Tryz.prog) (t:=t) Tryz.underlying9 x lo hi r
    have sf:=fun d=>sub_from (d:=d) (show i≤l.length by omega)
    have pr:=zHP (fuel:=fuel) (d:=d) (l.drop i) [239,191,189]
    cases hfi:zAS (l.drop i) with
    | none =>
     rw[hfi] at nx hof
     simp only[Option.getD_none,goInt] at nx
     have hp:pre (l.drop i) [239,191,189]=false:=by
      simp only[pre,decide_eq_false_iff_not]
      intro h
      match hd:l.drop i,h with
      | 239::191::189::tl,_=>rw[hd,zG8] at hfi;cases hfi
      | [],h=>simp at h
      | [a],h=>simp at h
      | [a,b],h=>simp at h
      | a::b::c::tl,h =>
       simp only[List.length_cons,List.length_nil,Nat.zero_add,Nat.reduceAdd,List.take_succ_cons,List.take_zero,List.cons.injEq,and_true] at h
       obtain⟨rfl,rfl,rfl⟩:=h
       rw[hd,zG8] at hfi;cases hfi
     rw[hp] at pr
     have q1:ofE l=3:=by simp [ofE,hof]
     have q2:ofM l=[]:=by simp [ofM,hof]
     rw[q1,q2]
     have qq:decide (((65533:Nat):Int)=65533)=true:=by decide
     simp (disch:=try exact SX) only[RV,seval,t0,t2,t7,@x_nxt,nx,sl,sf,pr,qq]
     exact⟨_,rfl,.inl ⟨rfl,rfl⟩⟩
    | some p =>
     obtain⟨n,k⟩:=p
     obtain⟨b1,b2,b3,b4⟩:=zB3 hfi
     rw[hfi] at nx hof
     rw[List.length_drop] at b4
     simp only[Option.getD_some,goInt] at nx
     simp only at hof
     have hn:(n:Int)≤1114111:=by simp [isR] at b1;omega
     have hp:decide ((n:Int)=65533)=true→pre (l.drop i) [239,191,189]=true:=fun h=>by
      have:n=65533:=by have:=of_decide_eq_true h;omega
      subst this
      rw[zKU] at b2
      simp only[pre,decide_eq_true_eq]
      have h3:k=3:=by
       rcases Nat.lt_or_ge k (l.length - i+1) with hk | hk
       ·have:=congrArg List.length b2
        rw[List.length_take,List.length_drop,Nat.min_eq_left b4] at this
        exact this.symm
       ·omega
      subst h3
      exact b2.symm
     have fin:∀ (o':AV) (N':Mem),Wf N'→N'.get 0=some (.siter ⟨l.toArray⟩ (i+k))→SlM N' 1 zA3 o' (acc++[(n:Int)])→rowOf o'≠some 0 →
       ∃ m,m<l.length - i ∧ ∃ (i':Nat) (o'':AV) (acc':List Int),m=l.length - i'∧i'≤l.length∧o'=o''∧Wf N'∧N'.get 0=some (.siter ⟨l.toArray⟩ i')∧SlM N' 1 zA3 o'' acc'∧rowOf o''≠some 0∧acc'.length≤i'∧ofL l=(ofL (l.drop i')).map (acc' ++ ·):=by
      intro o' N' w1 w2 w3 w4
      refine⟨l.length - (i+k),by omega,i+k,o',acc++[(n:Int)],rfl,by omega,rfl,w1,w2,w3,w4,by simp;omega, ?_⟩
      rw[hof,List.drop_drop]
      cases ofL (l.drop (i+k)) <;> simp
     have oo:=hN.one
     have oco:=hN.cells
     have rlo:=rows_lt hN.rl (show N.size≤N.size+1 by omega)
     cases hq:decide ((n:Int)=65533)
     all_goals
      try rw[hp hq] at pr
      simp (disch:=try exact SX) only[RV,seval,fillA,t0,t2,t7,@x_nxt,nx,sl,sf,pr,hq,rlo]
      refine w3_appc (by simp (disch:=try exact SX) only[RV,wfN]) (hN.keep fun j hj=>?kp) zBQ.cel (l':=[(n:Int)]) (new:=[[I32 n]]) (cells_lit (cs:=[I32 n]) (n:=1) (st:=1) (get_add_new (wfN.upd _ _) _ _ (Nat.le_refl _) (Nat.lt_succ_self _)) rfl) rfl (.cons rfl .nil) (by simp) (by omega) (by simp;omega) (by simp;omega) fun o4 M4 m4 wf4 le4 sz4 kp4 nw4 wm4 rl4 on4 oc4=>?_
      case kp =>
       have:=hN.lt j hj
       have:0≠j:=fun e=>ho0 (by rw[e];exact hj)
       exact zB05
      simp only[add_size,upd_size] at le4 sz4
      have g4:=kp4 0 (by simp only[add_size,upd_size];omega) ho0
      simp (disch:=try exact SX) only[RV] at g4
      simp (disch:=try exact SX) only[RV,seval,t0,t2,t7]
      exact⟨hl',fin o4 M4 wf4 g4 m4 (fun h=>(nw4 0 h).elim (fun h=>ho0 h) (fun h=>by simp only[add_size,upd_size] at h;omega))⟩
   ·have:i=l.length:=by omega
    subst this
    rw[List.drop_length,zFN] at hof
    simp only[Option.map_some,List.append_nil] at hof
    have nx:=nxt_off (s:=⟨l.toArray⟩) g0 (by rw[str_size];exact Nat.le_refl _)
    have ln:=hN.len
    obtain⟨r,hSr,hfz⟩:=slm_frz2 hN zBQ.cel 12 (by omega)
    have hfz:=hfz N (fun _ _=>rfl)
    by_cases h64:64<acc.length
    ·have q1:decide ((64:Int)<acc.length)=true:=DT
     have q2:ofE l=4:=by simp [ofE,hof,h64]
     have q3:ofM l=[]:=by simp [ofM,hof,h64]
     rw[q2,q3]
     simp (disch:=try exact SX) only[RV,seval,t2,t7,@x_nxt,nx,ln,q1]
     exact⟨_,rfl,.inl ⟨rfl,rfl⟩⟩
    ·have q1:decide ((64:Int)<acc.length)=false:=DF
     have q2:ofE l=0:=by simp [ofE,hof,h64]
     have q3:ofM l=acc:=by simp [ofM,hof,h64]
     rw[q2,q3]
     simp (disch:=try exact SX) only[RV,seval,t2,t7,@x_nxt,nx,ln,q1,hfz]
     exact⟨_,rfl,hSr⟩
 obtain⟨r,N,hcl,r',rfl,hSr⟩:=key
 exact⟨r',hSr,fun M=>call_own tf16 rfl hcl (ic mem0) (ic M)⟩
theorem zP3 {n:Nat}(h:isR n=true):okR (n:Int)=true:=by
 unfold isR at h
 unfold okR zC8
 simp at h ⊢
 omega
theorem zNL:∀ (f:Nat) (l:List UInt8) (m:List Int),l.length≤f→ofL l=some m → ∀ x∈m,okR x=true
 | 0,l,m,h,e,x,hx=>by
  have:l=[]:=List.eq_nil_of_length_eq_zero (by omega)
  subst this
  rw[zFN] at e
  cases e
  cases hx
 | f+1,[],m,h,e,x,hx=>by
  rw[zFN] at e
  cases e
  cases hx
 | f+1,c::tl,m,h,e,x,hx=>by
  rw[zIG _ (by simp)] at e
  cases hf:zAS (c::tl) with
  | none=>rw[hf] at e;cases e
  | some p =>
   obtain⟨n,k⟩:=p
   rw[hf] at e
   obtain⟨b1,_,b3,b4⟩:=zB3 hf
   simp only at e
   cases ho:ofL ((c::tl).drop k) with
   | none=>rw[ho] at e;cases e
   | some m' =>
    rw[ho] at e
    simp only[Option.map_some,Option.some.injEq] at e
    subst e
    rcases List.mem_cons.1 hx with rfl | hx
    ·exact zP3 b1
    ·exact zNL f _ m' (by rw[List.length_drop];simp only[List.length_cons] at h ⊢;omega) ho x hx
theorem zHB {l:List UInt8}(h:ofE l=0):chkR (ofM l)=0∧(ofM l).length≤64∧i32s (ofM l):=by
 unfold ofE at h
 unfold ofM
 cases ho:ofL l with
 | none=>rw[ho] at h;cases h
 | some m =>
  rw[ho] at h
  simp only at h ⊢
  split at h
  ·cases h
  ·rename_i hl
   rw[if_neg hl]
   have hok:=zNL l.length l m (Nat.le_refl _) ho
   refine⟨?_,by omega,fun x hx=>?_⟩
   ·unfold chkR
    rw[if_neg hl,List.all_eq_true.2 hok]
    rfl
   ·have:=hok x hx
    unfold okR zC8 at this
    simp at this
    omega
theorem zKM (M:Mem):zCN fuel (d+1) 115 [] M=some (lbA Lb.z,M):=by
 apply w3_eq
 refine call_gc tf115 rfl (by simp (disch:=try exact SX) only[icyL]) (by simp [a115]) fun b' ht hx=>?_
 clear hx
 simp only[a115,c115] at ht ⊢
 simp (disch:=try exact SX) only[RV,seval,fillA]
theorem zCH {o:Op}{ra:AV}(h:Fz ra)(M:Mem):icy 12 M (.agg (opR o ra))=some (.agg (opR o ra),M):=fz_icyA (zN8 h) (by omega) M
def Op.bare (o:Op):Bool:=decide (o.af=Eid.z)&&decide ((o.rs.length:Int)=0)
def Op.part (o:Op):Bool :=
 if o.kd=1 then decide (o.to=Lb.z)&&(decide (o.af=Eid.z) || o.af.may)&&decide (o.sp.f.hd=o.hd)&&decide ((o.rs.length:Int)=o.sp.n)&&decide (chkR o.rs=0)
 else if o.kd=2 then decide (o.to=Lb.z)&&o.bare
 else o.bare&&o.to.may
def Op.may (o:Op):Bool:=!decide (o.kd=0) && !decide (4≤o.kd)&&o.hd.may && !decide (o.sr<1) && !decide (16777216≤o.sr)&&o.sp.may&&o.part
theorem zN5 {o:Op}{ra:AV}(hS:Sl 1 zA3 ra o.rs)(wf:Wf M)(k:∀ N,Kept M N→Q (BL o.bare) N):W3 (zCN fuel (d+1) 113 [.agg (opR o ra)] M) Q:=by
 have pIdE:=@pIdE
 have ll:=hS.len
 unfold Op.bare at k
 refine call_0 tf113 rfl (by simp [a113]) fun b' ht hx=>?_
 have h0:=hx 0 _ rfl
 clear hx
 simp only[a113,c113] at ht ⊢
 cases q:decide (o.af=Eid.z) <;> rw[q] at k <;> simp only[Bool.false_and,Bool.true_and] at k <;> simp (disch:=try exact SX) only[RV,seval,fillA,h0,↓pIdE,zA0,ETA,q,ll]
 all_goals exact k _ ((Kept.refl wf).add _)
theorem zI6 {o:Op}{ra:AV}(hS:Sl 1 zA3 ra o.rs)(wf:Wf M)(k:∀ N,Kept M N→Q (BL (decide (o.to=Lb.z))) N):W3 (zCN fuel (d+2) 114 [.agg (opR o ra)] M) Q:=by
 have pLbE:=@pLbE
 have hl:=fun M=>@zKM fuel d M
 refine call_0 tf114 rfl (by simp [a114]) fun b' ht hx=>?_
 have h0:=hx 0 _ rfl
 clear hx
 simp only[a114,c114] at ht ⊢
 simp (disch:=try exact SX) only[RV,seval,h0,↓pLbE,zA6,ETA,hl]
 exact zB0s
def Spn.at (s:Spn)(n:Int):Eid:=⟨s.f.hd,s.f.c+n⟩
theorem zIE (x:Eid)(n:Int)(M:Mem):zCN fuel (d+1) 111 [idA x,I64 n] M=some (idA ⟨x.hd,IntKind.i64.wrap (x.c+n)⟩,M):=by
 apply w3_eq
 refine call_gc tf111 rfl (by simp (disch:=try exact SX) only[RV,seval]) (by simp [a111]) fun b' ht hx=>?_
 obtain⟨h0,h1⟩:=hx2 hx
 clear hx
 simp only[a111,c111] at ht ⊢
 simp (disch:=try exact SX) only[RV,seval,h0,h1]
def Spn.has (s:Spn)(x:Eid):Option Int:=if s.may=true∧x.hd=s.f.hd∧s.f.c≤x.c∧x.c<s.f.c+s.n then some (x.c - s.f.c) else none
theorem Spn.may_le {s:Spn}(h:s.may=true):1≤s.f.c∧s.f.c≤1099511627776∧1≤s.n∧s.n≤64∧s.f.c+s.n≤1099511627777:=by
 unfold Spn.may Eid.may at h
 simp only[Bool.and_eq_true,decide_eq_true_eq] at h
 omega
theorem zFH (s:Spn)(x:Eid)(M:Mem):zCN fuel (d+5) 69 [spA s,idA x] M=some (.tup [I64 ((s.has x).getD 0),BL (s.has x).isSome],M):=by
 have hc:=fun M=>@zCU fuel d s M
 have hn:=fun x n M=>@zIE fuel (d+3) x n M
 have pIdN:=@pIdN
 apply w3_eq
 refine call_gc tf69 rfl (by simp (disch:=try exact SX) only[RV,seval]) (by simp [a69]) fun b' ht hx=>?_
 obtain⟨h0,h1⟩:=hx2 hx
 clear hx
 simp only[a69,c69] at ht ⊢
 cases hm:s.may with
 | false =>
  rw[hm] at hc
  have e:s.has x=none:=by unfold Spn.has;rw[if_neg (by simp [hm])]
  simp (disch:=try exact SX) only[RV,seval,h0,h1,hc,zAC,e,Option.getD_none,Option.isSome_none]
 | true =>
  rw[hm] at hc
  have hb:=Spn.may_le hm
  generalize hw:IntKind.i64.wrap (x.c - s.f.c)=n at *
  by_cases q1:n<0
  ·have e:s.has x=none:=by
    exact zB0F
   have q:decide (n<0)=true:=decide_eq_true q1
   simp (disch:=try exact SX) only[RV,seval,h0,h1,hc,zA4,hw,q,e,Option.getD_none,Option.isSome_none]
  ·by_cases q2:s.n≤n
   ·have e:s.has x=none:=by
     exact zB0F
    have q:decide (n<0)=false:=decide_eq_false q1
    have q':decide (s.n≤n)=true:=decide_eq_true q2
    simp (disch:=try exact SX) only[RV,seval,h0,h1,hc,zA4,hw,q,q',e,Option.getD_none,Option.isSome_none]
   ·have q:decide (n<0)=false:=decide_eq_false q1
    have q':decide (s.n≤n)=false:=decide_eq_false q2
    have w2:IntKind.i64.wrap (s.f.c+n)=s.f.c+n:=wrap_i64 (by omega) (by omega)
    by_cases q3:x=⟨s.f.hd,s.f.c+n⟩
    ·have e:s.has x=some n:=by
      unfold Spn.has
      rw[if_pos ⟨hm,by rw[q3],by rw[q3];show s.f.c≤s.f.c+n;omega,by rw[q3];show s.f.c+n<_;omega⟩,q3]
      congr 1
      show s.f.c+n - s.f.c=n
      omega
     have q4:decide (x=⟨s.f.hd,s.f.c+n⟩)=true:=decide_eq_true q3
     simp (disch:=try exact SX) only[RV,seval,h0,h1,hc,zA4,hw,q,q',hn,w2,↓pIdN,zA5,ETA,q4,e,Option.getD_some,Option.isSome_some]
    ·have e:s.has x=none:=by
      unfold Spn.has
      rw[if_neg]
      rintro⟨_,h0,h1,h2⟩
      rw[wrap_i64 (by omega) (by omega)] at hw
      apply q3
      obtain⟨xh,xc⟩:=x
      simp only at h0 hw ⊢
      rw[h0,← hw]
      congr 1
      omega
     have q4:decide (x=⟨s.f.hd,s.f.c+n⟩)=false:=decide_eq_false q3
     simp (disch:=try exact SX) only[RV,seval,h0,h1,hc,zA4,hw,q,q',hn,w2,↓pIdN,zA5,ETA,q4,e,Option.getD_none,Option.isSome_none]
theorem zE7 (s:Spn)(n:Int)(M:Mem):zCN fuel (d+5) 72 [spA s,I64 n] M=some (if s.may then (if n<0∨s.n≤n then .tup [idA Eid.z,I64 2] else .tup [idA (s.at n),I64 0]) else .tup [idA Eid.z,I64 8],M):=by
 have hc:=fun M=>@zCU fuel d s M
 have hn:=fun x n M=>@zIE fuel (d+3) x n M
 apply w3_eq
 refine call_gc tf72 rfl (by simp (disch:=try exact SX) only[RV,seval]) (by simp [a72]) fun b' ht hx=>?_
 obtain⟨h0,h1⟩:=hx2 hx
 clear hx
 simp only[a72,c72] at ht ⊢
 cases hm:s.may with
 | false =>
  rw[hm] at hc
  simp (disch:=try exact SX) only[RV,seval,fillA,h0,hc,zAC,Bool.false_eq_true,if_false]
 | true =>
  rw[hm] at hc
  have hb:=Spn.may_le hm
  by_cases q1:n<0
  ·simp (disch:=try exact SX) only[RV,seval,fillA,h0,h1,hc,zA4,q1,true_or,if_true]
  ·by_cases q2:s.n≤n
   ·simp (disch:=try exact SX) only[RV,seval,fillA,h0,h1,hc,zA4,q1,q2,or_true,if_true]
   ·have w2:IntKind.i64.wrap (s.f.c+n)=s.f.c+n:=wrap_i64 (by omega) (by omega)
    unfold Spn.at
    simp (disch:=try exact SX) only[RV,seval,h0,h1,hc,zA4,q1,q2,or_self,if_true,if_false,hn,w2]
def bitI (c:Int)(i:Nat):Bool:=decide ((c.toNat / 2 ^ i) % 2=1)
theorem zKL {a b:Int}(ha:0≤a∧a<4294967296)(hb:0≤b∧b<4294967296):zFK a b=0 ↔ ∀ i,i<32→bitI a i=true→bitI b i=true:=by
 obtain⟨n,rfl⟩:∃ n:Nat,a=n:=⟨a.toNat,by omega⟩
 obtain⟨m,rfl⟩:∃ m:Nat,b=m:=⟨b.toNat,by omega⟩
 have e1:∀ (n i:Nat),i<32→bitI (n:Int) i=(BitVec.ofInt 32 (n:Int)).getLsbD i:=fun n i hi=>by
  rw[BitVec.ofInt_natCast,BitVec.getLsbD_ofNat,decide_eq_true hi,Bool.true_and,Nat.testBit_eq_decide_div_mod_eq]
  rfl
 have e2:zFK n m=((BitVec.ofInt 32 (n:Int) &&& ~~~ BitVec.ofInt 32 (m:Int)).toNat:Int):=by
  have:=(BitVec.ofInt 32 (n:Int) &&& ~~~ BitVec.ofInt 32 (m:Int)).isLt
  unfold zFK
  generalize (BitVec.ofInt 32 (n:Int) &&& ~~~ BitVec.ofInt 32 (m:Int)).toNat=z at *
  simp [IntKind.wrap,IntKind.bits,IntKind.signed]
  omega
 rw[e2]
 have e3:((BitVec.ofInt 32 (n:Int) &&& ~~~ BitVec.ofInt 32 (m:Int)).toNat:Int)=0↔(BitVec.ofInt 32 (n:Int) &&& ~~~ BitVec.ofInt 32 (m:Int))=0#32:=by
  rw[← BitVec.toNat_inj];simp
 rw[e3]
 constructor
 ·intro h i hi h1
  rw[e1 _ _ hi] at h1 ⊢
  have:=congrArg (fun v=>BitVec.getLsbD v i) h
  simp only[BitVec.getLsbD_and,BitVec.getLsbD_not,h1,hi,BitVec.getLsbD_zero,decide_true,Bool.true_and,Bool.not_eq_false'] at this
  exact this
 ·intro h
  apply BitVec.eq_of_getLsbD_eq
  intro i hi
  have:=h i hi
  rw[e1 _ _ hi,e1 _ _ hi] at this
  simp only[BitVec.getLsbD_and,BitVec.getLsbD_not,hi,BitVec.getLsbD_zero,decide_true,Bool.true_and]
  cases h1:(BitVec.ofInt 32 (n:Int)).getLsbD i with
  | false=>rfl
  | true=>rw[this h1];rfl
theorem zEG (v:Lb)(M:Mem):zCN fuel (d+1) 29 [lbA v] M=some (BL v.may,M):=by
 apply w3_eq
 refine call_gc tf29 rfl (by simp (disch:=try exact SX) only[RV,seval]) (by simp [a29]) fun b' ht hx=>?_
 have h0:=hx 0 _ rfl
 clear hx
 simp only[a29,c29] at ht ⊢
 unfold Lb.may
 by_cases q:15<v.lv
 ·have q1:decide (v.lv≤15)=false:=DF
  have q2:decide (15<v.lv)=true:=decide_eq_true q
  simp (disch:=try exact SX) only[RV,seval,h0,q1,q2]
 ·have q1:decide (v.lv≤15)=true:=DT
  have q2:decide (15<v.lv)=false:=decide_eq_false q
  simp (disch:=try exact SX) only[RV,seval,h0,q1,q2]
theorem zKG (v:Lb)(hv:v.ok)(i:Nat)(hi:i<32)(M:Mem):zCN fuel (d+1) 75 [lbA v,I64 i] M=some (BL (bitI v.cats i),M):=by
 have cv:=fun t r x=>pConv2 (P:=Tryz.prog) (t:=t) Tryz.underlying3 Tryz.underlying176 r x
 have w:IntKind.u64.wrap (i:Int)=i:=by simp [IntKind.wrap,IntKind.bits,IntKind.signed];omega
 have sh:∀ ty,binV Tryz.prog .shr ty .u32 v.cats .u64 (i:Int)=some (.int .u32 ((v.cats.toNat / 2 ^ i:Nat):Int)):=fun ty=>by
  rw[vShr _ _ _ _ _ (by omega)]
  have:min (Int.toNat (i:Int)) (IntKind.u32).bits=i:=by simp [IntKind.bits];omega
  rw[this]
  obtain⟨n,hn⟩:∃ n:Nat,v.cats=n:=⟨v.cats.toNat,by have:=hv.2.2.1;omega⟩
  have h2:(0:Int)≤2 ^ i:=by exact_mod_cast Nat.zero_le (2 ^ i)
  rw[hn,Int.fdiv_eq_ediv_of_nonneg _ h2,Int.toNat_natCast]
  simp
 have hr:∀ (ty:TypeId) (n:Nat),binV Tryz.prog .rem ty .u32 (n:Int) .u32 2=some (.int .u32 ((n % 2:Nat):Int)):=fun ty n=>by
  rw[vRem,if_neg (by omega)]
  simp [Int.tmod_eq_emod_of_nonneg]
 apply w3_eq
 refine call_gc tf75 rfl (by simp (disch:=try exact SX) only[RV,seval]) (by simp [a75]) fun b' ht hx=>?_
 obtain⟨h0,h1⟩:=hx2 hx
 clear hx
 simp only[a75,c75] at ht ⊢
 unfold bitI
 have q:decide (((v.cats.toNat / 2 ^ i % 2:Nat):Int)=1)=decide (v.cats.toNat / 2 ^ i % 2=1):=by
  exact zB0L
 simp (disch:=try exact SX) only[RV,seval,h0,h1,cv,pc1_int,w,sh,hr,q]
theorem zB6 (a b:Lb)(ha:a.ok)(hb:b.ok)(hf:40<fuel)(M:Mem):zCN fuel (d+2) 49 [lbA a,lbA b] M=some (BL (a.leq b),M):=by
 have hh:=fun i hi M=>@zKG fuel d a ha i hi M
 have kh:=fun i hi M=>@zKG fuel d b hb i hi M
 have key:=zKL ha.2.2 hb.2.2
 apply w3_eq
 refine call_gc tf49 rfl (by simp (disch:=try exact SX) only[RV,seval]) (by simp [a49]) fun b' ht hx=>?_
 obtain⟨h0,h1⟩:=hx2 hx
 clear hx
 simp only[a49,c49] at ht ⊢
 simp (disch:=try exact SX) only[RV,seval,h0,h1]
 refine w_loop (I:=fun n t N => ∃ (i:Nat),n=32 - i∧i≤32∧nth undefA t 2 = .ptr 0 0∧nth undefA t 3 = .ptr 1 0∧nth undefA t 5=I64 i∧N=(mem0.add (.row false [U8 a.lv,U32 a.cats])).add (.row false [U8 b.lv,U32 b.cats])∧(∀ j,j<i→bitI a.cats j=true→bitI b.cats j=true)) (n:=32) (by omega) ?_ ?_
 ·refine⟨0,rfl,Nat.zero_le _, ?_, ?_, ?_,rfl,(fun _ h=>absurd h (by omega))⟩ <;> simp (disch:=try exact SX) only[RV,seval]
  all_goals first | rfl | assumption | done
 ·rintro n t N hlt ⟨i,rfl,hi,g2,g3,g5,hm,hj⟩
  simp only[ht] at hlt ⊢
  subst hm
  by_cases hc:i<32
  ·have q1:decide ((i:Int)<32)=true:=DT
   have w1:IntKind.i64.wrap ((i:Int)+1)=((i+1:Nat):Int):=WI
   cases b1:bitI a.cats i with
   | false =>
    simp (disch:=try exact SX) only[RV,seval,g2,g3,g5,q1,w1,hh,b1]
    exact⟨hlt,32 - (i+1),by omega,i+1,rfl,by omega,rfl,fun j hj' hb'=>by
     rcases Nat.lt_succ_iff_lt_or_eq.1 hj' with h | rfl
     ·exact hj j h hb'
     ·rw[b1] at hb';cases hb'⟩
   | true =>
    cases b2:bitI b.cats i with
    | true =>
     simp (disch:=try exact SX) only[RV,seval,g2,g3,g5,q1,w1,hh,kh,b1,b2]
     exact⟨hlt,32 - (i+1),by omega,i+1,rfl,by omega,rfl,fun j hj' hb'=>by
      rcases Nat.lt_succ_iff_lt_or_eq.1 hj' with h | rfl
      ·exact hj j h hb'
      ·exact b2⟩
    | false =>
     have e:a.leq b=false:=by
      unfold Lb.leq
      rw[Bool.and_eq_false_iff]
      right
      rw[decide_eq_false_iff_not,key]
      intro h
      have:=h i hc b1
      rw[b2] at this;cases this
     simp (disch:=try exact SX) only[RV,seval,g2,g3,g5,q1,hh,kh,b1,b2,e]
  ·obtain rfl:i=32:=by omega
   have e:a.leq b=decide (a.lv≤b.lv):=by
    unfold Lb.leq
    rw[decide_eq_true (p:=zFK a.cats b.cats=0) (key.2 hj),Bool.and_true]
   have q1:decide (((32:Nat):Int)<32)=false:=rfl
   simp (disch:=try exact SX) only[RV,seval,g2,g3,g5,q1,e]
theorem zIL (x:Int)(M:Mem):zCN fuel (d+1) 105 [I64 x] M=some (BL (zC8 x),M):=by
 apply w3_eq
 refine call_gc tf105 rfl (by simp (disch:=try exact SX) only[RV]) (by simp [a105]) fun b' ht hx=>?_
 have h0:=hx 0 _ rfl
 clear hx
 simp only[a105,c105] at ht ⊢
 have key:zC8 x=(decide (0≤x)&&decide (x≤1114111)&&(decide (x<55296) || decide (57343<x))):=by
  unfold zC8
  by_cases h1:0≤x <;> by_cases h2:x≤1114111 <;> by_cases h3:x<55296 <;> by_cases h4:57343<x <;> simp [h1,h2,h3,h4] <;> omega
 rw[key]
 cases q1:decide (0≤x) <;> cases q2:decide (x≤1114111) <;> cases q3:decide (x<55296) <;> cases q4:decide (57343<x)
 all_goals simp (disch:=try exact SX) only[RV,seval,h0,q1,q2,q3,q4]
theorem zDA (h:Hd)(M:Mem):zCN fuel (d+2) 39 [hdA h] M=some (BL h.may,M):=by
 have hm:=fun M=>@zEG fuel d h.lb M
 apply w3_eq
 refine call_gc tf39 rfl (by simp (disch:=try exact SX) only[RV,seval]) (by simp [a39]) fun b' ht hx=>?_
 have h0:=hx 0 _ rfl
 clear hx
 simp only[a39,c39] at ht ⊢
 unfold Hd.may
 cases q:h.lb.may <;> rw[q] at hm <;> simp (disch:=try exact SX) only[RV,seval,h0,hm,Bool.false_and]
theorem zEL (x:Eid)(M:Mem):zCN fuel (d+3) 99 [idA x] M=some (BL x.may,M):=by
 have hm:=fun M=>@zDA fuel d x.hd M
 apply w3_eq
 refine call_gc tf99 rfl (by simp (disch:=try exact SX) only[RV,seval]) (by simp [a99]) fun b' ht hx=>?_
 have h0:=hx 0 _ rfl
 clear hx
 simp only[a99,c99] at ht ⊢
 unfold Eid.may
 cases q:x.hd.may <;> rw[q] at hm
 ·simp (disch:=try exact SX) only[RV,seval,h0,hm,Bool.false_and]
 ·cases q1:decide (1≤x.c) <;> simp (disch:=try exact SX) only[RV,seval,h0,hm,q1,Bool.false_and]
theorem zF4 (s:Spn)(M:Mem):zCN fuel (d+4) 97 [spA s] M=some (BL s.may,M):=by
 have hm:=fun M=>@zEL fuel d s.f M
 apply w3_eq
 refine call_gc tf97 rfl (by simp (disch:=try exact SX) only[RV,seval]) (by simp [a97]) fun b' ht hx=>?_
 have h0:=hx 0 _ rfl
 clear hx
 simp only[a97,c97] at ht ⊢
 unfold Spn.may
 cases q:s.f.may <;> rw[q] at hm
 ·simp (disch:=try exact SX) only[RV,seval,h0,hm,Bool.false_and]
 ·cases q1:decide (1≤s.n)
  ·simp (disch:=try exact SX) only[RV,seval,h0,hm,q1,Bool.false_and]
  ·cases q2:decide (s.n≤64)
   ·simp (disch:=try exact SX) only[RV,seval,h0,hm,q1,q2,Bool.false_and]
   ·have w:IntKind.i64.wrap (1099511627777 - s.n)=1099511627777 - s.n:=by
     rw[decide_eq_true_eq] at q1 q2
     exact wrap_i64 (by omega) (by omega)
    have q3:decide (s.f.c≤1099511627777 - s.n)=decide (s.f.c+s.n≤1099511627777):=by
     exact zB0L
    simp (disch:=try exact SX) only[RV,seval,h0,hm,q1,q2,w,q3]
theorem zJH (x:Eid)(M:Mem):zCN fuel (d+1) 98 [idA x] M=some (BL (decide (x=Eid.z)),M):=by
 apply w3_eq
 refine call_gc tf98 rfl (by simp (disch:=try exact SX) only[RV,seval]) (by simp [a98]) fun b' ht hx=>?_
 have h0:=hx 0 _ rfl
 clear hx
 simp only[a98,c98] at ht ⊢
 simp (disch:=try exact SX) only[RV,seval,fillA,h0,↓pIdE,zA0,ETA]
theorem zHF (x:Eid)(M:Mem):zCN fuel (d+1) 142 [idA x] M=some (BL (decide (x=Eid.z)),M):=by
 apply w3_eq
 refine call_gc tf142 rfl (by simp (disch:=try exact SX) only[RV,seval]) (by simp [a142]) fun b' ht hx=>?_
 have h0:=hx 0 _ rfl
 clear hx
 simp only[a142,c142] at ht ⊢
 simp (disch:=try exact SX) only[RV,seval,fillA,h0,↓pIdE,zA0,ETA]
theorem zJL (n:Nat):zC8 (n:Int)=isR n:=by
 unfold zC8 isR
 by_cases h1:n≤1114111 <;> by_cases h2:n<55296 <;> by_cases h3:57343<n <;> simp [h1,h2,h3] <;> omega
def zD4 (n:Nat):Nat→Nat
 | 0=>n
 | k+1=>zD4 n k / 64
theorem zHL (n up:Nat)(hu:up<10)(hf:1000<fuel)(hn:n<9223372036854775808)(M:Mem):zCN fuel (d+1) 143 [I64 n,I64 up] M=some (U8 (128+zD4 n up % 64:Nat),M):=by
 have hd:∀ k,zD4 n k≤n:=fun k=>by
  induction k with
  | zero=>exact Nat.le_refl _
  | succ k ih=>exact Nat.le_trans (Nat.div_le_self _ _) ih
 apply w3_eq
 refine call_gc tf143 rfl (by simp (maxSteps:=2000000) (disch:=try exact SX) only[RV]) (by simp [a143]) fun b ht hx=>?_
 obtain⟨h0,h1⟩:=hx2 hx
 clear hx
 simp only[a143,c143] at ht ⊢
 simp (maxSteps:=2000000) (disch:=try exact SX) only[RV]
 refine w_loop (I:=fun m t N => ∃ i:Nat,i≤up∧m=up - i∧nth undefA t 0=I64 (zD4 n i:Nat)∧nth undefA t 1=I64 up∧nth undefA t 5=I64 i) (n:=up) (by omega) ?_ ?_
 ·refine⟨0,by omega,by omega, ?_, ?_, ?_⟩
  all_goals simp (maxSteps:=2000000) (disch:=try exact SX) only[RV,reduceIte,Nat.reduceEqDiff,h0,h1]
  all_goals rfl
 ·rintro m t N hl' ⟨i,hi,hm,t0,t1,t5⟩
  simp only[ht] at hl' ⊢
  clear h0 h1 ht b
  have hdi:=hd i
  by_cases hlt:i<up
  ·have hc':decide ((i:Int)<up)=true:=DT
   have w1:IntKind.i64.wrap ((i:Int)+1)=((i+1:Nat):Int):=WI
   have w2:IntKind.i64.wrap (Int.tdiv (zD4 n i:Nat) 64)=((zD4 n (i+1):Nat):Int):=by
    rw[Int.tdiv_eq_ediv_of_nonneg (by omega),wrap_i64]
    ·simp only[zD4];omega
    ·omega
    ·omega
   have z:((64:Int)=0)=False:=by simp
   simp (maxSteps:=2000000) (disch:=try exact SX) only[RV,reduceIte,Nat.reduceEqDiff,t0,t1,t5,hc',w1,vQuo,z,w2]
   exact⟨hl',up - (i+1),by omega,i+1,by omega,rfl,rfl,rfl⟩
  ·obtain rfl:i=up:=by omega
   have w2:Int.tmod (zD4 n i:Nat) 64=((zD4 n i % 64:Nat):Int):=by rw[Int.tmod_eq_emod_of_nonneg (by omega)];omega
   have w3:IntKind.i64.wrap (128+((zD4 n i % 64:Nat):Int))=((128+zD4 n i % 64:Nat):Int):=WI
   have cv:=fun t r x=>pConv2 (P:=Tryz.prog) (t:=t) Tryz.underlying3 Tryz.underlying5 r x
   have w4:IntKind.u8.wrap ((128+zD4 n i % 64:Nat):Int)=((128+zD4 n i % 64:Nat):Int):=by simp [IntKind.wrap,IntKind.bits,IntKind.signed];omega
   have z:((64:Int)=0)=False:=by simp
   simp (maxSteps:=2000000) (disch:=try exact SX) only[RV,reduceIte,Nat.reduceEqDiff,t0,t1,t5,vRem,z,w2,w3,cv,pc1_int,w4]
theorem zG1 (n:Nat)(h:n<256):IntKind.u8.wrap (n:Int)=(n:Int):=by simp [IntKind.wrap,IntKind.bits,IntKind.signed];omega
theorem zJY (n:Nat)(hn:n≤1114111)(hf:1000<fuel):∃ r,Bs r (zAX n) ∧ ∀ M,zCN fuel (d+2) 106 [I64 n] M=some (r,M):=by
 have ic:∀ M,icyL (icy 12) M [I64 n]=some ([I64 n],M):=fun M=>by simp (maxSteps:=2000000) (disch:=try exact SX) only[RV]
 have cv:=fun t r x=>pConv2 (P:=Tryz.prog) (t:=t) Tryz.underlying3 Tryz.underlying5 r x
 have s0:=fun M=>zHL (fuel:=fuel) (d:=d) n 0 (by omega) hf (by omega) M
 have s1:=fun M=>zHL (fuel:=fuel) (d:=d) n 1 (by omega) hf (by omega) M
 have s2:=fun M=>zHL (fuel:=fuel) (d:=d) n 2 (by omega) hf (by omega) M
 have e0:((0:Nat):Int)=0:=rfl
 have e1:((1:Nat):Int)=1:=rfl
 have e2:((2:Nat):Int)=2:=rfl
 rw[e0] at s0
 rw[e1] at s1
 rw[e2] at s2
 have lit:∀ (l:List Nat),(∀ x∈l,x<256) → ∀ k,k=l.length→Bs (.pv (l.map fun x=>U8 (x:Nat)) k (some k) 1) (l.map UInt8.ofNat):=fun l hl k hk=>by
  have:=bs_pv (l.map UInt8.ofNat) (some k) (n:=k) (by simp [hk])
  rw[show u8s (l.map UInt8.ofNat)=l.map fun x=>U8 (x:Nat) by
   simp only[u8s,List.map_map]
   apply List.map_congr_left
   intro x hx
   have:=hl x hx
   simp [UInt8.toNat_ofNat',Nat.mod_eq_of_lt this]] at this
  exact this
 have key:W3 (zCN fuel (d+2) 106 [I64 n] mem0) (fun r _=>Bs r (zAX n)):=by
  refine call_gc tf106 rfl (ic mem0) (by simp [a106]) fun b ht hx=>?_
  have h0:=hx 0 _ rfl
  clear hx
  simp only[a106,c106] at ht ⊢
  have td:∀ k:Nat,Int.tdiv (n:Int) (k:Int)=((n / k:Nat):Int):=fun k=>by rw[Int.tdiv_eq_ediv_of_nonneg (by omega)];rfl
  unfold zAX zDZ
  by_cases g1:n<128
  ·have q1:decide ((n:Int)<128)=true:=DT
   have w:=zG1 n (by omega)
   rw[if_pos g1]
   simp (maxSteps:=2000000) (disch:=try exact SX) only[RV,fillA,reduceIte,Nat.reduceEqDiff,Nat.reduceBEq,h0,q1,cv,pc1_int,w]
   exact lit [n] (by simp;omega) 1 rfl
  have q1:decide ((n:Int)<128)=false:=DF
  by_cases g2:n<2048
  ·have q2:decide ((n:Int)<2048)=true:=DT
   have w1:=td 64
   have w2:IntKind.i64.wrap ((n / 64:Nat):Int)=((n / 64:Nat):Int):=WI
   have w3:IntKind.i64.wrap (192+((n / 64:Nat):Int))=((192+n / 64:Nat):Int):=WI
   have w4:=zG1 (192+n / 64) (by omega)
   have z:((64:Int)=0)=False:=by simp
   rw[show ((64:Nat):Int)=64 from rfl] at w1
   rw[if_neg g1,if_pos g2]
   simp (maxSteps:=2000000) (disch:=try exact SX) only[RV,fillA,reduceIte,Nat.reduceEqDiff,Nat.reduceBEq,Nat.reduceAdd,h0,q1,q2,cv,pc1_int,vQuo,z,w1,w2,w3,w4,s0]
   exact lit [192+n / 64,128+n % 64] (by simp;omega) 2 rfl
  have q2:decide ((n:Int)<2048)=false:=DF
  by_cases g3:n<65536
  ·have q3:decide ((n:Int)<65536)=true:=DT
   have w1:=td 4096
   have w2:IntKind.i64.wrap ((n / 4096:Nat):Int)=((n / 4096:Nat):Int):=WI
   have w3:IntKind.i64.wrap (224+((n / 4096:Nat):Int))=((224+n / 4096:Nat):Int):=WI
   have w4:=zG1 (224+n / 4096) (by omega)
   have z:((4096:Int)=0)=False:=by simp
   rw[show ((4096:Nat):Int)=4096 from rfl] at w1
   rw[if_neg g1,if_neg g2,if_pos g3]
   simp (maxSteps:=2000000) (disch:=try exact SX) only[RV,fillA,reduceIte,Nat.reduceEqDiff,Nat.reduceBEq,Nat.reduceAdd,h0,q1,q2,q3,cv,pc1_int,vQuo,z,w1,w2,w3,w4,s0,s1]
   exact lit [224+n / 4096,128+n / 64 % 64,128+n % 64] (by simp;omega) 3 rfl
  ·have q3:decide ((n:Int)<65536)=false:=DF
   have w1:=td 262144
   have w2:IntKind.i64.wrap ((n / 262144:Nat):Int)=((n / 262144:Nat):Int):=WI
   have w3:IntKind.i64.wrap (240+((n / 262144:Nat):Int))=((240+n / 262144:Nat):Int):=WI
   have w4:=zG1 (240+n / 262144) (by omega)
   have z:((262144:Int)=0)=False:=by simp
   rw[show ((262144:Nat):Int)=262144 from rfl] at w1
   rw[if_neg g1,if_neg g2,if_neg g3]
   simp (maxSteps:=2000000) (disch:=try exact SX) only[RV,fillA,reduceIte,Nat.reduceEqDiff,Nat.reduceBEq,Nat.reduceAdd,h0,q1,q2,q3,cv,pc1_int,vQuo,z,w1,w2,w3,w4,s0,s1,s2]
   have:=lit [240+n / 262144,128+n / 4096 % 64,128+n / 64 % 64,128+n % 64] (by simp;omega) 4 rfl
   rw[show n / 4096=n / 64 / 64 by omega] at *
   exact this
 obtain⟨r,N,hcl,hr⟩:=key
 exact⟨r,hr,fun M=>call_own tf106 rfl hcl (ic mem0) (ic M)⟩
theorem zM8 (c:Nat)(hc:c<256)(M:Mem):zCN fuel (d+1) 104 [I64 c] M=some (.tup [I64 (zAN c).1,I64 (zAN c).2],M):=by
 apply w3_eq
 refine call_gc tf104 rfl (by simp (maxSteps:=2000000) (disch:=try exact SX) only[RV]) (by simp [a104]) fun b ht hx=>?_
 have h0:=hx 0 _ rfl
 clear hx
 simp only[a104,c104] at ht ⊢
 unfold zAN
 by_cases g1:c<128
 ·have q1:decide ((c:Int)<128)=true:=DT
  rw[if_pos g1]
  simp (maxSteps:=2000000) (disch:=try exact SX) only[RV,reduceIte,Nat.reduceEqDiff,h0,q1]
  rfl
 have q1:decide ((c:Int)<128)=false:=DF
 by_cases g2:c<192
 ·have q2:decide ((192:Int)≤c)=false:=DF
  have q3:decide ((224:Int)≤c)=false:=DF
  have q4:decide ((240:Int)≤c)=false:=DF
  rw[if_neg g1,if_neg (by omega),if_neg (by omega),if_neg (by omega)]
  simp (maxSteps:=2000000) (disch:=try exact SX) only[RV,reduceIte,Nat.reduceEqDiff,h0,q1,q2,q3,q4]
  rfl
 have q2:decide ((192:Int)≤c)=true:=DT
 by_cases g3:c<224
 ·have q3:decide ((c:Int)<224)=true:=DT
  have w:IntKind.i64.wrap ((c:Int) - 192)=((c - 192:Nat):Int):=WI
  rw[if_neg g1,if_pos (by omega)]
  simp (maxSteps:=2000000) (disch:=try exact SX) only[RV,reduceIte,Nat.reduceEqDiff,h0,q1,q2,q3,w]
  rfl
 have q3:decide ((c:Int)<224)=false:=DF
 have q4:decide ((224:Int)≤c)=true:=DT
 by_cases g4:c<240
 ·have q5:decide ((c:Int)<240)=true:=DT
  have w:IntKind.i64.wrap ((c:Int) - 224)=((c - 224:Nat):Int):=WI
  rw[if_neg g1,if_neg (by omega),if_pos (by omega)]
  simp (maxSteps:=2000000) (disch:=try exact SX) only[RV,reduceIte,Nat.reduceEqDiff,h0,q1,q2,q3,q4,q5,w]
  rfl
 have q5:decide ((c:Int)<240)=false:=DF
 have q6:decide ((240:Int)≤c)=true:=DT
 by_cases g5:c<248
 ·have q7:decide ((c:Int)<248)=true:=DT
  have w:IntKind.i64.wrap ((c:Int) - 240)=((c - 240:Nat):Int):=WI
  rw[if_neg g1,if_neg (by omega),if_neg (by omega),if_pos (by omega)]
  simp (maxSteps:=2000000) (disch:=try exact SX) only[RV,reduceIte,Nat.reduceEqDiff,h0,q1,q2,q3,q4,q5,q6,q7,w]
  rfl
 ·have q7:decide ((c:Int)<248)=false:=DF
  rw[if_neg g1,if_neg (by omega),if_neg (by omega),if_neg (by omega)]
  simp (maxSteps:=2000000) (disch:=try exact SX) only[RV,reduceIte,Nat.reduceEqDiff,h0,q1,q2,q3,q4,q5,q6,q7]
  rfl
theorem zGL (b:UInt8):∀ (l:List UInt8) (x:Nat),numN x (l++[b])=64*numN x l+b.toNat % 64
 | [],x=>rfl
 | c::l,x=>zGL b l (64*x+c.toNat % 64)
theorem zKT:∀ (l:List UInt8) (x:Nat),numN x l+1≤(x+1)*64 ^ l.length
 | [],x=>by simp [numN]
 | c::l,x=>by
  have ih:=zKT l (64*x+c.toNat % 64)
  simp only[numN,List.length_cons]
  refine Nat.le_trans ih ?_
  rw[Nat.pow_succ,Nat.mul_comm (64 ^ l.length) 64,← Nat.mul_assoc]
  exact Nat.mul_le_mul_right _ (by omega)
theorem zO4 (c:Nat):(zAN c).1≤4∧(zAN c).2≤127:=by
 unfold zAN
 split
 ·simp;omega
 ·split
  ·simp;omega
  ·split
   ·simp;omega
   ·split
    ·simp;omega
    ·simp
theorem zK9 (l:List UInt8)(hne:l≠[])(hl:l.length≤100000)(hf:1000<fuel)(M:Mem):zCN fuel (d+3) 64 [STR l] M=some (.tup [I64 ((zAS l).getD (0,0)).1,I64 ((zAS l).getD (0,0)).2],M):=by
 obtain⟨c,tl,rfl⟩:∃ c tl,l=c::tl:=by cases l with | nil=>exact absurd rfl hne | cons c tl=>exact⟨c,tl,rfl⟩
 have hcl:=c.toNat_lt
 obtain⟨hh1,hh2⟩:=zO4 c.toNat
 simp only[List.length_cons] at hl
 have sl:=fun t lo hi r x=>pSubS (P:=Tryz.prog) (t:=t) Tryz.underlying9 x lo hi r
 have ln:=fun t x r=>pLenS (P:=Tryz.prog) (t:=t) Tryz.underlying9 x r
 have ix:=fun t x i r=>pIdxS (P:=Tryz.prog) (t:=t) Tryz.underlying9 x i r
 have cv:=fun t r x=>pConv2 (P:=Tryz.prog) (t:=t) Tryz.underlying5 Tryz.underlying3 r x
 have i0:∀ d,idxS d (STR (c::tl)) (I64 0)=some (U8 c.toNat):=fun d=>idx_str (d:=d) (l:=c::tl) (i:=0) (by simp)
 have w0:IntKind.i64.wrap (c.toNat:Int)=(c.toNat:Int):=WI
 have hd:=fun M=>zM8 (fuel:=fuel) (d:=d+1) c.toNat (by omega) M
 apply w3_eq
 refine call_gc tf64 rfl (by simp (disch:=try exact SX) only[RV]) (by simp [a64]) fun b ht hx=>?_
 have h0:=hx 0 _ rfl
 clear hx
 simp only[a64,c64] at ht ⊢
 have hfl:zAS (c::tl)=(if (zAN c.toNat).1=0∨(c::tl).length<(zAN c.toNat).1 then none
  else if isR (numN (zAN c.toNat).2 (tl.take ((zAN c.toNat).1 - 1)))=true∧zAX (numN (zAN c.toNat).2 (tl.take ((zAN c.toNat).1 - 1)))=(c::tl).take (zAN c.toNat).1 then
   some (numN (zAN c.toNat).2 (tl.take ((zAN c.toNat).1 - 1)),(zAN c.toNat).1) else none):=rfl
 rw[hfl]
 generalize (zAN c.toNat).1=k at *
 generalize (zAN c.toNat).2=x at *
 by_cases g1:k=0
 ·have q1:decide ((k:Int)=0)=true:=DT
  rw[if_pos (.inl g1)]
  simp (disch:=try exact SX) only[RV,seval,h0,ix,i0,cv,pc1_int,w0,hd,q1]
  rfl
 have q1:decide ((k:Int)=0)=false:=DF
 by_cases g2:(c::tl).length<k
 ·have q2:decide (((tl.length+1:Nat):Int)<k)=true:=decide_eq_true (by simp only[List.length_cons] at g2;omega)
  rw[if_pos (.inr g2)]
  simp (disch:=try exact SX) only[RV,seval,h0,ix,i0,cv,pc1_int,w0,hd,q1,ln,str_size,q2]
  rfl
 have q2:decide (((tl.length+1:Nat):Int)<k)=false:=decide_eq_false (by simp only[List.length_cons] at g2;omega)
 rw[if_neg (by rintro (h | h);exact g1 h;exact g2 h)]
 have hkl:k≤(c::tl).length:=by omega
 simp (disch:=try exact SX) only[RV,seval,h0,ix,i0,cv,pc1_int,w0,hd,q1,ln,str_size,q2]
 refine w_loop (I:=fun m t N => ∃ i:Nat,1≤i∧i≤k∧m=k - i∧nth undefA t 0=STR (c::tl)∧nth undefA t 4=I64 k∧nth undefA t 5=I64 (numN x (tl.take (i - 1)):Nat)∧nth undefA t 6=I64 i) (n:=k - 1) (by omega) ?_ ?_
 ·refine⟨1,by omega,by omega,rfl, ?_, ?_, ?_, ?_⟩ <;> simp (disch:=try exact SX) only[RV,seval,h0]
  all_goals rfl
 ·rintro m t N hl' ⟨i,hi1,hi,hm,t0,t4,t5,t6⟩
  simp only[ht] at hl' ⊢
  clear h0 ht b
  have hn1:=zKT (tl.take (i - 1)) x
  rw[List.length_take] at hn1
  have hn2:(x+1)*64 ^ (min (i - 1) tl.length)≤128*64 ^ 3:=Nat.mul_le_mul (by omega) (Nat.pow_le_pow_right (by omega) (by omega))
  by_cases hlt:i<k
  ·have hc':decide ((i:Int)<k)=true:=DT
   have w1:IntKind.i64.wrap ((i:Int)+1)=((i+1:Nat):Int):=WI
   have hi':i<(c::tl).length:=by omega
   have ii:=fun d=>idx_str (d:=d) (l:=c::tl) (i:=i) hi'
   have htk:tl.take (i+1 - 1)=tl.take (i - 1)++[(c::tl)[i]'hi']:=by
    obtain⟨j,rfl⟩:∃ j,i=j+1:=⟨i - 1,by omega⟩
    have hj:j<tl.length:=by simp only[List.length_cons] at hi';omega
    simp only[Nat.add_sub_cancel,List.getElem_cons_succ]
    rw[List.take_add_one,List.getElem?_eq_getElem hj];rfl
   generalize (c::tl)[i]'hi'=y at *
   have hy:=y.toNat_lt
   have wy:IntKind.i64.wrap (y.toNat:Int)=(y.toNat:Int):=WI
   have w2:IntKind.i64.wrap (64*((numN x (tl.take (i - 1)):Nat):Int))=((64*numN x (tl.take (i - 1)):Nat):Int):=WI
   have w3:Int.tmod (y.toNat:Int) 64=((y.toNat % 64:Nat):Int):=by rw[Int.tmod_eq_emod_of_nonneg (by omega)];omega
   have w4:IntKind.i64.wrap (((64*numN x (tl.take (i - 1)):Nat):Int)+((y.toNat % 64:Nat):Int))=((64*numN x (tl.take (i - 1))+y.toNat % 64:Nat):Int):=WI
   have z:((64:Int)=0)=False:=by simp
   simp (disch:=try exact SX) only[RV,seval,t0,t4,t5,t6,hc',w1,ix,ii,cv,pc1_int,wy,w2,vRem,z,w3,w4]
   refine⟨hl',k - (i+1),by omega,i+1,by omega,by omega,rfl, ?_,rfl⟩
   rw[htk,zGL]
  ·obtain rfl:i=k:=by omega
   generalize numN x (tl.take (i - 1))=v at *
   have hv:=zJL v
   have isr:=fun M=>zIL (fuel:=fuel) (d:=d+1) (v:Int) M
   rw[hv] at isr
   cases hR:isR v with
   | false =>
    rw[hR] at isr
    rw[if_neg (by simp)]
    simp (disch:=try exact SX) only[RV,seval,t4,t5,t6,isr]
    rfl
   | true =>
    rw[hR] at isr
    have hv2:v≤1114111:=by simp [isR] at hR;omega
    obtain⟨r,hr,hby⟩:=zJY (fuel:=fuel) (d:=d) v hv2 hf
    have st:=fun d=>sub_to (d:=d) (l:=c::tl) (i:=i) (by omega)
    have rr:=hr.rows mem0
    by_cases he:zAX v=(c::tl).take i
    ·have q3:decide (zAX v=(c::tl).take i)=true:=decide_eq_true he
     rw[if_pos ⟨rfl,he⟩]
     simp (disch:=try exact SX) only[RV,seval,t0,t4,t5,t6,isr,hby,hr.b2s,sl,st,q3,rr]
     rfl
    ·have q3:decide (zAX v=(c::tl).take i)=false:=decide_eq_false he
     rw[if_neg (by rintro⟨_,h⟩;exact he h)]
     simp (disch:=try exact SX) only[RV,seval,t0,t4,t5,t6,isr,hby,hr.b2s,sl,st,q3,rr]
     rfl
theorem zML {l cur:List UInt8}{acc:List Int}{n k:Nat}(h:ofL l=(ofL cur).map (acc ++ ·))(hne:cur≠[])(hf:zAS cur=some (n,k)):ofL l=(ofL (cur.drop k)).map ((acc++[(n:Int)]) ++ ·):=by
 rw[h,zIG _ hne,hf]
 cases hh:ofL (cur.drop k) <;> simp [hh]
theorem zOE (l:List UInt8)(hl:l.length≤100000)(hf:l.length+1000<fuel):∃ r,Sl 1 zA3 r (ofM l) ∧ ∀ M,zCN fuel (d+4) 40 [STR l] M=some (.tup [r,I64 (ofE l)],M):=by
 have ic:∀ M,icyL (icy 12) M [STR l]=some ([STR l],M):=fun M=>by simp (disch:=try exact SX) only[RV]
 have sl:=fun t lo hi r x=>pSubS (P:=Tryz.prog) (t:=t) Tryz.underlying9 x lo hi r
 have cv:=fun t r x=>pConv2 (P:=Tryz.prog) (t:=t) Tryz.underlying3 Tryz.underlying21 r x
 have key:W3 (zCN fuel (d+4) 40 [STR l] mem0) (fun r _ => ∃ r',r = .tup [r',I64 (ofE l)]∧Sl 1 zA3 r' (ofM l)):=by
  refine call_gc tf40 rfl (ic mem0) (by simp [a40]) fun b ht hx=>?_
  have h0:=hx 0 _ rfl
  clear hx
  simp only[a40,c40] at ht ⊢
  simp (disch:=try exact SX) only[RV]
  refine w_loop (I:=fun n t N => ∃ (cur:List UInt8) (o:AV) (acc:List Int),n=cur.length∧nth undefA t 0=STR cur∧nth undefA t 4=o∧Wf N∧SlM N 1 zA3 o acc∧cur.length+acc.length≤l.length∧ofL l=(ofL cur).map (acc ++ ·)) (n:=l.length) (by omega) ?_ ?_
  ·refine⟨l,NIL,[],rfl, ?_, ?_,Wf.mem0,SlM.nil,by simp,by simp⟩ <;> simp (disch:=try exact SX) only[RV,seval,h0]
  ·rintro n t N hl' ⟨cur,o,acc,rfl,t0,t4,wfN,hN,hacc,hof⟩
   simp only[ht] at hl' ⊢
   clear h0 ht b
   by_cases hne:cur=[]
   ·subst hne
    simp only[zFN,Option.map_some,List.append_nil] at hof
    have ln:=hN.len
    obtain⟨r,hSr,hfz⟩:=slm_frz2 hN zBQ.cel 12 (by omega)
    have hfz:=hfz N (fun _ _=>rfl)
    by_cases h64:64<acc.length
    ·have q1:decide ((64:Int)<acc.length)=true:=DT
     have q2:ofE l=4:=by simp [ofE,hof,h64]
     have q3:ofM l=[]:=by simp [ofM,hof,h64]
     rw[q2,q3]
     simp (disch:=try exact SX) only[RV,seval,t0,t4,ln,q1]
     exact⟨_,rfl,.inl ⟨rfl,rfl⟩⟩
    ·have q1:decide ((64:Int)<acc.length)=false:=DF
     have q2:ofE l=0:=by simp [ofE,hof,h64]
     have q3:ofM l=acc:=by simp [ofM,hof,h64]
     rw[q2,q3]
     simp (disch:=try exact SX) only[RV,seval,t0,t4,ln,q1,hfz]
     exact⟨_,rfl,hSr⟩
   ·have q0:decide (cur=[])=false:=decide_eq_false hne
    have fr:=fun M=>zK9 (fuel:=fuel) (d:=d) cur hne (by omega) (by omega) M
    cases hfi:zAS cur with
    | none =>
     rw[hfi] at fr
     replace fr:∀ M,zCN fuel (d+3) 64 [STR cur] M=some (.tup [I64 0,I64 0],M):=fr
     rw[zIG _ hne,hfi] at hof
     have q1:ofE l=3:=by simp [ofE,hof]
     have q2:ofM l=[]:=by simp [ofM,hof]
     rw[q1,q2]
     simp (disch:=try exact SX) only[RV,seval,t0,q0,fr]
     exact⟨_,rfl,.inl ⟨rfl,rfl⟩⟩
    | some p =>
     obtain⟨n,k⟩:=p
     obtain⟨b1,b2,b3,b4⟩:=zB3 hfi
     rw[hfi] at fr
     simp only[Option.getD_some] at fr
     have hof2:=zML hof hne hfi
     have hn:n≤1114111:=by simp [isR] at b1;omega
     have q1:decide ((k:Int)=0)=false:=DF
     have w1:IntKind.i32.wrap (n:Int)=(n:Int):=by simp [IntKind.wrap,IntKind.bits,IntKind.signed];omega
     have rlo:=rows_lt hN.rl (show N.size≤N.size+1 by omega)
     have sf:=fun d=>sub_from (d:=d) b4
     simp (disch:=try exact SX) only[RV,seval,fillA,t0,t4,q0,fr,q1,cv,pc1_int,w1,rlo]
     refine w3_appc (by simp (disch:=try exact SX) only[RV,wfN]) (hN.keep fun j hj=>?kp) zBQ.cel (l':=[(n:Int)]) (new:=[[I32 n]]) (cells_lit (cs:=[I32 n]) (n:=1) (st:=1) (get_add_new wfN _ _ (Nat.le_refl _) (Nat.lt_succ_self _)) rfl) rfl (.cons rfl .nil) (by simp) (by omega) (by simp;omega) (by simp;omega) fun o4 M4 m4 wf4 le4 sz4 kp4 nw4 wm4 rl4 on4 oc4=>?_
     case kp =>
      have:=hN.lt j hj
      exact zB05
     simp (disch:=try exact SX) only[RV,seval,t0,t4,sl,sf]
     exact⟨hl',(cur.drop k).length,by rw[List.length_drop];omega,cur.drop k,o4,acc++[(n:Int)],rfl,rfl,rfl,wf4,m4,by rw[List.length_drop];simp;omega,hof2⟩
 obtain⟨r,N,hcl,r',rfl,hSr⟩:=key
 exact⟨r',hSr,fun M=>call_own tf40 rfl hcl (ic mem0) (ic M)⟩
def Rn.may (r:Rn):Bool:=r.sp.may&&(decide (r.af=Eid.z) || (r.af.may&&decide (r.af.c<r.sp.f.c)))&&decide ((r.rs.length:Int)=r.sp.n)&&decide (chkR r.rs=0)
theorem zAT {o:Rn}{ra:AV}(h:Fz ra)(M:Mem):icy 12 M (.agg (rnR o ra))=some (.agg (rnR o ra),M):=fz_icyA (zN9 h) (by omega) M
theorem zEJ {a:AV}{l:List Int}(hS:Sl 1 zA3 a l)(hi32:i32s l)(hf:100<fuel)(M:Mem):zCN fuel (d+2) 100 [a] M=some (I64 (chkR l),M):=by
 have ll:=hS.len
 have cv:=fun t r x=>pConv2 (P:=Tryz.prog) (t:=t) Tryz.underlying21 Tryz.underlying3 r x
 apply w3_eq
 refine call_gc tf100 rfl (by simp (disch:=try exact SX) only[icyL,hS.fz.icy]) (by simp [a100]) fun b' ht hx=>?_
 have h0:=hx 0 _ rfl
 clear hx
 simp only[a100,c100] at ht ⊢
 unfold chkR
 by_cases q:64<l.length
 ·exact zB0R
 ·have q1:decide ((64:Int)<l.length)=false:=DF
  rw[if_neg q]
  simp (disch:=try exact SX) only[RV,seval,h0,ll,q1]
  refine w_loop (I:=fun n t N => ∃ (i:Nat),n=l.length - i∧i≤l.length∧nth undefA t 0=a∧nth undefA t 3=I64 i∧N=mem0∧(l.take i).all okR=true) (n:=l.length) (by omega) ?_ ?_
  ·refine⟨0,rfl,Nat.zero_le _, ?_, ?_,rfl,rfl⟩ <;> simp (disch:=try exact SX) only[RV,seval,h0]
   all_goals first | rfl | assumption | done
  ·rintro n t N hlt ⟨i,rfl,hi,g0,g3,hm,hj⟩
   simp only[ht] at hlt ⊢
   subst hm
   by_cases hc:i<l.length
   ·have q2:decide ((i:Int)<l.length)=true:=DT
    have w1:IntKind.i64.wrap ((i:Int)+1)=((i+1:Nat):Int):=WI
    obtain⟨r,hr,hrr,_⟩:=hS.iad i hc
    have hrr:r=[I32 l[i]]:=hrr
    subst hrr
    have hrg:=hi32 l[i] (List.getElem_mem hc)
    have hw:IntKind.i64.wrap l[i]=l[i]:=wrap_i64 (by omega) (by omega)
    have his:=fun M=>@zIL fuel d l[i] M
    have htk:(l.take (i+1)).all okR=((l.take i).all okR&&okR l[i]):=by
     rw[List.take_add_one,List.getElem?_eq_getElem hc,List.all_append]
     simp
    have bad:okR l[i]=false→l.all okR=false:=fun h=>by
     rw[← Bool.not_eq_true,List.all_eq_true]
     intro h2
     rw[h2 _ (List.getElem_mem hc)] at h
     cases h
    cases q3:decide (l[i] = -1) with
    | true =>
     have ok:okR l[i]=true:=by unfold okR;rw[q3];rfl
     simp (disch:=try exact SX) only[RV,seval,g0,g3,ll,q2,w1,hr,q3]
     exact⟨hlt,l.length - (i+1),by omega,i+1,rfl,by omega,rfl,by rw[htk,hj,ok];rfl⟩
    | false =>
     cases q4:zC8 l[i] with
     | true =>
      rw[q4] at his
      have ok:okR l[i]=true:=by unfold okR;rw[q3,q4];rfl
      simp (disch:=try exact SX) only[RV,seval,g0,g3,ll,q2,w1,hr,q3,cv,pc1_int,hw,his]
      exact⟨hlt,l.length - (i+1),by omega,i+1,rfl,by omega,rfl,by rw[htk,hj,ok];rfl⟩
     | false =>
      rw[q4] at his
      have ok:okR l[i]=false:=by unfold okR;rw[q3,q4];rfl
      rw[bad ok]
      simp (disch:=try exact SX) only[RV,seval,g0,g3,ll,q2,hr,q3,cv,pc1_int,hw,his,zAC]
   ·obtain rfl:i=l.length:=by omega
    have q2:decide ((l.length:Int)<l.length)=false:=DF
    rw[List.take_length] at hj
    rw[hj]
    simp (disch:=try exact SX) only[RV,seval,g0,g3,ll,zA4]
theorem zL6 {o:Op}{ra:AV}(hS:Sl 1 zA3 ra o.rs)(ho:o.ok)(hf:100<fuel)(M:Mem):zCN fuel (d+5) 62 [.agg (opR o ra)] M=some (BL o.may,M):=by
 have ll:=hS.len
 have hh:=fun M=>@zDA fuel (d+2) o.hd M
 have hs:=fun M=>@zF4 fuel d o.sp M
 have hz:=fun M=>@zJH fuel (d+3) o.af M
 have ha:=fun M=>@zEL fuel (d+1) o.af M
 have hto:=fun M=>@zEG fuel (d+3) o.to M
 have hc:=fun M=>zEJ (fuel:=fuel) (d:=d+2) hS ho.2.2.2.2.2.2 hf M
 apply w3_eq
 refine call_gc tf62 rfl (by simp only[icyL,zCH hS.fz]) (by simp [a62]) fun b' ht hx=>?_
 have h0:=hx 0 _ rfl
 clear hx
 simp only[a62,c62] at ht ⊢
 unfold Op.may
 have k0:=ho.1
 cases q3:o.hd.may <;> rw[q3] at hh
 ·simp (disch:=try exact SX) only[RV,seval,h0,hh,Bool.false_and,Bool.and_false]
 cases q4:decide (o.sr<1)
 rotate_left
 ·simp (disch:=try exact SX) only[RV,seval,h0,hh,q4,Bool.false_and,Bool.and_false]
 cases q5:decide (16777216≤o.sr)
 rotate_left
 ·simp (disch:=try exact SX) only[RV,seval,h0,hh,q4,q5,Bool.false_and,Bool.and_false]
 cases q6:o.sp.may <;> rw[q6] at hs
 ·simp (disch:=try exact SX) only[RV,seval,h0,hh,q4,q5,hs,Bool.false_and,Bool.and_false]
 simp only[Bool.not_false,Bool.and_true]
 by_cases k1:o.kd=1
 ·have e0:decide (o.kd=0)=false:=DF
  have e4:decide (4≤o.kd)=false:=DF
  have e1:decide (o.kd=1)=true:=decide_eq_true k1
  have ep:o.part=(decide (o.to=Lb.z)&&(decide (o.af=Eid.z) || o.af.may)&&decide (o.sp.f.hd=o.hd)&&decide ((o.rs.length:Int)=o.sp.n)&&decide (chkR o.rs=0)):=by unfold Op.part;rw[if_pos k1]
  rw[e0,e4,ep]
  simp only[Bool.not_false,Bool.true_and]
  cases b1:decide (o.to=Lb.z)
  ·simp (disch:=try exact SX) only[RV,seval,fillA,h0,hh,q4,q5,hs,↓pLbE,zA6,ETA,e1,b1,Bool.false_and]
  cases b2:decide (o.af=Eid.z) <;> rw[b2] at hz
  ·cases b3:o.af.may <;> rw[b3] at ha
   ·simp (disch:=try exact SX) only[RV,seval,fillA,h0,hh,q4,q5,hs,↓pLbE,zA6,ETA,e1,b1,hz,ha,Bool.false_and]
   ·cases b4:decide (o.sp.f.hd=o.hd)
    ·simp (disch:=try exact SX) only[RV,seval,fillA,h0,hh,q4,q5,hs,↓pHdE,zAD,↓pLbE,zA6,ETA,e1,b1,hz,ha,b4,Bool.false_and]
    ·cases b5:decide ((o.rs.length:Int)=o.sp.n)
     ·simp (disch:=try exact SX) only[RV,seval,fillA,h0,hh,q4,q5,hs,↓pHdE,zAD,↓pLbE,zA6,ETA,e1,b1,hz,ha,b4,ll,b5,Bool.false_and]
     ·simp (disch:=try exact SX) only[RV,seval,fillA,h0,hh,q4,q5,hs,↓pHdE,zAD,↓pLbE,zA6,ETA,e1,b1,hz,ha,b4,ll,b5,hc]
  ·cases b4:decide (o.sp.f.hd=o.hd)
   ·simp (disch:=try exact SX) only[RV,seval,fillA,h0,hh,q4,q5,hs,↓pHdE,zAD,↓pLbE,zA6,ETA,e1,b1,hz,b4,Bool.false_and]
   ·cases b5:decide ((o.rs.length:Int)=o.sp.n)
    ·simp (disch:=try exact SX) only[RV,seval,fillA,h0,hh,q4,q5,hs,↓pHdE,zAD,↓pLbE,zA6,ETA,e1,b1,hz,b4,ll,b5,Bool.false_and]
    ·simp (disch:=try exact SX) only[RV,seval,fillA,h0,hh,q4,q5,hs,↓pHdE,zAD,↓pLbE,zA6,ETA,e1,b1,hz,b4,ll,b5,hc]
 ·have e1:decide (o.kd=1)=false:=decide_eq_false k1
  cases b2:decide (o.af=Eid.z) <;> rw[b2] at hz
  ·have ep:o.part=false:=by
    unfold Op.part Op.bare
    rw[if_neg k1,b2]
    split <;> simp
   rw[ep,Bool.and_false]
   simp (disch:=try exact SX) only[RV,seval,fillA,h0,hh,q4,q5,hs,↓pLbE,zA6,ETA,e1,hz]
  ·by_cases b3:0<o.rs.length
   ·have b3':decide ((0:Int)<o.rs.length)=true:=DT
    have ep:o.part=false:=by
     unfold Op.part Op.bare
     rw[if_neg k1,decide_eq_false (show ¬((o.rs.length:Int)=0) by omega)]
     split <;> simp
    rw[ep,Bool.and_false]
    simp (disch:=try exact SX) only[RV,seval,fillA,h0,hh,q4,q5,hs,↓pLbE,zA6,ETA,e1,hz,ll,b3']
   ·have b3':decide ((0:Int)<o.rs.length)=false:=DF
    have eb:o.bare=true:=by
     unfold Op.bare
     rw[b2,decide_eq_true (show (o.rs.length:Int)=0 by omega)]
     rfl
    by_cases k2:o.kd=2
    ·have e2:decide (o.kd=2)=true:=decide_eq_true k2
     have e3:decide (o.kd=3)=false:=DF
     have ep:o.part=decide (o.to=Lb.z):=by unfold Op.part;rw[if_neg k1,if_pos k2,eb,Bool.and_true]
     rw[ep,decide_eq_false (show ¬(o.kd=0) by omega),decide_eq_false (show ¬(4≤o.kd) by omega)]
     simp only[Bool.not_false,Bool.true_and]
     cases b1:decide (o.to=Lb.z)
     all_goals simp (disch:=try exact SX) only[RV,seval,fillA,h0,hh,q4,q5,hs,↓pLbE,zA6,ETA,e1,hz,ll,b3',e2,e3,b1]
    ·have e2:decide (o.kd=2)=false:=decide_eq_false k2
     have ep:o.part=o.to.may:=by unfold Op.part;rw[if_neg k1,if_neg k2,eb,Bool.true_and]
     by_cases k3:o.kd=3
     ·have e3:decide (o.kd=3)=true:=decide_eq_true k3
      rw[ep,decide_eq_false (show ¬(o.kd=0) by omega),decide_eq_false (show ¬(4≤o.kd) by omega)]
      simp only[Bool.not_false,Bool.true_and]
      simp (disch:=try exact SX) only[RV,seval,fillA,h0,hh,q4,q5,hs,↓pLbE,zA6,ETA,e1,hz,ll,b3',e2,e3,hto]
     ·have e3:decide (o.kd=3)=false:=decide_eq_false k3
      have ek:(!decide (o.kd=0) && !decide (4≤o.kd))=false:=by
       by_cases h:o.kd=0
       ·rw[decide_eq_true h];rfl
       ·rw[decide_eq_true (show 4≤o.kd by omega)];simp
      rw[ek,Bool.false_and]
      simp (disch:=try exact SX) only[RV,seval,fillA,h0,hh,q4,q5,hs,↓pLbE,zA6,ETA,e1,hz,ll,b3',e2,e3]
theorem zJB {o:Rn}{ra:AV}(hS:Sl 1 zA3 ra o.rs)(ho:i32s o.rs)(hf:100<fuel)(M:Mem):zCN fuel (d+5) 102 [.agg (rnR o ra)] M=some (BL o.may,M):=by
 have ll:=hS.len
 have hs:=fun M=>@zF4 fuel d o.sp M
 have hz:=fun M=>@zHF fuel (d+3) o.af M
 have ha:=fun M=>@zEL fuel (d+1) o.af M
 have hc:=fun M=>zEJ (fuel:=fuel) (d:=d+2) hS ho hf M
 apply w3_eq
 refine call_gc tf102 rfl (by simp only[icyL,zAT hS.fz]) (by simp [a102]) fun b' ht hx=>?_
 have h0:=hx 0 _ rfl
 clear hx
 simp only[a102,c102] at ht ⊢
 unfold Rn.may
 cases q6:o.sp.may <;> rw[q6] at hs
 ·simp (disch:=try exact SX) only[RV,seval,h0,hs,Bool.false_and]
 simp only[Bool.true_and]
 cases b5:decide ((o.rs.length:Int)=o.sp.n)
 ·simp (disch:=try exact SX) only[RV,seval,h0,hs,ll,b5,Bool.false_and,Bool.and_false]
 cases b6:decide (chkR o.rs=0)
 ·simp (disch:=try exact SX) only[RV,seval,h0,hs,ll,b5,hc,b6,Bool.and_false]
 simp only[Bool.and_true]
 cases b2:decide (o.af=Eid.z) <;> rw[b2] at hz
 ·cases b3:o.af.may <;> rw[b3] at ha
  ·simp (disch:=try exact SX) only[RV,seval,h0,hs,ll,b5,hc,b6,hz,ha,Bool.false_and]
  ·cases b4:decide (o.af.c<o.sp.f.c)
   all_goals simp (disch:=try exact SX) only[RV,seval,h0,hs,ll,b5,hc,b6,hz,ha,b4,Bool.and_false]
 ·simp (disch:=try exact SX) only[RV,seval,h0,hs,ll,b5,hc,b6,hz]
theorem zPD {o:Op}{ra:AV}{x:Nat}(hS:Sl 1 zA3 ra o.rs)(hk1:o.kd=1)(hf:100<fuel)(wf:Wf M)(hx1:M.get x=some (.row false [.fn 114 [] []]))(k:∀ N,Kept M N→Q (BL o.part) N) :
  W3 (zCN fuel (d+6) 116 [.agg (opR o ra),.ptr x 0] M) Q:=by
 have ll:=hS.len
 have lx:=Mem.get_lt hx1
 have hc:=fun M=>@zFC fuel (d+2) o.af M
 have hr:=fun M=>zF5 (fuel:=fuel) (d:=d) hS hf M
 have z4:decide ((4:Int)=0)=false:=rfl
 unfold Op.part at k
 rw[if_pos hk1] at k
 have kept:=fun cs=>(Kept.refl wf).add (.row false cs)
 have key:∀ b:Bool,((decide (o.af=Eid.z) || o.af.may)=b)→True:=fun _ _=>trivial
 refine call_0 tf116 rfl (by simp [a116]) fun b' ht hx=>?_
 obtain⟨h0,h1⟩:=hx2 hx
 clear hx
 simp only[a116,c116] at ht ⊢
 have tail:∀ b:Bool,(decide (o.af=Eid.z) || o.af.may)=b → ∀ t:List AV,t.length=b'.length→True:=fun _ _ _ _=>trivial
 clear tail key
 cases q:decide (o.af=Eid.z) <;> cases q':o.af.may <;> rw[q'] at hc <;> simp only[q,q',Bool.or_false,Bool.or_true,Bool.false_and,Bool.and_false,Bool.and_true] at k
 all_goals
  (simp (disch:=try exact SX) only[RV,seval,fillA,h0,h1,↓pIdE,zA0,ETA,q,hc,zA4,zAC,hx1])
  refine zI6 hS (by simp (disch:=try exact SX) only[RV,wf]) fun N hN=>?_
  have hg:=hN.get M.size (by rw[add_size];omega)
  rw[get_add_new wf _ _ (Nat.le_refl _) (Nat.lt_succ_self _)] at hg
  have lg:=Mem.get_lt hg
  have kN:=((Kept.refl wf).add _).trans hN
  cases q1:decide (o.to=Lb.z) <;> (try simp only[q1,Bool.false_and,Bool.true_and] at k)
  all_goals (simp (disch:=try exact SX) only[RV,seval,hg,↓pHdE,zAD,ETA])
  all_goals first | exact k _ kN | skip
 all_goals
  cases q2:decide (o.sp.f.hd=o.hd) <;> (try simp only[q2,Bool.false_and,Bool.true_and] at k)
  all_goals (simp (disch:=try exact SX) only[RV,seval,hg])
  all_goals first | exact k _ kN | skip
 all_goals
  cases q3:decide ((o.rs.length:Int)=o.sp.n) <;> (try simp only[q3,Bool.false_and,Bool.true_and] at k)
  all_goals (simp (disch:=try exact SX) only[RV,seval,hg,ll,q3,hr])
  all_goals exact k _ kN
theorem zPC {o:Op}{ra:AV}{x y:Nat}(hS:Sl 1 zA3 ra o.rs)(wf:Wf M)(hx1:M.get x=some (.row false [.fn 114 [] []]))(hy1:M.get y=some (.row false [.fn 113 [] []]))(k:∀ N,Kept M N→Q (BL (decide (o.to=Lb.z)&&o.bare)) N) :
  W3 (zCN fuel (d+3) 119 [.agg (opR o ra),.ptr x 0,.ptr y 0] M) Q:=by
 have lx:=Mem.get_lt hx1
 have ly:=Mem.get_lt hy1
 refine call_0 tf119 rfl (by simp [a119]) fun b' ht hx=>?_
 obtain⟨h0,h1,h2⟩:=hx3 hx
 clear hx
 simp only[a119,c119] at ht ⊢
 simp (disch:=try exact SX) only[RV,seval,h0,h1,hx1]
 refine zI6 hS (by simp (disch:=try exact SX) only[RV,wf]) fun N hN=>?_
 have hg:=hN.get M.size (by rw[add_size];omega)
 rw[get_add_new wf _ _ (Nat.le_refl _) (Nat.lt_succ_self _)] at hg
 have lg:=Mem.get_lt hg
 have gy:=(hN.get y (by rw[add_size];omega)).trans ((get_add wf _ _ ly).trans hy1)
 have lgy:=Mem.get_lt gy
 have kN:=((Kept.refl wf).add _).trans hN
 cases q1:decide (o.to=Lb.z) <;> simp only[q1,Bool.false_and,Bool.true_and] at k <;> simp (disch:=try exact SX) only[RV,seval,h2,hg,gy]
 ·exact k _ kN
 ·refine zN5 hS hN.wf fun N' hN'=>?_
  simp (disch:=try exact SX) only[RV,seval]
  exact k _ (kN.trans hN')
theorem zMX {o:Op}{ra:AV}{y:Nat}(hS:Sl 1 zA3 ra o.rs)(wf:Wf M)(hy1:M.get y=some (.row false [.fn 113 [] []]))(k:∀ N,Kept M N→Q (BL (o.bare&&o.to.may)) N) :
  W3 (zCN fuel (d+2) 121 [.agg (opR o ra),.ptr y 0] M) Q:=by
 have ly:=Mem.get_lt hy1
 have hl:=fun M=>@zBR fuel d o.to M
 refine call_0 tf121 rfl (by simp [a121]) fun b' ht hx=>?_
 obtain⟨h0,h1⟩:=hx2 hx
 clear hx
 simp only[a121,c121] at ht ⊢
 simp (disch:=try exact SX) only[RV,seval,h0,h1,hy1]
 refine zN5 hS (by simp (disch:=try exact SX) only[RV,wf]) fun N hN=>?_
 have hg:=hN.get M.size (by rw[add_size];omega)
 rw[get_add_new wf _ _ (Nat.le_refl _) (Nat.lt_succ_self _)] at hg
 have lg:=Mem.get_lt hg
 have kN:=((Kept.refl wf).add _).trans hN
 cases q1:o.bare <;> simp only[q1,Bool.false_and,Bool.true_and] at k
 ·exact zB0S
 ·cases q2:o.to.may <;> rw[q2] at hl k <;> simp (disch:=try exact SX) only[RV,seval,hg,hl,zA4,zAC] <;> exact k _ kN
theorem zOA (wf:Wf M)(hw:M.wm≤M.size)(k:∀ N x y,Kept M N→N.get x=some (.row false [.fn 114 [] []])→N.get y=some (.row false [.fn 113 [] []])→M.size≤x→M.size≤y→Q (.agg [.sc .nilFunc,.sc .nilFunc,.fn 116 [] [.ptr x 0],.fn 118 [] [],.fn 119 [] [.ptr x 0,.ptr y 0],.fn 120 [] [],.fn 121 [] [.ptr y 0],.fn 122 [] []]) N) :
  W3 (zCN fuel (d+1) 71 [] M) Q:=by
 have onf:oneA (.sc .nilFunc)=true:=rfl
 have sn:scs Value.nilFunc=[.sc .nilFunc]:=rfl
 refine call_0 tf71 rfl (by simp [a71]) fun b' ht hx=>?_
 clear hx
 simp only[a71,c71] at ht ⊢
 simp (disch:=try exact SX) only[RV,seval,fillA,sn]
 refine k _ (M.size+1+1) (M.size+1) ((((((Kept.refl wf).add _).add _).upd hw (by omega) _).add _).upd hw (by omega) _ |>.upd hw (by omega) _) ?_ ?_ (by omega) (by omega)
 ·exact zB05
 ·exact zB05
theorem zBU {o:Op}{ra:AV}(hS:Sl 1 zA3 ra o.rs)(ho:o.ok)(hf:100<fuel)(M:Mem):zCN fuel (d+7) 47 [.agg (opR o ra)] M=some (I64 (err o.may),M):=by
 have hh:=fun M=>@zBT fuel (d+4) o.hd M
 have hs:=fun M=>@zCU fuel (d+2) o.sp M
 apply w3_eq
 refine call_gc tf47 rfl (by simp only[icyL,zCH hS.fz]) (by simp [a47]) fun b' ht hx=>?_
 have h0:=hx 0 _ rfl
 clear hx
 simp only[a47,c47] at ht ⊢
 unfold Op.may
 cases q1:decide (o.kd=0)
 ·cases q2:decide (4≤o.kd)
  ·cases q3:o.hd.may <;> rw[q3] at hh
   ·simp (disch:=try exact SX) only[RV,seval,h0,q1,q2,hh,zAC,Bool.false_and,Bool.and_false,sc_ex]
   ·cases q4:decide (o.sr<1)
    ·cases q5:decide (16777216≤o.sr)
     ·cases q6:o.sp.may <;> rw[q6] at hs
      ·simp (disch:=try exact SX) only[RV,seval,h0,q1,q2,q4,q5,hh,hs,zA4,zAC,Bool.false_and,Bool.and_false,sc_ex]
      ·simp (disch:=try exact SX) only[RV,seval,h0,q1,q2,q4,q5,hh,hs,zA4]
       refine zOA (by simp (disch:=try exact SX) only[RV]) (by simp only[lo_size];exact Nat.le_refl _) fun N x y hN gx gy lx ly=>?_
       have hd:N.dirty=false:=hN.di
       have hsz:1≤N.size:=hN.le
       have g0:N.get 0=some (.row false (opR o ra)):=hN.get 0 (by show 0<1;omega)
       have wN:=hN.wf
       have hk:o.kd=1∨o.kd=2∨o.kd=3:=by
        have:=ho.1
        simp only[decide_eq_false_iff_not] at q1 q2
        omega
       rcases hk with hk | hk | hk
       ·have n1:natOf (U8 o.kd)=some 1:=by rw[hk];rfl
        have ep:o.part=o.part:=rfl
        rw[ep]
        simp (disch:=try exact SX) only[RV,seval,hd,g0,n1,x_idx,idx_agg]
        refine⟨rfl,rfl,rfl, ?_⟩
        refine zPD hS hk hf (by simp (disch:=try exact SX) only[RV];exact wN) (by simp (disch:=try exact SX) only[RV,gx])  fun N' hN'=>?_
        have hd':N'.dirty=false:=hN'.di
        cases qp:o.part <;> simp (disch:=try exact SX) only[RV,seval,hd',zA4,zAC,sc_ex]
       ·have n1:natOf (U8 o.kd)=some 2:=by rw[hk];rfl
        have ep:o.part=(decide (o.to=Lb.z)&&o.bare):=by unfold Op.part;rw[if_neg (by omega),if_pos hk]
        rw[ep]
        simp (disch:=try exact SX) only[RV,seval,hd,g0,n1,x_idx,idx_agg]
        refine⟨rfl,rfl,rfl, ?_⟩
        refine zPC hS (by simp (disch:=try exact SX) only[RV];exact wN) (by simp (disch:=try exact SX) only[RV,gx]) (by simp (disch:=try exact SX) only[RV,gy])  fun N' hN'=>?_
        have hd':N'.dirty=false:=hN'.di
        cases qp:(decide (o.to=Lb.z)&&o.bare) <;> simp (disch:=try exact SX) only[RV,seval,hd',zA4,zAC,sc_ex]
       ·have n1:natOf (U8 o.kd)=some 3:=by rw[hk];rfl
        have ep:o.part=(o.bare&&o.to.may):=by unfold Op.part;rw[if_neg (by omega),if_neg (by omega)]
        rw[ep]
        simp (disch:=try exact SX) only[RV,seval,hd,g0,n1,x_idx,idx_agg]
        refine⟨rfl,rfl,rfl, ?_⟩
        refine zMX hS (by simp (disch:=try exact SX) only[RV];exact wN) (by simp (disch:=try exact SX) only[RV,gy])  fun N' hN'=>?_
        have hd':N'.dirty=false:=hN'.di
        cases qp:(o.bare&&o.to.may) <;> simp (disch:=try exact SX) only[RV,seval,hd',zA4,zAC,sc_ex]
     ·simp (disch:=try exact SX) only[RV,seval,h0,q1,q2,q4,q5,hh,zA4,zAC,Bool.false_and,Bool.and_false,sc_ex]
    ·simp (disch:=try exact SX) only[RV,seval,h0,q1,q2,q4,hh,zA4,zAC,Bool.false_and,Bool.and_false,sc_ex]
  ·simp (disch:=try exact SX) only[RV,seval,h0,q1,q2,zAC,Bool.false_and,Bool.and_false,sc_ex]
 ·simp (disch:=try exact SX) only[RV,seval,h0,q1,zAC,Bool.false_and,sc_ex]
theorem zAP {o:Rn}{ra:AV}(hS:Sl 1 zA3 ra o.rs)(hf:100<fuel)(M:Mem):zCN fuel (d+6) 88 [.agg (rnR o ra)] M=some (I64 (err o.may),M):=by
 have ll:=hS.len
 have hc:=fun M=>@zFC fuel (d+2) o.af M
 have hs:=fun M=>@zCU fuel (d+1) o.sp M
 have hr:=fun M=>zF5 (fuel:=fuel) (d:=d) hS hf M
 apply w3_eq
 refine call_gc tf88 rfl (by simp only[icyL,zAT hS.fz]) (by simp [a88]) fun b' ht hx=>?_
 have h0:=hx 0 _ rfl
 clear hx
 simp only[a88,c88] at ht ⊢
 unfold Rn.may
 cases q0:o.sp.may <;> rw[q0] at hs <;> simp only[Bool.false_and,Bool.true_and]
 all_goals
  cases q1:decide (o.af=Eid.z)
  ·cases q2:o.af.may <;> rw[q2] at hc
   ·simp (disch:=try exact SX) only[RV,seval,fillA,h0,↓pIdE,zA0,ETA,q1,hc,hs,zA4,zAC,Bool.false_and]
   ·cases q3:decide (o.af.c<o.sp.f.c)
    ·simp (disch:=try exact SX) only[RV,seval,fillA,h0,↓pIdE,zA0,ETA,q1,hc,hs,q3,zA4,zAC,Bool.false_and]
    ·cases q4:decide ((o.rs.length:Int)=o.sp.n)
     ·simp (disch:=try exact SX) only[RV,seval,fillA,h0,↓pIdE,zA0,ETA,q1,hc,hs,q3,q4,ll,zA4,zAC,Bool.false_and]
     ·cases q5:decide (chkR o.rs=0)
      ·exact zB0Y
      ·exact zB0Y
  ·cases q4:decide ((o.rs.length:Int)=o.sp.n)
   ·simp (disch:=try exact SX) only[RV,seval,fillA,h0,↓pIdE,zA0,ETA,q1,hs,q4,ll,zA4,zAC,Bool.false_and]
   ·cases q5:decide (chkR o.rs=0)
    ·exact zB14
    ·exact zB14
def Op.rn (o:Op):Rn:=⟨o.sp,o.af,o.rs⟩
def rnZ:AV:=.agg (rnR ⟨⟨Eid.z,0⟩,Eid.z,[]⟩ NIL)
def rofE (o:Op):Int:=if o.may=true then (if o.kd=1∧o.rn.may=true then 0 else 2) else 8
def rofK (o:Op)(r:AV):Prop:=if rofE o=0 then ∃ ra,r = .tup [.agg (rnR o.rn ra),I64 0]∧Sl 1 zA3 ra o.rs else r = .tup [rnZ,I64 (rofE o)]
theorem zNU {l:List Int}(h:chkR l=0):l.length≤64:=by
 unfold chkR at h
 by_cases hc:64<l.length
 ·rw[if_pos hc] at h
  cases h
 ·omega
theorem may_len {o:Op}(h:o.may=true):o.rs.length≤64:=by
 unfold Op.may Op.part Op.bare at h
 simp only[Bool.and_eq_true] at h
 have h:=h.2
 split at h
 ·simp only[Bool.and_eq_true,decide_eq_true_eq] at h
  exact zNU h.2
 ·split at h <;> simp only[Bool.and_eq_true,decide_eq_true_eq] at h <;> omega
theorem zGS {o:Op}{ra:AV}(hS:Sl 1 zA3 ra o.rs)(ho:o.ok)(hf:100<fuel):∃ r,rofK o r ∧ ∀ M,zCN fuel (d+8) 59 [.agg (opR o ra)] M=some (r,M):=by
 have hc:=fun M=>@zBU fuel d o ra hS ho hf M
 refine gc_ex tf59 rfl (fun M=>by simp only[icyL,zCH hS.fz]) ?_
 refine call_gc tf59 rfl (by simp only[icyL,zCH hS.fz]) (by simp [a59]) fun b' ht hx=>?_
 have h0:=hx 0 _ rfl
 clear hx
 simp only[a59,c59] at ht ⊢
 unfold rofK rofE
 cases q1:o.may with
 | false =>
  rw[q1] at hc
  simp (disch:=try exact SX) only[RV,seval,fillA,h0,hc,zAC,Bool.false_eq_true,if_false]
  exact⟨_,rfl,rfl⟩
 | true =>
  rw[q1] at hc
  have hl:=may_len q1
  simp (disch:=try exact SX) only[RV,seval,h0,hc,zA4,if_true]
  refine zFV hS (by omega) (by simp (disch:=try exact SX) only[RV]) fun a' M' wf' le' kp' sm' new' wm' di'=>?_
  have hd:M'.dirty=false:=di'
  have hsz:2≤M'.size:=le'
  have g0:M'.get 0=some (.row false (opR o ra)):=by rw[kp' 0 (by show 0<2;omega)];simp (disch:=try exact SX) only[RV]
  have g1:M'.get 1=some (.row false (rnR ⟨⟨Eid.z,0⟩,Eid.z,[]⟩ NIL)):=by rw[kp' 1 (by show 1<2;omega)];simp (disch:=try exact SX) only[RV]
  have oa:=sm'.one
  have ca:=sm'.cells
  have rl:∀ j,rowOf a'=some j→2≤j:=new'
  have hz:∀ y∈spR o.sp++idR o.af,Fz y:=fun y hy=>(List.mem_append.1 hy).elim (zE3 o.sp y) (zAU o.af y)
  have rr:=fun a2 b2 M=>@zAP fuel (d+1) o.rn a2 b2 hf M
  simp (disch:=try exact SX) only[RV,seval,fillA,hd,g0,ca]
  refine⟨rfl, ?_⟩
  cases q2:decide (o.kd=1) with
  | false =>
   have q2':=of_decide_eq_false q2
   simp (disch:=try exact SX) only[RV,seval,fillA,g1]
   rw[if_neg (fun h=>q2' h.1)]
   simp only[show ((2:Int)=0)=False by decide,if_false]
   exact⟨_,rfl,rfl⟩
  | true =>
   have q2':=of_decide_eq_true q2
   simp (disch:=try exact SX) only[RV,seval]
   refine w3_handrow (spR o.sp++idR o.af) a' (n:=d+6) tf88 rfl hz (sm'.keep fun j hj=>?_) (by simp (disch:=try exact SX) only[RV,wf']) zBQ (fun a2 b2 M=>rr a2 b2 M) fun a2 N2 b2 w2 s2 k2 r2 f2=>?_
   ·have:=sm'.lt j hj
    exact zB05
   have z1:N2.get 1=some (.row false (rnR ⟨⟨Eid.z,0⟩,Eid.z,[]⟩ NIL)):=by
    rw[k2 1 (fun e=>by have:=rl 1 e;omega)]
    simp (disch:=try exact SX) only[RV,g1]
   have z5:N2.get M'.size=some (.row false (rnR o.rn a')):=by
    rw[k2 _ (fun e=>by have:=sm'.lt _ e;omega)]
    simp (disch:=try exact SX) only[RV]
    rfl
   have hs2:M'.size<N2.size:=by rw[s2];simp (disch:=try exact SX) only[RV];omega
   have e2:=f2 (N2.upd 1 (.row false (rnR o.rn a'))) 11 (by omega) (fun j hj=>get_upd_ne w2 _ _ _ (fun e=>by have:=rl j hj;omega))
   cases q3:o.rn.may with
   | false =>
    simp (disch:=try exact SX) only[RV,seval,fillA,z1,zAC,Bool.false_eq_true,and_false,if_false]
    exact⟨_,rfl,rfl⟩
   | true =>
    simp (disch:=try exact SX) only[RV,seval,z1,z5,zA4,q2',if_true,e2]
    exact⟨_,⟨a2,rfl,b2⟩,rfl⟩
theorem zMQ {o:Op}{ra:AV}(hS:Sl 1 zA3 ra o.rs)(hl:o.rs.length≤1000000000)(wf:Wf M)(hw:M.wm≤M.size)(k:∀ a' N,Kept M N→SlM N 1 zA3 a' o.rs→(∀ id,rowOf a'=some id→M.size≤id)→Q (.agg (opR o a')) N) :
  W3 (zCN fuel (d+2) 81 [.agg (opR o ra)] M) Q:=by
 refine call_0 tf81 rfl (by simp [a81]) fun b' ht hx=>?_
 have h0:=hx 0 _ rfl
 clear hx
 simp only[a81,c81] at ht ⊢
 simp (disch:=try exact SX) only[RV,seval,h0]
 refine zFV hS hl (by simp (disch:=try exact SX) only[RV,wf]) fun a' M' wf' le' kp' sm' new' wm' di'=>?_
 simp only[add_size] at le' kp' new'
 have g0:M'.get M.size=some (.row false (opR o ra)):=by rw[kp' _ (by omega)];simp (disch:=try exact SX) only[RV]
 have g1:M'.get (M.size+1)=some (.row false (opR ⟨0,Hd.z,0,⟨Eid.z,0⟩,Eid.z,Lb.z,[]⟩ NIL)):=by rw[kp' _ (by omega)];simp (disch:=try exact SX) only[RV]
 have oa:=sm'.one
 have ca:=sm'.cells
 have z0:M.size<M'.size:=by omega
 have z1:M.size+1<M'.size:=by omega
 simp (disch:=try exact SX) only[RV,seval,g0,g1,ca]
 have kM':Kept M M':=⟨wf',by omega,fun j hj=>by rw[kp' j (by omega),get_add (wf.add _) _ _ (by rw[add_size];omega),get_add wf _ _ hj],wm',di'⟩
 refine k a' _ ((kM'.upd hw (Nat.le_refl _) _).upd hw (by omega) _) (sm'.keep fun j hj=>?_) (fun id h=>by have:=new' id h;omega)
 have:=new' j hj
 exact zB05
def Spn.ids (s:Spn):List Eid:=(List.range s.n.toNat).map fun (i:Nat)=>s.at i
theorem zGB {s:Spn}(hs:s.ok)(hm:s.may=true)(i:Nat)(hi:i<s.n.toNat):(s.at i).ok:=by
 have:=Spn.may_le hm
 exact⟨hs.1.1,by show -9223372036854775808≤s.f.c+i;omega,by show s.f.c+i≤_;omega⟩
theorem zEC {s:Spn}(hs:s.ok)(hm:s.may=true)(hf:100<fuel):∃ r,Sl 4 zC3 r s.ids ∧ ∀ M,zCN fuel (d+6) 80 [spA s] M=some (r,M):=by
 have hb:=Spn.may_le hm
 obtain⟨m,hmn⟩:∃ m:Nat,s.n=m:=⟨s.n.toNat,by omega⟩
 have ei:s.ids=(List.range m).map fun (i:Nat)=>s.at i:=by unfold Spn.ids;rw[hmn];rfl
 have hat:=fun n M=>@zE7 fuel d s n M
 simp only[hm,if_true] at hat
 rw[ei]
 refine gc_ex tf80 rfl (fun M=>by simp only[icyL,fz_icyA (zE3 s) (show 1<12 by omega)]) ?_
 refine call_gc tf80 rfl (by simp only[icyL,fz_icyA (zE3 s) (show 1<12 by omega)]) (by simp [a80]) fun b' ht hx=>?_
 have h0:=hx 0 _ rfl
 clear hx
 simp only[a80,c80] at ht ⊢
 simp (disch:=try exact SX) only[RV,seval,h0,hmn]
 refine w_loop (I:=fun n t N => ∃ (i:Nat) (o:AV),n=m - i∧i≤m∧nth undefA t 1 = .ptr 0 0∧nth undefA t 2=o∧nth undefA t 7=I64 m∧nth undefA t 8=I64 i∧Wf N∧N.get 0=some (.row false (spR s))∧SlM N 4 zC3 o ((List.range i).map fun (j:Nat)=>s.at j)∧(∀ j,rowOf o=some j→0<j)) (n:=m) (by omega) ?_ ?_
 ·refine⟨0,NIL,rfl,Nat.zero_le _, ?_, ?_, ?_, ?_,Wf.mem0.add _,by simp (disch:=try exact SX) only[RV],SlM.nil,(fun _ h=>by cases h)⟩ <;> simp (disch:=try exact SX) only[RV,seval]
  all_goals first | rfl | assumption | done
 ·rintro n t N hlt ⟨i,o,rfl,hi,g1,g2,g7,g8,w,g,sm,ro⟩
  simp only[ht] at hlt ⊢
  by_cases hc:i<m
  ·have q1:decide ((i:Int)<m)=true:=DT
   have hi':¬((i:Int)<0∨s.n≤i):=by omega
   have hat:=fun M=>hat i M
   simp only[hi',if_false] at hat
   have ok:=zGB hs hm i (by omega)
   have lN:=Mem.get_lt g
   have w1:IntKind.i64.wrap ((i:Int)+1)=((i+1:Nat):Int):=WI
   simp (disch:=try exact SX) only[RV,seval,fillA,g1,g2,g7,g8,q1,g,hat]
   refine⟨rows_lt sm.rl (by omega), ?_⟩
   refine app1 ((w.add _).upd _ _) (sm.keep fun j hj=>?_) zCW (x:=s.at i) ⟨rfl,ok⟩ rfl (by omega) (by simp;omega) (by simp;omega) fun o' M' m' w' le' kp' nw' wm' rl' on' oc'=>?_
   ·have:=sm.lt j hj
    exact zB05
   simp only[upd_size,add_size] at le' kp' nw'
   simp (disch:=try exact SX) only[RV,seval,g1,g2,g7,g8,w1]
   refine⟨hlt,m - (i+1),by omega,i+1,o',rfl,by omega,rfl,rfl,w', ?_, ?_,fun j hj=>?_⟩
   ·rw[kp' 0 (by omega) (fun e=>by have:=ro 0 e;omega)]
    simp (disch:=try exact SX) only[RV,g]
   ·rw[List.range_succ,List.map_append];exact m'
   ·exact zB0t
  ·obtain rfl:i=m:=by omega
   obtain⟨rr,hz,hr⟩:=sm.frz zCW.cel (k:=12) (by omega)
   simp (disch:=try exact SX) only[RV,seval,g2,g7,g8,hz]
   exact⟨rr,hr,rfl⟩
structure El where
 id:Eid
 af:Eid
 ch:Int
 deriving DecidableEq
theorem zEK {s:Spn}(hs:s.ok)(hm:s.may=true)(hf:100<fuel):∃ r,Sl 4 zC3 r s.ids ∧ ∀ M,zCN fuel (d+1) 76 [spA s] M=some (r,M):=by
 have hb:=Spn.may_le hm
 obtain⟨m,hmn⟩:∃ m:Nat,s.n=m:=⟨s.n.toNat,by omega⟩
 have ei:s.ids=(List.range m).map fun (i:Nat)=>s.at i:=by unfold Spn.ids;rw[hmn];rfl
 rw[ei]
 refine gc_ex tf76 rfl (fun M=>by simp only[icyL,fz_icyA (zE3 s) (show 1<12 by omega)]) ?_
 refine call_gc tf76 rfl (by simp only[icyL,fz_icyA (zE3 s) (show 1<12 by omega)]) (by simp [a76]) fun b' ht hx=>?_
 have h0:=hx 0 _ rfl
 clear hx
 simp only[a76,c76] at ht ⊢
 simp (maxSteps:=2000000) (disch:=try exact SX) only[RV,h0]
 refine w_loop (I:=fun n t N => ∃ (i:Nat) (o:AV),n=m - i∧i≤m∧nth undefA t 1 = .ptr 0 0∧nth undefA t 3=o∧nth undefA t 4=I64 i∧Wf N∧N.get 0=some (.row false (spR s))∧SlM N 4 zC3 o ((List.range i).map fun (j:Nat)=>s.at j)∧(∀ j,rowOf o=some j→0<j)) (n:=m) (by omega) ?_ ?_
 ·refine⟨0,NIL,rfl,Nat.zero_le _, ?_, ?_, ?_,Wf.mem0.add _,by simp (maxSteps:=2000000) (disch:=try exact SX) only[RV],SlM.nil,(fun _ h=>by cases h)⟩ <;> simp (maxSteps:=2000000) (disch:=try exact SX) only[RV,reduceIte,Nat.reduceEqDiff]
  all_goals first | rfl | assumption | done
 ·rintro n t N hlt ⟨i,o,rfl,hi,g1,g3,g4,w,g,sm,ro⟩
  simp only[ht] at hlt ⊢
  have lN:=Mem.get_lt g
  by_cases hc:i<m
  ·have q1:decide ((i:Int)<s.n)=true:=DT
   have ok:=zGB hs hm i (by omega)
   have w1:IntKind.i64.wrap ((i:Int)+1)=((i+1:Nat):Int):=WI
   have w2:IntKind.i64.wrap (s.f.c+i)=s.f.c+i:=wrap_i64 (by omega) (by omega)
   simp (maxSteps:=2000000) (disch:=try exact SX) only[RV,fillA,reduceIte,Nat.reduceEqDiff,Nat.reduceBEq,Nat.reduceAdd,g1,g3,g4,q1,g,w2]
   refine⟨rows_lt sm.rl (by omega), ?_⟩
   refine app1 (bytes:=24) w sm zCW (x:=s.at i) ⟨rfl,ok⟩ rfl (by omega) (by simp;omega) (by simp;omega) fun o' M' m' w' le' kp' nw' wm' rl' on' oc'=>?_
   simp (maxSteps:=2000000) (disch:=try exact SX) only[RV,reduceIte,Nat.reduceEqDiff,g1,g3,g4,w',w1]
   refine⟨hlt,m - (i+1),by omega,i+1,o',rfl,by omega,rfl,rfl, ?_,by rw[List.range_succ,List.map_append];exact m',fun j hj=>?_⟩
   ·rw[kp' 0 lN (fun h=>by have:=ro 0 h;omega)];exact g
   ·exact zB0t
  ·obtain rfl:i=m:=by omega
   have q1:decide ((i:Int)<s.n)=false:=DF
   obtain⟨r,hz,hsr⟩:=sm.frz zCW.cel (k:=12) (by omega)
   simp (maxSteps:=2000000) (disch:=try exact SX) only[RV,reduceIte,Nat.reduceEqDiff,g1,g3,g4,q1,g,hz]
   exact⟨r,hsr,rfl⟩
theorem Rn.spB {r:Rn}(h:r.may=true):r.sp.may=true:=by
 unfold Rn.may at h
 simp only[Bool.and_eq_true] at h
 exact h.1.1.1
theorem Rn.may_iffB {r:Rn}(h:r.may=true):(r.rs.length:Int)=r.sp.n∧r.rs.length≤64:=by
 unfold Rn.may at h
 simp only[Bool.and_eq_true,decide_eq_true_eq] at h
 have hb:=Spn.may_le h.1.1.1
 have:=h.1.2
 omega
def Rn.bh (r:Rn)(n:Int):Eid:=if 0<n then r.sp.at (n - 1) else r.af
def Rn.elB (r:Rn):List El:=(List.range r.sp.n.toNat).map fun (i:Nat)=>⟨r.sp.at i,r.bh i,r.rs.getD i 0⟩
def elsB (l:List Rn):List El:=l.flatMap Rn.elB
abbrev elR9 (x:El):List AV:=[U8 x.id.hd.lb.lv,U32 x.id.hd.lb.cats,U8 x.id.hd.num,I64 x.id.c,U8 x.af.hd.lb.lv,U32 x.af.hd.lb.cats,U8 x.af.hd.num,I64 x.af.c,I32 x.ch]
def isEl (r:List AV)(x:El):Prop:=r=elR9 x∧x.id.ok∧x.af.ok
theorem zH7 (x:El):∀ y∈elR9 x,Fz y:=fun y hy=>by
 simp only[elR9,List.mem_cons,List.not_mem_nil,or_false] at hy
 rcases hy with rfl | rfl | rfl | rfl | rfl | rfl | rfl | rfl | rfl <;> exact fz_sc_int _ _
theorem zG9:FzT isEl:=fun r x h=>by rw[h.1];exact zH7 x
theorem zGN {o:Rn}{ra:AV}(hS:Sl 1 zA3 ra o.rs)(n:Int)(M:Mem):zCN fuel (d+1) 145 [.agg (rnR o ra),I64 n] M=some (idA ⟨o.sp.f.hd,IntKind.i64.wrap (o.sp.f.c+n)⟩,M):=by
 apply w3_eq
 refine call_gc tf145 rfl (by simp only[icyL,zAT hS.fz,icy12]) (by simp [a145]) fun b' ht hx=>?_
 obtain⟨h0,h1⟩:=hx2 hx
 clear hx
 simp only[a145,c145] at ht ⊢
 simp (maxSteps:=2000000) (disch:=try exact SX) only[RV,fillA,reduceIte,Nat.reduceEqDiff,Nat.reduceBEq,Nat.reduceAdd,Nat.reduceSub,h0,h1]
theorem zL2 {o:Rn}{ra:AV}(hS:Sl 1 zA3 ra o.rs)(hm:o.may=true)(n:Nat)(hn:n<64)(M:Mem):zCN fuel (d+2) 146 [.agg (rnR o ra),I64 n] M=some (idA (o.bh n),M):=by
 have hb:=Spn.may_le (Rn.spB hm)
 have hi:=fun n M=>zGN (fuel:=fuel) (d:=d) hS n M
 apply w3_eq
 refine call_gc tf146 rfl (by simp only[icyL,zAT hS.fz,icy12]) (by simp [a146]) fun b' ht hx=>?_
 obtain⟨h0,h1⟩:=hx2 hx
 clear hx
 simp only[a146,c146] at ht ⊢
 unfold Rn.bh
 by_cases q:n=0
 ·subst q
  have q1:decide (((0:Nat):Int)=0)=true:=rfl
  simp (maxSteps:=2000000) (disch:=try exact SX) only[RV,reduceIte,Nat.reduceEqDiff,Nat.reduceAdd,Nat.reduceSub,h0,h1,q1]
  rfl
 ·have q1:decide ((n:Int)=0)=false:=DF
  have q2:(0:Int)<n:=by omega
  have w1:IntKind.i64.wrap ((n:Int) - 1)=(n:Int) - 1:=wrap_i64 (by omega) (by omega)
  have w2:IntKind.i64.wrap (o.sp.f.c+((n:Int) - 1))=o.sp.f.c+((n:Int) - 1):=wrap_i64 (by omega) (by omega)
  simp (maxSteps:=2000000) (disch:=try exact SX) only[RV,reduceIte,Nat.reduceEqDiff,Nat.reduceAdd,Nat.reduceSub,h0,h1,q1,w1,hi,w2]
  rw[if_pos q2]
  rfl
theorem zCI (r:Rn):r.elB.length=r.sp.n.toNat:=by simp [Rn.elB]
theorem zLY (r:Rn)(i:Nat)(h:i<r.sp.n.toNat):r.elB.take (i+1)=r.elB.take i++[⟨r.sp.at i,r.bh i,r.rs.getD i 0⟩]:=by
 rw[List.take_add_one,List.getElem?_eq_getElem (by rw[zCI];exact h)]
 simp [Rn.elB]
theorem zK2 (l:List Rn)(i:Nat)(h:i<l.length):elsB (l.take (i+1))=elsB (l.take i)++l[i].elB:=by
 have e:l.take (i+1)=l.take i++[l[i]]:=by rw[List.take_add_one,List.getElem?_eq_getElem h];rfl
 rw[e]
 unfold elsB
 rw[List.flatMap_append]
 simp
theorem zM0 {l:List Rn}(h:∀ r∈l,r.may=true):(elsB l).length≤64*l.length:=by
 induction l with
 | nil=>simp [elsB]
 | cons r l ih =>
  have hb:=Spn.may_le (Rn.spB (h r List.mem_cons_self))
  have:=ih fun x hx=>h x (List.mem_cons_of_mem _ hx)
  have e:elsB (r::l)=r.elB++elsB l:=by simp [elsB]
  rw[e,List.length_append,zCI,List.length_cons]
  omega
theorem zJC {a:AV}{l:List Rn}(hS:Sl 10 isRn a l)(hm:∀ r∈l,r.may=true)(hl:l.length≤10000)(hf:l.length+200<fuel):∃ r,Sl 9 isEl r (elsB l) ∧ ∀ M,zCN fuel (d+3) 109 [a] M=some (r,M):=by
 have ll:=hS.len
 refine gc_ex tf109 rfl (fun M=>by simp only[icyL,fun M=>hS.icy M 12 (by omega)]) ?_
 refine call_gc tf109 rfl (by simp only[icyL,fun M=>hS.icy M 12 (by omega)]) (by simp [a109]) fun b' ht hx=>?_
 have h0:=hx 0 _ rfl
 clear hx
 simp only[a109,c109] at ht ⊢
 simp (maxSteps:=2000000) (disch:=try exact SX) only[RV]
 refine w_loop (I:=fun nq tq Nq => ∃ (iq:Nat) (o:AV),nq=l.length - iq∧iq≤l.length∧nth undefA tq 0=a∧nth undefA tq 3=o∧nth undefA tq 4=I64 iq∧Wf Nq∧SlM Nq 9 isEl o (elsB (l.take iq))) (n:=l.length) (by omega) ?_ ?_
 ·refine⟨0,NIL,rfl,Nat.zero_le _, ?_, ?_, ?_,Wf.mem0,SlM.nil⟩ <;> simp (maxSteps:=2000000) (disch:=try exact SX) only[RV,reduceIte,Nat.reduceEqDiff,h0]
  all_goals first | rfl | assumption | done
 ·rintro nq tq Nq hltq ⟨iq,o,rfl,hiq,gq0,gq3,gq4,wq,sq⟩
  simp only[ht] at hltq ⊢
  by_cases hc:iq<l.length
  ·have c1:decide ((iq:Int)<l.length)=true:=DT
   have w1:IntKind.i64.wrap ((iq:Int)+1)=((iq+1:Nat):Int):=WI
   obtain⟨rr,hiad,hri,_⟩:=hS.iad iq hc
   have hmr:=hm l[iq] (List.getElem_mem hc)
   have hsn:=zK2 l iq hc
   have htl:=zM0 (l:=l.take iq) fun r hr=>hm r (List.mem_of_mem_take hr)
   have htk:(l.take iq).length≤10000:=by rw[List.length_take];omega
   generalize l[iq]=x at *
   obtain⟨ra,rfl,hra,hok⟩:=hri
   have hb:=Spn.may_le (Rn.spB hmr)
   have hlen:=(Rn.may_iffB hmr).1
   obtain⟨m,hmn⟩:∃ m:Nat,x.sp.n=m:=⟨x.sp.n.toNat,by omega⟩
   have hid:=fun n M=>zGN (fuel:=fuel) (d:=d+1) hra n M
   have hbh:=fun n hn M=>zL2 (fuel:=fuel) (d:=d) hra hmr n hn M
   generalize elsB (l.take iq)=E at *
   simp (maxSteps:=2000000) (disch:=try exact SX) only[RV,reduceIte,Nat.reduceEqDiff,gq0,gq4,ll,c1]
   refine w_loop (I:=fun nk tk Nk => ∃ (ik:Nat) (o2:AV),nk=m - ik∧ik≤m∧nth undefA tk 0=a∧nth undefA tk 3=o2∧nth undefA tk 4=I64 iq∧nth undefA tk 5=I64 ik∧Wf Nk∧SlM Nk 9 isEl o2 (E++x.elB.take ik)) (n:=m) (by omega) ?_ ?_
   ·refine⟨0,o,rfl,Nat.zero_le _, ?_, ?_, ?_, ?_,wq,(by simpa using sq)⟩ <;> simp (maxSteps:=2000000) (disch:=try exact SX) only[RV,reduceIte,Nat.reduceEqDiff,gq0,gq3,gq4]
    all_goals first | rfl | assumption | done
   ·rintro nk tk Nk hltk ⟨ik,o2,rfl,hik,gk0,gk3,gk4,gk5,wk,sk⟩
    simp only[hltq] at hltk ⊢
    have ok2:=sk.one
    have ck2:=sk.cells
    have hEl:(E++x.elB.take ik).length≤640064:=by rw[List.length_append,List.length_take,zCI];omega
    by_cases hc2:ik<m
    ·have c2:decide ((ik:Int)<x.sp.n)=true:=DT
     have w2:IntKind.i64.wrap ((ik:Int)+1)=((ik+1:Nat):Int):=WI
     have w3:IntKind.i64.wrap (x.sp.f.c+ik)=x.sp.f.c+ik:=wrap_i64 (by omega) (by omega)
     have hxl:ik<x.rs.length:=by omega
     obtain⟨rc,hia,rfl,_⟩:=hra.iad ik hxl
     have hbh1:=fun M=>hbh ik (by omega) M
     have hok1:(x.sp.at ik).ok:=⟨hok.1.1.1,by show -9223372036854775808≤x.sp.f.c+ik;omega,by show x.sp.f.c+ik≤_;omega⟩
     have hok2:(x.bh ik).ok:=by
      unfold Rn.bh
      split
      ·exact⟨hok.1.1.1,by show -9223372036854775808≤x.sp.f.c+((ik:Int) - 1);omega,by show x.sp.f.c+((ik:Int) - 1)≤_;omega⟩
      ·exact hok.2.1
     have hgd:x.rs.getD ik 0=x.rs[ik]:=by rw[List.getD_eq_getElem?_getD,List.getElem?_eq_getElem hxl];rfl
     have htke:=zLY x ik (by omega)
     rw[hgd] at htke
     simp (maxSteps:=2000000) (disch:=try exact SX) only[RV,fillA,reduceIte,Nat.reduceEqDiff,Nat.reduceBEq,Nat.reduceAdd,gk0,gk3,gk4,gk5,c2,hiad,hid,w3,hbh1,hia]
     refine⟨rows_lt sk.rl (by omega), ?_⟩
     refine app1 (bytes:=56) wk sk zG9 (x:=⟨x.sp.at ik,x.bh ik,x.rs[ik]⟩) ⟨rfl,hok1,hok2⟩ rfl (by omega) (by omega) (by omega) fun o' M' m' w' le' kp' nw' wm' rl' on' oc'=>?_
     simp (maxSteps:=2000000) (disch:=try exact SX) only[RV,reduceIte,Nat.reduceEqDiff,Nat.reduceAdd,gk0,gk3,gk4,gk5,w',w2]
     exact⟨hltk,m - (ik+1),by omega,ik+1,o',rfl,by omega,rfl,rfl,by rw[htke,← List.append_assoc];exact m'⟩
    ·obtain rfl:ik=m:=by omega
     have c2:decide ((ik:Int)<x.sp.n)=false:=DF
     rw[List.take_of_length_le (by rw[zCI];omega),← hsn] at sk
     simp (maxSteps:=2000000) (disch:=try exact SX) only[RV,reduceIte,Nat.reduceEqDiff,gk0,gk3,gk4,gk5,c2,hiad,w1]
     exact⟨hltk,l.length - (iq+1),by omega,iq+1,o2,rfl,by omega,rfl,rfl,wk,sk⟩
  ·obtain rfl:iq=l.length:=by omega
   have c1:decide ((l.length:Int)<l.length)=false:=DF
   rw[List.take_length] at sq
   obtain⟨r,hz,hsr⟩:=sq.frz zG9.cel (k:=12) (by omega)
   simp (maxSteps:=2000000) (disch:=try exact SX) only[RV,reduceIte,Nat.reduceEqDiff,gq0,gq3,gq4,ll,hz]
   exact⟨r,hsr,rfl⟩
def whI (l:List El)(x:Eid):Int:=posF (fun e=>decide (e.id=x)) l
theorem zOL (l:List El)(x:Eid):decide (0≤whI l x)=l.any fun e=>decide (e.id=x):=posF_any _ _
theorem zC5 {a:AV}{l:List El}(hS:Sl 9 isEl a l)(x:Eid)(hl:l.length≤1000000000)(hf:l.length<fuel)(M:Mem):zCN fuel (d+1) 103 [a,idA x] M=some (I64 (whI l x),M):=by
 have ll:=hS.len
 apply w3_eq
 refine call_gc tf103 rfl (by simp only[icyL,fun M=>hS.icy M 12 (by omega),fz_icyA (zAU x) (show 1<12 by omega)]) (by simp [a103]) fun b' ht hx=>?_
 obtain⟨h0,h1⟩:=hx2 hx
 clear hx
 simp only[a103,c103] at ht ⊢
 unfold whI
 simp (maxSteps:=2000000) (disch:=try exact SX) only[RV,h1]
 refine w_loop (I:=fun n t N => ∃ (i:Nat),n=l.length - i∧i≤l.length∧nth undefA t 0=a∧nth undefA t 3 = .ptr 0 0∧nth undefA t 5=I64 i∧Wf N∧N.get 0=some (.row false (idR x))∧(∀ j (x1:j<l.length),j<i→decide (l[j].id=x)=false)) (n:=l.length) (by omega) ?_ ?_
 ·refine⟨0,rfl,Nat.zero_le _, ?_, ?_, ?_,Wf.mem0.add _,by simp (maxSteps:=2000000) (disch:=try exact SX) only[RV],(fun _ _ h=>absurd h (by omega))⟩ <;> simp (maxSteps:=2000000) (disch:=try exact SX) only[RV,reduceIte,Nat.reduceEqDiff,h0]
  all_goals first | rfl | assumption | done
 ·rintro n t N hlt ⟨i,rfl,hi,g0,g3,g5,w,g,hj⟩
  simp only[ht] at hlt ⊢
  have lg:=Mem.get_lt g
  by_cases hc:i<l.length
  ·have q1:decide ((i:Int)<l.length)=true:=DT
   have w1:IntKind.i64.wrap ((i:Int)+1)=((i+1:Nat):Int):=WI
   obtain⟨r,hiad,⟨rfl,_⟩,_⟩:=hS.iad i hc
   cases q2:decide (l[i].id=x) with
   | true =>
    have e:=posF_at (p:=fun e:El=>decide (e.id=x)) hc q2 (fun j hj'=>hj j (by omega) hj')
    simp (maxSteps:=2000000) (disch:=try exact SX) only[RV,reduceIte,Nat.reduceEqDiff,Nat.reduceBEq,Nat.reduceAdd,g0,g3,g5,ll,q1,hiad,g,↓pIdE,zA0,ETA,q2]
    rw[e]
   | false =>
    simp (maxSteps:=2000000) (disch:=try exact SX) only[RV,reduceIte,Nat.reduceEqDiff,Nat.reduceBEq,Nat.reduceAdd,g0,g3,g5,ll,q1,hiad,g,↓pIdE,zA0,ETA,q2,w1]
    exact⟨hlt,l.length - (i+1),by omega,i+1,rfl,by omega,rfl,w,fun j x1 hj'=>by
     rcases Nat.lt_succ_iff_lt_or_eq.1 hj' with h | rfl
     ·exact hj j x1 h
     ·exact q2⟩
  ·obtain rfl:i=l.length:=by omega
   have e:=posF_no (p:=fun e:El=>decide (e.id=x)) (l:=l) (fun j hj'=>hj j hj' hj')
   simp (maxSteps:=2000000) (disch:=try exact SX) only[RV,reduceIte,Nat.reduceEqDiff,g0,g5,ll]
   rw[e]
def cM1:ACode:=(.region [⟨some 8,.alloc 25 (.agg #[(.int .u8 0),(.int .u32 0)]),none,[]⟩,⟨none,.store 2 (.tmp 8) (.tmp 17),none,[]⟩] false)
def cM2:ACode:=(.block 1 (.seq (.region [⟨some 18,.load 1 false (.tmp 7),none,[]⟩,⟨some 19,.load 2 true (.tmp 8),none,[]⟩,⟨some 20,.call (.func 73) [(.tmp 18),(.tmp 19)],none,[]⟩,⟨some 21,.pur (mkO (.unOp .not 4 (.tmp 20)) 4),none,[]⟩] false) (.cond (.tmp 21) (.region [⟨some 22,.load 1 false (.tmp 7),none,[]⟩,⟨some 23,.load 2 true (.tmp 8),none,[]⟩,⟨some 24,.bsl 25 2 (.agg #[(.int .u8 0),(.int .u32 0)]) 1 [(0,2,(.tmp 23))],none,[]⟩,⟨some 25,.app 25 2 8 (.agg #[(.int .u8 0),(.int .u32 0)]) (.tmp 22) (.tmp 24),none,[]⟩,⟨none,.store 1 (.tmp 7) (.tmp 25),none,[]⟩] false) .skip)))
def addL (out:List Lb)(x:Lb):List Lb:=if out.any (fun y=>decide (x=y)) then out else out++[x]
structure MI (M:Mem) (tm:List AV) (a:AV) (x:Eid) (v:Lb) (o:AV) (out:List Lb):Prop where
 wf:Wf M
 sz:9≤M.size
 g3:M.get 3=some (.row false [o])
 g4:M.get 4=some (.row false [a])
 g5:M.get 5=some (.row false (idR x))
 g6:M.get 6=some (.row false (lbR v))
 g7:M.get 7=some (.dfr false)
 g8:M.get 8=some (.loop .ready none tm [17] cM1 cM2 7)
 sm:SlM M 2 isLb o out
 ro:∀ j,rowOf o=some j→j=2∨9≤j
variable {tm : List AV} {a o : AV} {x : Eid} {v : Lb} {out : List Lb}
theorem MI.keep {N:Mem}(h:MI M tm a x v o out)(wf:Wf N)(hs:M.size≤N.size)(k:∀ j,j<M.size→N.get j=M.get j):MI N tm a x v o out:=by
 have:=h.sz
 exact⟨wf,by omega,(k 3 (by omega)).trans h.g3,(k 4 (by omega)).trans h.g4,(k 5 (by omega)).trans h.g5,(k 6 (by omega)).trans h.g6,(k 7 (by omega)).trans h.g7,(k 8 (by omega)).trans h.g8,h.sm.keep fun j hj=>k j (h.sm.lt j hj),h.ro⟩
theorem MI.back {X:Mem}{o':AV}{out':List Lb}(h:MI M tm a x v o out)(wX:Wf X)(hs:M.size≤X.size)(x3:X.get 3=some (.row false [o']))(gX:∀ j,j<9→j≠2→j≠3→j≠8→X.get j=M.get j)(sm:SlM X 2 isLb o' out')(ro:∀ j,rowOf o'=some j→j=2∨9≤j):MI (X.upd 8 (.loop .ready none tm [17] cM1 cM2 7)) tm a x v o' out':=by
 have:=h.sz
 have u:∀ j,j≠8→(X.upd 8 (.loop .ready none tm [17] cM1 cM2 7)).get j=X.get j:=fun j hj=>get_upd_ne wX _ _ _ (fun e=>hj e.symm)
 exact⟨wX.upd _ _,by rw[upd_size];omega,(u 3 (by omega)).trans x3,((u 4 (by omega)).trans (gX 4 (by omega) (by omega) (by omega) (by omega))).trans h.g4,((u 5 (by omega)).trans (gX 5 (by omega) (by omega) (by omega) (by omega))).trans h.g5,((u 6 (by omega)).trans (gX 6 (by omega) (by omega) (by omega) (by omega))).trans h.g6,((u 7 (by omega)).trans (gX 7 (by omega) (by omega) (by omega) (by omega))).trans h.g7,get_upd_eq wX _ _ (by omega),sm.keep fun j hj=>u j (by have:=ro j hj;omega),ro⟩
theorem zP5 {to:Lb}(h:MI M tm a x v o out)(h7:nth undefA tm 7 = .ptr 3 0)(hlen:tm.length=27)(ht:to.ok)(hn:out.length≤100000)(hf:out.length<fuel)
  (k:∀ o' N,MI N tm a x v o' (addL out to)→M.size≤N.size→Q (BL true) N) :
  W3 (callN Tryz.prog (fsT tbl) fuel (d+3) (.yl 8) [lbA to] M) Q:=by
 have l3:=Mem.get_lt h.g3
 have g3:=h.g3
 have g8:=h.g8
 have wf:=h.wf
 have sz:=h.sz
 have sm:=h.sm
 have ro:=h.ro
 have oo:=sm.one
 have oc:=sm.cells
 refine call_yl h.g8 rfl ?_
 have e1:setAll tm [17] [lbA to]=St tm [(17,lbA to)]:=rfl
 rw[e1]
 unfold cM1 cM2
 simp (disch:=try exact SX) only[RV,seval,h7,wf]
 refine⟨tm,[17],_,_,7,g8, ?_⟩
 generalize hX:((M.add _).upd M.size _).upd 8 _=X
 have wX:Wf X:=by rw[← hX];exact((wf.add _).upd _ _).upd _ _
 have sX:X.size=M.size+1:=by rw[← hX];rfl
 have gX:∀ j,j<M.size→j≠8→X.get j=M.get j:=fun j a b=>by
  rw[← hX,get_upd_ne ((wf.add _).upd _ _) _ _ _ (fun e=>b e.symm),get_upd_ne (wf.add _) _ _ _ (by omega),get_add wf _ _ a]
 have x8:X.get 8=some (.loop .busy none tm [17] cM1 cM2 7):=by
  rw[← hX,get_upd_eq ((wf.add _).upd _ _) _ _ (by rw[upd_size,add_size];omega)]
 have xM:X.get M.size=some (.row false (lbR to)):=by
  rw[← hX,get_upd_ne ((wf.add _).upd _ _) _ _ _ (by omega),get_upd_eq (wf.add _) _ _ (by rw[add_size];omega)]
 have lM:M.size<X.size:=by omega
 have l3':3<X.size:=by omega
 have x3:X.get 3=some (.row false [o]):=(gX 3 l3 (by omega)).trans g3
 have smX:SlM X 2 isLb o out:=sm.keep fun j hj=>gX j (sm.lt j hj) (by have:=ro j hj;omega)
 have hcn:=hasV_own (P:=Tryz.prog) (fs:=fsT tbl) (fuel:=fuel) (n:=d) (v:=lbR to) tf73 tf123 zEU smX wX (by omega) (by omega) (by omega) (zA8 to) rfl @pLbE (p:=fun y=>decide (to=y)) (fun dd r y hy _=>by rw[hy.1];exact zA6 dd to.lv to.cats y.lv y.cats)
 unfold addL at k
 cases hb:out.any (fun y=>decide (to=y)) with
 | true =>
  rw[hb] at hcn k
  simp (disch:=try exact SX) only[RV,seval,g3,xM,hcn]
  rw[if_pos rfl] at k
  exact⟨wX,_,_,_,_,_,_,_,x8,k o _ (h.back wX (by omega) x3 (fun j a b c e=>gX j (by omega) e) smX ro) (by rw[upd_size];omega)⟩
 | false =>
  rw[hb] at hcn k
  rw[if_neg (by decide)] at k
  simp (disch:=try exact SX) only[RV,seval,fillA,h7,g3,x3,xM,hcn]
  refine⟨rows_lt smX.rl (by omega), ?_⟩
  refine app1 wX smX zEU (x:=to) ⟨rfl,ht⟩ rfl (by omega) (by omega) (by omega) fun o' M' m' w' le' kp' nw' wm' rl' on' oc'=>?_
  have ro':∀ j,rowOf o'=some j→j=2∨9≤j:=fun j hj=>by
   exact zB0t
  have z3:M'.get 3=some (.row false [o]):=(kp' 3 (by omega) (fun e=>by have:=ro 3 e;omega)).trans x3
  have z8:=(kp' 8 (by omega) (fun e=>by have:=ro 8 e;omega)).trans x8
  have l3:3<M'.size:=by omega
  simp (disch:=try exact SX) only[RV,seval,h7,z3,z8,w',oc']
  refine⟨_,_,_,_,_,_,_,rfl,k o' _ (h.back (w'.upd _ _) (by rw[upd_size];omega) (get_upd_eq w' _ _ (by omega)) (fun j a b c e=>?_) (m'.keep fun j hj=>get_upd_ne w' _ _ _ (by have:=ro' j hj;omega)) ro') (by simp only[upd_size];omega)⟩
  rw[get_upd_ne w' _ _ _ (fun e=>c e.symm),kp' j (by omega) (fun e=>by have:=ro j e;omega)]
  exact gX j (by omega) e
variable {l : List Op}
def zBE (x:Eid)(v:Lb)(o:Op):Bool:=decide (o.kd=3)&&(o.sp.has x).isSome&&o.hd.lb.leq v
def zAE (l:List Op)(x:Eid)(v:Lb):List Lb:=(l.filter (zBE x v)).map (·.to)
def made (l:List Op)(x:Eid)(v:Lb):List Lb:=(zAE l x v).foldl addL [x.hd.lb]
theorem zLN (out:List Lb)(x:Lb):(addL out x).length≤out.length+1:=by
 unfold addL
 split
 ·omega
 ·simp
theorem zDN:∀ (r:List Lb) (out:List Lb),(r.foldl addL out).length≤out.length+r.length
 | [],out=>by simp
 | y::r,out=>by
  have h1:=zDN r (addL out y)
  have h2:=zLN out y
  simp only[List.foldl_cons,List.length_cons]
  omega
theorem zBS (l:List Op)(x:Eid)(v:Lb):(zAE l x v).length≤l.length:=by
 unfold zAE
 exact zB13
theorem take_snoc {α:Type}(l:List α)(i:Nat)(h:i<l.length):l.take (i+1)=l.take i++[l[i]]:=by
 rw[List.take_add_one,List.getElem?_eq_getElem h];rfl
theorem zEM (l:List Op)(o:Op)(x:Eid)(v:Lb):zAE (l++[o]) x v=zAE l x v++(if zBE x v o then [o.to] else []):=by
 unfold zAE
 rw[List.filter_append,List.map_append]
 cases h:zBE x v o <;> simp [h]
theorem zL8 {o0:AV}(hS:Sl 17 isOp a l)(hl:l.length≤50000)(hn:out.length≤50000)(hf:l.length+out.length<fuel)(h:MI M tm a x v o0 out)(h7:nth undefA tm 7 = .ptr 3 0)(hlen:tm.length=27)
  (k:∀ u o' N,MI N tm a x v o' ((zAE l x v).foldl addL out)→Q u N) :
  W3 (zCN fuel (d+6) 151 [.yl 8,.ptr 4 0,.ptr 5 0,.ptr 6 0] M) Q:=by
 have ll:=hS.len
 have g4':=h.g4
 have l4:=Mem.get_lt g4'
 refine call_0 tf151 rfl (by simp [a151]) fun b' ht hx=>?_
 obtain⟨h0,h1,h2⟩:=hx3 hx
 have h3:=hx 3 _ rfl
 clear hx
 simp only[a151,c151] at ht ⊢
 simp (disch:=try exact SX) only[RV,seval,h1,g4',ll]
 refine w_loop (I:=fun n t N => ∃ (i:Nat) (o:AV),n=l.length - i∧i≤l.length∧nth undefA t 0 = .yl 8∧nth undefA t 1 = .ptr 4 0∧nth undefA t 2 = .ptr 5 0∧nth undefA t 3 = .ptr 6 0∧nth undefA t 9=a∧nth undefA t 10=I64 l.length∧nth undefA t 11=I64 i∧MI N tm a x v o ((zAE (l.take i) x v).foldl addL out)) (n:=l.length) (by omega) ?_ ?_
 ·refine⟨0,o0,rfl,Nat.zero_le _, ?_, ?_, ?_, ?_, ?_, ?_, ?_,h⟩ <;> simp (disch:=try exact SX) only[RV,seval,h0,h1,h2,h3]
  all_goals first | rfl | assumption | done
 ·rintro n t N hlt ⟨i,o,rfl,hi,g0,g1,g2,g3,g9,g10,g11,m⟩
  simp only[ht] at hlt ⊢
  clear h0 h1 h2 h3 ht b'
  by_cases hc:i<l.length
  ·have q1:decide ((i:Int)<l.length)=true:=DT
   have w1:IntKind.i64.wrap ((i:Int)+1)=((i+1:Nat):Int):=WI
   obtain⟨r,hiad,hr,hrl⟩:=hS.iad i hc
   have hsn:=zEM (l.take i) l[i] x v
   rw[← take_snoc l i hc] at hsn
   have b1:=zDN (zAE (l.take i) x v) out
   have b2:=zBS (l.take i) x v
   rw[List.length_take] at b2
   generalize l[i]=e at *
   obtain⟨ra,rfl,hra,hok⟩:=hr
   have ora:=hra.one
   have wf:=m.wf
   have sz:=m.sz
   have m5:=m.g5
   have m6:=m.g6
   have l5:=Mem.get_lt m5
   have l6:=Mem.get_lt m6
   have hh:=fun M=>@zFH fuel d e.sp x M
   have hle:=fun M=>@zCK fuel (d+4) e.hd.lb v M
   have mA:MI ((N.add (.row false (opR ⟨0,Hd.z,0,⟨Eid.z,0⟩,Eid.z,Lb.z,[]⟩ NIL))).upd N.size (.row false (opR e ra))) tm a x v o ((zAE (l.take i) x v).foldl addL out):=m.keep ((wf.add _).upd _ _) (by rw[upd_size,add_size];omega) (fun j hj=>by rw[get_upd_ne (wf.add _) _ _ _ (by omega),get_add wf _ _ hj])
   cases c1:decide (e.kd=3) with
   | false =>
    have hcc:zBE x v e=false:=by unfold zBE;rw[c1];rfl
    rw[hcc,if_neg (by decide),List.append_nil] at hsn
    cases c2:(e.sp.has x).isSome <;> rw[c2] at hh
    all_goals
     exact zB0o
   | true =>
    cases c2:(e.sp.has x).isSome <;> rw[c2] at hh
    ·have hcc:zBE x v e=false:=by unfold zBE;rw[c1,c2];rfl
     rw[hcc,if_neg (by decide),List.append_nil] at hsn
     exact zB0o
    ·cases c3:e.hd.lb.leq v <;> rw[c3] at hle
     ·have hcc:zBE x v e=false:=by unfold zBE;rw[c1,c2,c3];rfl
      rw[hcc,if_neg (by decide),List.append_nil] at hsn
      simp (disch:=try exact SX) only[RV,seval,g0,g1,g2,g3,g9,g10,g11,q1,hiad,m5,m6,hh,c1,hle,w1]
      exact⟨hlt,l.length - (i+1),by omega,i+1,o,rfl,by omega,rfl,by rw[hsn];exact mA⟩
     ·have hcc:zBE x v e=true:=by unfold zBE;rw[c1,c2,c3];rfl
      rw[hcc,if_pos rfl] at hsn
      simp (disch:=try exact SX) only[RV,seval,g0,g2,g3,g9,g10,g11,q1,hiad,m5,m6,hh,c1,hle]
      refine zP5 (d:=d+2) mA h7 hlen hok.2.2.2.2.2.1 (by omega) (by omega) fun o' N' m' le'=>?_
      simp (disch:=try exact SX) only[RV,seval,g0,g1,g2,g3,g9,g10,g11,w1]
      exact⟨hlt,l.length - (i+1),by omega,i+1,o',rfl,by omega,rfl,by rw[hsn,List.foldl_append];exact m'⟩
  ·obtain rfl:i=l.length:=by omega
   have q1:decide ((l.length:Int)<l.length)=false:=DF
   rw[List.take_length] at m
   simp (disch:=try exact SX) only[RV,seval,g10,g11]
   exact k _ _ _ m
theorem zMY (hS:Sl 17 isOp a l)(wf:Wf M)(k:Q (.fn 151 [] [.ptr M.size 0,.ptr (M.size+1) 0,.ptr (M.size+1+1) 0]) (((M.add (.row false [a])).add (.row false (idR x))).add (.row false (lbR v)))) :
  W3 (zCN fuel (d+1) 124 [a,idA x,lbA v] M) Q:=by
 refine call_0 tf124 rfl (by simp [a124]) fun b' ht hx=>?_
 obtain⟨h0,h1,h2⟩:=hx3 hx
 clear hx
 simp only[a124,c124] at ht ⊢
 simp (disch:=try exact SX) only[RV,seval,h0,h1,h2,hS.fz.cells]
 exact k
theorem zJI {X:Mem}{tm:List AV}{o0:AV}{out:List Lb}(hS:Sl 17 isOp a l)(hl:l.length≤50000)(hn:out.length≤50000)(hf:l.length+out.length<fuel)(w:Wf X)(h7:nth undefA tm 7 = .ptr 3 0)(hlen:tm.length=27)(hX:X.size=7)(g3:X.get 3=some (.row false [o0]))(g4:X.get 4=some (.row false [a]))(g5:X.get 5=some (.row false (idR x)))(g6:X.get 6=some (.row false (lbR v)))(sm:SlM X 2 isLb o0 out)(ro:∀ j,rowOf o0=some j→j=2)
  (k:∀ u o' N,MI N tm a x v o' ((zAE l x v).foldl addL out)→Q u N) :
  W3 (zCN fuel (d+6) 151 ([]++[.yl (X.size+1)]++[.ptr 4 0,.ptr 5 0,.ptr 6 0]) ((X.add (.dfr false)).add (.loop .ready none tm [17] cM1 cM2 X.size))) Q:=by
 have w1:=w.add (.dfr false)
 have u:∀ j,j<7→((X.add (.dfr false)).add (.loop .ready none tm [17] cM1 cM2 X.size)).get j=X.get j:=fun j hj=>by
  rw[get_add w1 _ _ (by rw[add_size];omega),get_add w _ _ (by omega)]
 have e:X.size+1=8:=by omega
 have key:=zL8 (d:=d) (fuel:=fuel) (Q:=Q) (M:=(X.add (.dfr false)).add (.loop .ready none tm [17] cM1 cM2 X.size)) (x:=x) (v:=v) (o0:=o0) (out:=out) hS hl hn hf ⟨w1.add _,by simp only[add_size];omega,(u 3 (by omega)).trans g3,(u 4 (by omega)).trans g4,(u 5 (by omega)).trans g5,(u 6 (by omega)).trans g6,by rw[get_add w1 _ _ (by rw[add_size];omega),← hX];exact get_add_new w _ _ (Nat.le_refl _) (Nat.lt_succ_self _),by
   have:=get_add_new w1 (.loop .ready none tm [17] cM1 cM2 X.size) 8 (by rw[add_size];omega) (by rw[add_size];omega)
   rw[hX] at this ⊢
   exact this,sm.keep fun j hj=>u j (by have:=ro j hj;omega),fun j hj => .inl (ro j hj)⟩ h7 hlen k
 rw[← e] at key
 exact key
theorem zIA (hS:Sl 17 isOp a l)(hl:l.length≤40000)(hf:l.length+100<fuel)(hx:x.ok):∃ r,Sl 2 isLb r (made l x v) ∧ ∀ M,zCN fuel (d+7) 74 [a,idA x,lbA v] M=some (r,M):=by
 refine gc_ex tf74 rfl (fun M=>by simp only[icyL,fun M=>hS.icy M 12 (by omega),fz_icyA (zAU x) (show 1<12 by omega),fz_icyA (zA8 v) (show 1<12 by omega)]) ?_
 refine call_gc tf74 rfl (by simp only[icyL,fun M=>hS.icy M 12 (by omega),fz_icyA (zAU x) (show 1<12 by omega),fz_icyA (zA8 v) (show 1<12 by omega)]) (by simp [a74]) fun b' ht hx=>?_
 obtain⟨h0,h1,h2⟩:=hx3 hx
 clear hx
 simp only[a74,c74] at ht ⊢
 simp (disch:=try exact SX) only[RV,seval,fillA,h0,h1,h2]
 refine zMY hS (by simp (disch:=try exact SX) only[RV]) ?_
 simp (disch:=try exact SX) only[RV,seval]
 refine w_range (g:=151) (first:=[]) (cap:=[.ptr 4 0,.ptr 5 0,.ptr 6 0]) (by simp (disch:=try exact SX) only[RV]) (by simp (disch:=try exact SX) only[RV,seval]) ?_
 refine zJI (x:=x) (v:=v) (out:=[x.hd.lb]) (o0:=.sl 2 0 1 (some 1) 2) (d:=d) hS (by omega) (by simp) (by simp;omega) ?_ ?_ ?_ ?_ ?_ ?_ ?_ ?_ ?_ ?_ fun u o N m=>?_
 ·exact zB05
 ·exact zB0c
 ·rw[St_len];exact ht
 ·exact zB0c
 ·exact zB05
 ·exact zB05
 ·exact zB05
 ·exact zB05
 ·refine .inr ⟨2,[lbR x.hd.lb],some 1,rfl,.inr rfl, ?_,.cons ⟨rfl,hx.1.1⟩ .nil,by simp⟩
  simp (disch:=try exact SX) only[RV]
  rfl
 ·rintro j ⟨⟩
  rfl
 ·have g3:=m.g3
  have g7:=m.g7
  have wf:=m.wf
  have sm:=m.sm
  have ro:=m.ro
  have sz:=m.sz
  refine⟨wf,by have:=m.sz;simp only[add_size,upd_size,mem0_size];omega,_,_,_,_,_,m.g8, ?_⟩
  generalize hX:N.upd _ _=X
  have wX:Wf X:=by rw[← hX];exact wf.upd _ _
  have gX:∀ j,j≠8→X.get j=N.get j:=fun j hj=>by rw[← hX];exact get_upd_ne wf _ _ _ (fun e=>hj e.symm)
  have x3:=(gX 3 (by omega)).trans g3
  have x7:=(gX 7 (by omega)).trans g7
  have l3':=Mem.get_lt x3
  simp (disch:=try exact SX) only[RV,seval,x3]
  refine fin_mark wX x7 ?_
  obtain⟨rr,hz,hr⟩:=(sm.keep fun j hj=>by rw[get_upd_ne wX _ _ _ (by have:=ro j hj;omega)];exact gX j (by have:=ro j hj;omega):SlM (X.upd 7 (.dfr true)) 2 isLb o _).frz zEU.cel (k:=12) (by omega)
  simp (disch:=try exact SX) only[RV,seval,hz]
  exact⟨rr,hr,rfl⟩
def zBX (ls:List Lb)(b:Lb):Bool:=ls.any fun y=>decide (b=y)
def zAL (pre:List Op)(o:Op):Bool:=if o.kd=3 then o.hd.lb.leq o.to&&(o.sp.ids.all fun id=>zBX (made pre id o.hd.lb) o.hd.lb) else true
theorem may_sp {o:Op}(h:o.may=true):o.sp.may=true:=by
 unfold Op.may at h
 simp only[Bool.and_eq_true] at h
 exact h.1.2
theorem zFM (l:List Op)(x:Eid)(v:Lb):(made l x v).length≤l.length+1:=by
 have h1:=zDN (zAE l x v) [x.hd.lb]
 have h2:=zBS l x v
 unfold made
 simp only[List.length_singleton] at h1
 omega
theorem zFI (s:Spn):s.ids.length=s.n.toNat:=(List.length_map _).trans List.length_range
theorem zH9 (s:Spn)(i:Nat)(h:i<s.ids.length):s.ids[i]=s.at i:=(List.getElem_map _).trans (by rw[List.getElem_range])
theorem zHY {o:Op}{ra:AV}(hS:Sl 17 isOp a l)(hl:l.length≤40000)(hf:l.length+200<fuel)(hR:Sl 1 zA3 ra o.rs)(ho:o.ok)(hm:o.may=true)(M:Mem):zCN fuel (d+8) 48 [a,.agg (opR o ra)] M=some (BL (zAL l o),M):=by
 have hsm:=may_sp hm
 have hb:=Spn.may_le hsm
 obtain⟨m,hmn⟩:∃ m:Nat,o.sp.n=m:=⟨o.sp.n.toNat,by omega⟩
 have il:o.sp.ids.length=m:=by rw[zFI,hmn];rfl
 have hat:=fun n M=>@zE7 fuel (d+2) o.sp n M
 simp only[hsm,if_true] at hat
 have hle:=fun M=>@zCK fuel (d+6) o.hd.lb o.to M
 apply w3_eq
 refine call_g2 tf48 rfl (by simp only[icyL,fun M=>hS.icy M 12 (by omega),zCH hR.fz]) (by simp [a48]) fun b' ht hx=>?_
 obtain⟨h0,h1⟩:=hx2 hx
 clear hx
 simp only[a48,c48] at ht ⊢
 unfold zAL
 by_cases q3:o.kd=3
 ·have k3:decide (o.kd=3)=true:=decide_eq_true q3
  rw[if_pos q3]
  simp (disch:=try exact SX) only[RV,seval,h1,k3,hle,hmn]
  refine w_loop (I:=fun n t N => ∃ (i:Nat),n=m - i∧i≤m∧nth undefA t 0=a∧nth undefA t 3 = .ptr 0 0∧nth undefA t 5=BL (o.hd.lb.leq o.to&&(o.sp.ids.take i).all fun id=>zBX (made l id o.hd.lb) o.hd.lb)∧nth undefA t 20=I64 m∧nth undefA t 21=I64 i∧Wf N∧N.get 0=some (.row false (opR o ra))) (n:=m) (by omega) ?_ ?_
  ·exact zB0i
  ·rintro n t N hlt ⟨i,rfl,hi,g0,g3,g5,g20,g21,w,g⟩
   simp only[ht] at hlt ⊢
   by_cases hc:i<m
   ·have q1:decide ((i:Int)<m)=true:=DT
    have hi':¬((i:Int)<0∨o.sp.n≤i):=by omega
    have hat:=fun M=>hat i M
    simp only[hi',if_false] at hat
    have ok:=zGB ho.2.2.2.1 hsm i (by omega)
    have lN:=Mem.get_lt g
    have w1:IntKind.i64.wrap ((i:Int)+1)=((i+1:Nat):Int):=WI
    obtain⟨r,hr,hmade⟩:=zIA (fuel:=fuel) (d:=d) (x:=o.sp.at i) (v:=o.hd.lb) hS hl (by omega) ok
    have hml:=zFM l (o.sp.at i) o.hd.lb
    have hcn:∀ M,zCN fuel (d+7) 73 [r,lbA o.hd.lb] M=some (BL (zBX (made l (o.sp.at i) o.hd.lb) o.hd.lb),M):=fun M=>hasV_g2 (P:=Tryz.prog) (fs:=fsT tbl) (fuel:=fuel) (n:=d+5) (v:=lbR o.hd.lb) tf73 tf123 zEU hr (by omega) (by omega) (by omega) (zA8 o.hd.lb) rfl @pLbE (p:=fun y=>decide (o.hd.lb=y)) (fun dd r y hy _=>by rw[hy.1];exact zA6 dd o.hd.lb.lv o.hd.lb.cats y.lv y.cats) M
    have hsn:(o.sp.ids.take (i+1)).all (fun id=>zBX (made l id o.hd.lb) o.hd.lb)=((o.sp.ids.take i).all (fun id=>zBX (made l id o.hd.lb) o.hd.lb)&&zBX (made l (o.sp.at i) o.hd.lb) o.hd.lb):=by
     rw[take_snoc _ i (by omega),List.all_append,zH9];simp
    have hall:∀ b,b=(o.hd.lb.leq o.to&&(o.sp.ids.take (i+1)).all fun id=>zBX (made l id o.hd.lb) o.hd.lb)→b=false→(o.hd.lb.leq o.to&&o.sp.ids.all fun id=>zBX (made l id o.hd.lb) o.hd.lb)=false:=by
     intro b hb1 hb2
     rw[hb2] at hb1
     rw[← List.take_append_drop (i+1) o.sp.ids,List.all_append,← Bool.and_assoc,← hb1,Bool.false_and]
    have orr:=hr.one
    cases hb:(o.hd.lb.leq o.to&&(o.sp.ids.take i).all fun id=>zBX (made l id o.hd.lb) o.hd.lb) with
    | false =>
     rw[hb] at g5
     have hal:=hall _ rfl (by rw[hsn,← Bool.and_assoc,hb,Bool.false_and])
     simp (disch:=try exact SX) only[RV,seval,g3,g5,g20,g21,q1,g,hat,sc_ex]
     rw[hal]
    | true =>
     rw[hb] at g5
     cases hcc:zBX (made l (o.sp.at i) o.hd.lb) o.hd.lb with
     | false =>
      rw[hcc] at hcn
      have hal:=hall _ rfl (by rw[hsn,hcc,Bool.and_false,Bool.and_false])
      simp (disch:=try exact SX) only[RV,seval,g0,g3,g5,g20,g21,q1,g,hat,hmade,hcn,sc_ex]
      rw[hal]
     | true =>
      rw[hcc] at hcn
      have hal:(o.hd.lb.leq o.to&&(o.sp.ids.take (i+1)).all fun id=>zBX (made l id o.hd.lb) o.hd.lb)=true:=by rw[hsn,hcc,Bool.and_true];exact hb
      simp (disch:=try exact SX) only[RV,seval,g0,g3,g5,g20,g21,q1,w,g,hat,hmade,hcn,w1]
      exact⟨hlt,m - (i+1),by omega,i+1,rfl,by omega,by rw[hal],rfl⟩
   ·obtain rfl:i=m:=by omega
    have q1:decide ((i:Int)<i)=false:=DF
    have et:o.sp.ids.take i=o.sp.ids:=List.take_of_length_le (by omega)
    rw[et] at g5
    simp (disch:=try exact SX) only[RV,seval,g5,g20,g21,sc_ex]
 ·have k3:decide (o.kd=3)=false:=decide_eq_false q3
  rw[if_neg q3]
  simp (disch:=try exact SX) only[RV,seval,h1,k3,sc_ex]
def zDI:List Op→List Op→Bool
 | _,[]=>true
 | pre,o::l=>o.may&&zAL pre o&&zDI (pre++[o]) l
def zAZ (l:List Op):Int:=if 2048<l.length then 4 else err (zDI [] l)
theorem drop_step {α:Type}(l:List α)(i:Nat)(h:i<l.length):l.drop i=l[i]::l.drop (i+1):=List.drop_eq_getElem_cons h
theorem zE0 (hS:Sl 17 isOp a l)(hl:l.length≤40000)(hf:l.length+200<fuel)(M:Mem):zCN fuel (d+9) 46 [a] M=some (I64 (zAZ l),M):=by
 have ll:=hS.len
 apply w3_eq
 refine call_g2 tf46 rfl (by simp only[icyL,fun M=>hS.icy M 12 (by omega)]) (by simp [a46]) fun b' ht hx=>?_
 have h0:=hx 0 _ rfl
 clear hx
 simp only[a46,c46] at ht ⊢
 unfold zAZ
 by_cases q0:2048<l.length
 ·have q1:decide ((2048:Int)<l.length)=true:=DT
  simp (disch:=try exact SX) only[RV,seval,h0,ll,q1,q0,if_true,sc_ex]
 ·have q1:decide ((2048:Int)<l.length)=false:=DF
  simp (disch:=try exact SX) only[RV,seval,h0,ll,q1,q0,if_false]
  refine w_loop (I:=fun n t N => ∃ (i:Nat),n=l.length - i∧i≤l.length∧nth undefA t 0=a∧nth undefA t 8=a∧nth undefA t 9=I64 l.length∧nth undefA t 10=I64 i∧Wf N∧zDI [] l=zDI (l.take i) (l.drop i)) (n:=l.length) (by omega) ?_ ?_
  ·refine⟨0,rfl,Nat.zero_le _, ?_, ?_, ?_, ?_,Wf.mem0,rfl⟩ <;> simp (disch:=try exact SX) only[RV,seval,h0]
   all_goals first | rfl | assumption | done
  ·rintro n t N hlt ⟨i,rfl,hi,g0,g8,g9,g10,w,inv⟩
   simp only[ht] at hlt ⊢
   by_cases hc:i<l.length
   ·have q2:decide ((i:Int)<l.length)=true:=DT
    have w1:IntKind.i64.wrap ((i:Int)+1)=((i+1:Nat):Int):=WI
    obtain⟨r,hiad,hr,hrl⟩:=hS.iad i hc
    obtain⟨p,hp1,hp2⟩:=sl_to hS (j:=i) (by omega)
    rw[drop_step l i hc,zDI,← take_snoc l i hc] at inv
    have hkeep:l.take i++l[i]::l.drop (i+1)=l:=by rw[← drop_step l i hc,List.take_append_drop]
    generalize l[i]=e at *
    obtain⟨ra,rfl,hra,hok⟩:=hr
    have ora:=hra.one
    have hck:=fun M=>@zBU fuel (d+1) e ra hra hok (by omega) M
    cases hm:e.may with
    | false =>
     rw[hm] at hck
     simp only[hm,Bool.false_and] at inv
     rw[inv]
     simp (disch:=try exact SX) only[RV,seval,g8,g9,g10,q2,hiad,hck,zAC,sc_ex]
    | true =>
     rw[hm] at hck
     have hfi:=fun M=>zHY (fuel:=fuel) (d:=d) hp2 (by simp;omega) (by simp;omega) hra hok hm M
     cases hr':zAL (l.take i) e with
     | false =>
      rw[hr'] at hfi
      simp only[hm,hr',Bool.false_and,Bool.and_false] at inv
      rw[inv]
      simp (disch:=try exact SX) only[RV,seval,g0,g8,g9,g10,hS.fz.rows,q2,hiad,hck,zA4,zAC,hp1,hfi,sc_ex]
     | true =>
      rw[hr'] at hfi
      simp only[hm,hr',Bool.true_and] at inv
      simp (disch:=try exact SX) only[RV,seval,g0,g8,g9,g10,hS.fz.rows,q2,hiad,w,hck,zA4,hp1,hfi,w1]
      exact⟨hlt,l.length - (i+1),by omega,i+1,rfl,by omega,rfl,inv⟩
   ·obtain rfl:i=l.length:=by omega
    have q1:decide ((l.length:Int)<l.length)=false:=DF
    rw[List.drop_length,zDI] at inv
    rw[inv]
    simp (disch:=try exact SX) only[RV,seval,g9,g10,zA4,sc_ex]
def chfE (l:List Op)(o:Op):Int:=if zAZ l=0 then err o.may else zAZ l
def chfB (l:List Op)(o:Op):Bool:=decide (chfE l o=0)&&zAL l o
theorem zHX {o:Op}{ra:AV}(hS:Rd M 17 isOp a l)(hl:l.length≤40000)(hf:l.length+200<fuel)(hR:Sl 1 zA3 ra o.rs)(ho:o.ok)(wf:Wf M)(k:∀ N,Kept M N→Q (.tup [BL (chfB l o),I64 (chfE l o)]) N) :
  W3 (zCN fuel (d+10) 28 [a,.agg (opR o ra)] M) Q:=by
 have wA:=wf.add (.row false (opR o ra))
 have hS':Rd (M.add (.row false (opR o ra))) 17 isOp a l:=hS.keep fun j hj=>get_add wf _ _ (by
  rcases hS with h | h
  ·rcases h with⟨rfl,_⟩ | ⟨_,_,rfl,_⟩ <;> cases hj
  ·exact h.lt j hj)
 have hch:=lendR0 (P:=Tryz.prog) (fs:=fsT tbl) (fuel:=fuel) (n:=d+8) (N:=M.add (.row false (opR o ra))) tf46 rfl zDJ hS' wA (fun a' h M=>zE0 (d:=d) h hl hf M)
 have hck:=fun M=>@zBU fuel (d+2) o ra hR ho (by omega) M
 unfold chfB at k
 unfold chfE at k
 refine call_0 tf28 rfl (by simp [a28]) fun b' ht hx=>?_
 obtain⟨h0,h1⟩:=hx2 hx
 clear hx
 simp only[a28,c28] at ht ⊢
 by_cases q0:zAZ l=0
 ·rw[q0] at hch
  simp only[q0,if_true] at k
  cases hm:o.may with
  | false =>
   rw[hm] at hck k
   simp (disch:=try exact SX) only[RV,seval,h0,h1,hch,hck,zAC]
   exact zB0s
  | true =>
   have hfi:=lendR1 (P:=Tryz.prog) (fs:=fsT tbl) (fuel:=fuel) (n:=d+8) (N:=M.add (.row false (opR o ra))) (y:=.agg (opR o ra)) tf48 rfl zDJ hS' wA (zCH hR.fz) (fun a' h M=>zHY (d:=d+1) h hl hf hR ho hm M)
   rw[hm] at hck k
   simp (disch:=try exact SX) only[RV,seval,h0,h1,hch,hck,zA4,hfi]
   exact zB0s
 ·have q1:decide (zAZ l=0)=false:=decide_eq_false q0
  simp only[q0,if_false,decide_false,Bool.false_and] at k
  simp (disch:=try exact SX) only[RV,seval,h0,h1,hch,q1]
  exact zB0s
def askE (l:List Op)(x:Eid)(v:Lb):Int:=if zAZ l=0 then err (x.may&&v.may) else zAZ l
theorem zJV (hS:Sl 17 isOp a l)(hl:l.length≤40000)(hf:l.length+200<fuel)(M:Mem):zCN fuel (d+10) 84 [a,idA x,lbA v] M=some (I64 (askE l x v),M):=by
 have hch:=fun M=>zE0 (fuel:=fuel) (d:=d) hS hl hf M
 have hc:=fun M=>@zFC fuel (d+6) x M
 have hv:=fun M=>@zBR fuel (d+8) v M
 apply w3_eq
 refine call_gc tf84 rfl (by simp only[icyL,fun M=>hS.icy M 12 (by omega),fz_icyA (zAU x) (show 1<12 by omega),fz_icyA (zA8 v) (show 1<12 by omega)]) (by simp [a84]) fun b' ht hx=>?_
 obtain⟨h0,h1,h2⟩:=hx3 hx
 clear hx
 simp only[a84,c84] at ht ⊢
 unfold askE
 by_cases q0:zAZ l=0
 ·rw[q0] at hch
  rw[if_pos q0]
  cases h5:x.may <;> cases h6:v.may <;> rw[h5] at hc <;> rw[h6] at hv
  all_goals simp (disch:=try exact SX) only[RV,seval,h0,h1,h2,hch,hc,hv,zA4,zAC,pB_max2,BMM]
  all_goals rfl
 ·have q1:decide (zAZ l=0)=false:=decide_eq_false q0
  rw[if_neg q0]
  simp (disch:=try exact SX) only[RV,seval,h0,h1,h2,hch,q1]
def zC7 (l:List Op)(x:Eid)(v:Lb):Bool:=decide (askE l x v=0) && !((made l x v).any fun to => !to.leq v)
theorem zN0 {to:Lb}{y:Nat}(wf:Wf M)(hy:M.get y=some (.row false (lbR v)))(k:∀ N,Kept M N→Q (BL (!to.leq v)) N):W3 (zCN fuel (d+2) 85 [lbA to,.ptr y 0] M) Q:=by
 have ly:=Mem.get_lt hy
 have hl:=fun M=>@zCK fuel d to v M
 refine call_0 tf85 rfl (by simp [a85]) fun b' ht hx=>?_
 obtain⟨h0,h1⟩:=hx2 hx
 clear hx
 simp only[a85,c85] at ht ⊢
 simp (disch:=try exact SX) only[RV,seval,h0,h1,hy,hl]
 exact zB0s
theorem zLF (hS:Sl 17 isOp a l)(hl:l.length≤40000)(hf:l.length+200<fuel)(hx:x.ok)(M:Mem):zCN fuel (d+11) 58 [a,idA x,lbA v] M=some (.tup [BL (zC7 l x v),I64 (askE l x v)],M):=by
 have has:=fun M=>zJV (fuel:=fuel) (d:=d) (x:=x) (v:=v) hS hl hf M
 apply w3_eq
 refine call_gc tf58 rfl (by simp only[icyL,fun M=>hS.icy M 12 (by omega),fz_icyA (zAU x) (show 1<12 by omega),fz_icyA (zA8 v) (show 1<12 by omega)]) (by simp [a58]) fun b' ht hx=>?_
 obtain⟨h0,h1,h2⟩:=hx3 hx
 clear hx
 simp only[a58,c58] at ht ⊢
 unfold zC7
 by_cases q0:askE l x v=0
 ·rw[q0] at has
  obtain⟨r,hr,hm⟩:=zIA (fuel:=fuel) (d:=d+3) (x:=x) (v:=v) hS hl (by omega) hx
  rw[q0]
  simp (disch:=try exact SX) only[RV,seval,h0,h1,h2,has,hm]
  have hml:=zFM l x v
  refine has_0 (st:=2) (ag:=true) (n:=d+8) (first:=[]) (cap:=[.ptr 1 0]) tf86 tf129 (by simp) zEU hr (by omega) (by omega) (p:=fun to => !to.leq v) (by simp (disch:=try exact SX) only[RV]) (fun n hn=>by simp only[add_size,mem0_size] at hn;simp (disch:=try exact SX) only[RV]) (fun r to hr _ N Q' hk hQ=>?_) fun N hk=>?_
  ·obtain⟨rfl,_⟩:=hr
   refine zN0 (d:=d+6) hk.wf ?_ (fun N' hk'=>hQ N' (hk.trans hk'))
   rw[hk.get 1 (by simp (disch:=try exact SX) only[RV,seval])]
   exact zB05
  ·exact zB0c
 ·have q1:decide (askE l x v=0)=false:=decide_eq_false q0
  simp (disch:=try exact SX) only[RV,seval,h0,h1,h2,has,q1,Bool.false_and]
theorem zM7 {s:Spn}(hm:s.may=true)(x:Eid):(s.has x).isSome=(decide (s.f.hd=x.hd)&&decide (s.f.c≤x.c)&&decide (x.c<s.f.c+s.n)):=by
 unfold Spn.has
 by_cases h1:s.f.hd=x.hd
 ·by_cases h2:s.f.c≤x.c
  ·by_cases h3:x.c<s.f.c+s.n
   ·rw[if_pos ⟨hm,h1.symm,h2,h3⟩];simp [h1,h2,h3]
   ·rw[if_neg (fun h=>h3 h.2.2.2)];simp [h3]
  ·rw[if_neg (fun h=>h2 h.2.2.1)];simp [h2]
 ·rw[if_neg (fun h=>h1 h.2.1.symm)];simp [h1]
theorem zJD {s:Spn}(hm:s.may=true)(x:Eid)(M:Mem):zCN fuel (d+1) 147 [spA s,idA x] M=some (BL (s.has x).isSome,M):=by
 have hb:=Spn.may_le hm
 have w:IntKind.i64.wrap (s.f.c+s.n)=s.f.c+s.n:=wrap_i64 (by omega) (by omega)
 rw[zM7 hm]
 apply w3_eq
 refine call_gc tf147 rfl (by simp (disch:=try exact SX) only[RV,seval]) (by simp [a147]) fun b' ht hx=>?_
 obtain⟨h0,h1⟩:=hx2 hx
 clear hx
 simp only[a147,c147] at ht ⊢
 cases q1:decide (s.f.hd=x.hd) with
 | false=>simp (disch:=try exact SX) only[RV,seval,h0,h1,↓pHdE,zAD,ETA,q1,Bool.false_and]
 | true =>
  cases q2:decide (s.f.c≤x.c) with
  | false=>simp (disch:=try exact SX) only[RV,seval,h0,h1,↓pHdE,zAD,ETA,q1,q2,Bool.false_and]
  | true=>simp (disch:=try exact SX) only[RV,seval,h0,h1,↓pHdE,zAD,ETA,q1,q2,w]
theorem zD0 (hS:Sl 17 isOp a l)(hm:∀ o∈l,o.may=true)(hv:v.ok)(hl:l.length≤40000)(hf:l.length+200<fuel):∃ r,Sl 2 isLb r (zAE l x v) ∧ ∀ M,zCN fuel (d+3) 110 [a,idA x,lbA v] M=some (r,M):=by
 have ll:=hS.len
 refine gc_ex tf110 rfl (fun M=>by simp only[icyL,fun M=>hS.icy M 12 (by omega),fz_icyA (zAU x) (show 1<12 by omega),fz_icyA (zA8 v) (show 1<12 by omega)]) ?_
 refine call_gc tf110 rfl (by simp only[icyL,fun M=>hS.icy M 12 (by omega),fz_icyA (zAU x) (show 1<12 by omega),fz_icyA (zA8 v) (show 1<12 by omega)]) (by simp [a110]) fun b' ht hx=>?_
 obtain⟨h0,h1,h2⟩:=hx3 hx
 clear hx
 simp only[a110,c110] at ht ⊢
 simp (disch:=try exact SX) only[RV,seval,h1,h2]
 refine w_loop (I:=fun n t N => ∃ (i:Nat) (o:AV),n=l.length - i∧i≤l.length∧nth undefA t 0=a∧nth undefA t 4 = .ptr 0 0∧nth undefA t 5 = .ptr 1 0∧nth undefA t 7=o∧nth undefA t 8=I64 i∧Wf N∧N.get 0=some (.row false (idR x))∧N.get 1=some (.row false (lbR v))∧SlM N 2 isLb o (zAE (l.take i) x v)∧(∀ j,rowOf o=some j→2≤j)) (n:=l.length) (by omega) ?_ ?_
 ·refine⟨0,NIL,rfl,Nat.zero_le _, ?_, ?_, ?_, ?_, ?_,(Wf.mem0.add _).add _,by simp (disch:=try exact SX) only[RV],by simp (disch:=try exact SX) only[RV],SlM.nil,(fun _ h=>by cases h)⟩ <;> simp (disch:=try exact SX) only[RV,seval,h0]
  all_goals first | rfl | assumption | done
 ·rintro n t N hlt ⟨i,o,rfl,hi,g0,g4,g5,g7,g8,w,m0,m1,sm,ro⟩
  simp only[ht] at hlt ⊢
  have l0:=Mem.get_lt m0
  have l1:=Mem.get_lt m1
  by_cases hc:i<l.length
  ·have q1:decide ((i:Int)<l.length)=true:=DT
   have w1:IntKind.i64.wrap ((i:Int)+1)=((i+1:Nat):Int):=WI
   obtain⟨r,hiad,hr,_⟩:=hS.iad i hc
   have hsn:=zEM (l.take i) l[i] x v
   rw[← take_snoc l i hc] at hsn
   have hmi:=hm l[i] (List.getElem_mem hc)
   have hrl:=zBS (l.take i) x v
   rw[List.length_take] at hrl
   generalize l[i]=e at *
   obtain⟨ra,rfl,hra,hok⟩:=hr
   have hh:=fun M=>zJD (fuel:=fuel) (d:=d+1) (may_sp hmi) x M
   have hle:=fun M=>zB6 (fuel:=fuel) (d:=d) e.hd.lb v hok.2.1.1 hv (by omega) M
   unfold zBE at hsn
   cases q2:decide (e.kd=3) with
   | false =>
    simp only[q2,Bool.false_and,Bool.false_eq_true,if_false,List.append_nil] at hsn
    simp (disch:=try exact SX) only[RV,seval,g0,g4,g5,g7,g8,ll,q1,hiad,q2,m0,m1,w1]
    exact zB0p
   | true =>
    cases q3:(e.sp.has x).isSome with
    | false =>
     rw[q3] at hh
     simp only[q2,q3,Bool.false_and,Bool.and_false,Bool.false_eq_true,if_false,List.append_nil] at hsn
     simp (disch:=try exact SX) only[RV,seval,g0,g4,g5,g7,g8,ll,q1,hiad,q2,m0,m1,hh,w1]
     exact zB0p
    | true =>
     rw[q3] at hh
     cases q4:e.hd.lb.leq v with
     | false =>
      rw[q4] at hle
      simp only[q2,q3,q4,Bool.and_false,Bool.false_eq_true,if_false,List.append_nil] at hsn
      simp (disch:=try exact SX) only[RV,seval,g0,g4,g5,g7,g8,ll,q1,hiad,q2,m0,m1,hh,hle,w1]
      exact zB0p
     | true =>
      rw[q4] at hle
      simp only[q2,q3,q4,Bool.and_self,if_true] at hsn
      simp (disch:=try exact SX) only[RV,seval,fillA,g0,g4,g5,g7,g8,ll,q1,hiad,q2,m0,m1,hh,hle]
      refine⟨rows_lt sm.rl (by omega), ?_⟩
      refine app1 (bytes:=8) w sm zEU (x:=e.to) ⟨rfl,hok.2.2.2.2.2.1⟩ rfl (by omega) (by omega) (by omega) fun o' M' m' w' le' kp' nw' wm' rl' on' oc'=>?_
      simp (disch:=try exact SX) only[RV,seval,g0,g4,g5,g7,g8,w',w1]
      refine⟨hlt,l.length - (i+1),by omega,i+1,o',rfl,by omega,rfl,rfl, ?_, ?_,by rw[hsn];exact m',fun j hj=>?_⟩
      ·rw[kp' 0 l0 (fun h=>by have:=ro 0 h;omega)];exact m0
      ·rw[kp' 1 l1 (fun h=>by have:=ro 1 h;omega)];exact m1
      ·exact zB0t
  ·obtain rfl:i=l.length:=by omega
   have q1:decide ((l.length:Int)<l.length)=false:=DF
   rw[List.take_length] at sm
   obtain⟨r,hz,hsr⟩:=sm.frz zEU.cel (k:=12) (by omega)
   simp (disch:=try exact SX) only[RV,seval,g0,g7,g8,ll,hz]
   exact⟨r,hsr,rfl⟩
theorem zDF {ls:List Lb}(hS:Sl 2 isLb a ls)(b:Lb)(hl:ls.length≤1000000000)(hf:ls.length<fuel)(M:Mem):zCN fuel (d+1) 77 [a,lbA b] M=some (BL (zBX ls b),M):=by
 have ll:=hS.len
 apply w3_eq
 refine call_g2 tf77 rfl (by simp only[icyL,fun M=>hS.icy M 12 (by omega),fz_icyA (zA8 b) (show 1<12 by omega)]) (by simp [a77]) fun b' ht hx=>?_
 obtain⟨h0,h1⟩:=hx2 hx
 clear hx
 simp only[a77,c77] at ht ⊢
 unfold zBX
 simp (disch:=try exact SX) only[RV,h1]
 refine w_loop (I:=fun n t N => ∃ (i:Nat),n=ls.length - i∧i≤ls.length∧nth undefA t 0=a∧nth undefA t 3 = .ptr 0 0∧nth undefA t 5=I64 i∧Wf N∧N.get 0=some (.row false (lbR b))∧(ls.take i).any (fun y=>decide (b=y))=false) (n:=ls.length) (by omega) ?_ ?_
 ·exact zB0j
 ·rintro n t N hlt ⟨i,rfl,hi,g0,g3,g5,w,g,hj⟩
  simp only[ht] at hlt ⊢
  have lg:=Mem.get_lt g
  by_cases hc:i<ls.length
  ·have q1:decide ((i:Int)<ls.length)=true:=DT
   have w1:IntKind.i64.wrap ((i:Int)+1)=((i+1:Nat):Int):=WI
   obtain⟨r,hiad,⟨rfl,_⟩,_⟩:=hS.iad i hc
   have hsn:=take_snoc ls i hc
   have hmem:=List.getElem_mem hc
   generalize ls[i]=y at *
   cases q2:decide (y=b) with
   | true =>
    have e:ls.any (fun y=>decide (b=y))=true:=List.any_eq_true.2 ⟨y,hmem,by rw[of_decide_eq_true q2];exact decide_eq_true rfl⟩
    simp (disch:=try exact SX) only[RV,seval,g0,g3,g5,ll,q1,hiad,g,↓pLbE,zA6,ETA,q2,sc_ex]
    rw[e]
   | false =>
    simp (disch:=try exact SX) only[RV,seval,g0,g3,g5,ll,q1,hiad,g,↓pLbE,zA6,ETA,q2,w1]
    refine⟨hlt,ls.length - (i+1),by omega,i+1,rfl,by omega,rfl,w, ?_⟩
    rw[hsn,List.any_append,hj]
    have:decide (b=y)=false:=decide_eq_false fun h=>of_decide_eq_false q2 h.symm
    simp [this]
  ·obtain rfl:i=ls.length:=by omega
   have q1:decide ((ls.length:Int)<ls.length)=false:=DF
   rw[List.take_length] at hj
   simp (disch:=try exact SX) only[RV,seval,g0,g5,ll,hj,sc_ex]
theorem zL4 (hS:Sl 17 isOp a l)(hm:∀ o∈l,o.may=true)(hx:x.ok)(hv:v.ok)(hl:l.length≤40000)(hf:l.length+200<fuel):∃ r,Sl 2 isLb r (made l x v) ∧ ∀ M,zCN fuel (d+4) 78 [a,idA x,lbA v] M=some (r,M):=by
 obtain⟨rr,hrr,hra⟩:=zD0 (fuel:=fuel) (d:=d) (x:=x) hS hm hv hl hf
 have lrr:=hrr.len
 have hrl:=zBS l x v
 refine gc_ex tf78 rfl (fun M=>by simp only[icyL,fun M=>hS.icy M 12 (by omega),fz_icyA (zAU x) (show 1<12 by omega),fz_icyA (zA8 v) (show 1<12 by omega)]) ?_
 refine call_gc tf78 rfl (by simp only[icyL,fun M=>hS.icy M 12 (by omega),fz_icyA (zAU x) (show 1<12 by omega),fz_icyA (zA8 v) (show 1<12 by omega)]) (by simp [a78]) fun b' ht hx=>?_
 obtain⟨h0,h1,h2⟩:=hx3 hx
 clear hx
 simp only[a78,c78] at ht ⊢
 unfold made
 generalize zAE l x v=R at *
 simp (disch:=try exact SX) only[RV,seval,fillA,h0,h1,h2,hra]
 refine w_loop (I:=fun n t N => ∃ (i:Nat) (o:AV),n=R.length - i∧i≤R.length∧nth undefA t 7=o∧nth undefA t 8=rr∧nth undefA t 9=I64 i∧Wf N∧SlM N 2 isLb o ((R.take i).foldl addL [x.hd.lb])) (n:=R.length) (by omega) ?_ ?_
 ·refine⟨0,.sl 2 0 1 (some 1) 2,rfl,Nat.zero_le _, ?_, ?_, ?_,((Wf.mem0.add _).add _).add _,slm_lit (rows:=[lbR x.hd.lb]) (.cons ⟨rfl,hx.1.1⟩ .nil) (by simp) rfl (.inr rfl) (by simp (disch:=try exact SX) only[RV];rfl)⟩ <;> simp (disch:=try exact SX) only[RV,seval]
  all_goals first | rfl | assumption | done
 ·rintro n t N hlt ⟨i,o,rfl,hi,g7,g8,g9,w,sm⟩
  simp only[ht] at hlt ⊢
  have hfl:=zDN (R.take i) [x.hd.lb]
  rw[List.length_take,List.length_singleton] at hfl
  by_cases hc:i<R.length
  ·have q1:decide ((i:Int)<R.length)=true:=DT
   have w1:IntKind.i64.wrap ((i:Int)+1)=((i+1:Nat):Int):=WI
   obtain⟨r,hiad,⟨hr1,hr2⟩,_⟩:=hrr.iad i hc
   subst hr1
   have hsn:(R.take (i+1)).foldl addL [x.hd.lb]=addL ((R.take i).foldl addL [x.hd.lb]) R[i]:=by rw[take_snoc R i hc,List.foldl_append];rfl
   generalize R[i]=y at *
   generalize (R.take i).foldl addL [x.hd.lb]=E at *
   have ham:=lend1 (P:=Tryz.prog) (fs:=fsT tbl) (fuel:=fuel) (n:=d+2) (N:=N) (y:=lbA y) tf77 rfl zEU sm w (fun M=>fz_icyA (zA8 y) (by omega) M) (fun a' h M=>zDF (fuel:=fuel) (d:=d+2) h y (by omega) (by omega) M)
   have hadd:addL E y=if zBX E y then E else E++[y]:=rfl
   rw[hadd] at hsn
   have rlo:=rows_lt sm.rl (Nat.le_refl N.size)
   cases q2:zBX E y with
   | true =>
    rw[q2] at ham
    rw[q2,if_pos rfl] at hsn
    simp (disch:=try exact SX) only[RV,seval,g7,g8,g9,lrr,q1,hiad,ham,w1]
    exact⟨hlt,R.length - (i+1),by omega,i+1,o,rfl,by omega,rfl,rfl,w,by rw[hsn];exact sm⟩
   | false =>
    rw[q2] at ham
    rw[q2,if_neg (by decide)] at hsn
    simp (disch:=try exact SX) only[RV,seval,fillA,g7,g8,g9,lrr,q1,hiad,ham]
    refine⟨rows_lt sm.rl (by omega), ?_⟩
    refine app1 (bytes:=8) w sm zEU (x:=y) ⟨rfl,hr2⟩ rfl (by omega) (by omega) (by omega) fun o' M' m' w' le' kp' nw' wm' rl' on' oc'=>?_
    simp (disch:=try exact SX) only[RV,seval,g7,g8,g9,w',w1]
    exact⟨hlt,R.length - (i+1),by omega,i+1,o',rfl,by omega,rfl,rfl,by rw[hsn];exact m'⟩
  ·obtain rfl:i=R.length:=by omega
   have q1:decide ((R.length:Int)<R.length)=false:=DF
   rw[List.take_length] at sm
   obtain⟨r,hz,hsr⟩:=sm.frz zEU.cel (k:=12) (by omega)
   simp (disch:=try exact SX) only[RV,seval,g7,g8,g9,lrr,hz]
   exact⟨r,hsr,rfl⟩
def idV (x:Eid):List Value:=[.int .u8 x.hd.lb.lv,.int .u32 x.hd.lb.cats,.int .u8 x.hd.num,.int .i64 x.c]
theorem zNA (x:Eid):PT.iss [.st [.st [.int .u8,.int .u32],.int .u8],.int .i64] (idV x):=by
 simp only[PT.iss,PT.is]
 exact⟨[.int .u8 x.hd.lb.lv,.int .u32 x.hd.lb.cats,.int .u8 x.hd.num],[.int .i64 x.c],rfl,⟨[.int .u8 x.hd.lb.lv,.int .u32 x.hd.lb.cats],[.int .u8 x.hd.num],rfl,⟨[.int .u8 x.hd.lb.lv],[.int .u32 x.hd.lb.cats],rfl,⟨_,rfl⟩,⟨[.int .u32 x.hd.lb.cats],[],rfl,⟨_,rfl⟩,rfl⟩⟩,⟨[.int .u8 x.hd.num],[],rfl,⟨_,rfl⟩,rfl⟩⟩,⟨[.int .i64 x.c],[],rfl,⟨_,rfl⟩,rfl⟩⟩
theorem zO5 (x y:Eid):idV x=idV y↔x=y:=by
 obtain⟨⟨⟨a,b⟩,c⟩,e⟩:=x
 obtain⟨⟨⟨a',b'⟩,c'⟩,e'⟩:=y
 simp [idV,and_assoc]
theorem id_ck (b:Bool)(n1 n2 n3 n4:Int):(pureRun Tryz.prog (Instr.checkKey b 10000 31 (.agg #[.int .u8 n1,.int .u32 n2,.int .u8 n3,.int .i64 n4]))).isSome=true:=by
 cases b <;> kernel_rfl
def zFG:KeyT Tryz.prog 31 idA where
 val x:=.agg (idV x).toArray
 hval x:=rfl
 ck b x:=id_ck b _ _ _ _
 eq x y:=by
  obtain⟨r,h1,h2⟩:=PT.eq (P:=Tryz.prog) (.st [.st [.st [.int .u8,.int .u32],.int .u8],.int .i64]) 31 10000 (by kernel_rfl) (by decide) (xs:=idV x) (ys:=idV y) (by simpa only[PT.is] using zNA x) (by simpa only[PT.is] using zNA y)
  have e:r=decide (x=y):=by
   rw[Bool.eq_iff_iff,h2,zO5]
   simp
  rw[← e]
  exact h1
 same x:=by simp [Instr.sameBits,idV]
variable {o : Op} {ra ops : AV} {B id m : Nat}
def zA2 (l:List Op):List Eid:=l.flatMap fun o=>if o.kd=1 then o.sp.ids else []
structure IsHist (N:Mem) (B id m:Nat) (ops:AV) (l:List Op):Prop where
 hg:N.get id=some (.row false [ops,.mp m])
 sm:SlM N 17 isOp ops l
 mg:∃ obj,N.get m=some obj∧IsSet idA (BL true) obj (zA2 l)
 ib:B≤id
 mb:B≤m
 ob:∀ j,rowOf ops=some j→B≤j
 ne:id≠m
 n1:rowOf ops≠some id
 n2:rowOf ops≠some m
theorem IsHist.keep {N:Mem}(h:IsHist M B id m ops l)(k:∀ j,j<M.size→N.get j=M.get j):IsHist N B id m ops l:=by
 exact zB0k
def zBF (l:List Op)(o:Op)(x:Eid):Bool:=decide (x∈zA2 l)&&x.hd.lb.leq o.hd.lb
theorem zNI (p:Prop)[Decidable p]:(if p then BL true else .sc (.bool false))=BL (decide p):=by
 by_cases h:p <;> simp [h]
theorem zNP (hH:IsHist M B id m ops l)(hR:Sl 1 zA3 ra o.rs)(wf:Wf M)(hw:M.wm≤M.size)(k:∀ N,Kept M N→Q (BL (zBF l o x)) N) :
  W3 (zCN fuel (d+2) 152 [.ptr id 0,.agg (opR o ra),idA x] M) Q:=by
 have hg:=hH.hg
 obtain⟨obj,mg,hset⟩:=hH.mg
 have li:=Mem.get_lt hg
 have lm:=Mem.get_lt mg
 have mg2:((M.add (.row false (opR o ra))).add (.row false (idR x))).get m=some obj:=by
  rw[get_add (wf.add _) _ _ (by rw[add_size];omega),get_add wf _ _ lm];exact mg
 have hlk:=lk_set zFG (z:=.bool false) mg2 hset x
 rw[zNI] at hlk
 have hle:=fun M=>@zCK fuel d x.hd.lb o.hd.lb M
 have one_mp:oneA (.mp m)=true:=rfl
 have kk:=(((Kept.refl wf).add (.row false (opR o ra))).add (.row false (idR x)))
 unfold zBF at k
 refine call_0 tf152 rfl (by simp [a152]) fun b' ht hx=>?_
 obtain⟨h0,h1,h2⟩:=hx3 hx
 clear hx
 simp only[a152,c152] at ht ⊢
 cases q:decide (x∈zA2 l) with
 | false =>
  rw[q] at hlk
  simp only[q,Bool.false_and] at k
  simp (disch:=try exact SX) only[RV,seval,h0,h1,h2,hg,x_lk,hlk]
  exact k _ kk
 | true =>
  rw[q] at hlk
  simp only[q,Bool.true_and] at k
  simp (disch:=try exact SX) only[RV,seval,h0,h1,h2,hg,x_lk,hlk,hle]
  exact k _ kk
theorem zOM {bh bo:Nat}(hH:IsHist M B id m ops l)(hR:Sl 1 zA3 ra o.rs)(wf:Wf M)(hw:M.wm≤M.size)(hb:M.get bh=some (.row false [.ptr id 0]))(hbo:M.get bo=some (.row false (opR o ra)))(k:∀ N,Kept M N→Q (BL (!zBF l o x)) N) :
  W3 (zCN fuel (d+3) 168 [idA x,.ptr bh 0,.ptr bo 0] M) Q:=by
 have lb:=Mem.get_lt hb
 have lbo:=Mem.get_lt hbo
 refine call_0 tf168 rfl (by simp [a168]) fun b' ht hx=>?_
 obtain⟨h0,h1,h2⟩:=hx3 hx
 clear hx
 simp only[a168,c168] at ht ⊢
 simp (disch:=try exact SX) only[RV,seval,h0,h1,h2,hb,hbo]
 refine zNP (d:=d) (B:=B) (m:=m) (ops:=ops) (hH.keep fun j hj=>get_add wf _ _ hj) hR (wf.add _) (by rw[add_size];show M.wm≤_;omega) fun N hN=>?_
 simp (disch:=try exact SX) only[RV,seval]
 exact k _ (((Kept.refl wf).add _).trans hN)
def allB (l:List Op)(o:Op):Bool:=o.sp.ids.all fun x=>zBF l o x
theorem zHU {α:Type}(p:α→Bool)(l:List α):(l.any fun x => !p x) = !l.all p:=by
 exact zB0Z
theorem zON (hH:IsHist M B id m ops l)(hR:Sl 1 zA3 ra o.rs)(ho:o.ok)(hm:o.may=true)(hf:300<fuel)(wf:Wf M)(hw:M.wm≤M.size)(k:∀ N,Kept M N→Q (BL (allB l o)) N) :
  W3 (zCN fuel (d+7) 155 [.ptr id 0,.agg (opR o ra)] M) Q:=by
 have hb:=Spn.may_le (may_sp hm)
 obtain⟨r,hr,hn⟩:=zEC (fuel:=fuel) (d:=d) ho.2.2.2.1 (may_sp hm) (by omega)
 have il:=zFI o.sp
 have ea:(o.sp.ids.any fun x => !zBF l o x) = !allB l o:=zHU _ _
 refine call_0 tf155 rfl (by simp [a155]) fun b' ht hx=>?_
 obtain⟨h0,h1⟩:=hx2 hx
 clear hx
 simp only[a155,c155] at ht ⊢
 simp (disch:=try exact SX) only[RV,seval,h0,h1,hn]
 have kA:=((Kept.refl wf).add (.row false [.ptr id 0])).add (.row false (opR o ra))
 have wA:=kA.wf
 have gA:((M.add (.row false [.ptr id 0])).add (.row false (opR o ra))).get M.size=some (.row false [.ptr id 0]):=by simp (disch:=try exact SX) only[RV]
 have gB:((M.add (.row false [.ptr id 0])).add (.row false (opR o ra))).get (M.size+1)=some (.row false (opR o ra)):=by simp (disch:=try exact SX) only[RV]
 have sA:((M.add (.row false [.ptr id 0])).add (.row false (opR o ra))).size=M.size+2:=rfl
 generalize (M.add (.row false [.ptr id 0])).add (.row false (opR o ra))=X at *
 refine has_0 (st:=4) (ag:=true) (n:=d+4) (first:=[]) (cap:=[.ptr M.size 0,.ptr (M.size+1) 0]) tf153 tf167 (by simp) zCW hr (by omega) (by omega) (p:=fun x => !zBF l o x) wA (fun n hn=>by rw[sA] at hn;simp (disch:=try exact SX) only[RV]) (fun r x hr _ N Q' hk hQ=>?_) fun N hk=>?_
 ·obtain⟨rfl,_⟩:=hr
  refine zOM (d:=d+1) (B:=B) (m:=m) (ops:=ops) (hH.keep fun j hj=>(hk.get j (by omega)).trans (kA.get j hj)) hR hk.wf (by rw[hk.wm,kA.wm];have:=hk.le;omega) ((hk.get _ (by omega)).trans gA) ((hk.get _ (by omega)).trans gB) fun N' hk'=>hQ N' (hk.trans hk')
 ·rw[ea]
  simp (disch:=try exact SX) only[RV,seval]
  rw[Bool.not_not]
  exact k _ (kA.trans hk)
def remE (l:List Op)(o:Op):Int:=if allB l o then (if o.sp.f.hd.lb=o.hd.lb then 0 else 2) else 6
def raiE (l:List Op)(o:Op):Int:=if allB l o then (if chfE l o=0∧chfB l o=true then 0 else 2) else 6
theorem zMZ (hH:IsHist M B id m ops l)(hR:Sl 1 zA3 ra o.rs)(ho:o.ok)(hm:o.may=true)(hf:300<fuel)(wf:Wf M)(hw:M.wm≤M.size)(k:∀ N,Kept M N→Q (I64 (remE l o)) N) :
  W3 (zCN fuel (d+8) 126 [.ptr id 0,.agg (opR o ra)] M) Q:=by
 unfold remE at k
 refine call_0 tf126 rfl (by simp [a126]) fun b' ht hx=>?_
 obtain⟨h0,h1⟩:=hx2 hx
 clear hx
 simp only[a126,c126] at ht ⊢
 simp (disch:=try exact SX) only[RV,seval,h0,h1]
 refine zON (d:=d) (B:=B) (m:=m) (ops:=ops) (hH.keep fun j hj=>get_add wf _ _ hj) hR ho hm hf (wf.add _) (by rw[add_size];show M.wm≤_;omega) fun N hN=>?_
 have hg:=hN.get M.size (by rw[add_size];omega)
 rw[get_add_new wf _ _ (Nat.le_refl _) (Nat.lt_succ_self _)] at hg
 have lg:=Mem.get_lt hg
 have kN:=((Kept.refl wf).add _).trans hN
 cases q1:allB l o <;> simp only[q1,if_true,Bool.false_eq_true,if_false] at k
 ·exact zB0S
 ·cases q2:decide (o.sp.f.hd.lb=o.hd.lb)
  ·rw[if_neg (of_decide_eq_false q2)] at k
   simp (disch:=try exact SX) only[RV,seval,hg,↓pLbN,zAO,ETA,q2]
   exact k _ kN
  ·rw[if_pos (of_decide_eq_true q2)] at k
   simp (disch:=try exact SX) only[RV,seval,hg,↓pLbN,zAO,ETA,q2]
   exact k _ kN
theorem zOD (hH:IsHist M B id m ops l)(hl:l.length≤40000)(hR:Sl 1 zA3 ra o.rs)(ho:o.ok)(hm:o.may=true)(hf:l.length+300<fuel)(wf:Wf M)(hw:M.wm≤M.size)(k:∀ N,Kept M N→Q (I64 (raiE l o)) N) :
  W3 (zCN fuel (d+11) 127 [.ptr id 0,.agg (opR o ra)] M) Q:=by
 unfold raiE at k
 refine call_0 tf127 rfl (by simp [a127]) fun b' ht hx=>?_
 obtain⟨h0,h1⟩:=hx2 hx
 clear hx
 simp only[a127,c127] at ht ⊢
 simp (disch:=try exact SX) only[RV,seval,h0,h1]
 refine zON (d:=d+3) (B:=B) (m:=m) (ops:=ops) (hH.keep fun j hj=>get_add wf _ _ hj) hR ho hm (by omega) (wf.add _) (by rw[add_size];show M.wm≤_;omega) fun N hN=>?_
 have hg:=hN.get M.size (by rw[add_size];omega)
 rw[get_add_new wf _ _ (Nat.le_refl _) (Nat.lt_succ_self _)] at hg
 have lg:=Mem.get_lt hg
 have kN:=((Kept.refl wf).add _).trans hN
 have hH':IsHist N B id m ops l:=hH.keep fun j hj=>kN.get j hj
 have hg2:=hH'.hg
 have li':=Mem.get_lt hg2
 cases q1:allB l o <;> simp only[q1,if_true,Bool.false_eq_true,if_false] at k
 ·exact zB0S
 ·simp (disch:=try exact SX) only[RV,seval,h0,hg,hg2]
  refine zHX (d:=d) (l:=l) (.inr (hH'.sm.keep fun j hj=>rfl)) hl (by omega) hR ho (by rw[lo_wf];exact hN.wf) fun N2 hN2=>?_
  have k2:=kN.trans hN2.bk
  have hd:N2.dirty=false:=hN2.di
  by_cases q2:chfE l o=0
  ·cases q3:chfB l o
   ·rw[if_neg (by simp [q2,q3])] at k
    simp (disch:=try exact SX) only[RV,seval,hd,q2]
    exact k _ k2
   ·rw[if_pos ⟨q2,q3⟩] at k
    simp (disch:=try exact SX) only[RV,seval,hd,q2]
    exact k _ k2
  ·rw[if_neg (by simp [q2])] at k
   have q2':decide (chfE l o=0)=false:=decide_eq_false q2
   simp (disch:=try exact SX) only[RV,seval,hd,q2']
   exact k _ k2
theorem zNB {bh:Nat}(hH:IsHist M B id m ops l)(wf:Wf M)(hb:M.get bh=some (.row false [.ptr id 0]))(k:∀ N,Kept M N→Q (BL (decide (x∈zA2 l))) N) :
  W3 (zCN fuel (d+1) 154 [idA x,.ptr bh 0] M) Q:=by
 have lb:=Mem.get_lt hb
 have hg:=hH.hg
 have li:=Mem.get_lt hg
 obtain⟨obj,mg,hset⟩:=hH.mg
 have lm:=Mem.get_lt mg
 have mg2:(M.add (.row false (idR x))).get m=some obj:=by
  rw[get_add wf _ _ lm];exact mg
 have hlk:=lk_set zFG (z:=.bool false) mg2 hset x
 rw[zNI] at hlk
 refine call_0 tf154 rfl (by simp [a154]) fun b' ht hx=>?_
 obtain⟨h0,h1⟩:=hx2 hx
 clear hx
 simp only[a154,c154] at ht ⊢
 simp (disch:=try exact SX) only[RV,seval,h0,h1,hb,hg,x_lk,hlk]
 exact zB0s
def insE (l:List Op)(o:Op):Int :=
 if o.af≠Eid.z∧zBF l o o.af=false then 6
 else if rofE o≠0∨(o.sp.ids.any fun x=>decide (x∈zA2 l))=true then 2
 else if 8192<((zA2 l).length:Int)+o.sp.n then 4 else 0
theorem zL9 {o:Op}{r:AV}(h:rofK o r):∃ rn ra,r = .tup [.agg (rnR rn ra),I64 (rofE o)]∧oneA ra=true∧cellsA ra=[ra]:=by
 unfold rofK at h
 split at h
 ·rename_i h0
  obtain⟨ra,rfl,hr⟩:=h
  exact⟨_,ra,by rw[h0],hr.one,hr.cells⟩
 ·exact⟨⟨⟨Eid.z,0⟩,Eid.z,[]⟩,NIL,h,rfl,rfl⟩
theorem zME (hH:IsHist M B id m ops l)(htl:(zA2 l).length≤1000000)(hR:Sl 1 zA3 ra o.rs)(ho:o.ok)(hm:o.may=true)(hf:300<fuel)(wf:Wf M)(hw:M.wm≤M.size)(k:∀ N,Kept M N→Q (I64 (insE l o)) N) :
  W3 (zCN fuel (d+9) 125 [.ptr id 0,.agg (opR o ra)] M) Q:=by
 have ora:=hR.one
 have li:=Mem.get_lt hH.hg
 have hb:=Spn.may_le (may_sp hm)
 obtain⟨r,hr,hn⟩:=zEC (fuel:=fuel) (d:=d+2) ho.2.2.2.1 (may_sp hm) (by omega)
 obtain⟨rr,hk,hof⟩:=zGS (fuel:=fuel) (d:=d) hR ho (by omega)
 obtain⟨rn,r2,rfl,o2,c2⟩:=zL9 hk
 have il:=zFI o.sp
 have kA:=((Kept.refl wf).add (.row false [.ptr id 0])).add (.row false (opR o ra))
 have wA:=kA.wf
 have gA:((M.add (.row false [.ptr id 0])).add (.row false (opR o ra))).get M.size=some (.row false [.ptr id 0]):=by simp (disch:=try exact SX) only[RV]
 have gB:((M.add (.row false [.ptr id 0])).add (.row false (opR o ra))).get (M.size+1)=some (.row false (opR o ra)):=by simp (disch:=try exact SX) only[RV]
 have sA:((M.add (.row false [.ptr id 0])).add (.row false (opR o ra))).size=M.size+2:=rfl
 unfold insE at k
 refine call_0 tf125 rfl (by simp [a125]) fun b' ht hx=>?_
 obtain⟨h0,h1⟩:=hx2 hx
 clear hx
 simp only[a125,c125] at ht ⊢
 cases qz:decide (o.af=Eid.z) with
 | false =>
  simp (disch:=try exact SX) only[RV,seval,fillA,h0,h1,↓pIdN,zA5,ETA,qz]
  generalize (M.add (.row false [.ptr id 0])).add (.row false (opR o ra))=X at *
  refine zNP (d:=d+6) (B:=B) (m:=m) (ops:=ops) (hH.keep fun j hj=>kA.get j hj) hR wA (by rw[kA.wm];omega) fun N hN=>?_
  cases qs:zBF l o o.af with
  | false =>
   rw[if_pos ⟨of_decide_eq_false qz,qs⟩] at k
   simp (disch:=try exact SX) only[RV,seval]
   exact k _ (kA.trans hN)
  | true =>
   rw[if_neg (by simp [qs])] at k
   have wN:=hN.wf
   have g0:=(hN.get M.size (by omega)).trans gA
   have g1:=(hN.get (M.size+1) (by omega)).trans gB
   have kN:=kA.trans hN
   have l0:=Mem.get_lt g0
   have l1:=Mem.get_lt g1
   simp (disch:=try exact SX) only[RV,seval,g1,hof]
   exact zB03
 | true =>
  rw[if_neg (fun h=>h.1 (of_decide_eq_true qz))] at k
  simp (disch:=try exact SX) only[RV,seval,fillA,h0,h1,↓pIdN,zA5,ETA,qz]
  generalize (M.add (.row false [.ptr id 0])).add (.row false (opR o ra))=N at *
  have wN:=wA
  have g0:=gA
  have g1:=gB
  have kN:=kA
  have qs:=qz
  have l0:=Mem.get_lt g0
  have l1:=Mem.get_lt g1
  simp (disch:=try exact SX) only[RV,seval,hof]
  exact zB03
def zBM (l:List Op)(o:Op):Int:=if o.kd=1 then insE l o else if o.kd=2 then remE l o else raiE l o
def fitE (l:List Op)(o:Op):Int:=if zBM l o=0 then (if 2048≤l.length then 4 else 0) else zBM l o
theorem zNJ {o:Op}(h:o.may=true)(ho:o.ok):o.kd=1∨o.kd=2∨o.kd=3:=by
 unfold Op.may at h
 simp only[Bool.and_eq_true,Bool.not_eq_true',decide_eq_false_iff_not] at h
 have:=ho.1
 omega
theorem zOW (hH:IsHist M B id m ops l)(htl:(zA2 l).length≤1000000)(hl:l.length≤40000)(hR:Sl 1 zA3 ra o.rs)(ho:o.ok)(hm:o.may=true)(hf:l.length+300<fuel)(wf:Wf M)(hw:M.wm≤M.size)(k:∀ N,Kept M N→Q (I64 (fitE l o)) N) :
  W3 (zCN fuel (d+12) 79 [.ptr id 0,.agg (opR o ra)] M) Q:=by
 have ora:=hR.one
 have li:=Mem.get_lt hH.hg
 have wA:=wf.add (.row false (opR o ra))
 have gA:(M.add (.row false (opR o ra))).get M.size=some (.row false (opR o ra)):=get_add_new wf _ _ (Nat.le_refl _) (Nat.lt_succ_self _)
 have hHA:IsHist (M.add (.row false (opR o ra))).lo B id m ops l:=hH.keep fun j hj=>get_add wf _ _ hj
 have onf:oneA (.sc .nilFunc)=true:=rfl
 have tail:∀ N2,Kept (M.add (.row false (opR o ra))).lo N2→True:=fun _ _=>trivial
 clear tail
 have done:∀ N2,Kept (M.add (.row false (opR o ra))).lo N2→Kept M ((M.add (.row false (opR o ra))).bk N2):=fun N2 h=>((Kept.refl wf).add _).trans h.bk
 have kq:∀ N2,Kept (M.add (.row false (opR o ra))).lo N2→IsHist ((M.add (.row false (opR o ra))).bk N2) B id m ops l:=fun N2 h=>hH.keep fun j hj=>(done N2 h).get j hj
 unfold fitE at k
 refine call_0 tf79 rfl (by simp [a79]) fun b' ht hx=>?_
 obtain⟨h0,h1⟩:=hx2 hx
 clear hx
 simp only[a79,c79] at ht ⊢
 have hw':(M.add (.row false (opR o ra))).lo.wm≤(M.add (.row false (opR o ra))).lo.size:=Nat.le_refl _
 rcases zNJ hm ho with hk | hk | hk
 ·have n1:natOf (U8 o.kd)=some 1:=by rw[hk];rfl
  have ep:zBM l o=insE l o:=by unfold zBM;rw[if_pos hk]
  rw[ep] at k
  simp (disch:=try exact SX) only[RV,seval,fillA,h0,h1,n1,x_idx,idx_agg]
  refine zME (d:=d+2) hHA htl hR ho hm (by omega) wA hw' fun N2 hN2=>?_
  have hd:N2.dirty=false:=hN2.di
  have hq:=kq N2 hN2
  have kN:=done N2 hN2
  have hg:N2.get id=some (.row false [ops,.mp m]):=hq.hg
  have lg:id<N2.size:=Mem.get_lt hg
  have ll:=hq.sm.len
  by_cases q1:insE l o=0
  ·rw[if_pos q1] at k
   have q1':decide (insE l o=0)=true:=decide_eq_true q1
   exact zB06
  ·rw[if_neg q1] at k
   have q1':decide (insE l o=0)=false:=decide_eq_false q1
   exact zB0I
 ·have n1:natOf (U8 o.kd)=some 2:=by rw[hk];rfl
  have ep:zBM l o=remE l o:=by unfold zBM;rw[if_neg (by omega),if_pos hk]
  rw[ep] at k
  simp (disch:=try exact SX) only[RV,seval,fillA,h0,h1,n1,x_idx,idx_agg]
  refine zMZ (d:=d+3) hHA hR ho hm (by omega) wA hw' fun N2 hN2=>?_
  have hd:N2.dirty=false:=hN2.di
  have hq:=kq N2 hN2
  have kN:=done N2 hN2
  have hg:N2.get id=some (.row false [ops,.mp m]):=hq.hg
  have lg:id<N2.size:=Mem.get_lt hg
  have ll:=hq.sm.len
  by_cases q1:remE l o=0
  ·rw[if_pos q1] at k
   have q1':decide (remE l o=0)=true:=decide_eq_true q1
   exact zB06
  ·rw[if_neg q1] at k
   have q1':decide (remE l o=0)=false:=decide_eq_false q1
   exact zB0I
 ·have n1:natOf (U8 o.kd)=some 3:=by rw[hk];rfl
  have ep:zBM l o=raiE l o:=by unfold zBM;rw[if_neg (by omega),if_neg (by omega)]
  rw[ep] at k
  simp (disch:=try exact SX) only[RV,seval,fillA,h0,h1,n1,x_idx,idx_agg]
  refine zOD (d:=d) hHA hl hR ho hm (by omega) wA hw' fun N2 hN2=>?_
  have hd:N2.dirty=false:=hN2.di
  have hq:=kq N2 hN2
  have kN:=done N2 hN2
  have hg:N2.get id=some (.row false [ops,.mp m]):=hq.hg
  have lg:id<N2.size:=Mem.get_lt hg
  have ll:=hq.sm.len
  by_cases q1:raiE l o=0
  ·rw[if_pos q1] at k
   have q1':decide (raiE l o=0)=true:=decide_eq_true q1
   exact zB06
  ·rw[if_neg q1] at k
   have q1':decide (raiE l o=0)=false:=decide_eq_false q1
   exact zB0I
end Go.Proofs.YtginjhihkleaoaaGreat
