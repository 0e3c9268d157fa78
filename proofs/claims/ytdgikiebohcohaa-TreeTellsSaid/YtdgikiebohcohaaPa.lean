/-
  Texts joined: Tc In SaA SaB SbD SaD SaC RfA RnMay RfB TpZ RgC SbG TrA TrB SbI TrC TrE TrF TpA TpB TpC TrD.
-/
import Derived.Test.YtdgikiebohcohaaTb
import Derived.Test.YtdgikiebohcohaaRows
import Derived.Test.YtdgikiebohcohaaEg
import Derived.KernelRfl
set_option linter.unusedSimpArgs false
set_option linter.unusedVariables false
set_option maxHeartbeats 64000000
set_option maxRecDepth 100000
namespace Go.Proofs.Ytdgikiebohcohaa
open Go Go.Ax
theorem zeG:(tbl.map noX).map clr=msk (tbl.map noX) (zFU Try.prog 100 0):=by kernel_rfl
theorem tabOK:zQ5 Glob.any Try.prog (fsT tbl):=zY4 zeG (by kernel_rfl)
theorem ovlOK:zQ4 Try.prog :=
 zXB (g:=64) (tS:=22) (tR:=4) (by kernel_rfl) Try.func64 (by kernel_rfl) (by kernel_rfl) (by kernel_rfl) (by kernel_rfl) (by kernel_rfl)
theorem insFn:InsO (zZ3 Try.prog 30) 3 4 :=
 ⟨by kernel_rfl,by kernel_rfl,by kernel_rfl,by kernel_rfl,by kernel_rfl,by kernel_rfl,by kernel_rfl,by kernel_rfl,by kernel_rfl,by kernel_rfl,by kernel_rfl⟩
theorem zaD:zK3 Try.prog :=
 zQR (g:=30) (t0:=22) (e0:=34) (ti0:=(Try.prog.info? 34).getD default) (O:=zZ3 Try.prog 30) (g':=65)
  (z:=(zeroOf Try.prog 34).getD default) (tint:=3) (tb:=4) (by kernel_rfl) Try.func30 (by kernel_rfl) (by kernel_rfl) (by kernel_rfl) (by kernel_rfl) (by kernel_rfl) insFn (by kernel_rfl) (by kernel_rfl) (by kernel_rfl)
theorem insOK:zN2 Glob.any Try.prog:=zWL ovlOK zaD
abbrev U32 (n:Int):AV:=.sc (.int .u32 n)
structure Lb where
 lv:Int
 cats:Int
 deriving DecidableEq
structure Hd where
 lb:Lb
 num:Int
 deriving DecidableEq
structure Eid where
 hd:Hd
 c:Int
 deriving DecidableEq
structure Spn where
 f:Eid
 n:Int
 deriving DecidableEq
structure Op where
 kd:Int
 hd:Hd
 sr:Int
 sp:Spn
 af:Eid
 to:Lb
 rs:List Int
 deriving DecidableEq
structure Rn where
 sp:Spn
 af:Eid
 rs:List Int
 deriving DecidableEq
abbrev Lb.z:Lb:=⟨0,0⟩
abbrev Hd.z:Hd:=⟨⟨0,0⟩,0⟩
abbrev Eid.z:Eid:=⟨⟨⟨0,0⟩,0⟩,0⟩
def i64R (x:Int):Prop:=-9223372036854775808≤x∧x≤9223372036854775807
def Lb.ok (x:Lb):Prop:=0≤x.lv∧x.lv≤255∧0≤x.cats∧x.cats<4294967296
def Hd.ok (x:Hd):Prop:=x.lb.ok∧0≤x.num∧x.num≤255
def Eid.ok (x:Eid):Prop:=x.hd.ok∧i64R x.c
def Spn.ok (x:Spn):Prop:=x.f.ok∧i64R x.n
def i32s (l:List Int):Prop:=∀ x∈l, -2147483648≤x∧x≤2147483647
def Op.ok (o:Op):Prop:=(0≤o.kd∧o.kd≤255)∧o.hd.ok∧i64R o.sr∧o.sp.ok∧o.af.ok∧o.to.ok∧i32s o.rs
def Rn.ok (o:Rn):Prop:=o.sp.ok∧o.af.ok∧i32s o.rs
theorem Lb.z_ok:Lb.z.ok:=by unfold Lb.ok;decide
theorem Hd.z_ok:Hd.z.ok:=⟨Lb.z_ok,by decide,by decide⟩
theorem Eid.z_ok:Eid.z.ok:=⟨Hd.z_ok,by decide,by decide⟩
abbrev lbR (x:Lb):List AV:=[U8 x.lv,U32 x.cats]
abbrev hdR (x:Hd):List AV:=[U8 x.lb.lv,U32 x.lb.cats,U8 x.num]
abbrev idR (x:Eid):List AV:=[U8 x.hd.lb.lv,U32 x.hd.lb.cats,U8 x.hd.num,I64 x.c]
abbrev spR (x:Spn):List AV:=[U8 x.f.hd.lb.lv,U32 x.f.hd.lb.cats,U8 x.f.hd.num,I64 x.f.c,I64 x.n]
abbrev rnR (o:Rn)(ra:AV):List AV:=[U8 o.sp.f.hd.lb.lv,U32 o.sp.f.hd.lb.cats,U8 o.sp.f.hd.num,I64 o.sp.f.c,I64 o.sp.n,U8 o.af.hd.lb.lv,U32 o.af.hd.lb.cats,U8 o.af.hd.num,I64 o.af.c,ra]
abbrev lbA (x:Lb):AV:=.agg (lbR x)
abbrev hdA (x:Hd):AV:=.agg (hdR x)
abbrev idA (x:Eid):AV:=.agg (idR x)
abbrev spA (x:Spn):AV:=.agg (spR x)
def zAY (r:List AV)(x:Int):Prop:=r=[I32 x]
def isLb (r:List AV)(x:Lb):Prop:=r=lbR x∧x.ok
def zDJ (r:List AV)(x:Eid):Prop:=r=idR x∧x.ok
def isRn (r:List AV)(x:Rn):Prop:=∃ ra,r=rnR x ra∧Sl 1 zAY ra x.rs∧x.ok
theorem zD4:FzT zAY:=fun r x h y hy=>by
 rw[h,List.mem_singleton] at hy;subst hy;exact zE9 _ _
theorem zJJ (x:Lb):∀ y∈lbR x,Fz y:=fun y hy=>by
 simp only[lbR,List.mem_cons,List.not_mem_nil,or_false] at hy
 rcases hy with rfl | rfl <;> exact zE9 _ _
theorem zEN (x:Eid):∀ y∈idR x,Fz y:=fun y hy=>by
 simp only[idR,List.mem_cons,List.not_mem_nil,or_false] at hy
 rcases hy with rfl | rfl | rfl | rfl <;> exact zE9 _ _
theorem zcJ (x:Spn):∀ y∈spR x,Fz y:=fun y hy=>by
 simp only[spR,List.mem_cons,List.not_mem_nil,or_false] at hy
 rcases hy with rfl | rfl | rfl | rfl | rfl <;> exact zE9 _ _
theorem zSX {o:Rn}{ra:AV}(h:Fz ra):∀ y∈rnR o ra,Fz y:=fun y hy=>by
 simp only[rnR,List.mem_cons,List.not_mem_nil,or_false] at hy
 rcases hy with rfl | rfl | rfl | rfl | rfl | rfl | rfl | rfl | rfl | rfl
 all_goals first | exact zE9 _ _ | exact h
theorem zP5:FzT zDJ:=fun r x h=>by rw[h.1];exact zEN x
theorem zDI:FzT isRn:=fun r x h=>by
 obtain⟨ra,rfl,hr,_⟩:=h
 exact zSX hr.fz
theorem Lb.eta (x:Lb):Lb.mk x.lv x.cats=x:=rfl
theorem Hd.eta (x:Hd):Hd.mk x.lb x.num=x:=rfl
theorem Eid.eta (x:Eid):Eid.mk x.hd x.c=x:=rfl
theorem Spn.eta (x:Spn):Spn.mk x.f x.n=x:=rfl
theorem ETA:type_of% (And.intro @Lb.eta (And.intro @Hd.eta (And.intro @Eid.eta @Spn.eta))):=And.intro @Lb.eta (And.intro @Hd.eta (And.intro @Eid.eta @Spn.eta))
theorem zYR (a0:Int)(a1:Int):PT.iss [.int .u8,.int .u32] [.int .u8 a0,.int .u32 a1]:=by
 exact zB0x
def zXL (d:Option AV)(u v:AV):Option AV:=match u,v with
 | .agg [.sc (.int .u8 a0),.sc (.int .u32 a1)],.agg [.sc (.int .u8 b0),.sc (.int .u32 b1)]=>some (BL (decide (a0=b0)&&decide (a1=b1)))
 | _,_=>d
theorem pLbE {t:List AV}(i j:Nat):zB9 Try.prog t (mkO (.binOp .eql 25 (.tmp i) (.tmp j) 25) 4)=zXL (zDK Try.prog t (mkO (.binOp .eql 25 (.tmp i) (.tmp j) 25) 4)) (zA4 t (.tmp i)) (zA4 t (.tmp j)):=by
 unfold zXL
 split
 ·rename_i a0 a1 b0 b1 h1 h2
  obtain⟨r,hr,he⟩:=pEqS (P:=Try.prog) [.int .u8,.int .u32] false 25 25 4 i j (by kernel_rfl) (by decide) (by kernel_rfl) h1 h2 rfl rfl (zYR _ _) (zYR _ _)
  exact zB0C
 ·rfl
theorem zAF (d:Option AV)(a0 a1:Int)(b0 b1:Int):zXL d (.agg [.sc (.int .u8 a0),.sc (.int .u32 a1)]) (.agg [.sc (.int .u8 b0),.sc (.int .u32 b1)])=some (BL (decide ((⟨a0,a1⟩:Lb)=⟨b0,b1⟩))):=by
 simp only[zXL]
 congr 4
 rw[Bool.eq_iff_iff]
 simp []
theorem zYS (a0:Int)(a1:Int):PT.iss [.int .u8,.int .u32] [.int .u8 a0,.int .u32 a1]:=by
 exact zB0x
def zXM (d:Option AV)(u v:AV):Option AV:=match u,v with
 | .agg [.sc (.int .u8 a0),.sc (.int .u32 a1)],.agg [.sc (.int .u8 b0),.sc (.int .u32 b1)]=>some (BL (!(decide (a0=b0)&&decide (a1=b1))))
 | _,_=>d
theorem pLbN {t:List AV}(i j:Nat):zB9 Try.prog t (mkO (.binOp .neq 25 (.tmp i) (.tmp j) 25) 4)=zXM (zDK Try.prog t (mkO (.binOp .neq 25 (.tmp i) (.tmp j) 25) 4)) (zA4 t (.tmp i)) (zA4 t (.tmp j)):=by
 unfold zXM
 split
 ·rename_i a0 a1 b0 b1 h1 h2
  obtain⟨r,hr,he⟩:=pEqS (P:=Try.prog) [.int .u8,.int .u32] true 25 25 4 i j (by kernel_rfl) (by decide) (by kernel_rfl) h1 h2 rfl rfl (zYS _ _) (zYS _ _)
  exact zB0C
 ·rfl
theorem zAG (d:Option AV)(a0 a1:Int)(b0 b1:Int):zXM d (.agg [.sc (.int .u8 a0),.sc (.int .u32 a1)]) (.agg [.sc (.int .u8 b0),.sc (.int .u32 b1)])=some (BL (!decide ((⟨a0,a1⟩:Lb)=⟨b0,b1⟩))):=by
 simp only[zXM]
 congr 4
 rw[Bool.eq_iff_iff]
 simp []
theorem zYN (a0:Int)(a1:Int)(a2:Int):PT.iss [.st [.int .u8,.int .u32],.int .u8] [.int .u8 a0,.int .u32 a1,.int .u8 a2]:=by
 exact zB0d
def zXH (d:Option AV)(u v:AV):Option AV:=match u,v with
 | .agg [.sc (.int .u8 a0),.sc (.int .u32 a1),.sc (.int .u8 a2)],.agg [.sc (.int .u8 b0),.sc (.int .u32 b1),.sc (.int .u8 b2)]=>some (BL (decide (a0=b0)&&decide (a1=b1)&&decide (a2=b2)))
 | _,_=>d
theorem pHdE {t:List AV}(i j:Nat):zB9 Try.prog t (mkO (.binOp .eql 27 (.tmp i) (.tmp j) 27) 4)=zXH (zDK Try.prog t (mkO (.binOp .eql 27 (.tmp i) (.tmp j) 27) 4)) (zA4 t (.tmp i)) (zA4 t (.tmp j)):=by
 unfold zXH
 split
 ·rename_i a0 a1 a2 b0 b1 b2 h1 h2
  obtain⟨r,hr,he⟩:=pEqS (P:=Try.prog) [.st [.int .u8,.int .u32],.int .u8] false 27 27 4 i j (by kernel_rfl) (by decide) (by kernel_rfl) h1 h2 rfl rfl (zYN _ _ _) (zYN _ _ _)
  exact zB0D
 ·rfl
theorem zAC (d:Option AV)(a0 a1 a2:Int)(b0 b1 b2:Int):zXH d (.agg [.sc (.int .u8 a0),.sc (.int .u32 a1),.sc (.int .u8 a2)]) (.agg [.sc (.int .u8 b0),.sc (.int .u32 b1),.sc (.int .u8 b2)])=some (BL (decide ((⟨⟨a0,a1⟩,a2⟩:Hd)=⟨⟨b0,b1⟩,b2⟩))):=by
 simp only[zXH]
 exact zB0g
theorem zYO (a0:Int)(a1:Int)(a2:Int):PT.iss [.st [.int .u8,.int .u32],.int .u8] [.int .u8 a0,.int .u32 a1,.int .u8 a2]:=by
 exact zB0d
def zXI (d:Option AV)(u v:AV):Option AV:=match u,v with
 | .agg [.sc (.int .u8 a0),.sc (.int .u32 a1),.sc (.int .u8 a2)],.agg [.sc (.int .u8 b0),.sc (.int .u32 b1),.sc (.int .u8 b2)]=>some (BL (!(decide (a0=b0)&&decide (a1=b1)&&decide (a2=b2))))
 | _,_=>d
theorem pHdN {t:List AV}(i j:Nat):zB9 Try.prog t (mkO (.binOp .neq 27 (.tmp i) (.tmp j) 27) 4)=zXI (zDK Try.prog t (mkO (.binOp .neq 27 (.tmp i) (.tmp j) 27) 4)) (zA4 t (.tmp i)) (zA4 t (.tmp j)):=by
 unfold zXI
 split
 ·rename_i a0 a1 a2 b0 b1 b2 h1 h2
  obtain⟨r,hr,he⟩:=pEqS (P:=Try.prog) [.st [.int .u8,.int .u32],.int .u8] true 27 27 4 i j (by kernel_rfl) (by decide) (by kernel_rfl) h1 h2 rfl rfl (zYO _ _ _) (zYO _ _ _)
  exact zB0D
 ·rfl
theorem zAD (d:Option AV)(a0 a1 a2:Int)(b0 b1 b2:Int):zXI d (.agg [.sc (.int .u8 a0),.sc (.int .u32 a1),.sc (.int .u8 a2)]) (.agg [.sc (.int .u8 b0),.sc (.int .u32 b1),.sc (.int .u8 b2)])=some (BL (!decide ((⟨⟨a0,a1⟩,a2⟩:Hd)=⟨⟨b0,b1⟩,b2⟩))):=by
 simp only[zXI]
 exact zB0g
theorem zYP (a0:Int)(a1:Int)(a2:Int)(a3:Int):PT.iss [.st [.st [.int .u8,.int .u32],.int .u8],.int .i64] [.int .u8 a0,.int .u32 a1,.int .u8 a2,.int .i64 a3]:=by
 exact zB08
def zXJ (d:Option AV)(u v:AV):Option AV:=match u,v with
 | .agg [.sc (.int .u8 a0),.sc (.int .u32 a1),.sc (.int .u8 a2),.sc (.int .i64 a3)],.agg [.sc (.int .u8 b0),.sc (.int .u32 b1),.sc (.int .u8 b2),.sc (.int .i64 b3)]=>some (BL (decide (a0=b0)&&decide (a1=b1)&&decide (a2=b2)&&decide (a3=b3)))
 | _,_=>d
theorem pIdE {t:List AV}(i j:Nat):zB9 Try.prog t (mkO (.binOp .eql 29 (.tmp i) (.tmp j) 29) 4)=zXJ (zDK Try.prog t (mkO (.binOp .eql 29 (.tmp i) (.tmp j) 29) 4)) (zA4 t (.tmp i)) (zA4 t (.tmp j)):=by
 unfold zXJ
 split
 ·rename_i a0 a1 a2 a3 b0 b1 b2 b3 h1 h2
  obtain⟨r,hr,he⟩:=pEqS (P:=Try.prog) [.st [.st [.int .u8,.int .u32],.int .u8],.int .i64] false 29 29 4 i j (by kernel_rfl) (by decide) (by kernel_rfl) h1 h2 rfl rfl (zYP _ _ _ _) (zYP _ _ _ _)
  exact zB0z
 ·rfl
theorem zAE (d:Option AV)(a0 a1 a2 a3:Int)(b0 b1 b2 b3:Int):zXJ d (.agg [.sc (.int .u8 a0),.sc (.int .u32 a1),.sc (.int .u8 a2),.sc (.int .i64 a3)]) (.agg [.sc (.int .u8 b0),.sc (.int .u32 b1),.sc (.int .u8 b2),.sc (.int .i64 b3)])=some (BL (decide ((⟨⟨⟨a0,a1⟩,a2⟩,a3⟩:Eid)=⟨⟨⟨b0,b1⟩,b2⟩,b3⟩))):=by
 simp only[zXJ]
 exact zB0g
theorem zYQ (a0:Int)(a1:Int)(a2:Int)(a3:Int):PT.iss [.st [.st [.int .u8,.int .u32],.int .u8],.int .i64] [.int .u8 a0,.int .u32 a1,.int .u8 a2,.int .i64 a3]:=by
 exact zB08
def zXK (d:Option AV)(u v:AV):Option AV:=match u,v with
 | .agg [.sc (.int .u8 a0),.sc (.int .u32 a1),.sc (.int .u8 a2),.sc (.int .i64 a3)],.agg [.sc (.int .u8 b0),.sc (.int .u32 b1),.sc (.int .u8 b2),.sc (.int .i64 b3)]=>some (BL (!(decide (a0=b0)&&decide (a1=b1)&&decide (a2=b2)&&decide (a3=b3))))
 | _,_=>d
theorem pIdN {t:List AV}(i j:Nat):zB9 Try.prog t (mkO (.binOp .neq 29 (.tmp i) (.tmp j) 29) 4)=zXK (zDK Try.prog t (mkO (.binOp .neq 29 (.tmp i) (.tmp j) 29) 4)) (zA4 t (.tmp i)) (zA4 t (.tmp j)):=by
 unfold zXK
 split
 ·rename_i a0 a1 a2 a3 b0 b1 b2 b3 h1 h2
  obtain⟨r,hr,he⟩:=pEqS (P:=Try.prog) [.st [.st [.int .u8,.int .u32],.int .u8],.int .i64] true 29 29 4 i j (by kernel_rfl) (by decide) (by kernel_rfl) h1 h2 rfl rfl (zYQ _ _ _ _) (zYQ _ _ _ _)
  exact zB0z
 ·rfl
theorem zAB (d:Option AV)(a0 a1 a2 a3:Int)(b0 b1 b2 b3:Int):zXK d (.agg [.sc (.int .u8 a0),.sc (.int .u32 a1),.sc (.int .u8 a2),.sc (.int .i64 a3)]) (.agg [.sc (.int .u8 b0),.sc (.int .u32 b1),.sc (.int .u8 b2),.sc (.int .i64 b3)])=some (BL (!decide ((⟨⟨⟨a0,a1⟩,a2⟩,a3⟩:Eid)=⟨⟨⟨b0,b1⟩,b2⟩,b3⟩))):=by
 simp only[zXK]
 exact zB0g
theorem zYT (a0:Int)(a1:Int)(a2:Int)(a3:Int)(a4:Int):PT.iss [.st [.st [.st [.int .u8,.int .u32],.int .u8],.int .i64],.int .i64] [.int .u8 a0,.int .u32 a1,.int .u8 a2,.int .i64 a3,.int .i64 a4]:=by
 exact zB06
def zXN (d:Option AV)(u v:AV):Option AV:=match u,v with
 | .agg [.sc (.int .u8 a0),.sc (.int .u32 a1),.sc (.int .u8 a2),.sc (.int .i64 a3),.sc (.int .i64 a4)],.agg [.sc (.int .u8 b0),.sc (.int .u32 b1),.sc (.int .u8 b2),.sc (.int .i64 b3),.sc (.int .i64 b4)]=>some (BL (decide (a0=b0)&&decide (a1=b1)&&decide (a2=b2)&&decide (a3=b3)&&decide (a4=b4)))
 | _,_=>d
theorem pSpE {t:List AV}(i j:Nat):zB9 Try.prog t (mkO (.binOp .eql 31 (.tmp i) (.tmp j) 31) 4)=zXN (zDK Try.prog t (mkO (.binOp .eql 31 (.tmp i) (.tmp j) 31) 4)) (zA4 t (.tmp i)) (zA4 t (.tmp j)):=by
 unfold zXN
 split
 ·rename_i a0 a1 a2 a3 a4 b0 b1 b2 b3 b4 h1 h2
  obtain⟨r,hr,he⟩:=pEqS (P:=Try.prog) [.st [.st [.st [.int .u8,.int .u32],.int .u8],.int .i64],.int .i64] false 31 31 4 i j (by kernel_rfl) (by decide) (by kernel_rfl) h1 h2 rfl rfl (zYT _ _ _ _ _) (zYT _ _ _ _ _)
  exact zB0r
 ·rfl
theorem zAH (d:Option AV)(a0 a1 a2 a3 a4:Int)(b0 b1 b2 b3 b4:Int):zXN d (.agg [.sc (.int .u8 a0),.sc (.int .u32 a1),.sc (.int .u8 a2),.sc (.int .i64 a3),.sc (.int .i64 a4)]) (.agg [.sc (.int .u8 b0),.sc (.int .u32 b1),.sc (.int .u8 b2),.sc (.int .i64 b3),.sc (.int .i64 b4)])=some (BL (decide ((⟨⟨⟨⟨a0,a1⟩,a2⟩,a3⟩,a4⟩:Spn)=⟨⟨⟨⟨b0,b1⟩,b2⟩,b3⟩,b4⟩))):=by
 simp only[zXN]
 exact zB0g
theorem zYU (a0:Int)(a1:Int)(a2:Int)(a3:Int)(a4:Int):PT.iss [.st [.st [.st [.int .u8,.int .u32],.int .u8],.int .i64],.int .i64] [.int .u8 a0,.int .u32 a1,.int .u8 a2,.int .i64 a3,.int .i64 a4]:=by
 exact zB06
def zXO (d:Option AV)(u v:AV):Option AV:=match u,v with
 | .agg [.sc (.int .u8 a0),.sc (.int .u32 a1),.sc (.int .u8 a2),.sc (.int .i64 a3),.sc (.int .i64 a4)],.agg [.sc (.int .u8 b0),.sc (.int .u32 b1),.sc (.int .u8 b2),.sc (.int .i64 b3),.sc (.int .i64 b4)]=>some (BL (!(decide (a0=b0)&&decide (a1=b1)&&decide (a2=b2)&&decide (a3=b3)&&decide (a4=b4))))
 | _,_=>d
theorem pSpN {t:List AV}(i j:Nat):zB9 Try.prog t (mkO (.binOp .neq 31 (.tmp i) (.tmp j) 31) 4)=zXO (zDK Try.prog t (mkO (.binOp .neq 31 (.tmp i) (.tmp j) 31) 4)) (zA4 t (.tmp i)) (zA4 t (.tmp j)):=by
 unfold zXO
 split
 ·rename_i a0 a1 a2 a3 a4 b0 b1 b2 b3 b4 h1 h2
  obtain⟨r,hr,he⟩:=pEqS (P:=Try.prog) [.st [.st [.st [.int .u8,.int .u32],.int .u8],.int .i64],.int .i64] true 31 31 4 i j (by kernel_rfl) (by decide) (by kernel_rfl) h1 h2 rfl rfl (zYU _ _ _ _ _) (zYU _ _ _ _ _)
  exact zB0r
 ·rfl
theorem zAI (d:Option AV)(a0 a1 a2 a3 a4:Int)(b0 b1 b2 b3 b4:Int):zXO d (.agg [.sc (.int .u8 a0),.sc (.int .u32 a1),.sc (.int .u8 a2),.sc (.int .i64 a3),.sc (.int .i64 a4)]) (.agg [.sc (.int .u8 b0),.sc (.int .u32 b1),.sc (.int .u8 b2),.sc (.int .i64 b3),.sc (.int .i64 b4)])=some (BL (!decide ((⟨⟨⟨⟨a0,a1⟩,a2⟩,a3⟩,a4⟩:Spn)=⟨⟨⟨⟨b0,b1⟩,b2⟩,b3⟩,b4⟩))):=by
 simp only[zXO]
 exact zB0g
variable {fuel : Nat} {M : Mem} {Q : AV → Mem → Prop} {d : Nat}
def zKL (a b:Int):Int:=IntKind.u32.wrap ((BitVec.ofInt 32 a &&& ~~~ BitVec.ofInt 32 b).toNat:Nat)
def Lb.leq (a b:Lb):Bool:=decide (a.lv≤b.lv)&&decide (zKL a.cats b.cats=0)
def Lb.may (a:Lb):Bool:=!decide (15<a.lv)
def Hd.may (h:Hd):Bool:=h.lb.may&&decide (h.num<8)
def Eid.may (x:Eid):Bool:=x.hd.may&&decide (1≤x.c)&&decide (x.c≤1099511627776)
def Spn.may (s:Spn):Bool:=s.f.may&&decide (1≤s.n)&&decide (s.n≤64)&&decide (s.f.c+s.n≤1099511627777)
def err (b:Bool):Int:=if b then 0 else 8
theorem zBP:err true=0:=rfl
theorem zCH:err false=8:=rfl
theorem zOT (P:Program)(ty:TypeId)(a b:Int):binV P .andNot ty .u32 a .u32 b=some (.int .u32 (zKL a b)):=by
 simp only[binV,binOp,ne_eq,not_true_eq_false,if_false,Op.intBits]
 rfl
theorem zTI (a b:Lb)(M:Mem):zCN fuel (d+1) 41 [lbA a,lbA b] M=some (BL (a.leq b),M):=by
 apply zBA
 refine zAL tf41 rfl (by simp (disch:=try exact SX) only[RV,seval,zA0]) (by simp [a41]) fun b' ht hx=>?_
 obtain⟨h0,h1⟩:=hx2 hx
 clear hx
 simp only[a41,c41] at ht ⊢
 unfold Lb.leq
 by_cases q:a.lv≤b.lv
 ·have q1:decide (a.lv≤b.lv)=true:=decide_eq_true q
  simp (disch:=try exact SX) only[RV,seval,zA0,h0,h1,q1,zOT]
 ·have q1:decide (a.lv≤b.lv)=false:=decide_eq_false q
  simp (disch:=try exact SX) only[RV,seval,zA0,h0,h1,q1,zOT,Bool.false_and]
theorem zJO (a:Lb)(M:Mem):zCN fuel (d+1) 39 [lbA a] M=some (I64 (err a.may),M):=by
 apply zBA
 refine zAL tf39 rfl (by simp (disch:=try exact SX) only[RV,seval,zA0]) (by simp [a39]) fun b' ht hx=>?_
 have h0:=hx 0 _ rfl
 clear hx
 simp only[a39,c39] at ht ⊢
 unfold Lb.may
 cases q:decide (15<a.lv) <;> simp (disch:=try exact SX) only[RV,seval,zA0,h0,q,zBP,zCH]
theorem zIY (b:Bool)(M:Mem):zCN fuel (d+1) 80 [BL b] M=some (I64 (err b),M):=by
 apply zBA
 refine zAL tf80 rfl (by simp (disch:=try exact SX) only[RV,seval,zA0]) (by simp [a80]) fun b' ht hx=>?_
 have h0:=hx 0 _ rfl
 clear hx
 simp only[a80,c80] at ht ⊢
 cases b <;> simp (disch:=try exact SX) only[RV,seval,zA0,h0,zBP,zCH]
theorem z00:decide ((0:Int)=0)=true:=rfl
theorem z80:decide ((8:Int)=0)=false:=rfl
theorem zNA (h:Hd)(M:Mem):zCN fuel (d+2) 81 [hdA h] M=some (I64 (err h.may),M):=by
 have hl:=fun M=>@zJO fuel d h.lb M
 have hr:=fun b M=>@zIY fuel d b M
 apply zBA
 refine zAL tf81 rfl (by simp (disch:=try exact SX) only[RV,seval,zA0]) (by simp [a81]) fun b' ht hx=>?_
 have h0:=hx 0 _ rfl
 clear hx
 simp only[a81,c81] at ht ⊢
 unfold Hd.may
 cases hm:h.lb.may <;> rw[hm] at hl
 ·exact zB0n
 ·simp (disch:=try exact SX) only[RV,seval,zA0,h0,hl,hr,zBP,z00]
theorem zSA (x:Eid)(M:Mem):zCN fuel (d+3) 54 [idA x] M=some (I64 (err x.may),M):=by
 have hl:=fun M=>@zNA fuel d x.hd M
 have hr:=fun b M=>@zIY fuel (d+1) b M
 apply zBA
 refine zAL tf54 rfl (by simp (disch:=try exact SX) only[RV,seval,zA0]) (by simp [a54]) fun b' ht hx=>?_
 have h0:=hx 0 _ rfl
 clear hx
 simp only[a54,c54] at ht ⊢
 unfold Eid.may
 cases hm:x.hd.may <;> rw[hm] at hl
 ·exact zB0n
 ·cases q:decide (1≤x.c)
  ·simp (disch:=try exact SX) only[RV,seval,zA0,h0,hl,hr,zBP,z00,q,Bool.false_and]
  ·simp (disch:=try exact SX) only[RV,seval,zA0,h0,hl,hr,zBP,z00,q]
theorem zI5 (s:Spn)(M:Mem):zCN fuel (d+4) 55 [spA s] M=some (I64 (err s.may),M):=by
 have hl:=fun M=>@zSA fuel d s.f M
 have hr:=fun b M=>@zIY fuel (d+2) b M
 apply zBA
 refine zAL tf55 rfl (by simp (disch:=try exact SX) only[RV,seval,zA0]) (by simp [a55]) fun b' ht hx=>?_
 have h0:=hx 0 _ rfl
 clear hx
 simp only[a55,c55] at ht ⊢
 unfold Spn.may
 cases hm:s.f.may <;> rw[hm] at hl
 ·exact zB0n
 ·cases q1:decide (1≤s.n)
  ·simp (disch:=try exact SX) only[RV,seval,zA0,h0,hl,hr,zBP,z00,q1,Bool.false_and]
  ·cases q2:decide (s.n≤64)
   ·simp (disch:=try exact SX) only[RV,seval,zA0,h0,hl,hr,zBP,z00,q1,q2,Bool.false_and]
   ·have w:IntKind.i64.wrap (IntKind.i64.wrap (s.f.c+s.n) - 1)=s.f.c+s.n - 1:=by
     unfold Eid.may at hm
     simp only[Bool.and_eq_true,decide_eq_true_eq] at hm q1 q2
     rw[wrap_i64 (n:=s.f.c+s.n) (by omega) (by omega),wrap_i64 (by omega) (by omega)]
    have q3:decide (s.f.c+s.n - 1≤1099511627776)=decide (s.f.c+s.n≤1099511627777):=by
     exact zB0A
    simp (disch:=try exact SX) only[RV,seval,zA0,h0,hl,hr,zBP,z00,q1,q2,w,q3]
def zHG (x:Int):Bool:=(decide (0≤x)&&decide (x<55296)) || (decide (57343<x)&&decide (x≤1114111))
def okR (x:Int):Bool:=decide (x = -1) || zHG x
def chkR (l:List Int):Int:=if 64<l.length then 4 else err (l.all okR)
theorem zV3 (x:Int)(M:Mem):zCN fuel (d+1) 83 [I32 x] M=some (BL (zHG x),M):=by
 apply zBA
 refine zAL tf83 rfl (by simp (disch:=try exact SX) only[RV,seval,zA0]) (by simp [a83]) fun b' ht hx=>?_
 have h0:=hx 0 _ rfl
 clear hx
 simp only[a83,c83] at ht ⊢
 unfold zHG
 cases q1:decide (0≤x) <;> cases q2:decide (x<55296) <;> cases q3:decide (57343<x) <;> cases q4:decide (x≤1114111)
 all_goals simp (disch:=try exact SX) only[RV,seval,zA0,h0,q1,q2,q3,q4]
theorem zV9 (x:Int)(M:Mem):zCN fuel (d+2) 82 [I32 x] M=some (BL (!okR x),M):=by
 have hv:=fun M=>@zV3 fuel d x M
 apply zBA
 refine zAL tf82 rfl (by simp (disch:=try exact SX) only[RV,seval,zA0]) (by simp [a82]) fun b' ht hx=>?_
 have h0:=hx 0 _ rfl
 clear hx
 simp only[a82,c82] at ht ⊢
 unfold okR
 cases q:decide (x = -1) <;> simp (disch:=try exact SX) only[RV,seval,zA0,h0,q,hv,Bool.not_or]
theorem zN5 {α:Type}(p:α→Bool)(l:List α):(l.any fun x => !p x) = !l.all p:=by
 induction l with
 | nil=>rfl
 | cons x l ih=>simp only[List.any_cons,List.all_cons,ih,Bool.not_and]
theorem zR5 {a:AV}{l:List Int}(hS:Sl 1 zAY a l)(hf:100<fuel)(M:Mem):zCN fuel (d+5) 56 [a] M=some (I64 (chkR l),M):=by
 have ll:=hS.len
 apply zBA
 refine zAL tf56 rfl (by simp (disch:=try exact SX) only[RV,seval,zA0,hS.fz.rows,hS.fz.one,hS.fz.cells,hS.fz.icy,hS.fz.frz]) (by simp [a56]) fun b' ht hx=>?_
 have h0:=hx 0 _ rfl
 clear hx
 simp only[a56,c56] at ht ⊢
 unfold chkR
 by_cases q:64<l.length
 ·exact zB0k
 ·have q1:decide ((64:Int)<l.length)=false:=DF
  have hh:=fun M=>zcU (P:=Try.prog) (fs:=fsT tbl) (fuel:=fuel) (l:=l) (ag:=false) (n:=d+2) tf84 tf96 (fun _=>rfl) zD4 hS (by omega) (by omega) (zSV 82) (p:=fun x => !okR x) (fun r x hr _ M=>by
   obtain rfl:=hr
   exact @zV9 fuel d x M) M
  rw[zN5] at hh
  cases hb:l.all okR <;> rw[hb] at hh <;> simp (disch:=try exact SX) only[RV,seval,zA0,h0,ll,hS.fz.rows,hS.fz.one,hS.fz.cells,hS.fz.icy,hS.fz.frz,q1,q,hh,if_false,zBP,zCH]
theorem zU8 {a:AV}{l:List Int}(hS:Sl 1 zAY a l)(hl:l.length≤1000000000)(wf:Wf M)
  (k:∀ a' M',Wf M'→M.size≤M'.size→(∀ j,j<M.size→M'.get j=M.get j)→SlM M' 1 zAY a' l→(∀ id,rowOf a'=some id→M.size≤id)→M'.wm=M.wm→M'.dirty=M.dirty→Q a' M'):W3 (zCN fuel (d+1) 78 [a] M) Q :=
 zZL zD4.cel tf78 Try.underlying32 hS (by omega) (by omega) wf k
def Op.bare (o:Op):Bool:=decide (o.af=Eid.z)&&decide ((o.rs.length:Int)=0)
def Op.part (o:Op):Bool :=
 if o.kd=1 then decide (o.to=Lb.z)&&(decide (o.af=Eid.z) || o.af.may)&&decide (o.sp.f.hd=o.hd)&&decide ((o.rs.length:Int)=o.sp.n)&&decide (chkR o.rs=0)
 else if o.kd=2 then decide (o.to=Lb.z)&&o.bare
 else o.bare&&o.to.may
def Op.may (o:Op):Bool:=!decide (o.kd=0) && !decide (4≤o.kd)&&o.hd.may && !decide (o.sr<1) && !decide (16777216≤o.sr)&&o.sp.may&&o.part
def Spn.at (s:Spn)(n:Int):Eid:=⟨s.f.hd,s.f.c+n⟩
theorem zPH (x:Eid)(n:Int)(M:Mem):zCN fuel (d+1) 58 [idA x,I64 n] M=some (idA ⟨x.hd,IntKind.i64.wrap (x.c+n)⟩,M):=by
 apply zBA
 refine zAL tf58 rfl (by simp (disch:=try exact SX) only[RV,seval,zA0]) (by simp [a58]) fun b' ht hx=>?_
 obtain⟨h0,h1⟩:=hx2 hx
 clear hx
 simp only[a58,c58] at ht ⊢
 simp (disch:=try exact SX) only[RV,seval,zA0,h0,h1]
def Spn.has (s:Spn)(x:Eid):Option Int:=if s.may=true∧x.hd=s.f.hd∧s.f.c≤x.c∧x.c<s.f.c+s.n then some (x.c - s.f.c) else none
theorem Spn.may_le {s:Spn}(h:s.may=true):1≤s.f.c∧s.f.c≤1099511627776∧1≤s.n∧s.n≤64∧s.f.c+s.n≤1099511627777:=by
 unfold Spn.may Eid.may at h
 simp only[Bool.and_eq_true,decide_eq_true_eq] at h
 omega
theorem za9 (s:Spn)(x:Eid)(M:Mem):zCN fuel (d+5) 57 [spA s,idA x] M=some (.tup [I64 ((s.has x).getD 0),BL (s.has x).isSome],M):=by
 have hc:=fun M=>@zI5 fuel d s M
 have hn:=fun x n M=>@zPH fuel (d+3) x n M
 have pIdN:=@pIdN
 apply zBA
 refine zAL tf57 rfl (by simp (disch:=try exact SX) only[RV,seval,zA0]) (by simp [a57]) fun b' ht hx=>?_
 obtain⟨h0,h1⟩:=hx2 hx
 clear hx
 simp only[a57,c57] at ht ⊢
 cases hm:s.may with
 | false =>
  rw[hm] at hc
  have e:s.has x=none:=by unfold Spn.has;rw[if_neg (by simp [hm])]
  simp (disch:=try exact SX) only[RV,seval,zA0,h0,h1,hc,zCH,z80,e,Option.getD_none,Option.isSome_none]
 | true =>
  rw[hm] at hc
  have hb:=Spn.may_le hm
  generalize hw:IntKind.i64.wrap (x.c - s.f.c)=n at *
  by_cases q1:n<0
  ·have e:s.has x=none:=by
    exact zB0v
   have q:decide (n<0)=true:=decide_eq_true q1
   simp (disch:=try exact SX) only[RV,seval,zA0,h0,h1,hc,zBP,z00,hw,q,e,Option.getD_none,Option.isSome_none]
  ·by_cases q2:s.n≤n
   ·have e:s.has x=none:=by
     exact zB0v
    have q:decide (n<0)=false:=decide_eq_false q1
    have q':decide (s.n≤n)=true:=decide_eq_true q2
    simp (disch:=try exact SX) only[RV,seval,zA0,h0,h1,hc,zBP,z00,hw,q,q',e,Option.getD_none,Option.isSome_none]
   ·have q:decide (n<0)=false:=decide_eq_false q1
    have q':decide (s.n≤n)=false:=decide_eq_false q2
    have w2:IntKind.i64.wrap (s.f.c+n)=s.f.c+n:=wrap_i64 (by omega) (by omega)
    by_cases q3:x=⟨s.f.hd,s.f.c+n⟩
    ·have e:s.has x=some n:=by
      unfold Spn.has
      rw[if_pos ⟨hm,by rw[q3],by rw[q3];show s.f.c≤s.f.c+n;omega,by rw[q3];show s.f.c+n<_;omega⟩,q3]
      congr 1
      show s.f.c+n - s.f.c=n
      omega
     have q4:decide (x=⟨s.f.hd,s.f.c+n⟩)=true:=decide_eq_true q3
     simp (disch:=try exact SX) only[RV,seval,zA0,h0,h1,hc,zBP,z00,hw,q,q',hn,w2,↓pIdN,zAB,ETA,q4,e,Option.getD_some,Option.isSome_some]
    ·have e:s.has x=none:=by
      unfold Spn.has
      rw[if_neg]
      rintro⟨_,h0,h1,h2⟩
      rw[wrap_i64 (by omega) (by omega)] at hw
      apply q3
      obtain⟨xh,xc⟩:=x
      simp only at h0 hw ⊢
      rw[h0,← hw]
      congr 1
      omega
     have q4:decide (x=⟨s.f.hd,s.f.c+n⟩)=false:=decide_eq_false q3
     simp (disch:=try exact SX) only[RV,seval,zA0,h0,h1,hc,zBP,z00,hw,q,q',hn,w2,↓pIdN,zAB,ETA,q4,e,Option.getD_none,Option.isSome_none]
theorem zLR (s:Spn)(n:Int)(M:Mem):zCN fuel (d+5) 25 [spA s,I64 n] M=some (if s.may then (if n<0∨s.n≤n then .tup [idA Eid.z,I64 2] else .tup [idA (s.at n),I64 0]) else .tup [idA Eid.z,I64 8],M):=by
 have hc:=fun M=>@zI5 fuel d s M
 have hn:=fun x n M=>@zPH fuel (d+3) x n M
 apply zBA
 refine zAL tf25 rfl (by simp (disch:=try exact SX) only[RV,seval,zA0]) (by simp [a25]) fun b' ht hx=>?_
 obtain⟨h0,h1⟩:=hx2 hx
 clear hx
 simp only[a25,c25] at ht ⊢
 cases hm:s.may with
 | false =>
  rw[hm] at hc
  simp (disch:=try exact SX) only[RV,seval,zA0,h0,h1,hc,zCH,z80,Bool.false_eq_true,if_false]
 | true =>
  rw[hm] at hc
  have hb:=Spn.may_le hm
  by_cases q1:n<0
  ·have q:decide (n<0)=true:=decide_eq_true q1
   simp (disch:=try exact SX) only[RV,seval,zA0,h0,h1,hc,zBP,z00,q,q1,true_or,if_true]
  ·have q:decide (n<0)=false:=decide_eq_false q1
   by_cases q2:s.n≤n
   ·have q':decide (s.n≤n)=true:=decide_eq_true q2
    simp (disch:=try exact SX) only[RV,seval,zA0,h0,h1,hc,zBP,z00,q,q',q1,q2,or_true,if_true]
   ·have q':decide (s.n≤n)=false:=decide_eq_false q2
    have w2:IntKind.i64.wrap (s.f.c+n)=s.f.c+n:=wrap_i64 (by omega) (by omega)
    unfold Spn.at
    simp (disch:=try exact SX) only[RV,seval,zA0,h0,h1,hc,zBP,z00,q,q',q1,q2,or_self,if_true,if_false,hn,w2]
def bitI (c:Int)(i:Nat):Bool:=decide ((c.toNat / 2 ^ i) % 2=1)
theorem zTF {a b:Int}(ha:0≤a∧a<4294967296)(hb:0≤b∧b<4294967296):zKL a b=0 ↔ ∀ i,i<32→bitI a i=true→bitI b i=true:=by
 obtain⟨n,rfl⟩:∃ n:Nat,a=n:=⟨a.toNat,by omega⟩
 obtain⟨m,rfl⟩:∃ m:Nat,b=m:=⟨b.toNat,by omega⟩
 have e1:∀ (n i:Nat),i<32→bitI (n:Int) i=(BitVec.ofInt 32 (n:Int)).getLsbD i:=fun n i hi=>by
  rw[BitVec.ofInt_natCast,BitVec.getLsbD_ofNat,decide_eq_true hi,Bool.true_and,Nat.testBit_eq_decide_div_mod_eq]
  rfl
 have e2:zKL n m=((BitVec.ofInt 32 (n:Int) &&& ~~~ BitVec.ofInt 32 (m:Int)).toNat:Int):=by
  have:=(BitVec.ofInt 32 (n:Int) &&& ~~~ BitVec.ofInt 32 (m:Int)).isLt
  unfold zKL
  generalize (BitVec.ofInt 32 (n:Int) &&& ~~~ BitVec.ofInt 32 (m:Int)).toNat=z at *
  simp [IntKind.wrap,IntKind.bits,IntKind.signed]
  omega
 rw[e2]
 have e3:((BitVec.ofInt 32 (n:Int) &&& ~~~ BitVec.ofInt 32 (m:Int)).toNat:Int)=0↔(BitVec.ofInt 32 (n:Int) &&& ~~~ BitVec.ofInt 32 (m:Int))=0#32:=by
  rw[← BitVec.toNat_inj];simp
 rw[e3]
 constructor
 ·intro h i hi h1
  rw[e1 _ _ hi] at h1 ⊢
  have:=congrArg (fun v=>BitVec.getLsbD v i) h
  simp only[BitVec.getLsbD_and,BitVec.getLsbD_not,h1,hi,BitVec.getLsbD_zero,decide_true,Bool.true_and,Bool.not_eq_false'] at this
  exact this
 ·intro h
  apply BitVec.eq_of_getLsbD_eq
  intro i hi
  have:=h i hi
  rw[e1 _ _ hi,e1 _ _ hi] at this
  simp only[BitVec.getLsbD_and,BitVec.getLsbD_not,hi,BitVec.getLsbD_zero,decide_true,Bool.true_and]
  cases h1:(BitVec.ofInt 32 (n:Int)).getLsbD i with
  | false=>rfl
  | true=>rw[this h1];rfl
theorem zMN (v:Lb)(M:Mem):zCN fuel (d+1) 45 [lbA v] M=some (BL v.may,M):=by
 apply zBA
 refine zAL tf45 rfl (by simp (disch:=try exact SX) only[RV,seval,zA0]) (by simp [a45]) fun b' ht hx=>?_
 have h0:=hx 0 _ rfl
 clear hx
 simp only[a45,c45] at ht ⊢
 unfold Lb.may
 by_cases q:15<v.lv
 ·have q1:decide (v.lv≤15)=false:=DF
  have q2:decide (15<v.lv)=true:=decide_eq_true q
  simp (disch:=try exact SX) only[RV,seval,zA0,h0,q1,q2]
 ·have q1:decide (v.lv≤15)=true:=DT
  have q2:decide (15<v.lv)=false:=decide_eq_false q
  simp (disch:=try exact SX) only[RV,seval,zA0,h0,q1,q2]
theorem zT4 (v:Lb)(hv:v.ok)(i:Nat)(hi:i<32)(M:Mem):zCN fuel (d+1) 95 [lbA v,I64 i] M=some (BL (bitI v.cats i),M):=by
 have cv:=fun t r x=>zPN (P:=Try.prog) (t:=t) Try.underlying3 Try.underlying129 r x
 have w:IntKind.u64.wrap (i:Int)=i:=by simp [IntKind.wrap,IntKind.bits,IntKind.signed];omega
 have sh:∀ ty,binV Try.prog .shr ty .u32 v.cats .u64 (i:Int)=some (.int .u32 ((v.cats.toNat / 2 ^ i:Nat):Int)):=fun ty=>by
  rw[vShr _ _ _ _ _ (by omega)]
  have:min (Int.toNat (i:Int)) (IntKind.u32).bits=i:=by simp [IntKind.bits];omega
  rw[this]
  obtain⟨n,hn⟩:∃ n:Nat,v.cats=n:=⟨v.cats.toNat,by have:=hv.2.2.1;omega⟩
  have h2:(0:Int)≤2 ^ i:=by exact_mod_cast Nat.zero_le (2 ^ i)
  rw[hn,Int.fdiv_eq_ediv_of_nonneg _ h2,Int.toNat_natCast]
  simp
 have hr:∀ (ty:TypeId) (n:Nat),binV Try.prog .rem ty .u32 (n:Int) .u32 2=some (.int .u32 ((n % 2:Nat):Int)):=fun ty n=>by
  rw[vRem,if_neg (by omega)]
  simp [Int.tmod_eq_emod_of_nonneg]
 apply zBA
 refine zAL tf95 rfl (by simp (disch:=try exact SX) only[RV,seval,zA0]) (by simp [a95]) fun b' ht hx=>?_
 obtain⟨h0,h1⟩:=hx2 hx
 clear hx
 simp only[a95,c95] at ht ⊢
 unfold bitI
 have q:decide (((v.cats.toNat / 2 ^ i % 2:Nat):Int)=1)=decide (v.cats.toNat / 2 ^ i % 2=1):=by
  exact zB0A
 simp (disch:=try exact SX) only[RV,seval,zA0,h0,h1,cv,zKS,w,sh,hr,q]
theorem zMM (a b:Lb)(ha:a.ok)(hb:b.ok)(hf:40<fuel)(M:Mem):zCN fuel (d+2) 77 [lbA a,lbA b] M=some (BL (a.leq b),M):=by
 have hh:=fun i hi M=>@zT4 fuel d a ha i hi M
 have kh:=fun i hi M=>@zT4 fuel d b hb i hi M
 have key:=zTF ha.2.2 hb.2.2
 apply zBA
 refine zAL tf77 rfl (by simp (disch:=try exact SX) only[RV,seval,zA0]) (by simp [a77]) fun b' ht hx=>?_
 obtain⟨h0,h1⟩:=hx2 hx
 clear hx
 simp only[a77,c77] at ht ⊢
 simp (disch:=try exact SX) only[RV,seval,zA0,h0,h1]
 refine zB7 (I:=fun n t N => ∃ (i:Nat),n=32 - i∧i≤32∧nth zA3 t 2 = .ptr 0 0∧nth zA3 t 3 = .ptr 1 0∧nth zA3 t 5=I64 i∧N=(mem0.add (.row false [U8 a.lv,U32 a.cats])).add (.row false [U8 b.lv,U32 b.cats])∧(∀ j,j<i→bitI a.cats j=true→bitI b.cats j=true)) (n:=32) (by omega) ?_ ?_
 ·refine⟨0,rfl,Nat.zero_le _, ?_, ?_, ?_,rfl,(fun _ h=>absurd h (by omega))⟩ <;> simp (disch:=try exact SX) only[RV,seval,zA0,h0,h1]
  all_goals first | rfl | assumption | done
 ·rintro n t N hlt ⟨i,rfl,hi,g2,g3,g5,hm,hj⟩
  simp only[ht] at hlt ⊢
  subst hm
  by_cases hc:i<32
  ·have q1:decide ((i:Int)<32)=true:=DT
   have w1:IntKind.i64.wrap ((i:Int)+1)=((i+1:Nat):Int):=WI
   cases b1:bitI a.cats i with
   | false =>
    simp (disch:=try exact SX) only[RV,seval,zA0,g2,g3,g5,q1,w1,hh,b1]
    exact⟨hlt,32 - (i+1),by omega,i+1,rfl,by omega,rfl,fun j hj' hb'=>by
     rcases Nat.lt_succ_iff_lt_or_eq.1 hj' with h | rfl
     ·exact hj j h hb'
     ·rw[b1] at hb';cases hb'⟩
   | true =>
    cases b2:bitI b.cats i with
    | true =>
     simp (disch:=try exact SX) only[RV,seval,zA0,g2,g3,g5,q1,w1,hh,kh,b1,b2]
     exact⟨hlt,32 - (i+1),by omega,i+1,rfl,by omega,rfl,fun j hj' hb'=>by
      rcases Nat.lt_succ_iff_lt_or_eq.1 hj' with h | rfl
      ·exact hj j h hb'
      ·exact b2⟩
    | false =>
     have e:a.leq b=false:=by
      unfold Lb.leq
      rw[Bool.and_eq_false_iff]
      right
      rw[decide_eq_false_iff_not,key]
      intro h
      have:=h i hc b1
      rw[b2] at this;cases this
     simp (disch:=try exact SX) only[RV,seval,zA0,g2,g3,g5,q1,w1,hh,kh,b1,b2,e]
  ·obtain rfl:i=32:=by omega
   have e:a.leq b=decide (a.lv≤b.lv):=by
    unfold Lb.leq
    rw[decide_eq_true (p:=zKL a.cats b.cats=0) (key.2 hj),Bool.and_true]
   have q1:decide (((32:Nat):Int)<32)=false:=rfl
   simp (disch:=try exact SX) only[RV,seval,zA0,g2,g3,g5,q1,e]
theorem zXR (x:Int)(M:Mem):zCN fuel (d+1) 93 [I64 x] M=some (BL (zHG x),M):=by
 apply zBA
 refine zAL tf93 rfl (by simp (disch:=try exact SX) only[RV,seval,zA0]) (by simp [a93]) fun b' ht hx=>?_
 have h0:=hx 0 _ rfl
 clear hx
 simp only[a93,c93] at ht ⊢
 have key:zHG x=(decide (0≤x)&&decide (x≤1114111)&&(decide (x<55296) || decide (57343<x))):=by
  unfold zHG
  by_cases h1:0≤x <;> by_cases h2:x≤1114111 <;> by_cases h3:x<55296 <;> by_cases h4:57343<x <;> simp [h1,h2,h3,h4] <;> omega
 rw[key]
 cases q1:decide (0≤x) <;> cases q2:decide (x≤1114111) <;> cases q3:decide (x<55296) <;> cases q4:decide (57343<x)
 all_goals simp (disch:=try exact SX) only[RV,seval,zA0,h0,q1,q2,q3,q4,Bool.false_and]
theorem zR3 (h:Hd)(M:Mem):zCN fuel (d+2) 94 [hdA h] M=some (BL h.may,M):=by
 have hm:=fun M=>@zMN fuel d h.lb M
 apply zBA
 refine zAL tf94 rfl (by simp (disch:=try exact SX) only[RV,seval,zA0]) (by simp [a94]) fun b' ht hx=>?_
 have h0:=hx 0 _ rfl
 clear hx
 simp only[a94,c94] at ht ⊢
 unfold Hd.may
 cases q:h.lb.may <;> rw[q] at hm <;> simp (disch:=try exact SX) only[RV,seval,zA0,h0,hm,Bool.false_and]
theorem zMO (x:Eid)(M:Mem):zCN fuel (d+3) 72 [idA x] M=some (BL x.may,M):=by
 have hm:=fun M=>@zR3 fuel d x.hd M
 apply zBA
 refine zAL tf72 rfl (by simp (disch:=try exact SX) only[RV,seval,zA0]) (by simp [a72]) fun b' ht hx=>?_
 have h0:=hx 0 _ rfl
 clear hx
 simp only[a72,c72] at ht ⊢
 unfold Eid.may
 cases q:x.hd.may <;> rw[q] at hm
 ·simp (disch:=try exact SX) only[RV,seval,zA0,h0,hm,Bool.false_and]
 ·cases q1:decide (1≤x.c) <;> simp (disch:=try exact SX) only[RV,seval,zA0,h0,hm,q1,Bool.false_and]
theorem zR4 (s:Spn)(M:Mem):zCN fuel (d+4) 69 [spA s] M=some (BL s.may,M):=by
 have hm:=fun M=>@zMO fuel d s.f M
 apply zBA
 refine zAL tf69 rfl (by simp (disch:=try exact SX) only[RV,seval,zA0]) (by simp [a69]) fun b' ht hx=>?_
 have h0:=hx 0 _ rfl
 clear hx
 simp only[a69,c69] at ht ⊢
 unfold Spn.may
 cases q:s.f.may <;> rw[q] at hm
 ·simp (disch:=try exact SX) only[RV,seval,zA0,h0,hm,Bool.false_and]
 ·cases q1:decide (1≤s.n)
  ·simp (disch:=try exact SX) only[RV,seval,zA0,h0,hm,q1,Bool.false_and]
  ·cases q2:decide (s.n≤64)
   ·simp (disch:=try exact SX) only[RV,seval,zA0,h0,hm,q1,q2,Bool.false_and]
   ·have w:IntKind.i64.wrap (1099511627777 - s.n)=1099511627777 - s.n:=by
     rw[decide_eq_true_eq] at q1 q2
     exact wrap_i64 (by omega) (by omega)
    have q3:decide (s.f.c≤1099511627777 - s.n)=decide (s.f.c+s.n≤1099511627777):=by
     exact zB0A
    simp (disch:=try exact SX) only[RV,seval,zA0,h0,hm,q1,q2,w,q3]
theorem zO2 (x:Eid)(M:Mem):zCN fuel (d+1) 71 [idA x] M=some (BL (decide (x=Eid.z)),M):=by
 apply zBA
 refine zAL tf71 rfl (by simp (disch:=try exact SX) only[RV,seval,zA0]) (by simp [a71]) fun b' ht hx=>?_
 have h0:=hx 0 _ rfl
 clear hx
 simp only[a71,c71] at ht ⊢
 simp (disch:=try exact SX) only[RV,seval,zA0,h0,↓pIdE,zAE,↓pIdN,zAB,↓pHdE,zAC,↓pHdN,zAD,↓pLbE,zAF,↓pLbN,zAG,↓pSpE,zAH,↓pSpN,zAI,ETA]
def Rn.may (r:Rn):Bool:=r.sp.may&&(decide (r.af=Eid.z) || (r.af.may&&decide (r.af.c<r.sp.f.c)))&&decide ((r.rs.length:Int)=r.sp.n)&&decide (chkR r.rs=0)
theorem zbB {o:Rn}{ra:AV}(h:Fz ra):rowsOf (.agg (rnR o ra))=[]:=zGR (zSX h)
theorem zBX {o:Rn}{ra:AV}(h:Fz ra)(M:Mem):icy 12 M (.agg (rnR o ra))=some (.agg (rnR o ra),M):=zBS (zSX h) (by omega) M
theorem zO9 {a:AV}{l:List Int}(hS:Sl 1 zAY a l)(hi32:i32s l)(hf:100<fuel)(M:Mem):zCN fuel (d+2) 70 [a] M=some (I64 (chkR l),M):=by
 have ll:=hS.len
 have cv:=fun t r x=>zPN (P:=Try.prog) (t:=t) Try.underlying21 Try.underlying3 r x
 apply zBA
 refine zAL tf70 rfl (by simp (disch:=try exact SX) only[RV,seval,zA0,hS.fz.rows,hS.fz.one,hS.fz.cells,hS.fz.icy,hS.fz.frz]) (by simp [a70]) fun b' ht hx=>?_
 have h0:=hx 0 _ rfl
 clear hx
 simp only[a70,c70] at ht ⊢
 unfold chkR
 by_cases q:64<l.length
 ·exact zB0k
 ·have q1:decide ((64:Int)<l.length)=false:=DF
  rw[if_neg q]
  simp (disch:=try exact SX) only[RV,seval,zA0,h0,ll,hS.fz.rows,hS.fz.one,hS.fz.cells,hS.fz.icy,hS.fz.frz,q1]
  refine zB7 (I:=fun n t N => ∃ (i:Nat),n=l.length - i∧i≤l.length∧nth zA3 t 0=a∧nth zA3 t 3=I64 i∧N=mem0∧(l.take i).all okR=true) (n:=l.length) (by omega) ?_ ?_
  ·refine⟨0,rfl,Nat.zero_le _, ?_, ?_,rfl,rfl⟩ <;> simp (disch:=try exact SX) only[RV,seval,zA0,h0,ll]
   all_goals first | rfl | assumption | done
  ·rintro n t N hlt ⟨i,rfl,hi,g0,g3,hm,hj⟩
   simp only[ht] at hlt ⊢
   subst hm
   by_cases hc:i<l.length
   ·have q2:decide ((i:Int)<l.length)=true:=DT
    have w1:IntKind.i64.wrap ((i:Int)+1)=((i+1:Nat):Int):=WI
    obtain⟨r,hr,hrr,_⟩:=hS.iad i hc
    have hrr:r=[I32 l[i]]:=hrr
    subst hrr
    have hrg:=hi32 l[i] (List.getElem_mem hc)
    have hw:IntKind.i64.wrap l[i]=l[i]:=wrap_i64 (by omega) (by omega)
    have his:=fun M=>@zXR fuel d l[i] M
    have htk:(l.take (i+1)).all okR=((l.take i).all okR&&okR l[i]):=by
     rw[List.take_add_one,List.getElem?_eq_getElem hc,List.all_append]
     simp
    have bad:okR l[i]=false→l.all okR=false:=fun h=>by
     rw[← Bool.not_eq_true,List.all_eq_true]
     intro h2
     rw[h2 _ (List.getElem_mem hc)] at h
     cases h
    cases q3:decide (l[i] = -1) with
    | true =>
     have ok:okR l[i]=true:=by unfold okR;rw[q3];rfl
     simp (disch:=try exact SX) only[RV,seval,zA0,g0,g3,ll,hS.fz.rows,hS.fz.one,hS.fz.cells,hS.fz.icy,hS.fz.frz,q2,w1,hr,q3]
     exact⟨hlt,l.length - (i+1),by omega,i+1,rfl,by omega,rfl,by rw[htk,hj,ok];rfl⟩
    | false =>
     cases q4:zHG l[i] with
     | true =>
      rw[q4] at his
      have ok:okR l[i]=true:=by unfold okR;rw[q3,q4];rfl
      simp (disch:=try exact SX) only[RV,seval,zA0,g0,g3,ll,hS.fz.rows,hS.fz.one,hS.fz.cells,hS.fz.icy,hS.fz.frz,q2,w1,hr,q3,cv,zKS,hw,his]
      exact⟨hlt,l.length - (i+1),by omega,i+1,rfl,by omega,rfl,by rw[htk,hj,ok];rfl⟩
     | false =>
      rw[q4] at his
      have ok:okR l[i]=false:=by unfold okR;rw[q3,q4];rfl
      rw[bad ok]
      simp (disch:=try exact SX) only[RV,seval,zA0,g0,g3,ll,hS.fz.rows,hS.fz.one,hS.fz.cells,hS.fz.icy,hS.fz.frz,q2,w1,hr,q3,cv,zKS,hw,his,zCH]
   ·obtain rfl:i=l.length:=by omega
    have q2:decide ((l.length:Int)<l.length)=false:=DF
    rw[List.take_length] at hj
    rw[hj]
    simp (disch:=try exact SX) only[RV,seval,zA0,g0,g3,ll,hS.fz.rows,hS.fz.one,hS.fz.cells,hS.fz.icy,hS.fz.frz,q2,zBP]
theorem zJV {o:Rn}{ra:AV}(hS:Sl 1 zAY ra o.rs)(ho:i32s o.rs)(hf:100<fuel)(M:Mem):zCN fuel (d+5) 33 [.agg (rnR o ra)] M=some (BL o.may,M):=by
 have ora:=hS.one
 have ll:=hS.len
 have hs:=fun M=>@zR4 fuel d o.sp M
 have hz:=fun M=>@zO2 fuel (d+3) o.af M
 have ha:=fun M=>@zMO fuel (d+1) o.af M
 have hc:=fun M=>zO9 (fuel:=fuel) (d:=d+2) hS ho hf M
 apply zBA
 refine zAL tf33 rfl (by simp only[icyL,zBX hS.fz]) (by simp [a33]) fun b' ht hx=>?_
 have h0:=hx 0 _ rfl
 clear hx
 simp only[a33,c33] at ht ⊢
 unfold Rn.may
 cases q6:o.sp.may <;> rw[q6] at hs
 ·simp (disch:=try exact SX) only[RV,seval,zA0,h0,hS.fz.rows,hS.fz.one,hS.fz.cells,hS.fz.icy,hS.fz.frz,hs,Bool.false_and,Bool.and_false]
 simp only[Bool.true_and]
 cases b5:decide ((o.rs.length:Int)=o.sp.n)
 ·simp (disch:=try exact SX) only[RV,seval,zA0,h0,hS.fz.rows,hS.fz.one,hS.fz.cells,hS.fz.icy,hS.fz.frz,hs,ll,b5,Bool.false_and,Bool.and_false]
 cases b6:decide (chkR o.rs=0)
 ·simp (disch:=try exact SX) only[RV,seval,zA0,h0,hS.fz.rows,hS.fz.one,hS.fz.cells,hS.fz.icy,hS.fz.frz,hs,ll,b5,hc,b6,Bool.false_and,Bool.and_false]
 simp only[Bool.and_true]
 cases b2:decide (o.af=Eid.z) <;> rw[b2] at hz
 ·cases b3:o.af.may <;> rw[b3] at ha
  ·simp (disch:=try exact SX) only[RV,seval,zA0,h0,hS.fz.rows,hS.fz.one,hS.fz.cells,hS.fz.icy,hS.fz.frz,hs,ll,b5,hc,b6,hz,ha,Bool.false_and,Bool.and_false]
  ·cases b4:decide (o.af.c<o.sp.f.c)
   all_goals simp (disch:=try exact SX) only[RV,seval,zA0,h0,hS.fz.rows,hS.fz.one,hS.fz.cells,hS.fz.icy,hS.fz.frz,hs,ll,b5,hc,b6,hz,ha,b4,Bool.false_and,Bool.and_false]
 ·simp (disch:=try exact SX) only[RV,seval,zA0,h0,hS.fz.rows,hS.fz.one,hS.fz.cells,hS.fz.icy,hS.fz.frz,hs,ll,b5,hc,b6,hz]
structure El where
 id:Eid
 af:Eid
 ch:Int
 deriving DecidableEq
theorem Rn.spB {r:Rn}(h:r.may=true):r.sp.may=true:=by
 unfold Rn.may at h
 simp only[Bool.and_eq_true] at h
 exact h.1.1.1
theorem Rn.may_iffB {r:Rn}(h:r.may=true):(r.rs.length:Int)=r.sp.n∧r.rs.length≤64:=by
 unfold Rn.may at h
 simp only[Bool.and_eq_true,decide_eq_true_eq] at h
 have hb:=Spn.may_le h.1.1.1
 have:=h.1.2
 omega
def Rn.bh (r:Rn)(n:Int):Eid:=if 0<n then r.sp.at (n - 1) else r.af
def Rn.elB (r:Rn):List El:=(List.range r.sp.n.toNat).map fun (i:Nat)=>⟨r.sp.at i,r.bh i,r.rs.getD i 0⟩
def elsB (l:List Rn):List El:=l.flatMap Rn.elB
abbrev elR9 (x:El):List AV:=[U8 x.id.hd.lb.lv,U32 x.id.hd.lb.cats,U8 x.id.hd.num,I64 x.id.c,U8 x.af.hd.lb.lv,U32 x.af.hd.lb.cats,U8 x.af.hd.num,I64 x.af.c,I32 x.ch]
def isEl (r:List AV)(x:El):Prop:=r=elR9 x∧x.id.ok∧x.af.ok
theorem zGQ (x:El):∀ y∈elR9 x,Fz y:=fun y hy=>by
 simp only[elR9,List.mem_cons,List.not_mem_nil,or_false] at hy
 rcases hy with rfl | rfl | rfl | rfl | rfl | rfl | rfl | rfl | rfl <;> exact zE9 _ _
theorem zG4:FzT isEl:=fun r x h=>by rw[h.1];exact zGQ x
theorem zGA {o:Rn}{ra:AV}(hS:Sl 1 zAY ra o.rs)(n:Int)(M:Mem):zCN fuel (d+1) 36 [.agg (rnR o ra),I64 n] M=some (idA ⟨o.sp.f.hd,IntKind.i64.wrap (o.sp.f.c+n)⟩,M):=by
 have ora:=hS.one
 apply zBA
 refine zAL tf36 rfl (by simp only[icyL,zBX hS.fz,zQO]) (by simp [a36]) fun b' ht hx=>?_
 obtain⟨h0,h1⟩:=hx2 hx
 clear hx
 simp only[a36,c36] at ht ⊢
 simp (maxSteps:=2000000) (disch:=try exact SX) only[RV,zA0,reduceIte,Nat.reduceEqDiff,Nat.reduceBEq,Nat.reduceLT,Nat.reduceAdd,Nat.reduceLeDiff,Nat.reduceSub,Nat.reduceMul,Int.reduceLT,Int.reduceLE,Int.reduceEq,Int.reduceAdd,Int.reduceSub,Int.reduceMul,h0,h1,hS.fz.rows,hS.fz.one,hS.fz.cells,hS.fz.icy,hS.fz.frz]
theorem zU6 {o:Rn}{ra:AV}(hS:Sl 1 zAY ra o.rs)(hm:o.may=true)(n:Nat)(hn:n<64)(M:Mem):zCN fuel (d+2) 73 [.agg (rnR o ra),I64 n] M=some (idA (o.bh n),M):=by
 have ora:=hS.one
 have hb:=Spn.may_le (Rn.spB hm)
 have hi:=fun n M=>zGA (fuel:=fuel) (d:=d) hS n M
 apply zBA
 refine zAL tf73 rfl (by simp only[icyL,zBX hS.fz,zQO]) (by simp [a73]) fun b' ht hx=>?_
 obtain⟨h0,h1⟩:=hx2 hx
 clear hx
 simp only[a73,c73] at ht ⊢
 unfold Rn.bh
 by_cases q:n=0
 ·subst q
  have q1:decide (((0:Nat):Int)=0)=true:=rfl
  simp (maxSteps:=2000000) (disch:=try exact SX) only[RV,zA0,reduceIte,Nat.reduceEqDiff,Nat.reduceBEq,Nat.reduceLT,Nat.reduceAdd,Nat.reduceLeDiff,Nat.reduceSub,Nat.reduceMul,Int.reduceLT,Int.reduceLE,Int.reduceEq,Int.reduceAdd,Int.reduceSub,Int.reduceMul,h0,h1,hS.fz.rows,hS.fz.one,hS.fz.cells,hS.fz.icy,hS.fz.frz,q1]
  rfl
 ·have q1:decide ((n:Int)=0)=false:=DF
  have q2:(0:Int)<n:=by omega
  have w1:IntKind.i64.wrap ((n:Int) - 1)=(n:Int) - 1:=wrap_i64 (by omega) (by omega)
  have w2:IntKind.i64.wrap (o.sp.f.c+((n:Int) - 1))=o.sp.f.c+((n:Int) - 1):=wrap_i64 (by omega) (by omega)
  simp (maxSteps:=2000000) (disch:=try exact SX) only[RV,zA0,reduceIte,Nat.reduceEqDiff,Nat.reduceBEq,Nat.reduceLT,Nat.reduceAdd,Nat.reduceLeDiff,Nat.reduceSub,Nat.reduceMul,Int.reduceLT,Int.reduceLE,Int.reduceEq,Int.reduceAdd,Int.reduceSub,Int.reduceMul,h0,h1,hS.fz.rows,hS.fz.one,hS.fz.cells,hS.fz.icy,hS.fz.frz,q1,w1,hi,w2]
  rw[if_pos q2]
  rfl
theorem zK9 (r:Rn):r.elB.length=r.sp.n.toNat:=by simp [Rn.elB]
theorem zW4 (r:Rn)(i:Nat)(h:i<r.sp.n.toNat):r.elB.take (i+1)=r.elB.take i++[⟨r.sp.at i,r.bh i,r.rs.getD i 0⟩]:=by
 rw[List.take_add_one,List.getElem?_eq_getElem (by rw[zK9];exact h)]
 simp [Rn.elB]
theorem zSG (l:List Rn)(i:Nat)(h:i<l.length):elsB (l.take (i+1))=elsB (l.take i)++l[i].elB:=by
 have e:l.take (i+1)=l.take i++[l[i]]:=by rw[List.take_add_one,List.getElem?_eq_getElem h];rfl
 rw[e]
 unfold elsB
 rw[List.flatMap_append]
 simp
theorem zCV {l:List Rn}(h:∀ r∈l,r.may=true):(elsB l).length≤64*l.length:=by
 induction l with
 | nil=>simp [elsB]
 | cons r l ih =>
  have hb:=Spn.may_le (Rn.spB (h r List.mem_cons_self))
  have:=ih fun x hx=>h x (List.mem_cons_of_mem _ hx)
  have e:elsB (r::l)=r.elB++elsB l:=by simp [elsB]
  rw[e,List.length_append,zK9,List.length_cons]
  omega
theorem zQZ {a:AV}{l:List Rn}(hS:Sl 10 isRn a l)(hm:∀ r∈l,r.may=true)(hl:l.length≤10000)(hf:l.length+200<fuel):zCX Try.prog (fsT tbl) fuel (d+2) 34 [a] (fun r M=>SlM M 9 isEl r (elsB l)):=by
 have ll:=hS.len
 refine zDO tf34 rfl (by simp [a34]) fun b' ht hx=>?_
 have h0:=hx 0 _ rfl
 clear hx
 simp only[a34,c34] at ht ⊢
 simp (maxSteps:=2000000) (disch:=try exact SX) only[RV,zA0,reduceIte,Nat.reduceEqDiff,Nat.reduceBEq,Nat.reduceLT,Nat.reduceAdd,Nat.reduceLeDiff,Nat.reduceSub,Nat.reduceMul,Int.reduceLT,Int.reduceLE,Int.reduceEq,Int.reduceAdd,Int.reduceSub,Int.reduceMul,h0,hS.fz.rows,hS.fz.one,hS.fz.cells,hS.fz.icy,hS.fz.frz]
 refine zB7 (I:=fun nq tq Nq => ∃ (iq:Nat) (o:AV),nq=l.length - iq∧iq≤l.length∧nth zA3 tq 0=a∧nth zA3 tq 3=o∧nth zA3 tq 4=I64 iq∧Wf Nq∧SlM Nq 9 isEl o (elsB (l.take iq))) (n:=l.length) (by omega) ?_ ?_
 ·refine⟨0,NIL,rfl,Nat.zero_le _, ?_, ?_, ?_,Wf.mem0,SlM.nil⟩ <;> simp (maxSteps:=2000000) (disch:=try exact SX) only[RV,zA0,reduceIte,Nat.reduceEqDiff,Nat.reduceBEq,Nat.reduceLT,Nat.reduceAdd,Nat.reduceLeDiff,Nat.reduceSub,Nat.reduceMul,Int.reduceLT,Int.reduceLE,Int.reduceEq,Int.reduceAdd,Int.reduceSub,Int.reduceMul,h0]
  all_goals first | rfl | assumption | done
 ·rintro nq tq Nq hltq ⟨iq,o,rfl,hiq,gq0,gq3,gq4,wq,sq⟩
  simp only[ht] at hltq ⊢
  by_cases hc:iq<l.length
  ·have c1:decide ((iq:Int)<l.length)=true:=DT
   have w1:IntKind.i64.wrap ((iq:Int)+1)=((iq+1:Nat):Int):=WI
   obtain⟨rr,hiad,hri,_⟩:=hS.iad iq hc
   have hmr:=hm l[iq] (List.getElem_mem hc)
   have hsn:=zSG l iq hc
   have htl:=zCV (l:=l.take iq) fun r hr=>hm r (List.mem_of_mem_take hr)
   have htk:(l.take iq).length≤10000:=by rw[List.length_take];omega
   generalize l[iq]=x at *
   obtain⟨ra,rfl,hra,hok⟩:=hri
   have hb:=Spn.may_le (Rn.spB hmr)
   have hlen:=(Rn.may_iffB hmr).1
   obtain⟨m,hmn⟩:∃ m:Nat,x.sp.n=m:=⟨x.sp.n.toNat,by omega⟩
   have hid:=fun n M=>zGA (fuel:=fuel) (d:=d+1) hra n M
   have hbh:=fun n hn M=>zU6 (fuel:=fuel) (d:=d) hra hmr n hn M
   generalize elsB (l.take iq)=E at *
   simp (maxSteps:=2000000) (disch:=try exact SX) only[RV,zA0,reduceIte,Nat.reduceEqDiff,Nat.reduceBEq,Nat.reduceLT,Nat.reduceAdd,Nat.reduceLeDiff,Nat.reduceSub,Nat.reduceMul,Int.reduceLT,Int.reduceLE,Int.reduceEq,Int.reduceAdd,Int.reduceSub,Int.reduceMul,gq0,gq3,gq4,ll,c1,hS.fz.rows,hS.fz.one,hS.fz.cells,hS.fz.icy,hS.fz.frz]
   refine zB7 (I:=fun nk tk Nk => ∃ (ik:Nat) (o2:AV),nk=m - ik∧ik≤m∧nth zA3 tk 0=a∧nth zA3 tk 3=o2∧nth zA3 tk 4=I64 iq∧nth zA3 tk 5=I64 ik∧Wf Nk∧SlM Nk 9 isEl o2 (E++x.elB.take ik)) (n:=m) (by omega) ?_ ?_
   ·refine⟨0,o,rfl,Nat.zero_le _, ?_, ?_, ?_, ?_,wq,(by simpa using sq)⟩ <;> simp (maxSteps:=2000000) (disch:=try exact SX) only[RV,zA0,reduceIte,Nat.reduceEqDiff,Nat.reduceBEq,Nat.reduceLT,Nat.reduceAdd,Nat.reduceLeDiff,Nat.reduceSub,Nat.reduceMul,Int.reduceLT,Int.reduceLE,Int.reduceEq,Int.reduceAdd,Int.reduceSub,Int.reduceMul,gq0,gq3,gq4]
    all_goals first | rfl | assumption | done
   ·rintro nk tk Nk hltk ⟨ik,o2,rfl,hik,gk0,gk3,gk4,gk5,wk,sk⟩
    simp only[hltq] at hltk ⊢
    have ok2:=sk.one
    have ck2:=sk.cells
    have hEl:(E++x.elB.take ik).length≤640064:=by rw[List.length_append,List.length_take,zK9];omega
    by_cases hc2:ik<m
    ·have c2:decide ((ik:Int)<x.sp.n)=true:=DT
     have w2:IntKind.i64.wrap ((ik:Int)+1)=((ik+1:Nat):Int):=WI
     have w3:IntKind.i64.wrap (x.sp.f.c+ik)=x.sp.f.c+ik:=wrap_i64 (by omega) (by omega)
     have hxl:ik<x.rs.length:=by omega
     obtain⟨rc,hia,rfl,_⟩:=hra.iad ik hxl
     have hbh1:=fun M=>hbh ik (by omega) M
     have hok1:(x.sp.at ik).ok:=⟨hok.1.1.1,by show -9223372036854775808≤x.sp.f.c+ik;omega,by show x.sp.f.c+ik≤_;omega⟩
     have hok2:(x.bh ik).ok:=by
      unfold Rn.bh
      split
      ·exact⟨hok.1.1.1,by show -9223372036854775808≤x.sp.f.c+((ik:Int) - 1);omega,by show x.sp.f.c+((ik:Int) - 1)≤_;omega⟩
      ·exact hok.2.1
     have hgd:x.rs.getD ik 0=x.rs[ik]:=by rw[List.getD_eq_getElem?_getD,List.getElem?_eq_getElem hxl];rfl
     have htke:=zW4 x ik (by omega)
     rw[hgd] at htke
     simp (maxSteps:=2000000) (disch:=try exact SX) only[RV,zA0,reduceIte,Nat.reduceEqDiff,Nat.reduceBEq,Nat.reduceLT,Nat.reduceAdd,Nat.reduceLeDiff,Nat.reduceSub,Nat.reduceMul,Int.reduceLT,Int.reduceLE,Int.reduceEq,Int.reduceAdd,Int.reduceSub,Int.reduceMul,gk0,gk3,gk4,gk5,c2,hiad,hra.fz.rows,hra.fz.one,hra.fz.cells,hra.fz.icy,hra.fz.frz,hid,w3,hbh1,hia,wk,ok2,ck2,zAK]
     refine⟨zAM sk.rl (by omega), ?_⟩
     refine app1 (bytes:=56) wk sk zG4 (x:=⟨x.sp.at ik,x.bh ik,x.rs[ik]⟩) ⟨rfl,hok1,hok2⟩ rfl (by omega) (by omega) (by omega) fun o' M' m' w' le' kp' nw' wm' rl' on' oc'=>?_
     simp (maxSteps:=2000000) (disch:=try exact SX) only[RV,zA0,reduceIte,Nat.reduceEqDiff,Nat.reduceBEq,Nat.reduceLT,Nat.reduceAdd,Nat.reduceLeDiff,Nat.reduceSub,Nat.reduceMul,Int.reduceLT,Int.reduceLE,Int.reduceEq,Int.reduceAdd,Int.reduceSub,Int.reduceMul,gk0,gk3,gk4,gk5,w',w2,on',oc']
     exact⟨hltk,m - (ik+1),by omega,ik+1,o',rfl,by omega,rfl,rfl,by rw[htke,← List.append_assoc];exact m'⟩
    ·obtain rfl:ik=m:=by omega
     have c2:decide ((ik:Int)<x.sp.n)=false:=DF
     rw[List.take_of_length_le (by rw[zK9];omega),← hsn] at sk
     simp (maxSteps:=2000000) (disch:=try exact SX) only[RV,zA0,reduceIte,Nat.reduceEqDiff,Nat.reduceBEq,Nat.reduceLT,Nat.reduceAdd,Nat.reduceLeDiff,Nat.reduceSub,Nat.reduceMul,Int.reduceLT,Int.reduceLE,Int.reduceEq,Int.reduceAdd,Int.reduceSub,Int.reduceMul,gk0,gk3,gk4,gk5,c2,hiad,hra.fz.rows,hra.fz.one,hra.fz.cells,hra.fz.icy,hra.fz.frz,w1]
     exact⟨hltk,l.length - (iq+1),by omega,iq+1,o2,rfl,by omega,rfl,rfl,wk,sk⟩
  ·obtain rfl:iq=l.length:=by omega
   have c1:decide ((l.length:Int)<l.length)=false:=DF
   rw[List.take_length] at sq
   have oo:=sq.one
   simp (maxSteps:=2000000) (disch:=try exact SX) only[RV,zA0,reduceIte,Nat.reduceEqDiff,Nat.reduceBEq,Nat.reduceLT,Nat.reduceAdd,Nat.reduceLeDiff,Nat.reduceSub,Nat.reduceMul,Int.reduceLT,Int.reduceLE,Int.reduceEq,Int.reduceAdd,Int.reduceSub,Int.reduceMul,gq0,gq3,gq4,ll,c1,oo,hS.fz.rows,hS.fz.one,hS.fz.cells,hS.fz.icy,hS.fz.frz]
   exact⟨sq.pur,sq⟩
theorem ze3:∀ (r:List AV) (x:El),isEl r x→purL r=true:=fun r x h=>by rw[h.1];simp [purL,purA]
theorem zCD {xs:List AV}{M0:Mem}{a:AV}{l:List Rn}(hS:Sl 10 isRn a l)(hm:∀ r∈l,r.may=true)(hl:l.length≤10000)(hf:l.length+200<fuel)(hi:icyL (icy 12) M xs=some ([a],M0))(wf:Wf M)(k:∀ r N,Kept M N→SlM N 9 isEl r (elsB l)→(∀ j,rowOf r=some j→M.size≤j)→Q r N):W3 (zCN fuel (d+3) 34 xs M) Q:=by
 refine zCX.use (zQZ (fuel:=fuel) (d:=d) hS hm hl hf) hi wf fun r M2 hr=>k _ _ (zD5 wf) (hr.sh ze3 zG4 (zPZ wf)) fun j hj=>?_
 exact zB0o
def whI (l:List El)(x:Eid):Int:=posF (fun e=>decide (e.id=x)) l
theorem zbY (l:List El)(x:Eid):decide (0≤whI l x)=l.any fun e=>decide (e.id=x):=zKT _ _
theorem zDP {a:AV}{l:List El}(hS:Sl 9 isEl a l)(x:Eid)(hl:l.length≤1000000000)(hf:l.length<fuel)(M:Mem):zCN fuel (d+1) 35 [a,idA x] M=some (I64 (whI l x),M):=by
 have ll:=hS.len
 apply zBA
 refine zK6 tf35 rfl (by simp only[icyL,fun M=>hS.icy M 12 (by omega),zBS (zEN x) (show 1<12 by omega)]) (by simp [a35]) fun b' ht hx=>?_
 obtain⟨h0,h1⟩:=hx2 hx
 clear hx
 simp only[a35,c35] at ht ⊢
 unfold whI
 simp (maxSteps:=2000000) (disch:=try exact SX) only[RV,zA0,reduceIte,Nat.reduceEqDiff,Nat.reduceBEq,Nat.reduceLT,Nat.reduceAdd,Nat.reduceLeDiff,Nat.reduceSub,Nat.reduceMul,Int.reduceLT,Int.reduceLE,Int.reduceEq,Int.reduceAdd,Int.reduceSub,Int.reduceMul,h0,h1,hS.fz.rows,hS.fz.one,hS.fz.cells,hS.fz.icy,hS.fz.frz]
 refine zB7 (I:=fun n t N => ∃ (i:Nat),n=l.length - i∧i≤l.length∧nth zA3 t 0=a∧nth zA3 t 3 = .ptr 0 0∧nth zA3 t 5=I64 i∧Wf N∧N.get 0=some (.row false (idR x))∧(∀ j (x1:j<l.length),j<i→decide (l[j].id=x)=false)) (n:=l.length) (by omega) ?_ ?_
 ·refine⟨0,rfl,Nat.zero_le _, ?_, ?_, ?_,Wf.mem0.add _,by simp (maxSteps:=2000000) (disch:=try exact SX) only[RV,zA0,reduceIte,Nat.reduceEqDiff,Nat.reduceBEq,Nat.reduceLT,Nat.reduceAdd,Nat.reduceLeDiff,Nat.reduceSub,Nat.reduceMul,Int.reduceLT,Int.reduceLE,Int.reduceEq,Int.reduceAdd,Int.reduceSub,Int.reduceMul],(fun _ _ h=>absurd h (by omega))⟩ <;> simp (maxSteps:=2000000) (disch:=try exact SX) only[RV,zA0,reduceIte,Nat.reduceEqDiff,Nat.reduceBEq,Nat.reduceLT,Nat.reduceAdd,Nat.reduceLeDiff,Nat.reduceSub,Nat.reduceMul,Int.reduceLT,Int.reduceLE,Int.reduceEq,Int.reduceAdd,Int.reduceSub,Int.reduceMul,h0,h1]
  all_goals first | rfl | assumption | done
 ·rintro n t N hlt ⟨i,rfl,hi,g0,g3,g5,w,g,hj⟩
  simp only[ht] at hlt ⊢
  have lg:=Mem.get_lt g
  by_cases hc:i<l.length
  ·have q1:decide ((i:Int)<l.length)=true:=DT
   have w1:IntKind.i64.wrap ((i:Int)+1)=((i+1:Nat):Int):=WI
   obtain⟨r,hiad,⟨rfl,_⟩,_⟩:=hS.iad i hc
   cases q2:decide (l[i].id=x) with
   | true =>
    have e:=zFO (p:=fun e:El=>decide (e.id=x)) hc q2 (fun j hj'=>hj j (by omega) hj')
    simp (maxSteps:=2000000) (disch:=try exact SX) only[RV,zA0,reduceIte,Nat.reduceEqDiff,Nat.reduceBEq,Nat.reduceLT,Nat.reduceAdd,Nat.reduceLeDiff,Nat.reduceSub,Nat.reduceMul,Int.reduceLT,Int.reduceLE,Int.reduceEq,Int.reduceAdd,Int.reduceSub,Int.reduceMul,g0,g3,g5,ll,q1,hiad,g,↓pIdE,zAE,↓pIdN,zAB,↓pHdE,zAC,↓pHdN,zAD,↓pLbE,zAF,↓pLbN,zAG,↓pSpE,zAH,↓pSpN,zAI,ETA,q2,hS.fz.rows,hS.fz.one,hS.fz.cells,hS.fz.icy,hS.fz.frz,e,zL3]
   | false =>
    simp (maxSteps:=2000000) (disch:=try exact SX) only[RV,zA0,reduceIte,Nat.reduceEqDiff,Nat.reduceBEq,Nat.reduceLT,Nat.reduceAdd,Nat.reduceLeDiff,Nat.reduceSub,Nat.reduceMul,Int.reduceLT,Int.reduceLE,Int.reduceEq,Int.reduceAdd,Int.reduceSub,Int.reduceMul,g0,g3,g5,ll,q1,hiad,g,↓pIdE,zAE,↓pIdN,zAB,↓pHdE,zAC,↓pHdN,zAD,↓pLbE,zAF,↓pLbN,zAG,↓pSpE,zAH,↓pSpN,zAI,ETA,q2,w1,hS.fz.rows,hS.fz.one,hS.fz.cells,hS.fz.icy,hS.fz.frz]
    exact⟨hlt,l.length - (i+1),by omega,i+1,rfl,by omega,rfl,w,fun j x1 hj'=>by
     rcases Nat.lt_succ_iff_lt_or_eq.1 hj' with h | rfl
     ·exact hj j x1 h
     ·exact q2⟩
  ·obtain rfl:i=l.length:=by omega
   have q1:decide ((l.length:Int)<l.length)=false:=DF
   have e:=zGU (p:=fun e:El=>decide (e.id=x)) (l:=l) (fun j hj'=>hj j hj' hj')
   simp (maxSteps:=2000000) (disch:=try exact SX) only[RV,zA0,reduceIte,Nat.reduceEqDiff,Nat.reduceBEq,Nat.reduceLT,Nat.reduceAdd,Nat.reduceLeDiff,Nat.reduceSub,Nat.reduceMul,Int.reduceLT,Int.reduceLE,Int.reduceEq,Int.reduceAdd,Int.reduceSub,Int.reduceMul,g0,g3,g5,ll,q1,hS.fz.rows,hS.fz.one,hS.fz.cells,hS.fz.icy,hS.fz.frz,e,zL3]
theorem zCE {o:Rn}{ra:AV}(hS:Sl 1 zAY ra o.rs)(hf:100<fuel)(M:Mem):zCN fuel (d+6) 23 [.agg (rnR o ra)] M=some (I64 (err o.may),M):=by
 have ll:=hS.len
 have hc:=fun M=>@zSA fuel (d+2) o.af M
 have hs:=fun M=>@zI5 fuel (d+1) o.sp M
 have hr:=fun M=>zR5 (fuel:=fuel) (d:=d) hS hf M
 apply zBA
 refine zAL tf23 rfl (by simp only[icyL,zBX hS.fz]) (by simp [a23]) fun b' ht hx=>?_
 have h0:=hx 0 _ rfl
 clear hx
 simp only[a23,c23] at ht ⊢
 unfold Rn.may
 cases q0:o.sp.may <;> rw[q0] at hs <;> simp only[Bool.false_and,Bool.true_and]
 all_goals
  cases q1:decide (o.af=Eid.z)
  ·cases q2:o.af.may <;> rw[q2] at hc
   ·simp (disch:=try exact SX) only[RV,seval,zA0,h0,hS.fz.rows,hS.fz.one,hS.fz.cells,hS.fz.icy,hS.fz.frz,↓pIdE,zAE,↓pIdN,zAB,↓pHdE,zAC,↓pHdN,zAD,↓pLbE,zAF,↓pLbN,zAG,↓pSpE,zAH,↓pSpN,zAI,ETA,q1,hc,hs,zBP,zCH,z00,z80,Bool.false_and]
   ·cases q3:decide (o.af.c<o.sp.f.c)
    ·simp (disch:=try exact SX) only[RV,seval,zA0,h0,hS.fz.rows,hS.fz.one,hS.fz.cells,hS.fz.icy,hS.fz.frz,↓pIdE,zAE,↓pIdN,zAB,↓pHdE,zAC,↓pHdN,zAD,↓pLbE,zAF,↓pLbN,zAG,↓pSpE,zAH,↓pSpN,zAI,ETA,q1,hc,hs,q3,zBP,zCH,z00,z80,Bool.false_and]
    ·cases q4:decide ((o.rs.length:Int)=o.sp.n)
     ·simp (disch:=try exact SX) only[RV,seval,zA0,h0,hS.fz.rows,hS.fz.one,hS.fz.cells,hS.fz.icy,hS.fz.frz,↓pIdE,zAE,↓pIdN,zAB,↓pHdE,zAC,↓pHdN,zAD,↓pLbE,zAF,↓pLbN,zAG,↓pSpE,zAH,↓pSpN,zAI,ETA,q1,hc,hs,q3,q4,ll,zBP,zCH,z00,z80,Bool.false_and]
     ·cases q5:decide (chkR o.rs=0)
      ·exact zB0a
      ·exact zB0a
  ·cases q4:decide ((o.rs.length:Int)=o.sp.n)
   ·simp (disch:=try exact SX) only[RV,seval,zA0,h0,hS.fz.rows,hS.fz.one,hS.fz.cells,hS.fz.icy,hS.fz.frz,↓pIdE,zAE,↓pIdN,zAB,↓pHdE,zAC,↓pHdN,zAD,↓pLbE,zAF,↓pLbN,zAG,↓pSpE,zAH,↓pSpN,zAI,ETA,q1,hc,hs,q4,ll,zBP,zCH,z00,z80,Bool.false_and]
   ·cases q5:decide (chkR o.rs=0)
    ·exact zB0b
    ·exact zB0b
def Lb.ahead (a b:Lb):Bool:=decide (a.lv<b.lv) || (decide (a.lv=b.lv)&&decide (a.cats<b.cats))
def Eid.less (x y:Eid):Bool:=if x.c=y.c then (if x.hd.lb=y.hd.lb then decide (x.hd.num<y.hd.num) else x.hd.lb.ahead y.hd.lb) else decide (x.c<y.c)
theorem zRR (a b:Lb)(M:Mem):zCN fuel (d+1) 61 [lbA a,lbA b] M=some (BL (a.ahead b),M):=by
 have pLbE:=@pLbE
 apply zBA
 refine zAL tf61 rfl (by simp (disch:=try exact SX) only[RV,seval,zA0]) (by simp [a61]) fun b' ht hx=>?_
 obtain⟨h0,h1⟩:=hx2 hx
 clear hx
 simp only[a61,c61] at ht ⊢
 unfold Lb.ahead
 cases q1:decide (a.lv<b.lv) with
 | true=>simp (disch:=try exact SX) only[RV,seval,zA0,h0,h1,q1,↓pIdE,zAE,↓pIdN,zAB,↓pHdE,zAC,↓pHdN,zAD,↓pLbE,zAF,↓pLbN,zAG,↓pSpE,zAH,↓pSpN,zAI,ETA,Bool.true_or]
 | false =>
  have e:decide (a=(⟨b.lv,a.cats⟩:Lb))=decide (a.lv=b.lv):=by
   rw[Bool.eq_iff_iff,decide_eq_true_iff,decide_eq_true_iff]
   constructor
   ·intro h;rw[h]
   ·intro h
    obtain⟨x,y⟩:=a
    simp only at h ⊢
    rw[h]
  cases q2:decide (a.lv=b.lv) with
  | true =>
   rw[q2] at e
   simp (disch:=try exact SX) only[RV,seval,zA0,h0,h1,q1,↓pIdE,zAE,↓pIdN,zAB,↓pHdE,zAC,↓pHdN,zAD,↓pLbE,zAF,↓pLbN,zAG,↓pSpE,zAH,↓pSpN,zAI,ETA,e,Bool.false_or,Bool.true_and]
  | false =>
   rw[q2] at e
   simp (disch:=try exact SX) only[RV,seval,zA0,h0,h1,q1,↓pIdE,zAE,↓pIdN,zAB,↓pHdE,zAC,↓pHdN,zAD,↓pLbE,zAF,↓pLbN,zAG,↓pSpE,zAH,↓pSpN,zAI,ETA,e,Bool.false_or,Bool.false_and]
theorem zF8 (x y:Eid)(M:Mem):zCN fuel (d+2) 28 [idA x,idA y] M=some (BL (x.less y),M):=by
 have pLbN:=@pLbN
 have ha:=fun M=>@zRR fuel d x.hd.lb y.hd.lb M
 apply zBA
 refine zAL tf28 rfl (by simp (disch:=try exact SX) only[RV,seval,zA0]) (by simp [a28]) fun b' ht hx=>?_
 obtain⟨h0,h1⟩:=hx2 hx
 clear hx
 simp only[a28,c28] at ht ⊢
 unfold Eid.less
 by_cases q1:x.c=y.c
 ·have q1':decide (x.c=y.c)=true:=decide_eq_true q1
  by_cases q2:x.hd.lb=y.hd.lb
  ·have q2':decide (x.hd.lb=y.hd.lb)=true:=decide_eq_true q2
   simp only[if_pos q1,if_pos q2]
   simp (disch:=try exact SX) only[RV,seval,zA0,h0,h1,q1',↓pIdE,zAE,↓pIdN,zAB,↓pHdE,zAC,↓pHdN,zAD,↓pLbE,zAF,↓pLbN,zAG,↓pSpE,zAH,↓pSpN,zAI,ETA,q2']
  ·have q2':decide (x.hd.lb=y.hd.lb)=false:=decide_eq_false q2
   simp only[if_pos q1,if_neg q2]
   simp (disch:=try exact SX) only[RV,seval,zA0,h0,h1,q1',↓pIdE,zAE,↓pIdN,zAB,↓pHdE,zAC,↓pHdN,zAD,↓pLbE,zAF,↓pLbN,zAG,↓pSpE,zAH,↓pSpN,zAI,ETA,q2',ha]
 ·have q1':decide (x.c=y.c)=false:=decide_eq_false q1
  simp only[if_neg q1]
  simp (disch:=try exact SX) only[RV,seval,zA0,h0,h1,q1']
def cutE (s:Spn)(n:Int):Int:=if s.may then (if n≤0∨s.n≤n then 2 else 0) else 8
def spZ:Spn:=⟨Eid.z,0⟩
theorem zQQ (s:Spn)(n:Int)(M:Mem):zCN fuel (d+6) 85 [spA s,I64 n] M=some (if cutE s n=0 then .tup [spA ⟨s.f,n⟩,spA ⟨s.at n,s.n - n⟩,I64 0] else .tup [spA spZ,spA spZ,I64 (cutE s n)],M):=by
 have hat:=fun M=>@zLR fuel d s n M
 apply zBA
 refine zAL tf85 rfl (by simp (disch:=try exact SX) only[RV,seval,zA0]) (by simp [a85]) fun b' ht hx=>?_
 obtain⟨h0,h1⟩:=hx2 hx
 clear hx
 simp only[a85,c85] at ht ⊢
 unfold cutE spZ
 cases hm:s.may with
 | false =>
  simp only[hm,Bool.false_eq_true,if_false] at hat
  simp (disch:=try exact SX) only[RV,seval,zA0,h0,h1,hat,z80,Bool.false_eq_true,if_false]
  all_goals rfl
 | true =>
  simp only[hm,if_true] at hat
  have hb:=Spn.may_le hm
  by_cases q0:n<0∨s.n≤n
  ·simp only[q0,if_true] at hat
   have q2:n≤0∨s.n≤n:=by omega
   have q3:decide (n=0)=false:=DF
   simp (disch:=try exact SX) only[RV,seval,zA0,h0,h1,hat,q2,q3,if_true]
   all_goals rfl
  ·simp only[q0,if_false] at hat
   by_cases q3:n=0
   ·have q3':decide (n=0)=true:=decide_eq_true q3
    have q2:n≤0∨s.n≤n:=by omega
    simp (disch:=try exact SX) only[RV,seval,zA0,h0,h1,hat,q2,q3',z00,if_true]
    all_goals rfl
   ·have q3':decide (n=0)=false:=decide_eq_false q3
    have q2:¬(n≤0∨s.n≤n):=by omega
    have w1:IntKind.i64.wrap (s.n - n)=s.n - n:=wrap_i64 (by omega) (by omega)
    simp (disch:=try exact SX) only[RV,seval,zA0,h0,h1,hat,q2,q3',z00,if_true,if_false,w1]
    rfl
theorem zSP {a b:AV}{l m:List Int}(ha:Sl 1 zAY a l)(hb:Sl 1 zAY b m)(hf:l.length<fuel)(hl:l.length≤1000000000)(M:Mem) :
  zCN fuel (d+1) 79 [a,b] M=some (BL (decide (l=m)),M):=by
 have hla:=ha.len
 have hlb:=hb.len
 apply zBA
 refine zAL tf79 rfl (by simp (disch:=try exact SX) only[RV,seval,zA0,ha.fz.rows,ha.fz.one,ha.fz.cells,ha.fz.icy,ha.fz.frz,hb.fz.rows,hb.fz.one,hb.fz.cells,hb.fz.icy,hb.fz.frz]) (by simp [a79]) fun b' ht hx=>?_
 obtain⟨h0,h1⟩:=hx2 hx
 clear hx
 simp only[a79,c79] at ht ⊢
 by_cases hll:l.length=m.length
 ·have q1:decide ((l.length:Int)=m.length)=true:=by simp;omega
  simp (disch:=try exact SX) only[RV,seval,zA0,h0,h1,hla,hlb,ha.fz.rows,ha.fz.one,ha.fz.cells,ha.fz.icy,ha.fz.frz,hb.fz.rows,hb.fz.one,hb.fz.cells,hb.fz.icy,hb.fz.frz,q1]
  refine zB7 (I:=fun n t N => ∃ (i:Nat),n=l.length - i∧i≤l.length∧nth zA3 t 0=a∧nth zA3 t 1=b∧nth zA3 t 11=a∧nth zA3 t 12=I64 l.length∧nth zA3 t 13=I64 i∧l.take i=m.take i) (n:=l.length) (by omega) ?_ ?_
  ·refine⟨0,rfl,Nat.zero_le _, ?_, ?_, ?_, ?_, ?_,rfl⟩ <;> simp (disch:=try exact SX) only[RV,seval,zA0,h0,h1,hla]
   all_goals first | rfl | assumption | done
  ·rintro n t N hlt ⟨i,rfl,hi,g0,g1,g11,g12,g13,tk⟩
   simp only[ht] at hlt ⊢
   by_cases hlt':i<l.length
   ·have hc':decide ((i:Int)<l.length)=true:=by simp;omega
    have hmt:i<m.length:=by omega
    have w1:IntKind.i64.wrap ((i:Int)+1)=((i+1:Nat):Int):=WI
    obtain⟨r,hr,rfl,_⟩:=ha.iad i hlt'
    obtain⟨r2,hr2,rfl,_⟩:=hb.iad i hmt
    by_cases he:l[i]=m[i]
    ·have q2:decide (l[i]=m[i])=true:=by simp [he]
     simp (disch:=try exact SX) only[RV,seval,zA0,g0,g1,g11,g12,g13,hc',hr,hr2,w1,q2]
     exact zB0h
    ·have q2:decide (l[i]=m[i])=false:=by simp [he]
     simp (disch:=try exact SX) only[RV,seval,zA0,g0,g1,g11,g12,g13,hc',hr,hr2,w1,q2]
     exact zB0y
   ·have hc':decide ((i:Int)<l.length)=false:=by simp;omega
    simp (disch:=try exact SX) only[RV,seval,zA0,g0,g1,g11,g12,g13,hc']
    exact zB0e
 ·have q1:decide ((l.length:Int)=m.length)=false:=by simp;omega
  have q3:decide (l=m)=false:=by
   simp only[decide_eq_false_iff_not]
   rintro rfl;exact hll rfl
  simp (disch:=try exact SX) only[RV,seval,zA0,h0,h1,hla,hlb,ha.fz.rows,ha.fz.one,ha.fz.cells,ha.fz.icy,ha.fz.frz,hb.fz.rows,hb.fz.one,hb.fz.cells,hb.fz.icy,hb.fz.frz,q1,q3]
def rnEq (o p:Rn):Bool:=decide (o.sp=p.sp)&&decide (o.af=p.af)&&decide (o.rs=p.rs)
theorem zFA (o p:Rn):rnEq o p=true↔o=p:=by
 obtain⟨a1,a2,a3⟩:=o
 obtain⟨b1,b2,b3⟩:=p
 simp [rnEq,and_assoc]
theorem zFS {o p:Rn}{ra rb:AV}(hR:Sl 1 zAY ra o.rs)(hP:Sl 1 zAY rb p.rs)(hl:o.rs.length≤1000000000)(hf:o.rs.length<fuel)(M:Mem):zCN fuel (d+2) 52 [.agg (rnR o ra),.agg (rnR p rb)] M=some (BL (rnEq o p),M):=by
 have ora:=hR.one
 have orb:=hP.one
 have hs:=fun M=>zSP (fuel:=fuel) (d:=d) hR hP hf hl M
 apply zBA
 refine zAL tf52 rfl (by simp only[icyL,zBX hR.fz,zBX hP.fz]) (by simp [a52]) fun b' ht hx=>?_
 obtain⟨h0,h1⟩:=hx2 hx
 clear hx
 simp only[a52,c52] at ht ⊢
 exact zB04
def rnH (o:Rn):List AV:=spR o.sp++idR o.af
theorem zI9 (o:Rn):∀ y∈rnH o,Fz y:=fun y hy=>(List.mem_append.1 hy).elim (zcJ _ y) (zEN _ y)
theorem zKV:∀ (r:List AV) (x:Int),zAY r x→purL r=true:=fun r x h=>by rw[show r=_ from h];simp [purL,purA]
theorem zU2 (M:Mem)(k:Nat):∀ (r:List AV) (x:Int),zAY r x→r.all (ownV M (k+1))=true:=fun r x h=>by rw[show r=_ from h];simp [ownV]
theorem zT7 {o:Rn}{ra:AV}(h:Fz ra)(M:Mem):icyL (icy 12) M [.agg (rnR o ra)]=some ([.agg (rnR o ra)],M):=by simp only[icyL,zBX h]
theorem zZ2 (o:Rn){a:AV}(h:purA a=true):purA (.agg (rnR o a))=true:=by simp [purA,purL,h]
theorem zU4 {M:Mem}{k:Nat}(o:Rn){a:AV}(h:ownV M (k+1) a=true):ownV M (k+2) (.agg (rnR o a))=true:=by
 have e:∀ v,ownV M (k+1) (.sc v)=true:=fun v=>by simp [ownV]
 show (rnR o a).all (ownV M (k+1))=true
 simp only[List.all_cons,List.all_nil,e,h,Bool.and_true]
theorem zOE {o:Rn}{ra:AV}(hR:Sl 1 zAY ra o.rs)(hl:o.rs.length≤1000000000):zCX Try.prog (fsT tbl) fuel (d+1) 48 [.agg (rnR o ra)] (RowR (rnH o) zAY o.rs):=by
 have ora:=hR.one
 refine zDO tf48 rfl (by simp [a48]) fun b' ht hx=>?_
 have h0:=hx 0 _ rfl
 clear hx
 simp only[a48,c48] at ht ⊢
 simp (disch:=try exact SX) only[RV,seval,zA0,h0,hR.fz.rows,hR.fz.one,hR.fz.cells,hR.fz.icy,hR.fz.frz]
 refine zU8 hR hl (by simp (disch:=try exact SX) only[RV,seval,zA0]) fun a' M' wf' le' kp' sm' new' wm' di'=>?_
 have hsz:2≤M'.size:=le'
 have g0:M'.get 0=some (.row false (rnR o ra)):=by rw[kp' 0 (by show 0<2;omega)];simp (disch:=try exact SX) only[RV,seval,zA0]
 have g1:M'.get 1=some (.row false (rnR ⟨⟨Eid.z,0⟩,Eid.z,[]⟩ NIL)):=by rw[kp' 1 (by show 1<2;omega)];simp (disch:=try exact SX) only[RV,seval,zA0]
 have oa:=sm'.one
 have ca:=sm'.cells
 have rl:=zAM sm'.rl (Nat.le_refl M'.size)
 have nr:∀ j,rowOf a'=some j→2≤j:=new'
 simp (disch:=try exact SX) only[RV,seval,zA0,h0,wf',g0,g1,oa,ca,rl]
 refine⟨zZ2 o sm'.pur,a',rfl,sm'.keep fun j hj=>?_⟩
 have:=nr j hj
 rw[zA2 (wf'.upd _ _) _ _ _ (by omega),zA2 wf' _ _ _ (by omega)]
theorem zCR {o:Rn}{ra:AV}(hR:Sl 1 zAY ra o.rs)(hl:o.rs.length≤1000000000)(wf:Wf M)(k:∀ a N,Kept M N→SlM N 1 zAY a o.rs→(∀ j,rowOf a=some j→M.size≤j)→Q (.agg (rnR o a)) N):W3 (zCN fuel (d+2) 48 [.agg (rnR o ra)] M) Q :=
 zCX.row (zOE hR hl) (zT7 hR.fz M) wf (zI9 o) zKV zD4 k
def Rn.last (r:Rn):Eid:=if r.sp.may then r.sp.at (r.sp.n - 1) else Eid.z
theorem last_any {o:Rn}{ra:AV}(hR:Sl 1 zAY ra o.rs):∃ v,v=idA o.last ∧ ∀ M xs M0,icyL (icy 12) M xs=some ([.agg (rnR o ra)],M0)→zCN fuel (d+6) 62 xs M=some (v,M):=by
 have ora:=hR.one
 have hat:=fun M=>@zLR fuel d o.sp (IntKind.i64.wrap (o.sp.n - 1)) M
 refine zS2 tf62 rfl (fun M=>by simp only[icyL,zBX hR.fz]) (by simp [a62]) fun b' ht hx=>?_
 have h0:=hx 0 _ rfl
 clear hx
 simp only[a62,c62] at ht ⊢
 unfold Rn.last
 cases hm:o.sp.may with
 | false =>
  simp only[hm,Bool.false_eq_true,if_false] at hat
  simp (disch:=try exact SX) only[RV,seval,zA0,h0,hR.fz.rows,hR.fz.one,hR.fz.cells,hR.fz.icy,hR.fz.frz,hat,Bool.false_eq_true,if_false,zF3,zCO]
  first | rfl | simp [ownV]
 | true =>
  have hb:=Spn.may_le hm
  rw[wrap_i64 (by omega) (by omega)] at hat
  have w1:IntKind.i64.wrap (o.sp.n - 1)=o.sp.n - 1:=wrap_i64 (by omega) (by omega)
  simp only[hm,if_true,if_neg (show ¬(o.sp.n - 1<0∨o.sp.n≤o.sp.n - 1) by omega)] at hat
  simp (disch:=try exact SX) only[RV,seval,zA0,h0,hR.fz.rows,hR.fz.one,hR.fz.cells,hR.fz.icy,hR.fz.frz,hat,w1,if_true,zF3,zCO]
  first | rfl | simp [ownV]
theorem zTG {o:Rn}{x:AV}(hS:SlM M 1 zAY x o.rs)(wf:Wf M):zCN fuel (d+6) 62 [.agg (rnR o x)] M=some (idA o.last,M):=by
 obtain⟨a',N',i1,b1,_⟩:=zHN (H:=rnH o) (zI9 o) hS wf zD4 (k:=12) (by omega)
 obtain⟨v,rfl,hc⟩:=last_any (fuel:=fuel) (d:=d) (o:=o) b1
 have i1:icy 12 M (.agg (rnR o x))=some (.agg (rnR o a'),N'):=i1
 exact hc M _ N' (by simp only[icyL,i1])
theorem zPA {o:Rn}{x:AV}(hS:SlM M 1 zAY x o.rs)(wf:Wf M)(k:Q (idA o.last) M):W3 (zCN fuel (d+6) 62 [.agg (rnR o x)] M) Q:=⟨_,_,zTG hS wf,k⟩
def Rn.z:Rn:=⟨⟨Eid.z,0⟩,Eid.z,[]⟩
theorem zXE {o:Rn}{ra:AV}(hR:Sl 1 zAY ra o.rs)(hl:o.rs.length≤1000000000):zCX Try.prog (fsT tbl) fuel (d+1) 86 [.agg (rnR o ra)] (RowR (rnH o) zAY o.rs):=by
 have ora:=hR.one
 refine zDO tf86 rfl (by simp [a86]) fun b' ht hx=>?_
 have h0:=hx 0 _ rfl
 clear hx
 simp only[a86,c86] at ht ⊢
 simp (disch:=try exact SX) only[RV,seval,zA0,h0,hR.fz.rows,hR.fz.one,hR.fz.cells,hR.fz.icy,hR.fz.frz]
 refine zU8 hR hl (by simp (disch:=try exact SX) only[RV,seval,zA0]) fun a' M' wf' le' kp' sm' new' wm' di'=>?_
 have hd:M'.dirty=false:=di'
 have hsz:2≤M'.size:=le'
 have g0:M'.get 0=some (.row false (rnR o ra)):=by rw[kp' 0 (by show 0<2;omega)];simp (disch:=try exact SX) only[RV,seval,zA0]
 have g1:M'.get 1=some (.row false (rnR ⟨⟨Eid.z,0⟩,Eid.z,[]⟩ NIL)):=by rw[kp' 1 (by show 1<2;omega)];simp (disch:=try exact SX) only[RV,seval,zA0]
 have oa:=sm'.one
 have ca:=sm'.cells
 have rl:=zAM sm'.rl (Nat.le_refl M'.size)
 have nr:∀ j,rowOf a'=some j→2≤j:=new'
 simp (disch:=try exact SX) only[RV,seval,zA0,h0,hd,wf',g0,g1,oa,ca,rl]
 refine⟨zZ2 o sm'.pur,a',rfl,sm'.keep fun j hj=>?_⟩
 have:=nr j hj
 simp (disch:=try exact SX) only[RV,seval,zA0,wf']
theorem zPP {o:Rn}{ra:AV}(hR:Sl 1 zAY ra o.rs)(hl:o.rs.length≤1000000000)(wf:Wf M)(k:∀ a N,Kept M N→SlM N 1 zAY a o.rs→(∀ j,rowOf a=some j→M.size≤j)→Q (.agg (rnR o a)) N):W3 (zCN fuel (d+2) 86 [.agg (rnR o ra)] M) Q :=
 zCX.row (zXE hR hl) (zT7 hR.fz M) wf (zI9 o) zKV zD4 k
def Rn.cutE (r:Rn)(n:Int):Int:=if r.may then Go.Proofs.Ytdgikiebohcohaa.cutE r.sp n else 8
def Rn.fst (r:Rn)(n:Int):Rn:=⟨⟨r.sp.f,n⟩,r.af,r.rs.take n.toNat⟩
def Rn.snd (r:Rn)(n:Int):Rn:=⟨⟨r.sp.at n,r.sp.n - n⟩,r.sp.at (n - 1),r.rs.drop n.toNat⟩
def Rn.cutA (r:Rn)(n:Int):Rn:=if r.cutE n=0 then r.fst n else Rn.z
def Rn.cutB (r:Rn)(n:Int):Rn:=if r.cutE n=0 then r.snd n else Rn.z
theorem cutE_iff {s:Spn}{n:Int}:cutE s n=0↔s.may=true∧0<n∧n<s.n:=by
 unfold cutE
 cases s.may <;> simp
theorem Rn.cutE_iff {r:Rn}{n:Int}:r.cutE n=0↔r.may=true∧0<n∧n<r.sp.n:=by
 unfold Rn.cutE
 cases h:r.may
 ·simp
 ·rw[if_pos rfl,Go.Proofs.Ytdgikiebohcohaa.cutE_iff]
  unfold Rn.may at h
  simp only[Bool.and_eq_true] at h
  simp [h.1.1.1]
theorem Rn.may_sp {r:Rn}(h:r.may=true):r.sp.may=true:=by
 unfold Rn.may at h
 simp only[Bool.and_eq_true] at h
 exact h.1.1.1
theorem Rn.may_len {r:Rn}(h:r.may=true):(r.rs.length:Int)=r.sp.n:=by
 unfold Rn.may at h
 simp only[Bool.and_eq_true,decide_eq_true_eq] at h
 exact h.1.2
theorem za1 {s:Spn}{n:Int}(h:s.may=true)(h0:0<n)(h1:n≤s.n):(⟨s.f,n⟩:Spn).may=true:=by
 have:=Spn.may_le h
 unfold Spn.may at *
 simp only[Bool.and_eq_true,decide_eq_true_eq] at *
 exact⟨⟨⟨h.1.1.1,by omega⟩,by omega⟩,by omega⟩
def cutK (r:Rn)(n:Int)(v:AV):Prop:=∃ ra rb,v = .tup [.agg (rnR (r.cutA n) ra),.agg (rnR (r.cutB n) rb),I64 (r.cutE n)]∧Sl 1 zAY ra (r.cutA n).rs∧Sl 1 zAY rb (r.cutB n).rs
theorem zJY {o:Rn}{ra:AV}{n:Int}(hR:Sl 1 zAY ra o.rs)(hf:100<fuel):∃ v,cutK o n v ∧ ∀ M xs M0,icyL (icy 12) M xs=some ([.agg (rnR o ra),I64 n],M0)→zCN fuel (d+7) 59 xs M=some (v,M):=by
 have ora:=hR.one
 have hck:=fun M=>@zCE fuel d o ra hR hf M
 have hic:=fun M=>@zQQ fuel d o.sp n M
 unfold cutK Rn.cutA Rn.cutB Rn.cutE
 have hsc:∀ (M:Mem) v,ownV M 12 (.sc v)=true:=fun M v=>by simp [ownV]
 have hrz:∀ (M:Mem) (o:Rn),ownV M 12 (.agg (rnR o NIL))=true:=fun M o=>zU4 o zU3
 refine zS2 tf59 rfl (fun M=>by simp only[icyL,zBX hR.fz,zQO]) (by simp [a59]) fun b' ht hx=>?_
 obtain⟨h0,h1⟩:=hx2 hx
 clear hx
 simp only[a59,c59] at ht ⊢
 cases hm:o.may with
 | false =>
  rw[hm] at hck
  simp only[Bool.false_eq_true,if_false]
  simp (disch:=try exact SX) only[RV,seval,zA0,h0,h1,hR.fz.rows,hR.fz.one,hR.fz.cells,hR.fz.icy,hR.fz.frz,hck,zCH,z80,zF3,zCO]
  exact⟨rfl,by simp [ownV],NIL,NIL,rfl,.inl ⟨rfl,rfl⟩,.inl ⟨rfl,rfl⟩⟩
 | true =>
  rw[hm] at hck
  simp only[if_true]
  by_cases q:cutE o.sp n=0
  ·simp only[q,if_true] at hic ⊢
   obtain⟨c1,c2,c3⟩:=cutE_iff.1 q
   have hb:=Spn.may_le c1
   have hml:=Rn.may_len hm
   obtain⟨m,rfl⟩:∃ m:Nat,n=m:=⟨n.toNat,by omega⟩
   have hat:=fun M=>@zLR fuel (d+1) ⟨o.sp.f,m⟩ ((m:Int) - 1) M
   rw[if_pos (za1 c1 c2 (by omega))] at hat
   simp only[if_neg (show ¬((m:Int) - 1<0∨(m:Int)≤(m:Int) - 1) by omega)] at hat
   have w1:IntKind.i64.wrap ((m:Int) - 1)=(m:Int) - 1:=wrap_i64 (by omega) (by omega)
   obtain⟨r1,s1,b1⟩:=zbJ hR (j:=m) (by omega)
   obtain⟨r2,s2,b2⟩:=zUO hR (i:=m) (by omega)
   have o1:=b1.one
   have o2:=b2.one
   have e1:(⟨o.sp.f,(m:Int)⟩:Spn).at ((m:Int) - 1)=o.sp.at ((m:Int) - 1):=rfl
   rw[e1] at hat
   simp (disch:=try exact SX) only[RV,seval,zA0,h0,h1,hR.fz.rows,hR.fz.one,hR.fz.cells,hR.fz.icy,hR.fz.frz,hck,zBP,z00,hic,hat,w1,s1,s2,b1.fz.rows,b1.fz.one,b1.fz.cells,b1.fz.icy,b1.fz.frz,b2.fz.rows,b2.fz.one,b2.fz.cells,b2.fz.icy,b2.fz.frz,zF3,zCO]
   refine zPP (fuel:=fuel) (d:=d+4) (o:=o.fst m) b1 (by simp only[Rn.fst,List.length_take,Int.toNat_natCast];omega) (by simp (disch:=try exact SX) only[RV,seval,zA0]) fun pa N kN sN nN=>?_
   have wN:=kN.wf
   have dN:N.dirty=false:=kN.di
   have zN:6≤N.size:=kN.le
   have k0:=kN.get 0 (by show 0<6;omega)
   have k1:=kN.get 1 (by show 1<6;omega)
   have k2:=kN.get 2 (by show 2<6;omega)
   have k4:=kN.get 4 (by show 4<6;omega)
   have k5:=kN.get 5 (by show 5<6;omega)
   simp (disch:=try exact SX) only[RV,seval,zA0] at k0 k1 k2 k4 k5
   have nN':∀ j,rowOf pa=some j→6≤j:=nN
   have oN:=sN.one
   have rN:=zAM sN.rl (Nat.le_refl N.size)
   simp (disch:=try exact SX) only[RV,seval,zA0,h0,h1,hR.fz.rows,hR.fz.one,hR.fz.cells,hR.fz.icy,hR.fz.frz,wN,dN,k0,k4,k5,s2,b2.fz.rows,b2.fz.one,b2.fz.cells,b2.fz.icy,b2.fz.frz,oN,zC2,zAK]
   refine zPP (fuel:=fuel) (d:=d+4) (o:=o.snd m) b2 (by simp only[Rn.snd,List.length_drop,Int.toNat_natCast];omega) (by simp (disch:=try exact SX) only[RV,seval,zA0,wN]) fun pb U kU sU nU=>?_
   have wU:=kU.wf
   have dU:U.dirty=false:=kU.di
   have zU:N.size≤U.size:=kU.le
   have nU':∀ j,rowOf pb=some j→N.size≤j:=nU
   have j1:=kU.get 1 (by show 1<N.size;omega)
   have j2:=kU.get 2 (by show 2<N.size;omega)
   simp (disch:=try exact SX) only[RV,seval,zA0,wN,k1,k2] at j1 j2
   have lN:=sN.lt
   have sV:SlM U 1 zAY pa (o.fst m).rs:=sN.keep fun j hj=>(kU.get j (lN j hj)).trans (by simp (disch:=try exact SX) only[RV,seval,zA0,wN])
   have oU:=sU.one
   have rU:=zAM sU.rl (Nat.le_refl U.size)
   have rV:=zAM sV.rl (Nat.le_refl U.size)
   have cN:=sV.cells
   have cU:=sU.cells
   simp (disch:=try exact SX) only[RV,seval,zA0,h0,h1,wU,dU,j1,j2,oN,oU,rU,rV,cN,cU,zC2,zAK,zF3,zCO]
   generalize hX:Mem.upd (Mem.upd (Mem.bk _ U) 1 _) 2 _=X
   have gX:∀ id,6≤id→X.get id=U.get id:=fun id h=>by rw[← hX];simp (disch:=try exact SX) only[RV,seval,zA0,wU]
   obtain⟨ro1,hro1,hf1⟩:=zGG sV zD4.cel 11 (by omega)
   obtain⟨ro2,hro2,hf2⟩:=zGG sU zD4.cel 11 (by omega)
   have y1:∀ id,rowOf pa=some id→X.get id=U.get id:=fun id h=>gX id (nN' id h)
   have y2:∀ id,rowOf pb=some id→X.get id=U.get id:=fun id h=>gX id (by have:=nU' id h;omega)
   have v1:ownV X 12 (.agg (rnR (o.fst m) pa))=true:=zU4 (k:=10) _ ((sV.keep y1).own (zU2 X 9))
   have v2:ownV X 12 (.agg (rnR (o.snd m) pb))=true:=zU4 (k:=10) _ ((sU.keep y2).own (zU2 X 9))
   rw[hf1 X y1,hf2 X y2]
   exact⟨by simp only[v1,v2,hsc,Bool.and_true],ro1,ro2,rfl,hro1,hro2⟩
  ·simp only[q,if_false] at hic ⊢
   have q':decide (cutE o.sp n=0)=false:=decide_eq_false q
   simp (disch:=try exact SX) only[RV,seval,zA0,h0,h1,hR.fz.rows,hR.fz.one,hR.fz.cells,hR.fz.icy,hR.fz.frz,hck,zBP,z00,hic,q',zF3,zCO]
   exact⟨rfl,by simp [ownV],NIL,NIL,rfl,.inl ⟨rfl,rfl⟩,.inl ⟨rfl,rfl⟩⟩
theorem zJZ {o:Rn}{ra:AV}{n:Int}(hR:Sl 1 zAY ra o.rs)(hf:100<fuel):∃ v,cutK o n v ∧ ∀ M,zCN fuel (d+7) 59 [.agg (rnR o ra),I64 n] M=some (v,M):=by
 obtain⟨v,hv,hc⟩:=@zJY fuel d o ra n hR hf
 exact⟨v,hv,fun M=>hc M _ M (by simp only[icyL,zBX hR.fz,zQO])⟩
theorem zOC {o:Rn}{x:AV}{n:Int}(hS:SlM M 1 zAY x o.rs)(wf:Wf M)(hf:100<fuel):∃ v,cutK o n v∧zCN fuel (d+7) 59 [.agg (rnR o x),I64 n] M=some (v,M):=by
 obtain⟨a',N',i1,b1,_⟩:=zHN (H:=rnH o) (zI9 o) hS wf zD4 (k:=12) (by omega)
 obtain⟨v,hv,hc⟩:=@zJY fuel d o a' n b1 hf
 refine⟨v,hv,hc M _ N' ?_⟩
 have i1:icy 12 M (.agg (rnR o x))=some (.agg (rnR o a'),N'):=i1
 simp only[icyL,i1,zQO]
theorem zR9 {o:Rn}{x:AV}{n:Int}(hS:SlM M 1 zAY x o.rs)(wf:Wf M)(hf:100<fuel)(k:∀ v,cutK o n v→Q v M):W3 (zCN fuel (d+7) 59 [.agg (rnR o x),I64 n] M) Q:=by
 obtain⟨v,hv,hc⟩:=zOC (fuel:=fuel) (d:=d) (n:=n) hS wf hf
 exact⟨v,M,hc,k v hv⟩
theorem im88:imax 8 8=8:=by decide
theorem im80:imax 8 0=8:=by decide
theorem im08:imax 0 8=8:=by decide
theorem im00:imax 0 0=0:=by decide
theorem IMX:type_of% (And.intro im88 (And.intro im80 (And.intro im08 im00))):=And.intro im88 (And.intro im80 (And.intro im08 im00))
theorem zB4 {α:Type}(l:List α)(i:Nat)(h:i<l.length):l.take (i+1)=l.take i++[l[i]]:=by
 rw[List.take_add_one,List.getElem?_eq_getElem h];rfl
def rowL (l:List Rn):List Int:=l.flatMap (·.rs)
theorem zUG (l:List Rn)(x:Rn):rowL (l++[x])=rowL l++x.rs:=by simp [rowL]
theorem row_0 {a:AV}{l:List Rn}(hS:SlM M 10 isRn a l)(hl:l.length≤10)(hd:∀ r∈l,r.rs.length≤1000000)(hf:100<fuel)(wf:Wf M)(hw:M.wm≤M.size)(k:∀ o N,Kept M N→SlM N 1 zAY o (rowL l)→(∀ j,rowOf o=some j→M.size≤j)→Q o N) :
  W3 (zCN fuel (d+1) 88 [a] M) Q:=by
 have ll:=hS.len
 refine zCZ tf88 rfl (by simp [a88]) fun b' ht hx=>?_
 have h0:=hx 0 _ rfl
 clear hx
 simp only[a88,c88] at ht ⊢
 simp (disch:=try exact SX) only[RV,seval,zA0,h0,ll]
 refine zB7 (I:=fun n t N => ∃ (i:Nat) (o:AV),n=l.length - i∧i≤l.length∧nth zA3 t 2=o∧nth zA3 t 5=a∧nth zA3 t 6=I64 l.length∧nth zA3 t 7=I64 i∧Kept M N∧SlM N 1 zAY o (rowL (l.take i))∧(∀ j,rowOf o=some j→M.size≤j)∧(rowL (l.take i)).length≤1000000*i) (n:=l.length) (by omega) ?_ ?_
 ·refine⟨0,NIL,rfl,Nat.zero_le _, ?_, ?_, ?_, ?_,Kept.refl wf,SlM.nil,(fun _ h=>by cases h),Nat.le_refl 0⟩ <;> simp (disch:=try exact SX) only[RV,seval,zA0,h0,ll]
  all_goals first | rfl | assumption | done
 ·rintro n t N hlt ⟨i,o,rfl,hi,g2,g5,g6,g7,kN,sm,nr,bd⟩
  simp only[ht] at hlt ⊢
  have oo:=sm.one
  have oc:=sm.cells
  have w:=kN.wf
  have le:=kN.le
  have wm:=kN.wm
  by_cases hc:i<l.length
  ·have q1:decide ((i:Int)<l.length)=true:=DT
   have w1:IntKind.i64.wrap ((i:Int)+1)=((i+1:Nat):Int):=WI
   obtain⟨id,cs,r,hrow,lid,hg,hcs,hiad,hr,hrl,hpt,_⟩:=hS.atS hc
   have gN:=(kN.get id lid).trans hg
   have hts:=zUG (l.take i) l[i]
   rw[← zB4 l i hc] at hts
   have hde:=hd l[i] (List.getElem_mem hc)
   generalize l[i]=e at *
   obtain⟨ra,rfl,hra,hok⟩:=hr
   have ora:=hra.one
   have lid':id<N.size:=by omega
   have rlo:=zAM sm.rl (show N.size≤N.size+1 by omega)
   simp (disch:=try exact SX) only[RV,seval,zA0,g2,g5,g6,g7,q1,hiad,gN,hpt,hra.fz.rows,hra.fz.one,hra.fz.cells,hra.fz.icy,hra.fz.frz,w,oo,oc,rlo]
   refine zbR (fun j hj=>by have:=nr j hj;simp only[zeH,zcB];omega) (zZ6 (bytes:=4) (by simp (disch:=try exact SX) only[RV,seval,zA0,w]) (sm.keep fun j hj=>?_) zD4.cel hra (by omega) (by omega) (by omega) fun o' M' sm' w' le1 le2 kp nw wm' rl on oc' di'=>?_)
   ·have:=sm.lt j hj
    simp (disch:=try exact SX) only[RV,seval,zA0,w]
   simp only[zA9,zA8] at le1 le2 kp nw
   simp (disch:=try exact SX) only[RV,seval,zA0,g2,g5,g6,g7,w1]
   refine⟨hlt,l.length - (i+1),by omega,i+1,o',rfl,by omega,rfl,rfl,⟨w',by omega,fun j hj=>?_,wm'.trans wm,di'.trans ((kN.add _).upd hw le _).di⟩,by rw[hts];exact sm',fun j hj=>(nw j hj).elim (nr j) (fun h=>by omega), ?_⟩
   ·rw[kp j (by omega) (fun h=>by have:=nr j h;omega),zA2 (w.add _) _ _ _ (by omega),zAP w _ _ (by omega)]
    exact kN.get j hj
   ·rw[hts,List.length_append];omega
  ·obtain rfl:i=l.length:=by omega
   have q1:decide ((l.length:Int)<l.length)=false:=DF
   rw[List.take_length] at sm
   simp (disch:=try exact SX) only[RV,seval,zA0,g2,g5,g6,g7,q1,oo,oc]
   exact k o N kN sm nr
def Rn.both (a b:Rn):Rn:=⟨⟨a.sp.f,a.sp.n+b.sp.n⟩,a.af,a.rs++b.rs⟩
def zFN (a b:Rn):Int:=if a.may=true∧b.may=true then (if (a.both b).cutE a.sp.n=0∧(a.both b).fst a.sp.n=a∧(a.both b).snd a.sp.n=b then 0 else 2) else 8
def zDW (a b:Rn):Rn:=if zFN a b=0 then a.both b else Rn.z
theorem zW1 (r:Rn)(n:Int):(r.cutA n).rs.length≤r.rs.length:=by
 unfold Rn.cutA
 split
 ·simp only[Rn.fst,List.length_take];omega
 ·exact Nat.zero_le _
theorem zW2 (r:Rn)(n:Int):(r.cutB n).rs.length≤r.rs.length:=by
 unfold Rn.cutB
 split
 ·simp only[Rn.snd,List.length_drop];omega
 ·exact Nat.zero_le _
theorem zP8 {a b:Rn}{ra rb:AV}(hA:Sl 1 zAY ra a.rs)(hB:Sl 1 zAY rb b.rs)(ha:a.ok)(hb:b.ok):All2 isRn [rnR a ra,rnR b rb] [a,b]:=.cons ⟨ra,rfl,hA,ha⟩ (.cons ⟨rb,rfl,hB,hb⟩ .nil)
def zd1 (a b:Rn)(v:AV)(M:Mem):Prop:=∃ r,v = .tup [.agg (rnR (zDW a b) r),I64 (zFN a b)]∧SlM M 1 zAY r (zDW a b).rs
theorem zOD {a b:Rn}{ra rb:AV}(hA:Sl 1 zAY ra a.rs)(hB:Sl 1 zAY rb b.rs)(ha:a.ok)(hb:b.ok)(hla:a.rs.length≤1000000)(hlb:b.rs.length≤1000000)(hf:2000000<fuel):zCX Try.prog (fsT tbl) fuel (d+7) 63 [.agg (rnR a ra),.agg (rnR b rb)] (zd1 a b):=by
 have ora:=hA.one
 have orb:=hB.one
 have hca:=fun M=>@zCE fuel (d+1) a ra hA (by omega) M
 have hcb:=fun M=>@zCE fuel (d+1) b rb hB (by omega) M
 have pz:purA (.tup [.agg (rnR ⟨⟨Eid.z,0⟩,Eid.z,[]⟩ NIL),I64 2])=true:=by simp [purA,purL]
 refine zDO tf63 rfl (by simp [a63]) fun b' ht hx=>?_
 obtain⟨h0,h1⟩:=hx2 hx
 clear hx
 simp only[a63,c63] at ht ⊢
 unfold zd1 zDW zFN
 by_cases hm:a.may=true∧b.may=true
 ·obtain⟨ma,mb⟩:=hm
  rw[ma] at hca
  rw[mb] at hcb
  simp only[ma,mb,and_self,if_true]
  have ba:=Spn.may_le (Rn.may_sp ma)
  have bb:=Spn.may_le (Rn.may_sp mb)
  have w1:IntKind.i64.wrap (a.sp.n+b.sp.n)=a.sp.n+b.sp.n:=wrap_i64 (by omega) (by omega)
  simp (disch:=try exact SX) only[RV,seval,zA0,h0,h1,hA.fz.rows,hA.fz.one,hA.fz.cells,hA.fz.icy,hA.fz.frz,hB.fz.rows,hB.fz.one,hB.fz.cells,hB.fz.icy,hB.fz.frz,hca,hcb,zBP,z00,IMX,zDY,zE0,zDZ,BMM,w1]
  refine row_0 (d:=d+6) (l:=[a,b]) (zOG (zP8 hA hB ha hb) (by simp) rfl (.inr rfl) (by simp (disch:=try exact SX) only[RV,seval,zA0];rfl)) (by simp) (by simp;exact⟨hla,hlb⟩) (by omega) (by simp (disch:=try exact SX) only[RV,seval,zA0]) (by simp (disch:=try exact SX) only[RV,seval,zA0];exact Nat.le_refl _) fun o X kX sm nr=>?_
  have wX:=kX.wf
  have hd:X.dirty=false:=kX.di
  have hsX:4≤X.size:=kX.le
  have k0:=kX.get 0 (by show 0<4;omega)
  have k1:=kX.get 1 (by show 1<4;omega)
  have k2:=kX.get 2 (by show 2<4;omega)
  simp (disch:=try exact SX) only[RV,seval,zA0] at k0 k1 k2
  have oo:=sm.one
  have oc:=sm.cells
  have nr':∀ j,rowOf o=some j→4≤j:=nr
  have rlo:=zAM sm.rl (show X.size≤X.size by omega)
  have rlo1:=zAM sm.rl (show X.size≤X.size+1 by omega)
  have sm':SlM X 1 zAY o (a.rs++b.rs):=by simpa [rowL] using sm
  simp (disch:=try exact SX) only[RV,seval,zA0,wX,hd,k0,k1,k2,oo,oc,rlo,rlo1]
  refine⟨rfl, ?_⟩
  have lo:=sm'.lt
  refine zR9 (fuel:=fuel) (d:=d) (o:=a.both b) (sm'.keep fun j hj=>?_) (by simp (disch:=try exact SX) only[RV,seval,zA0,wX]) (by omega) fun v hv=>?_
  ·have:=lo j hj
   simp (disch:=try exact SX) only[RV,seval,zA0,wX]
  obtain⟨ca,cb,rfl,hca',hcb'⟩:=hv
  have oca:=hca'.one
  have ocb:=hcb'.one
  have bl:(a.both b).rs.length≤2000000:=by show (a.rs++b.rs).length≤_;rw[List.length_append];omega
  have la:=zW1 (a.both b) a.sp.n
  have lb:=zW2 (a.both b) a.sp.n
  have hsa:=fun M=>zFS (fuel:=fuel) (d:=d+5) (o:=(a.both b).cutA a.sp.n) (p:=a) hca' hA (by omega) (by omega) M
  have hsb:=fun M=>zFS (fuel:=fuel) (d:=d+5) (o:=(a.both b).cutB a.sp.n) (p:=b) hcb' hB (by omega) (by omega) M
  have eA:∀ (q:(a.both b).cutE a.sp.n=0),(a.both b).cutA a.sp.n=(a.both b).fst a.sp.n:=fun q=>by unfold Rn.cutA;rw[if_pos q]
  have eB:∀ (q:(a.both b).cutE a.sp.n=0),(a.both b).cutB a.sp.n=(a.both b).snd a.sp.n:=fun q=>by unfold Rn.cutB;rw[if_pos q]
  generalize hA':(a.both b).cutA a.sp.n=cA at *
  generalize hB':(a.both b).cutB a.sp.n=cB at *
  by_cases q1:(a.both b).cutE a.sp.n=0
  ·have q1':decide ((a.both b).cutE a.sp.n=0)=true:=decide_eq_true q1
   rw[← eA q1,← eB q1]
   cases q2:rnEq cA a with
   | false =>
    have q2':¬(cA=a):=fun h=>by rw[(zFA cA a).2 h] at q2;cases q2
    rw[q2] at hsa
    simp only[q2',false_and,and_false,if_false]
    simp (disch:=try exact SX) only[RV,seval,zA0,wX,hd,k0,k1,k2,oo,oc,hA.fz.rows,hA.fz.one,hA.fz.cells,hA.fz.icy,hA.fz.frz,hB.fz.rows,hB.fz.one,hB.fz.cells,hB.fz.icy,hB.fz.frz,hca'.fz.rows,hca'.fz.one,hca'.fz.cells,hca'.fz.icy,hca'.fz.frz,hcb'.fz.rows,hcb'.fz.one,hcb'.fz.cells,hcb'.fz.icy,hcb'.fz.frz,q1',hsa]
    exact zB0l
   | true =>
    have q2':=(zFA cA a).1 q2
    rw[q2] at hsa
    cases q3:rnEq cB b with
    | false =>
     have q3':¬(cB=b):=fun h=>by rw[(zFA cB b).2 h] at q3;cases q3
     rw[q3] at hsb
     simp only[q3',and_false,if_false]
     simp (disch:=try exact SX) only[RV,seval,zA0,wX,hd,k0,k1,k2,oo,oc,hA.fz.rows,hA.fz.one,hA.fz.cells,hA.fz.icy,hA.fz.frz,hB.fz.rows,hB.fz.one,hB.fz.cells,hB.fz.icy,hB.fz.frz,hca'.fz.rows,hca'.fz.one,hca'.fz.cells,hca'.fz.icy,hca'.fz.frz,hcb'.fz.rows,hcb'.fz.one,hcb'.fz.cells,hcb'.fz.icy,hcb'.fz.frz,q1',hsa,hsb,rlo,rlo1]
     exact zB0l
    | true =>
     have q3':=(zFA cB b).1 q3
     rw[q3] at hsb
     simp only[eq_true (show (a.both b).cutE a.sp.n=0∧cA=a∧cB=b from⟨q1,q2',q3'⟩),if_true]
     simp (disch:=try exact SX) only[RV,seval,zA0,wX,hd,k0,k1,k2,oo,oc,hA.fz.rows,hA.fz.one,hA.fz.cells,hA.fz.icy,hA.fz.frz,hB.fz.rows,hB.fz.one,hB.fz.cells,hB.fz.icy,hB.fz.frz,hca'.fz.rows,hca'.fz.one,hca'.fz.cells,hca'.fz.icy,hca'.fz.frz,hcb'.fz.rows,hcb'.fz.one,hcb'.fz.cells,hcb'.fz.icy,hcb'.fz.frz,q1',hsa,hsb,rlo,rlo1]
     refine⟨by simp [purA,purL,sm'.pur],o,rfl,sm'.keep fun j hj=>?_⟩
     have:=lo j hj
     have:=nr' j hj
     simp (disch:=try exact SX) only[RV,seval,zA0,wX]
  ·have q1':decide ((a.both b).cutE a.sp.n=0)=false:=decide_eq_false q1
   simp only[q1,false_and,if_false]
   simp (disch:=try exact SX) only[RV,seval,zA0,wX,hd,k0,k1,k2,oo,oc,hA.fz.rows,hA.fz.one,hA.fz.cells,hA.fz.icy,hA.fz.frz,hB.fz.rows,hB.fz.one,hB.fz.cells,hB.fz.icy,hB.fz.frz,hca'.fz.rows,hca'.fz.one,hca'.fz.cells,hca'.fz.icy,hca'.fz.frz,hcb'.fz.rows,hcb'.fz.one,hcb'.fz.cells,hcb'.fz.icy,hcb'.fz.frz,q1']
   exact zB0l
 ·have hz:imax (err a.may) (err b.may)=8:=by
   cases ma:a.may <;> cases mb:b.may <;> first | rfl | exact absurd ⟨ma,mb⟩ hm
  simp only[hm,if_false]
  have q8:((8:Int)=0)=False:=by decide
  simp (disch:=try exact SX) only[RV,seval,zA0,h0,h1,hA.fz.rows,hA.fz.one,hA.fz.cells,hA.fz.icy,hA.fz.frz,hB.fz.rows,hB.fz.one,hB.fz.cells,hB.fz.icy,hB.fz.frz,hca,hcb,hz,z80,zDY,zE0,zDZ,BMM,q8,if_false]
  exact zB0l
theorem zJ1 {a b:Rn}{x rb:AV}(hA:SlM M 1 zAY x a.rs)(hB:Sl 1 zAY rb b.rs)(ha:a.ok)(hb:b.ok)(hla:a.rs.length≤1000000)(hlb:b.rs.length≤1000000)(hf:2000000<fuel)(wf:Wf M)
  (k:∀ r N,Kept M N→SlM N 1 zAY r (zDW a b).rs→(∀ j,rowOf r=some j→M.size≤j)→Q (.tup [.agg (rnR (zDW a b) r),I64 (zFN a b)]) N):W3 (zCN fuel (d+8) 63 [.agg (rnR a x),.agg (rnR b rb)] M) Q:=by
 obtain⟨a',N',i1,b1,_⟩:=zHN (H:=rnH a) (zI9 a) hA wf zD4 (k:=12) (by omega)
 have i1:icy 12 M (.agg (rnR a x))=some (.agg (rnR a a'),N'):=i1
 refine zCX.use (zOD (fuel:=fuel) (d:=d) b1 hB ha hb hla hlb hf) (M0:=N') (by simp only[icyL,i1,zBX hB.fz]) wf fun v M2 hv=>?_
 obtain⟨r,rfl,hs⟩:=hv
 have e:shA M.size (.tup [.agg (rnR (zDW a b) r),I64 (zFN a b)]) = .tup [.agg (rnR (zDW a b) (shA M.size r)),I64 (zFN a b)]:=by simp [shA,shL]
 rw[e]
 refine k _ _ (zD5 wf) (hs.sh zKV zD4 (zPZ wf)) fun j hj=>?_
 exact zB0o
def atE (r:Rn)(n:Int):Int:=if r.may=true then (if n<0∨r.sp.n≤n then 2 else 0) else 8
def Rn.afAt (r:Rn)(n:Int):Eid:=if 0<n then r.sp.at (n - 1) else r.af
theorem zUK {o:Rn}{ra:AV}{n:Int}(hR:Sl 1 zAY ra o.rs)(hf:100<fuel)(M:Mem):zCN fuel (d+7) 75 [.agg (rnR o ra),I64 n] M=some (if atE o n=0 then .tup [idA (o.sp.at n),idA (o.afAt n),I32 (o.rs.getD n.toNat 0),I64 0] else .tup [idA Eid.z,idA Eid.z,I32 0,I64 (atE o n)],M):=by
 have ora:=hR.one
 have hck:=fun M=>@zCE fuel d o ra hR hf M
 have hat:=fun n M=>@zLR fuel (d+1) o.sp n M
 apply zBA
 refine zAL tf75 rfl (by simp only[icyL,zBX hR.fz,zQO]) (by simp [a75]) fun b' ht hx=>?_
 obtain⟨h0,h1⟩:=hx2 hx
 clear hx
 simp only[a75,c75] at ht ⊢
 unfold atE
 cases hm:o.may with
 | false =>
  rw[hm] at hck
  have q8:((8:Int)=0)=False:=by decide
  simp only[Bool.false_eq_true,if_false,q8]
  simp (disch:=try exact SX) only[RV,seval,zA0,h0,h1,hR.fz.rows,hR.fz.one,hR.fz.cells,hR.fz.icy,hR.fz.frz,hck,zCH,z80]
  all_goals rfl
 | true =>
  rw[hm] at hck
  have hs:=Rn.may_sp hm
  have hb:=Spn.may_le hs
  have hml:=Rn.may_len hm
  simp only[hs,if_true] at hat ⊢
  by_cases q:n<0∨o.sp.n≤n
  ·have hat:=hat n
   simp only[q,if_true] at hat ⊢
   have q2:((2:Int)=0)=False:=by decide
   simp only[q2,if_false]
   simp (disch:=try exact SX) only[RV,seval,zA0,h0,h1,hR.fz.rows,hR.fz.one,hR.fz.cells,hR.fz.icy,hR.fz.frz,hck,hat,zBP,z00]
   all_goals rfl
  ·obtain⟨m,rfl⟩:∃ m:Nat,n=m:=⟨n.toNat,by omega⟩
   have hat0:=hat (m:Int)
   simp only[q,if_false] at hat0 ⊢
   simp only[if_true]
   obtain⟨r,hr,rfl,_⟩:=hR.iad m (by omega)
   have eg:o.rs.getD (m:Int).toNat 0=o.rs[m]:=by
    rw[Int.toNat_natCast,List.getD_eq_getElem?_getD,List.getElem?_eq_getElem (by omega)];rfl
   rw[eg]
   unfold Rn.afAt
   by_cases q0:(0:Int)<m
   ·have q0':decide ((0:Int)<m)=true:=decide_eq_true q0
    have hat1:=hat ((m:Int) - 1)
    simp only[show ¬((m:Int) - 1<0∨o.sp.n≤(m:Int) - 1) by omega,if_false] at hat1
    have w1:IntKind.i64.wrap ((m:Int) - 1)=(m:Int) - 1:=wrap_i64 (by omega) (by omega)
    simp (disch:=try exact SX) only[RV,seval,zA0,h0,h1,hR.fz.rows,hR.fz.one,hR.fz.cells,hR.fz.icy,hR.fz.frz,hck,hat0,hat1,zBP,z00,q0,q0',w1,hr,if_true]
    all_goals exact⟨rfl,rfl⟩
   ·have q0':decide ((0:Int)<m)=false:=decide_eq_false q0
    simp (disch:=try exact SX) only[RV,seval,zA0,h0,h1,hR.fz.rows,hR.fz.one,hR.fz.cells,hR.fz.icy,hR.fz.frz,hck,hat0,zBP,z00,q0,q0',hr,if_false]
    all_goals exact⟨rfl,rfl⟩
def zB3:List Rn→Int
 | []=>0
 | r::l=>r.sp.n+zB3 l
theorem zQE (l m:List Rn):zB3 (l++m)=zB3 l+zB3 m:=by
 induction l with
 | nil=>simp [zB3]
 | cons r l ih=>simp only[List.cons_append,zB3,ih];omega
theorem zNB (l:List Rn)(r:Rn):zB3 (l++[r])=zB3 l+r.sp.n:=by rw[zQE];simp [zB3]
theorem zE7 {l:List Rn}(h:∀ r∈l,r.may=true):0≤zB3 l∧zB3 l≤64*l.length:=by
 induction l with
 | nil=>simp [zB3]
 | cons r l ih =>
  have:=Spn.may_le (Rn.may_sp (h r List.mem_cons_self))
  have:=ih fun r hr=>h r (List.mem_cons_of_mem _ hr)
  simp only[zB3,List.length_cons]
  omega
theorem zG0 {a:AV}{l:List Rn}(hS:Sl 10 isRn a l)(hm:∀ r∈l,r.may=true)(hl:l.length≤1000000)(hf:l.length<fuel)(M:Mem):zCN fuel (d+1) 26 [a] M=some (I64 (zB3 l),M):=by
 have ll:=hS.len
 apply zBA
 refine zAL tf26 rfl (by simp only[icyL,fun M=>hS.icy M 12 (by omega)]) (by simp [a26]) fun b' ht hx=>?_
 have h0:=hx 0 _ rfl
 clear hx
 simp only[a26,c26] at ht ⊢
 simp (disch:=try exact SX) only[RV,seval,zA0,h0,ll,hS.fz.rows,hS.fz.one,hS.fz.cells,hS.fz.icy,hS.fz.frz]
 refine zB7 (I:=fun n t N => ∃ (i:Nat),n=l.length - i∧i≤l.length∧nth zA3 t 2=I64 (zB3 (l.take i))∧nth zA3 t 5=a∧nth zA3 t 6=I64 l.length∧nth zA3 t 7=I64 i∧Wf N) (n:=l.length) (by omega) ?_ ?_
 ·refine⟨0,rfl,Nat.zero_le _, ?_, ?_, ?_, ?_,Wf.mem0⟩ <;> simp (disch:=try exact SX) only[RV,seval,zA0,h0,ll,zB3]
  all_goals first | rfl | assumption | done
 ·rintro n t N hlt ⟨i,rfl,hi,g2,g5,g6,g7,w⟩
  simp only[ht] at hlt ⊢
  by_cases hc:i<l.length
  ·have q1:decide ((i:Int)<l.length)=true:=DT
   have w1:IntKind.i64.wrap ((i:Int)+1)=((i+1:Nat):Int):=WI
   obtain⟨r,hiad,hr,hrl⟩:=hS.iad i hc
   have hts:=zNB (l.take i) l[i]
   rw[← zB4 l i hc] at hts
   have hb:=Spn.may_le (Rn.may_sp (hm l[i] (List.getElem_mem hc)))
   have hcl:=zE7 (l:=l.take i) (fun r hr=>hm r (List.mem_of_mem_take hr))
   rw[List.length_take] at hcl
   generalize l[i]=e at *
   obtain⟨ra,rfl,hra,hok⟩:=hr
   have ora:=hra.one
   have w2:IntKind.i64.wrap (zB3 (l.take i)+e.sp.n)=zB3 (l.take (i+1)):=by rw[hts,wrap_i64] <;> omega
   simp (disch:=try exact SX) only[RV,seval,zA0,g2,g5,g6,g7,hS.fz.rows,hS.fz.one,hS.fz.cells,hS.fz.icy,hS.fz.frz,q1,hiad,hra.fz.rows,hra.fz.one,hra.fz.cells,hra.fz.icy,hra.fz.frz,w,w1,w2]
   exact⟨hlt,l.length - (i+1),by omega,i+1,rfl,by omega,rfl,rfl⟩
  ·obtain rfl:i=l.length:=by omega
   have q1:decide ((l.length:Int)<l.length)=false:=DF
   rw[List.take_length] at g2
   simp (disch:=try exact SX) only[RV,seval,zA0,g2,g5,g6,g7,q1]
def zEQ (l m:List Rn):Bool:=eqL rnEq l m
theorem zGF {l m:List Rn}:zEQ l m=true↔l=m:=zYG zFA
theorem zQH {a b:AV}{l m:List Rn}(h1':Sl 10 isRn a l)(h2':Sl 10 isRn b m)(hl:l.length≤1000000)(hc:∀ e∈l,e.rs.length≤1000000∧e.rs.length<fuel)(hf:l.length<fuel)(M:Mem):zCN fuel (d+3) 51 [a,b,.fn 52 [] []] M=some (BL (zEQ l m),M):=by
 have la:=h1'.len
 have lb:=h2'.len
 apply zBA
 refine zAL tf51 rfl (by simp (disch:=try exact SX) only[RV,seval,zA0,h1'.fz.rows,h1'.fz.one,h1'.fz.cells,h1'.fz.icy,h1'.fz.frz,h2'.fz.rows,h2'.fz.one,h2'.fz.cells,h2'.fz.icy,h2'.fz.frz]) (by simp [a51]) fun b' ht hx=>?_
 obtain⟨h0,h1,h2⟩:=hx3 hx
 clear hx
 simp only[a51,c51] at ht ⊢
 by_cases q:l.length=m.length
 ·have q0:decide ((l.length:Int)=m.length)=true:=DT
  simp (disch:=try exact SX) only[RV,seval,zA0,h0,h1,h2,la,lb,h1'.fz.rows,h1'.fz.one,h1'.fz.cells,h1'.fz.icy,h1'.fz.frz,h2'.fz.rows,h2'.fz.one,h2'.fz.cells,h2'.fz.icy,h2'.fz.frz,q0]
  refine zB7 (I:=fun n t N => ∃ (i:Nat),n=l.length - i∧i≤l.length∧nth zA3 t 0=a∧nth zA3 t 1=b∧nth zA3 t 2 = .fn 52 [] []∧nth zA3 t 15=a∧nth zA3 t 16=I64 l.length∧nth zA3 t 17=I64 i∧Wf N∧(∀ j (x1:j<l.length) (x2:j<m.length),j<i→rnEq l[j] m[j]=true)) (n:=l.length) (by omega) ?_ ?_
  ·refine⟨0,rfl,Nat.zero_le _, ?_, ?_, ?_, ?_, ?_, ?_,Wf.mem0,(fun _ _ _ h=>absurd h (by omega))⟩ <;> simp (disch:=try exact SX) only[RV,seval,zA0,h0,h1,h2,la]
   all_goals first | rfl | assumption | done
  ·rintro n t N hlt ⟨i,rfl,hi,g0,g1,g2,g15,g16,g17,wN,hj⟩
   simp only[ht] at hlt ⊢
   by_cases hc':i<l.length
   ·have q1:decide ((i:Int)<l.length)=true:=DT
    have hc2:i<m.length:=by omega
    obtain⟨r1,i1,hr1,hl1⟩:=h1'.iad i hc'
    obtain⟨r2,i2,hr2,hl2⟩:=h2'.iad i hc2
    have hcr:=hc l[i] (List.getElem_mem hc')
    have w1:IntKind.i64.wrap ((i:Int)+1)=((i+1:Nat):Int):=WI
    have qat:=fun q2=>zYF (p:=rnEq) hc' hc2 q2
    have hj':=hj
    have key:rnEq l[i] m[i]=true → ∀ j (x1:j<l.length) (x2:j<m.length),j<i+1→rnEq l[j] m[j]=true:=fun q2 j x1 x2 hj'=>by
     exact zB0E
    generalize l[i]=e1 at *
    generalize m[i]=e2 at *
    obtain⟨ra1,rfl,b1,_⟩:=hr1
    obtain⟨ra2,rfl,b2,_⟩:=hr2
    have hp:=fun M=>zFS (fuel:=fuel) (d:=d) b1 b2 (by omega) hcr.2 M
    have o1:=b1.one
    have o3:=b2.one
    cases q2:rnEq e1 e2 with
    | true =>
     rw[q2] at hp
     simp (disch:=try exact SX) only[RV,seval,zA0,g0,g1,g2,g15,g16,g17,h1'.fz.rows,h1'.fz.one,h1'.fz.cells,h1'.fz.icy,h1'.fz.frz,h2'.fz.rows,h2'.fz.one,h2'.fz.cells,h2'.fz.icy,h2'.fz.frz,q1,i1,i2,w1,b1.fz.rows,b1.fz.one,b1.fz.cells,b1.fz.icy,b1.fz.frz,b2.fz.rows,b2.fz.one,b2.fz.cells,b2.fz.icy,b2.fz.frz,hp,wN]
     exact⟨hlt,l.length - (i+1),by omega,i+1,rfl,by omega,rfl,key q2⟩
    | false =>
     rw[q2] at hp
     have e:zEQ l m=false:=qat q2
     simp (disch:=try exact SX) only[RV,seval,zA0,g0,g1,g2,g15,g16,g17,h1'.fz.rows,h1'.fz.one,h1'.fz.cells,h1'.fz.icy,h1'.fz.frz,h2'.fz.rows,h2'.fz.one,h2'.fz.cells,h2'.fz.icy,h2'.fz.frz,q1,i1,i2,w1,b1.fz.rows,b1.fz.one,b1.fz.cells,b1.fz.icy,b1.fz.frz,b2.fz.rows,b2.fz.one,b2.fz.cells,b2.fz.icy,b2.fz.frz,hp,wN,e]
   ·obtain rfl:i=l.length:=by omega
    have q1:decide ((l.length:Int)<l.length)=false:=DF
    have e:zEQ l m=true:=zSL q fun j x1 x2 _=>hj j x1 x2 x1
    simp (disch:=try exact SX) only[RV,seval,zA0,g0,g1,g2,g15,g16,g17,q1,e]
 ·have q0:decide ((l.length:Int)=m.length)=false:=DF
  have e:zEQ l m=false:=zYH q
  simp (disch:=try exact SX) only[RV,seval,zA0,h0,h1,h2,la,lb,h1'.fz.rows,h1'.fz.one,h1'.fz.cells,h1'.fz.icy,h1'.fz.frz,h2'.fz.rows,h2'.fz.one,h2'.fz.cells,h2'.fz.icy,h2'.fz.frz,q0,e]
theorem zJ7 {a b:AV}{l m:List Rn}(h1':Sl 10 isRn a l)(h2':Sl 10 isRn b m)(hl:l.length≤1000000)(hc:∀ e∈l,e.rs.length≤1000000∧e.rs.length<fuel)(hf:l.length<fuel)(M:Mem):zCN fuel (d+4) 20 [a,b] M=some (BL (zEQ l m),M):=by
 have he:=fun M=>@zQH fuel d a b l m h1' h2' hl hc hf M
 apply zBA
 refine zK6 tf20 rfl (by simp (disch:=try exact SX) only[RV,seval,zA0,h1'.fz.rows,h1'.fz.one,h1'.fz.cells,h1'.fz.icy,h1'.fz.frz,h2'.fz.rows,h2'.fz.one,h2'.fz.cells,h2'.fz.icy,h2'.fz.frz]) (by simp [a20]) fun b' ht hx=>?_
 obtain⟨h0,h1⟩:=hx2 hx
 clear hx
 simp only[a20,c20] at ht ⊢
 simp (disch:=try exact SX) only[RV,seval,zA0,h0,h1,h1'.fz.rows,h1'.fz.one,h1'.fz.cells,h1'.fz.icy,h1'.fz.frz,h2'.fz.rows,h2'.fz.one,h2'.fz.cells,h2'.fz.icy,h2'.fz.frz,he,zL3]
def zB2:List Rn→Eid→Option (Nat × Int)
 | [],_=>none
 | r::l,x=>match r.sp.has x with
  | some k=>some (0,k)
  | none=>(zB2 l x).map fun p=>(p.1+1,p.2)
theorem zRG {l:List Rn}{x:Eid}(h:∀ r∈l,r.sp.has x=none):zB2 l x=none:=by
 induction l with
 | nil=>rfl
 | cons r l ih =>
  unfold zB2
  rw[h r List.mem_cons_self,ih fun r hr=>h r (List.mem_cons_of_mem _ hr)]
  rfl
theorem zY8 {l:List Rn}{x:Eid}{i:Nat}{k:Int}(hi:i<l.length)(hk:l[i].sp.has x=some k)(h:∀ j (hj:j<i),l[j].sp.has x=none):zB2 l x=some (i,k):=by
 induction l generalizing i with
 | nil=>exact absurd hi (by simp)
 | cons r l ih =>
  unfold zB2
  cases i with
  | zero=>rw[show r.sp.has x=some k from hk]
  | succ i =>
   rw[show r.sp.has x=none from h 0 (by omega),ih (i:=i) (by simpa using hi) hk fun j hj=>h (j+1) (by omega)]
   rfl
def wN (p:Option (Nat × Int)):Int:=match p with
 | some p=>p.1
 | none => -1
def wK (p:Option (Nat × Int)):Int:=match p with
 | some p=>p.2
 | none=>0
theorem zJA {a:AV}{l:List Rn}{x:Eid}(hS:Sl 10 isRn a l)(hl:l.length≤1000000)(hf:l.length<fuel)(M:Mem):zCN fuel (d+6) 24 [a,idA x] M=some (.tup [I64 (wN (zB2 l x)),I64 (wK (zB2 l x))],M):=by
 have ll:=hS.len
 apply zBA
 refine zAL tf24 rfl (by simp only[icyL,fun M=>hS.icy M 12 (by omega),zBS (zEN x) (show 1<12 by omega)]) (by simp [a24]) fun b' ht hx=>?_
 obtain⟨h0,h1⟩:=hx2 hx
 clear hx
 simp only[a24,c24] at ht ⊢
 simp (disch:=try exact SX) only[RV,seval,zA0,h0,h1,ll,hS.fz.rows,hS.fz.one,hS.fz.cells,hS.fz.icy,hS.fz.frz]
 refine zB7 (I:=fun n t N => ∃ (i:Nat),n=l.length - i∧i≤l.length∧nth zA3 t 3 = .ptr 0 0∧nth zA3 t 10=a∧nth zA3 t 11=I64 l.length∧nth zA3 t 12=I64 i∧Wf N∧N.get 0=some (.row false (idR x))∧(∀ j (h:j<l.length),j<i→l[j].sp.has x=none)) (n:=l.length) (by omega) ?_ ?_
 ·refine⟨0,rfl,Nat.zero_le _, ?_, ?_, ?_, ?_,Wf.mem0.add _,by simp (disch:=try exact SX) only[RV,seval,zA0],(fun _ _ h=>absurd h (by omega))⟩ <;> simp (disch:=try exact SX) only[RV,seval,zA0,h0,h1,ll]
  all_goals first | rfl | assumption | done
 ·rintro n t N hlt ⟨i,rfl,hi,g3,g10,g11,g12,w,g,hj⟩
  simp only[ht] at hlt ⊢
  have lN:=Mem.get_lt g
  by_cases hc:i<l.length
  ·have q1:decide ((i:Int)<l.length)=true:=DT
   have w1:IntKind.i64.wrap ((i:Int)+1)=((i+1:Nat):Int):=WI
   obtain⟨r,hiad,hr,hrl⟩:=hS.iad i hc
   have wat:=fun k (hk:l[i].sp.has x=some k)=>zY8 hc hk fun j hj'=>hj j (by omega) hj'
   have key:l[i].sp.has x=none → ∀ j (h:j<l.length),j<i+1→l[j].sp.has x=none:=fun q2 j h hj'=>by
    rcases Nat.lt_succ_iff_lt_or_eq.1 hj' with h' | rfl
    ·exact hj j h h'
    ·exact q2
   generalize l[i]=e at *
   obtain⟨ra,rfl,hra,hok⟩:=hr
   have ora:=hra.one
   have hh:=fun M=>@za9 fuel d e.sp x M
   cases q:e.sp.has x with
   | none =>
    rw[q] at hh
    simp only[Option.getD_none,Option.isSome_none] at hh
    simp (disch:=try exact SX) only[RV,seval,zA0,g3,g10,g11,g12,hS.fz.rows,hS.fz.one,hS.fz.cells,hS.fz.icy,hS.fz.frz,q1,hiad,hra.fz.rows,hra.fz.one,hra.fz.cells,hra.fz.icy,hra.fz.frz,w,g,w1,hh]
    exact⟨hlt,l.length - (i+1),by omega,i+1,rfl,by omega,rfl,key q⟩
   | some k =>
    rw[q] at hh
    simp only[Option.getD_some,Option.isSome_some] at hh
    rw[wat k q]
    simp (disch:=try exact SX) only[RV,seval,zA0,g3,g10,g11,g12,hS.fz.rows,hS.fz.one,hS.fz.cells,hS.fz.icy,hS.fz.frz,q1,hiad,hra.fz.rows,hra.fz.one,hra.fz.cells,hra.fz.icy,hra.fz.frz,w,g,w1,hh,wN,wK]
  ·obtain rfl:i=l.length:=by omega
   have q1:decide ((l.length:Int)<l.length)=false:=DF
   have e:zB2 l x=none:=zRG fun r hr=>by
    obtain⟨j,hj',rfl⟩:=List.getElem_of_mem hr
    exact hj j hj' hj'
   rw[e]
   simp (disch:=try exact SX) only[RV,seval,zA0,g3,g10,g11,g12,q1,wN,wK]
def Rn.els (r:Rn):List (Eid × Eid):=(List.range r.sp.n.toNat).map fun (i:Nat)=>(r.sp.at i,r.afAt i)
def elsL (l:List Rn):List (Eid × Eid):=l.flatMap Rn.els
theorem zW6 (l:List Rn)(r:Rn):elsL (l++[r])=elsL l++r.els:=by simp [elsL]
theorem zSK {l:List Rn}{i k:Nat}(hi:i<l.length)(hk:k<l[i].sp.n.toNat):∃ post,elsL l=(elsL (l.take i)++l[i].els.take k)++(l[i].sp.at k,l[i].afAt k)::post:=by
 refine⟨l[i].els.drop (k+1)++elsL (l.drop (i+1)), ?_⟩
 have h1:l=l.take i++l[i]::l.drop (i+1):=by rw[← List.drop_eq_getElem_cons hi,List.take_append_drop]
 have hkl:k<l[i].els.length:=by unfold Rn.els;simpa using hk
 have h2:l[i].els=l[i].els.take k++l[i].els[k]::l[i].els.drop (k+1):=by rw[← List.drop_eq_getElem_cons hkl,List.take_append_drop]
 have h3:l[i].els[k]=(l[i].sp.at k,l[i].afAt k):=by simp [Rn.els]
 rw[h3] at h2
 refine(congrArg elsL h1).trans ?_
 have h4:elsL (l.take i++l[i]::l.drop (i+1))=elsL (l.take i)++(l[i].els++elsL (l.drop (i+1))):=by
  unfold elsL
  rw[List.flatMap_append,List.flatMap_cons]
 rw[h4,List.append_assoc,← List.cons_append,← List.append_assoc (l[i].els.take k),← h2]
theorem zSH (r:Rn):r.els.length=r.sp.n.toNat:=by simp [Rn.els]
theorem zSJ (r:Rn)(k:Nat)(hk:k<r.sp.n.toNat):r.els.take (k+1)=r.els.take k++[(r.sp.at k,r.afAt k)]:=by
 rw[zB4 _ _ (by rw[zSH];exact hk)]
 simp [Rn.els]
structure Yl (J:List (Eid × Eid)→(Nat→Prop)→Mem→Prop) (pre:List (Eid × Eid)) (O:Nat→Prop) (B:Nat) (N N':Mem):Prop where
 ok:∃ O',J pre O' N'∧(∀ j,O' j→O j∨N.size≤j)
 wf:Wf N'
 le:N.size≤N'.size
 kp:∀ j,j<N.size → ¬O j→N'.get j=N.get j
theorem zOZ {J:List (Eid × Eid)→(Nat→Prop)→Mem→Prop}{S:Mem→Prop}{O:Nat→Prop}{a:AV}{l:List Rn}{p id:Nat}(hS:Sl 10 isRn a l)(hl:l.length≤100000)(hm:∀ r∈l,r.may=true)(hf:l.length+100<fuel)(wf:Wf M)(hg:M.get p=some (.row false [a]))
  (hJ0:J [] O M)
  (hJ:∀ pre O N N',J pre O N→Wf N'→N.size≤N'.size→(∀ j,j<N.size→N'.get j=N.get j)→J pre O N')
  (hJl:∀ pre O N,J pre O N → ∀ j,O j→j<N.size)
  (hy:∀ pre x post O N,elsL l=pre++x::post→J pre O N→Wf N→M.size≤N.size→W3 (zAU Try.prog (fsT tbl) fuel (d+7) (.yl id) [idA x.1,idA x.2] N) (fun v N'=>(v=BL true∧Yl J (pre++[x]) O M.size N N')∨(v=BL false∧S N')))
  (kk:∀ u N O,J (elsL l) O N→Wf N→M.size≤N.size→Q u N) (ks:∀ u N,S N→Q u N) :
  W3 (zCN fuel (d+8) 74 [.yl id,.ptr p 0] M) Q:=by
 have ll:=hS.len
 have lp:=Mem.get_lt hg
 refine zCZ tf74 rfl (by simp [a74]) fun b' ht hx=>?_
 obtain⟨h0,h1⟩:=hx2 hx
 clear hx
 simp only[a74,c74] at ht ⊢
 simp (disch:=try exact SX) only[RV,seval,zA0,h0,h1,ll,hS.fz.rows,hS.fz.one,hS.fz.cells,hS.fz.icy,hS.fz.frz,hg]
 refine zB7 (I:=fun n t N => ∃ (i:Nat) (O':Nat→Prop),n=l.length - i∧i≤l.length∧nth zA3 t 0 = .yl id∧nth zA3 t 10=a∧nth zA3 t 11=I64 l.length∧nth zA3 t 12=I64 i∧Wf N∧M.size≤N.size∧J (elsL (l.take i)) O' N) (n:=l.length) (by omega) ?_ ?_
 ·refine⟨0,O,rfl,Nat.zero_le _, ?_, ?_, ?_, ?_,wf,Nat.le_refl _,hJ0⟩ <;> simp (disch:=try exact SX) only[RV,seval,zA0,h0,h1,ll]
  all_goals first | rfl | assumption | done
 ·rintro n t N hlt ⟨i,O',rfl,hi,g0,g10,g11,g12,w,le,hj⟩
  simp only[ht] at hlt ⊢
  by_cases hc:i<l.length
  ·have q1:decide ((i:Int)<l.length)=true:=DT
   have w1:IntKind.i64.wrap ((i:Int)+1)=((i+1:Nat):Int):=WI
   obtain⟨r,hiad,hr,hrl⟩:=hS.iad i hc
   have hts:=zW6 (l.take i) l[i]
   rw[← zB4 l i hc] at hts
   have hsp:=fun k=>@zSK l i k hc
   have hme:=hm l[i] (List.getElem_mem hc)
   generalize l[i]=e at *
   obtain⟨ra,rfl,hra,hok⟩:=hr
   have ora:=hra.one
   have hb:=Spn.may_le (Rn.may_sp hme)
   obtain⟨m,hmn⟩:∃ m:Nat,e.sp.n=m:=⟨e.sp.n.toNat,by omega⟩
   have hmt:e.sp.n.toNat=m:=by omega
   have hes:=zSJ e
   have hel:=zSH e
   have wX:Wf ((N.add (.row false (rnR Rn.z NIL))).upd N.size (.row false (rnR e ra))):=(w.add _).upd _ _
   have jX:=hJ _ _ _ _ hj wX (by rw[zA9,zA8];omega) (fun j hj'=>by rw[zA2 (w.add _) _ _ _ (by omega),zAP w _ _ hj'])
   have gX:((N.add (.row false (rnR Rn.z NIL))).upd N.size (.row false (rnR e ra))).get N.size=some (.row false (rnR e ra)):=zAJ (w.add _) _ _ (by rw[zA8];omega)
   have nX:N.size<((N.add (.row false (rnR Rn.z NIL))).upd N.size (.row false (rnR e ra))).size:=by rw[zA9,zA8];omega
   have nO:¬O' N.size:=fun h=>by have:=hJl _ _ _ hj _ h;omega
   simp (disch:=try exact SX) only[RV,seval,zA0,g0,g10,g11,g12,hS.fz.rows,hS.fz.one,hS.fz.cells,hS.fz.icy,hS.fz.frz,q1,hiad,hra.fz.rows,hra.fz.one,hra.fz.cells,hra.fz.icy,hra.fz.frz,w]
   refine zB7 (I:=fun nk tk Nk => ∃ (ik:Nat) (O2:Nat→Prop),nk=m - ik∧ik≤m∧nth zA3 tk 0 = .yl id∧nth zA3 tk 4 = .ptr N.size 0∧nth zA3 tk 10=a∧nth zA3 tk 11=I64 l.length∧nth zA3 tk 12=I64 i∧nth zA3 tk 18=I64 e.sp.n∧nth zA3 tk 19=I64 ik∧Wf Nk∧N.size<Nk.size∧J (elsL (l.take i)++e.els.take ik) O2 Nk∧Nk.get N.size=some (.row false (rnR e ra)) ∧ ¬O2 N.size) (n:=m) (by omega) ?_ ?_
   ·refine⟨0,O',rfl,Nat.zero_le _, ?_, ?_, ?_, ?_, ?_, ?_, ?_,wX,nX,(by rw[List.take_zero,List.append_nil];exact jX),gX,nO⟩ <;> simp (disch:=try exact SX) only[RV,seval,zA0,g0,g10,g11,g12]
    all_goals first | rfl | assumption | done
   ·rintro nk tk Nk hltk ⟨ik,O2,rfl,hik,gk0,gk4,gk10,gk11,gk12,gk18,gk19,wk,lk,jk,gk,nk⟩
    simp only[hlt] at hltk ⊢
    have kX:∀ p q,Wf ((((Nk.add p).add q).upd Nk.size (.row false (idR (e.sp.at ik)))).upd (Nk.size+1) (.row false (idR (e.afAt ik)))):=fun p q=>(((wk.add _).add _).upd _ _).upd _ _
    by_cases hck:ik<m
    ·have q2:decide ((ik:Int)<e.sp.n)=true:=DT
     have w2:IntKind.i64.wrap ((ik:Int)+1)=((ik+1:Nat):Int):=WI
     have hatE:atE e ik=0:=by
      unfold atE
      rw[if_pos hme,if_neg (by omega)]
     have hat:=fun M=>@zUK fuel d e ra (ik:Int) hra (by omega) M
     simp only[hatE,if_true] at hat
     obtain⟨post,hsp⟩:=hsp ik (by omega)
     have hes:=hes ik (by omega)
     rw[hmt] at hel
     simp (disch:=try exact SX) only[RV,seval,zA0,gk0,gk4,gk10,gk11,gk12,gk18,gk19,hS.fz.rows,hS.fz.one,hS.fz.cells,hS.fz.icy,hS.fz.frz,q2,gk,hra.fz.rows,hra.fz.one,hra.fz.cells,hra.fz.icy,hra.fz.frz,wk,hat]
     have jY:=hJ _ _ _ _ jk (kX (.row false (idR Eid.z)) (.row false (idR Eid.z))) (by simp only[zA9,zA8];omega) (fun j hj'=>by
      rw[zA2 (((wk.add _).add _).upd _ _) _ _ _ (by omega),zA2 ((wk.add _).add _) _ _ _ (by omega),zAP (wk.add _) _ _ (by rw[zA8];omega),zAP wk _ _ hj'])
     obtain⟨v,N',hcall,hv⟩:=hy _ _ _ _ _ hsp jY (kX _ _) (by simp only[zA9,zA8];omega)
     refine⟨v,N',hcall, ?_⟩
     rcases hv with⟨rfl,⟨O3,jO,hO3⟩,wY,lY,kY⟩ | ⟨rfl,hst⟩
     ·simp only[zA9,zA8] at lY kY hO3
      have g3:N'.get N.size=some (.row false (rnR e ra)):=by
       rw[kY _ (by omega) nk,zA2 (((wk.add _).add _).upd _ _) _ _ _ (by omega),zA2 ((wk.add _).add _) _ _ _ (by omega),zAP (wk.add _) _ _ (by rw[zA8];omega),zAP wk _ _ (by omega)]
       exact gk
      rw[List.append_assoc,← hes] at jO
      simp (disch:=try exact SX) only[RV,seval,zA0,gk0,gk4,gk10,gk11,gk12,gk18,gk19,w2]
      exact⟨hltk,m - (ik+1),by omega,ik+1,O3,rfl,by omega,rfl,wY,by omega,jO,g3,fun h=>(hO3 _ h).elim nk (fun h=>by omega)⟩
     ·simp (disch:=try exact SX) only[RV,seval,zA0,gk0,gk4,gk10,gk11,gk12,gk18,gk19]
      exact ks _ _ hst
    ·obtain rfl:ik=m:=by omega
     have q2:decide ((ik:Int)<e.sp.n)=false:=DF
     rw[List.take_of_length_le (l:=e.els) (by omega)] at jk
     simp (disch:=try exact SX) only[RV,seval,zA0,gk0,gk4,gk10,gk11,gk12,gk18,gk19,q2,w1]
     exact⟨hltk,l.length - (i+1),by omega,i+1,O2,rfl,by omega,rfl,wk,by omega,by rw[hts];exact jk⟩
  ·obtain rfl:i=l.length:=by omega
   have q1:decide ((l.length:Int)<l.length)=false:=DF
   rw[List.take_length] at hj
   simp (disch:=try exact SX) only[RV,seval,zA0,g0,g10,g11,g12,q1]
   exact kk _ _ _ hj w le
theorem zDN (x y:Eid):x.less y=true↔x.c<y.c∨(x.c=y.c∧(x.hd.lb.lv<y.hd.lb.lv∨(x.hd.lb.lv=y.hd.lb.lv∧(x.hd.lb.cats<y.hd.lb.cats∨(x.hd.lb.cats=y.hd.lb.cats∧x.hd.num<y.hd.num))))):=by
 obtain⟨⟨⟨a,b⟩,c⟩,e⟩:=x
 obtain⟨⟨⟨a',b'⟩,c'⟩,e'⟩:=y
 unfold Eid.less Lb.ahead
 by_cases h1:e=e'
 ·subst h1
  by_cases h2:(⟨a,b⟩:Lb)=⟨a',b'⟩
  ·injection h2 with h2 h3
   subst h2;subst h3
   simp
  ·have h3:¬(a=a'∧b=b'):=fun h=>h2 (by rw[h.1,h.2])
   simp only[h2,if_true,if_false,Bool.or_eq_true,Bool.and_eq_true,decide_eq_true_eq,Int.lt_irrefl,true_and,false_or]
   omega
 ·simp only[h1,if_false,decide_eq_true_eq,false_and,or_false]
theorem zHP (x:Eid):x.less x=false:=by
 rw[← Bool.not_eq_true,zDN];omega
theorem zJP {x y z:Eid}(h1:x.less y=true)(h2:y.less z=true):x.less z=true:=by
 rw[zDN] at *;omega
theorem zTJ {x y:Eid}(h1:x.less y=true):y.less x=false:=by
 rw[← Bool.not_eq_true];rw[zDN] at *;omega
theorem zPD {x y:Eid}(h:x≠y):x.less y=true∨y.less x=true:=by
 rw[zDN,zDN]
 obtain⟨⟨⟨a,b⟩,c⟩,e⟩:=x
 obtain⟨⟨⟨a',b'⟩,c'⟩,e'⟩:=y
 simp only
 have:¬(a=a'∧b=b'∧c=c'∧e=e'):=fun k=>h (by rw[k.1,k.2.1,k.2.2.1,k.2.2.2])
 omega
theorem zTK {x y:Eid}(h:x.less y=true):x.c≤y.c:=by
 rw[zDN] at h;omega
theorem zLZ {x y:Eid}(h:x.c<y.c):x.less y=true:=by
 rw[zDN];omega
def ahd:List Eid→List Eid→Prop
 | [],[]=>False
 | [],_::_=>True
 | _::_,[]=>False
 | a::p,b::q=>b.less a=true∨(a=b∧ahd p q)
theorem zGI:∀ p:List Eid,¬ahd p p
 | []=>fun h=>h
 | a::p=>fun h=>by
  rcases h with h | ⟨_,h⟩
  ·rw[zHP] at h;cases h
  ·exact zGI p h
theorem zES:∀ {p q r:List Eid},ahd p q→ahd q r→ahd p r
 | [],[],_=>fun h _=>h.elim
 | [],_::_,[]=>fun _ h=>h.elim
 | [],_::_,_::_=>fun _ _=>trivial
 | _::_,[],_=>fun h _=>h.elim
 | _::_,_::_,[]=>fun _ h=>h.elim
 | a::p,b::q,c::r=>fun h1 h2=>by
  rcases h1 with h1 | ⟨rfl,h1⟩ <;> rcases h2 with h2 | ⟨rfl,h2⟩
  ·exact .inl (zJP h2 h1)
  ·exact .inl h1
  ·exact .inl h2
  ·exact .inr ⟨rfl,zES h1 h2⟩
theorem zER (p:List Eid)(x:Eid)(q:List Eid):ahd p (p++x::q):=by
 induction p with
 | nil=>trivial
 | cons a p ih=>exact .inr ⟨rfl,ih⟩
theorem zLF (p:List Eid){a b:Eid}(q r:List Eid)(h:b.less a=true):ahd (p++a::q) (p++b::r):=by
 induction p with
 | nil=>exact .inl h
 | cons a p ih=>exact .inr ⟨rfl,ih⟩
theorem zK4:∀ {p q:List Eid},ahd p q→(∃ x r,q=p++x::r) ∨ ∃ c a b s t,p=c++a::s∧q=c++b::t∧b.less a=true
 | [],[]=>fun h=>h.elim
 | [],x::r=>fun _ => .inl ⟨x,r,rfl⟩
 | _::_,[]=>fun h=>h.elim
 | a::p,b::q=>fun h=>by
  rcases h with h | ⟨rfl,h⟩
  ·exact .inr ⟨[],a,b,p,q,rfl,rfl,h⟩
  ·rcases zK4 h with⟨x,r,rfl⟩ | ⟨c,x,y,s,t,rfl,rfl,k⟩
   ·exact .inl ⟨x,r,rfl⟩
   ·exact .inr ⟨a::c,x,y,s,t,rfl,rfl,k⟩
theorem zRQ:∀ {p q:List Eid},p≠q→ahd p q∨ahd q p
 | [],[]=>fun h=>absurd rfl h
 | [],_::_=>fun _ => .inl trivial
 | _::_,[]=>fun _ => .inr trivial
 | a::p,b::q=>fun h=>by
  by_cases e:a=b
  ·subst e
   rcases zRQ (p:=p) (q:=q) (fun k=>h (by rw[k])) with k | k
   ·exact .inl (.inr ⟨rfl,k⟩)
   ·exact .inr (.inr ⟨rfl,k⟩)
  ·rcases zPD e with k | k
   ·exact .inr (.inl k)
   ·exact .inl (.inl k)
inductive Pth (E:List El):Eid→List Eid→Prop
 | root {x:El}:x∈E→x.af=Eid.z→Pth E x.id [x.id]
 | step {x:El} {p:List Eid}:x∈E→Pth E x.af p→Pth E x.id (p++[x.id])
theorem Pth.mono {E F:List El}(h:∀ x∈E,x∈F){x:Eid}{p:List Eid}(k:Pth E x p):Pth F x p:=by
 induction k with
 | root m e=>exact .root (h _ m) e
 | step m _ ih=>exact .step (h _ m) ih
theorem Pth.mem {E:List El}{x:Eid}{p:List Eid}(k:Pth E x p):∃ e∈E,e.id=x:=by
 cases k with
 | root m _=>exact⟨_,m,rfl⟩
 | step m _=>exact⟨_,m,rfl⟩
theorem Pth.last {E:List El}{x:Eid}{p:List Eid}(k:Pth E x p):∃ q,p=q++[x]:=by
 cases k with
 | root m _=>exact⟨[],rfl⟩
 | step m _=>exact⟨_,rfl⟩
theorem Pth.pre {E:List El}{x:Eid}{p:List Eid}(k:Pth E x p):∀ {q y r},p=q++y::r→Pth E y (q++[y]):=by
 induction k with
 | root m e =>
  intro q y r h
  cases q with
  | nil=>cases h;exact .root m e
  | cons a q=>simp at h
 | @step x p m kp ih =>
  intro q y r h
  rcases List.eq_nil_or_concat r with rfl | ⟨r',b,rfl⟩
  ·have h2:=List.append_inj' h rfl
   rw[← h2.1]
   injection h2.2 with h3
   rw[← h3]
   exact .step m kp
  ·have h':p++[x.id]=(q++y::r')++[b]:=by rw[h];simp
   exact ih (List.append_inj' h' rfl).1
structure Set1 (E:List El):Prop where
 nd:(E.map (·.id)).Nodup
 ct:∀ x∈E,x.af.c<x.id.c∧0<x.id.c
 rt:∀ x∈E,x.af=Eid.z ∨ ∃ y∈E,y.id=x.af
theorem zM4 {E:List El}(h:(E.map (·.id)).Nodup){x y:El}(hx:x∈E)(hy:y∈E)(e:x.id=y.id):x=y:=by
 induction E with
 | nil=>cases hx
 | cons a E ih =>
  rw[List.map_cons,List.nodup_cons] at h
  rcases List.mem_cons.1 hx with rfl | hx' <;> rcases List.mem_cons.1 hy with rfl | hy'
  ·rfl
  ·exact absurd (List.mem_map.2 ⟨y,hy',e.symm⟩) h.1
  ·exact absurd (List.mem_map.2 ⟨x,hx',e⟩) h.1
  ·exact ih h.2 hx' hy'
theorem Pth.nz {E:List El}(h:∀ x∈E,0<x.id.c){x:Eid}{p:List Eid}(k:Pth E x p):x≠Eid.z:=by
 obtain⟨e,he,rfl⟩:=k.mem
 intro hz
 have:=h e he
 rw[hz] at this
 exact absurd this (by decide)
theorem Pth.fn {E:List El}(h:Set1 E){x:Eid}{p:List Eid}(k:Pth E x p):∀ {q},Pth E x q→p=q:=by
 have hz:=fun x hx=>(h.ct x hx).2
 induction k with
 | @root x m e =>
  intro q k'
  generalize hx:x.id=i at k'
  cases k' with
  | root m' e'=>rfl
  | @step x' p' m' kp' =>
   have:=zM4 h.nd m m' hx
   subst this
   exact absurd e (kp'.nz hz)
 | @step x p m kp ih =>
  intro q k'
  generalize hx:x.id=i at k'
  cases k' with
  | @root x' m' e' =>
   have:=zM4 h.nd m m' hx
   subst this
   exact absurd e' (kp.nz hz)
  | @step x' p' m' kp' =>
   have:=zM4 h.nd m m' hx
   subst this
   rw[ih kp']
theorem Pth.ex {E:List El}(h:Set1 E):∀ (n:Nat) (x:El),x∈E→x.id.c≤n → ∃ p,Pth E x.id p
 | 0,x,hx,hn=>absurd (h.ct x hx).2 (by omega)
 | n+1,x,hx,hn=>by
  rcases h.rt x hx with e | ⟨y,hy,e⟩
  ·exact⟨_,.root hx e⟩
  ·have hc:=h.ct x hx
   obtain⟨p,hp⟩:=Pth.ex h n y hy (by rw[e];omega)
   rw[e] at hp
   exact⟨_,.step hx hp⟩
theorem Set1.path {E:List El}(h:Set1 E){x:El}(hx:x∈E):∃ p,Pth E x.id p:=Pth.ex h x.id.c.toNat x hx (by have:=h.ct x hx;omega)
theorem Pth.grow {E:List El}(h:∀ x∈E,x.af.c<x.id.c){x:Eid}{p:List Eid}(k:Pth E x p):∀ y∈p,y.c≤x.c:=by
 induction k with
 | root m e=>intro y hy;rw[List.mem_singleton] at hy;subst hy;exact Int.le_refl _
 | @step x p m kp ih =>
  intro y hy
  rcases List.mem_append.1 hy with hy | hy
  ·have:=ih y hy
   have:=h _ m
   omega
  ·rw[List.mem_singleton] at hy;subst hy;exact Int.le_refl _
def Ah (E:List El)(x y:El):Prop:=∃ p q,Pth E x.id p∧Pth E y.id q∧ahd p q
theorem Ah.irr {E:List El}(h:Set1 E)(x:El):¬Ah E x x:=fun⟨p,q,hp,hq,k⟩=>by
 rw[hp.fn h hq] at k
 exact zGI _ k
theorem Ah.trans {E:List El}(h:Set1 E){x y z:El}(h1:Ah E x y)(h2:Ah E y z):Ah E x z:=by
 obtain⟨p,q,hp,hq,k⟩:=h1
 obtain⟨q',r,hq',hr,k'⟩:=h2
 rw[hq'.fn h hq] at k'
 exact⟨p,r,hp,hr,zES k k'⟩
theorem Ah.mono {E F:List El}(h:∀ x∈E,x∈F){x y:El}(k:Ah E x y):Ah F x y:=by
 obtain⟨p,q,hp,hq,k⟩:=k
 exact⟨p,q,hp.mono h,hq.mono h,k⟩
structure Txt (E:List El):Prop where
 s1:Set1 E
 pw:E.Pairwise (Ah E)
theorem ze6 {α:Type}{R:α→α→Prop}:∀ {l m:List α},(∀ x y,R x y → ¬R y x)→l.Pairwise R→m.Pairwise R→(∀ x,x∈l↔x∈m)→l=m
 | [],[],_,_,_,_=>rfl
 | [],b::m,_,_,_,h=>absurd ((h b).2 List.mem_cons_self) (by simp)
 | a::l,[],_,_,_,h=>absurd ((h a).1 List.mem_cons_self) (by simp)
 | a::l,b::m,hR,hl,hm,h=>by
  have hl':=List.pairwise_cons.1 hl
  have hm':=List.pairwise_cons.1 hm
  have e:a=b:=by
   rcases List.mem_cons.1 ((h a).1 List.mem_cons_self) with e | ha
   ·exact e
   ·rcases List.mem_cons.1 ((h b).2 List.mem_cons_self) with e | hb
    ·exact e.symm
    ·exact absurd (hm'.1 a ha) (hR _ _ (hl'.1 b hb))
  subst e
  rw[ze6 hR hl'.2 hm'.2 fun x=>?_]
  have na:a ∉ l:=fun k=>(hR _ _ (hl'.1 a k)) (hl'.1 a k)
  have nb:a ∉ m:=fun k=>(hR _ _ (hm'.1 a k)) (hm'.1 a k)
  have hx:=h x
  simp only[List.mem_cons] at hx
  by_cases k:x=a
  ·subst k;exact⟨fun k=>absurd k na,fun k=>absurd k nb⟩
  ·simpa [k] using hx
theorem Txt.eq {E F:List El}(hE:Txt E)(hF:Txt F)(h:∀ x,x∈E↔x∈F):E=F:=by
 refine ze6 (R:=Ah E) (fun x y h1 h2=>Ah.irr hE.s1 x (Ah.trans hE.s1 h1 h2)) hE.pw (hF.pw.imp fun k=>k.mono fun x=>(h x).2) h
theorem Txt.nil:Txt []:=⟨⟨List.nodup_nil,fun _ h=>absurd h (by simp),fun _ h=>absurd h (by simp)⟩,.nil⟩
theorem Txt.filter {E:List El}(hE:Txt E)(f:El→Bool)(hf:∀ x∈E,∀ y∈E,f x=true→y.id=x.af→f y=true):Txt (E.filter f):=by
 have hs:Set1 (E.filter f):=by
  refine⟨?_,fun x hx=>hE.s1.ct x (List.mem_filter.1 hx).1,fun x hx=>?_⟩
  ·exact(hE.s1.nd.sublist (List.Sublist.map _ List.filter_sublist))
  ·obtain⟨h1,h2⟩:=List.mem_filter.1 hx
   rcases hE.s1.rt x h1 with e | ⟨y,hy,e⟩
   ·exact .inl e
   ·exact .inr ⟨y,List.mem_filter.2 ⟨hy,hf x h1 y hy h2 e⟩,e⟩
 refine⟨hs, ?_⟩
 have h1:=hE.pw.sublist (List.filter_sublist (p:=f))
 refine List.Pairwise.imp_of_mem (fun {a b} ha hb k=>?_) h1
 obtain⟨p,q,hp,hq,k⟩:=k
 obtain⟨p',hp'⟩:=hs.path ha
 obtain⟨q',hq'⟩:=hs.path hb
 rw[(hp'.mono fun x hx=>(List.mem_filter.1 hx).1).fn hE.s1 hp] at hp'
 rw[(hq'.mono fun x hx=>(List.mem_filter.1 hx).1).fn hE.s1 hq] at hq'
 exact⟨p,q,hp',hq',k⟩
theorem zRP (p:List Eid):¬ahd p []:=by
 cases p <;> exact fun h=>h
theorem zCJ {α:Type}(l:List α):l=[] ∨ ∃ q b,l=q++[b]:=by
 rcases List.eq_nil_or_concat l with h | ⟨q,b,h⟩
 ·exact .inl h
 ·exact .inr ⟨q,b,by rw[h,List.concat_eq_append]⟩
def popT (af:Eid):List Eid→Eid→Eid × List Eid
 | [],el=>(el,[])
 | t::s,el=>if t=af then (el,t::s) else popT af s t
def ordS (x:Eid × Eid)(s seen:List Eid):Bool:=!((decide ((popT x.2 s Eid.z).2=[]) && !decide (x.2=Eid.z)) || (!decide ((popT x.2 s Eid.z).1=Eid.z) && !x.1.less (popT x.2 s Eid.z).1) || decide (x.1∈seen))
def stk (l:List (Eid × Eid)):List Eid:=l.foldl (fun s x=>x.1::(popT x.2 s Eid.z).2) []
theorem zEM (l:List (Eid × Eid))(x:Eid × Eid):stk (l++[x])=x.1::(popT x.2 (stk l) Eid.z).2:=by simp [stk]
def Ord (l:List (Eid × Eid)):Prop:=∀ pre x post,l=pre++x::post→ordS x (stk pre) (pre.map (·.1))=true
theorem Ord.nil:Ord []:=fun pre x post h=>absurd h (by simp)
theorem Ord.pre {l m:List (Eid × Eid)}(h:Ord (l++m)):Ord l:=fun pre x post e=>h pre x (post++m) (by rw[e];simp)
theorem Ord.snoc {l:List (Eid × Eid)}{x:Eid × Eid}(h:Ord l)(k:ordS x (stk l) (l.map (·.1))=true):Ord (l++[x]):=by
 intro pre y post e
 rcases zCJ post with rfl | ⟨q,b,rfl⟩
 ·have:=List.append_inj' e rfl
  obtain⟨rfl,h2⟩:=this
  injection h2 with h2
  subst h2
  exact k
 ·have e':l++[x]=(pre++y::q)++[b]:=by rw[e];simp
  exact h pre y q (List.append_inj' e' rfl).1
theorem zIN {af:Eid}:∀ {m:List Eid} {q:List Eid} {el:Eid},(∀ t∈m,t≠af)→(q=[] ∨ ∃ t,q=af::t)→popT af (m++q) el=(m.getLast?.getD el,q)
 | [],q,el,_,hq=>by
  rcases hq with rfl | ⟨t,rfl⟩
  ·rfl
  ·show popT af (af::t) el=_
   rw[popT,if_pos rfl];rfl
 | a::m,q,el,hm,hq=>by
  rw[List.cons_append,popT,if_neg (hm a List.mem_cons_self),zIN (fun t ht=>hm t (List.mem_cons_of_mem _ ht)) hq]
  cases m with
  | nil=>rfl
  | cons b m=>simp [List.getLast?_cons]
theorem zZ1 (af:Eid):∀ s:List Eid,∃ m q,s=m++q∧(∀ t∈m,t≠af)∧(q=[] ∨ ∃ t,q=af::t)
 | []=>⟨[],[],rfl,(fun _ h=>absurd h (by simp)),.inl rfl⟩
 | a::s=>by
  by_cases h:a=af
  ·subst h
   exact⟨[],a::s,rfl,(fun _ h=>absurd h (by simp)),.inr ⟨s,rfl⟩⟩
  ·obtain⟨m,q,rfl,hm,hq⟩:=zZ1 af s
   exact⟨a::m,q,rfl,fun t ht=>(List.mem_cons.1 ht).elim (fun e=>e ▸ h) (hm t),hq⟩
def prs (E:List El):List (Eid × Eid):=E.map fun x=>(x.id,x.af)
theorem zNX (E:List El):(prs E).map (·.1)=E.map (·.id):=by simp [prs]
theorem Txt.ins {A R B:List El}(h:Txt (A++B))(hs:Set1 (A++R++B))(h1:∀ a∈A,∀ r∈R,Ah (A++R++B) a r)(h2:R.Pairwise (Ah (A++R++B)))(h3:∀ r∈R,∀ b∈B,Ah (A++R++B) r b):Txt (A++R++B):=by
 refine⟨hs, ?_⟩
 have hm:∀ x∈A++B,x∈A++R++B:=fun x hx=>by
  rcases List.mem_append.1 hx with h | h
  ·exact List.mem_append.2 (.inl (List.mem_append.2 (.inl h)))
  ·exact List.mem_append.2 (.inr h)
 have hp:=h.pw.imp (fun k=>Ah.mono hm k)
 obtain⟨pA,pB,pAB⟩:=List.pairwise_append.1 hp
 refine List.pairwise_append.2 ⟨List.pairwise_append.2 ⟨pA,h2,h1⟩,pB,fun a ha b hb=>?_⟩
 rcases List.mem_append.1 ha with ha | ha
 ·exact pAB a ha b hb
 ·exact h3 a ha b hb
def Stk (E:List El)(s:List Eid):Prop:=(E=[]∧s=[]) ∨ ∃ E' y,E=E'++[y]∧Pth E y.id s.reverse
theorem zDQ {α:Type}{P:List α→Prop}(h0:P [])(h1:∀ l x,P l→P (l++[x]))(l:List α):P l:=by
 suffices h:∀ n (l:List α),l.length=n→P l from h _ l rfl
 intro n
 induction n with
 | zero=>intro l hl;rw[List.eq_nil_of_length_eq_zero hl];exact h0
 | succ n ih =>
  intro l hl
  rcases zCJ l with rfl | ⟨q,b,rfl⟩
  ·exact h0
  ·exact h1 q b (ih q (by simpa using hl))
theorem Stk.pos {E:List El}{s:List Eid}(hs:Set1 E)(h:Stk E s):∀ t∈s,t≠Eid.z:=by
 rcases h with⟨_,rfl⟩ | ⟨E',y,rfl,hp⟩
 ·exact fun _ h=>absurd h (by simp)
 ·intro t ht
  obtain⟨q,r,e⟩:=List.append_of_mem (List.mem_reverse.2 ht)
  exact(hp.pre e).nz fun x hx=>(hs.ct x hx).2
theorem zaW (E:List El):(∀ x∈E,x.af.c<x.id.c∧0<x.id.c)→Ord (prs E)→Txt E∧Stk E (stk (prs E)):=by
 refine zDQ (P:=fun E=>(∀ x∈E,x.af.c<x.id.c∧0<x.id.c)→Ord (prs E)→Txt E∧Stk E (stk (prs E))) (fun _ _=>⟨Txt.nil,.inl ⟨rfl,rfl⟩⟩) (fun E x ih hc ho=>?_) E
 have he:prs (E++[x])=prs E++[(x.id,x.af)]:=by simp [prs]
 rw[he] at ho ⊢
 obtain⟨hT,hS⟩:=ih (fun y hy=>hc y (List.mem_append_left _ hy)) ho.pre
 have hx:=hc x (List.mem_append_right _ List.mem_cons_self)
 have hst:=ho (prs E) (x.id,x.af) [] rfl
 obtain⟨m,q,hmq,hm,hq⟩:=zZ1 x.af (stk (prs E))
 have hpe:=zIN (el:=Eid.z) hm hq
 rw[← hmq] at hpe
 unfold ordS at hst
 rw[hpe,zNX] at hst
 simp only[Bool.not_eq_true',Bool.or_eq_false_iff,Bool.and_eq_false_iff,Bool.not_eq_false',decide_eq_false_iff_not,decide_eq_true_eq] at hst
 obtain⟨⟨h1,h2⟩,h3⟩:=hst
 rw[zEM,hpe]
 have hmem:∀ y∈E,y∈E++[x]:=fun y hy=>List.mem_append_left _ hy
 have hxm:x∈E++[x]:=List.mem_append_right _ List.mem_cons_self
 have hpos:=hS.pos hT.s1
 -- the path of the new one
 have hrt:x.af=Eid.z ∨ ∃ y∈E,y.id=x.af:=by
  rcases hq with rfl | ⟨t,rfl⟩
  ·rcases h1 with h1 | h1
   ·exact absurd rfl h1
   ·exact .inl h1
  ·rcases hS with⟨_,h⟩ | ⟨E',y,rfl,hp⟩
   ·rw[h] at hmq
    exact absurd hmq.symm (by simp)
   ·rw[hmq] at hp
    exact .inr (hp.pre (q:=t.reverse) (y:=x.af) (r:=m.reverse) (by simp)).mem
 have hs1:Set1 (E++[x]):=by
  refine⟨?_,hc,fun y hy=>?_⟩
  ·rw[List.map_append,List.nodup_append]
   refine⟨hT.s1.nd,by simp,fun a ha b hb e=>?_⟩
   simp at hb
   subst hb
   subst e
   exact h3 ha
  ·rcases List.mem_append.1 hy with hy | hy
   ·rcases hT.s1.rt y hy with e | ⟨w,hw,e⟩
    ·exact .inl e
    ·exact .inr ⟨w,hmem w hw,e⟩
   ·rw[List.mem_singleton] at hy;subst hy
    rcases hrt with e | ⟨w,hw,e⟩
    ·exact .inl e
    ·exact .inr ⟨w,hmem w hw,e⟩
 have hpx:Pth (E++[x]) x.id (x.id::q).reverse:=by
  rcases hq with rfl | ⟨t,rfl⟩
  ·rcases h1 with h1 | h1
   ·exact absurd rfl h1
   ·exact .root hxm h1
  ·rcases hS with⟨_,h⟩ | ⟨E',y,rfl,hp⟩
   ·rw[h] at hmq
    exact absurd hmq.symm (by simp)
   ·rw[hmq] at hp
    have:=hp.pre (q:=t.reverse) (y:=x.af) (r:=m.reverse) (by simp)
    have:=Pth.step hxm (this.mono hmem)
    simpa using this
 refine⟨?_,.inr ⟨E,x,rfl,hpx⟩⟩
 have hT':Txt (E++[]):=by rw[List.append_nil];exact hT
 have:=hT'.ins (R:=[x]) (by rw[List.append_nil];exact hs1) (fun a ha r hr=>?_) (List.pairwise_singleton _ _) (fun r hr b hb=>absurd hb (by simp))
 ·rwa [List.append_nil] at this
 ·rw[List.mem_singleton] at hr;subst hr
  rw[List.append_nil]
  rcases hS with⟨rfl,h⟩ | ⟨E',y,rfl,hp⟩
  ·exact absurd ha (by simp)
  ·have hyx:Ah (E'++[y]++[r]) y r:=by
    refine⟨_,_,hp.mono hmem,hpx, ?_⟩
    rw[hmq,List.reverse_append,List.reverse_cons]
    rcases zCJ m with rfl | ⟨m',e,rfl⟩
    ·rw[List.reverse_nil,List.append_nil];exact zER _ _ _
    ·rw[List.reverse_append]
     have hle:(m'++[e]).getLast?.getD Eid.z=e:=by simp
     rw[hle] at h2
     have hez:e≠Eid.z:=hpos e (by rw[hmq];simp)
     rcases h2 with h2 | h2
     ·exact absurd h2 hez
     ·exact zLF _ _ _ h2
   rcases List.mem_append.1 ha with ha | ha
   ·have:=(List.pairwise_append.1 hT.pw).2.2 a ha y List.mem_cons_self
    exact(this.mono hmem).trans hs1 hyx
   ·rw[List.mem_singleton] at ha;subst ha;exact hyx
theorem zHW:∀ {c p q:List Eid},ahd (c++p) (c++q)→ahd p q
 | [],_,_,h=>h
 | a::c,p,q,h=>by
  rcases h with h | ⟨_,h⟩
  ·rw[zHP] at h;cases h
  ·exact zHW h
theorem Txt.pre {E:List El}{x:El}(h:Txt (E++[x])):Txt E:=by
 have hmem:∀ y∈E,y∈E++[x]:=fun y hy=>List.mem_append_left _ hy
 have hxm:x∈E++[x]:=List.mem_append_right _ List.mem_cons_self
 have hp:=List.pairwise_append.1 h.pw
 have hcl:∀ y∈E,y.af≠x.id:=fun y hy e=>by
  have h1:=hp.2.2 y hy x List.mem_cons_self
  obtain⟨p,hpx⟩:=h.s1.path hxm
  have hpx':=hpx
  rw[← e] at hpx'
  have h2:Ah (E++[x]) x y:=⟨_,_,hpx,.step (hmem y hy) hpx',zER _ _ _⟩
  exact Ah.irr h.s1 x (h2.trans h.s1 h1)
 have hs:Set1 E:=by
  refine⟨?_,fun y hy=>h.s1.ct y (hmem y hy),fun y hy=>?_⟩
  ·have:=h.s1.nd
   rw[List.map_append,List.nodup_append] at this
   exact this.1
  ·rcases h.s1.rt y (hmem y hy) with e | ⟨w,hw,e⟩
   ·exact .inl e
   ·rcases List.mem_append.1 hw with hw | hw
    ·exact .inr ⟨w,hw,e⟩
    ·rw[List.mem_singleton] at hw;subst hw
     exact absurd e.symm (hcl y hy)
 refine⟨hs,List.Pairwise.imp_of_mem (fun {a b} ha hb k=>?_) hp.1⟩
 obtain⟨p,q,k1,k2,k⟩:=k
 obtain⟨p',hp'⟩:=hs.path ha
 obtain⟨q',hq'⟩:=hs.path hb
 rw[(hp'.mono hmem).fn h.s1 k1] at hp'
 rw[(hq'.mono hmem).fn h.s1 k2] at hq'
 exact⟨p,q,hp',hq',k⟩
theorem zbP (E:List El):Txt E→Ord (prs E)∧Stk E (stk (prs E)):=by
 refine zDQ (P:=fun E=>Txt E→Ord (prs E)∧Stk E (stk (prs E))) (fun _=>⟨Ord.nil,.inl ⟨rfl,rfl⟩⟩) (fun E x ih hT=>?_) E
 have he:prs (E++[x])=prs E++[(x.id,x.af)]:=by simp [prs]
 rw[he]
 have hE:=hT.pre
 obtain⟨hO,hS⟩:=ih hE
 have hmem:∀ y∈E,y∈E++[x]:=fun y hy=>List.mem_append_left _ hy
 have hxm:x∈E++[x]:=List.mem_append_right _ List.mem_cons_self
 have hpos:=hS.pos hE.s1
 have hps:=List.pairwise_append.1 hT.pw
 have hnx:x.id ∉ E.map (·.id):=by
  have:=hT.s1.nd
  rw[List.map_append,List.nodup_append] at this
  exact fun k=>this.2.2 _ k x.id (by simp) rfl
 have key:∃ m q,stk (prs E)=m++q∧(∀ t∈m,t≠x.af)∧((q=[]∧x.af=Eid.z) ∨ ∃ t,q=x.af::t)∧(m=[]∨x.id.less (m.getLast?.getD Eid.z)=true)∧Pth (E++[x]) x.id (q.reverse++[x.id]):=by
  rcases hT.s1.rt x hxm with e | ⟨w,hw,e⟩
  ·refine⟨stk (prs E),[],by simp,fun t ht=>e ▸ hpos t ht,.inl ⟨rfl,e⟩, ?_,.root hxm e⟩
   rcases hS with⟨rfl,h⟩ | ⟨E',y,rfl,hp⟩
   ·exact .inl h
   ·right
    obtain⟨p,q,k1,k2,k⟩:=hps.2.2 y (List.mem_append_right _ List.mem_cons_self) x List.mem_cons_self
    rw[(hp.mono hmem).fn hT.s1 k1 |>.symm,k2.fn hT.s1 (.root hxm e)] at k
    generalize stk (prs (E'++[y]))=s at *
    rcases zCJ s with rfl | ⟨s',a,rfl⟩
    ·obtain⟨z,hz⟩:=hp.last
     exact absurd hz (by simp)
    ·rw[List.reverse_append] at k
     simp only[List.reverse_cons,List.reverse_nil,List.nil_append,List.singleton_append] at k
     rcases k with k | ⟨_,k⟩
     ·simpa using k
     ·exact absurd k (zRP _)
  ·have hwE:w∈E:=by
    rcases List.mem_append.1 hw with h | h
    ·exact h
    ·rw[List.mem_singleton] at h;subst h
     have:=hT.s1.ct w hxm
     rw[e] at this
     omega
   obtain⟨pw,hpw⟩:=hT.s1.path hw
   have hpx:Pth (E++[x]) x.id (pw++[x.id]):=.step hxm (e ▸ hpw)
   rcases hS with⟨rfl,h⟩ | ⟨E',y,rfl,hp⟩
   ·exact absurd hwE (by simp)
   ·have hyx:=hps.2.2 y (List.mem_append_right _ List.mem_cons_self) x List.mem_cons_self
    obtain⟨p,q,k1,k2,k⟩:=hyx
    rw[(hp.mono hmem).fn hT.s1 k1 |>.symm,k2.fn hT.s1 hpx] at k
    have hpm:=hp.mono hmem
    generalize hsp:stk (prs (E'++[y]))=s at *
    have hpre:∃ r,s.reverse=pw++r:=by
     rcases List.mem_append.1 hwE with h | h
     ·obtain⟨p',q',j1,j2,j⟩:=(List.pairwise_append.1 hE.pw).2.2 w h y List.mem_cons_self
      rw[(j1.mono hmem).fn hT.s1 hpw,(j2.mono hmem).fn hT.s1 hpm] at j
      rcases zK4 j with⟨b,r,e2⟩ | ⟨c,a,b,s1,t1,e1,e2,hl⟩
      ·exact⟨_,e2⟩
      ·rw[e1,e2,List.append_assoc] at k
       have k:=zHW k
       rcases k with k | ⟨k,_⟩
       ·rw[zTJ hl] at k;cases k
       ·rw[k,zHP] at hl;cases hl
     ·rw[List.mem_singleton] at h;subst h
      exact⟨[],by rw[hpm.fn hT.s1 hpw];simp⟩
    obtain⟨r,hr⟩:=hpre
    obtain⟨p0,hp0⟩:=hpw.last
    rw[e] at hp0
    have hs:s=r.reverse++pw.reverse:=by rw[← List.reverse_append,← hr,List.reverse_reverse]
    refine⟨r.reverse,pw.reverse,hs,fun t ht et=>?_,.inr ⟨p0.reverse,by rw[hp0];simp⟩, ?_,by rw[List.reverse_reverse];exact hpx⟩
    ·subst et
     obtain⟨a1,b1,e1⟩:=List.append_of_mem (List.mem_reverse.1 ht)
     have g1:=hpm.pre (q:=p0) (y:=x.af) (r:=r) (by rw[hr,hp0];simp)
     have g2:=hpm.pre (q:=pw++a1) (y:=x.af) (r:=b1) (by rw[hr,e1];simp)
     have g3:=congrArg List.length (g1.fn hT.s1 g2)
     rw[hp0] at g3
     simp at g3
    ·rw[hr] at k
     cases r with
     | nil=>exact .inl rfl
     | cons a r =>
      right
      have k:=zHW k
      rcases k with k | ⟨_,k⟩
      ·simpa using k
      ·exact absurd k (zRP _)
 obtain⟨m,q,hmq,hm,hq,hl,hp⟩:=key
 have hpe:=zIN (el:=Eid.z) (q:=q) hm (hq.elim (fun h => .inl h.1) .inr)
 rw[← hmq] at hpe
 refine⟨hO.snoc ?_, ?_⟩
 ·unfold ordS
  rw[hpe,zNX]
  simp only[Bool.not_eq_true',Bool.or_eq_false_iff,Bool.and_eq_false_iff,Bool.not_eq_false',decide_eq_false_iff_not,decide_eq_true_eq]
  refine⟨⟨?_, ?_⟩,hnx⟩
  ·rcases hq with⟨_,h⟩ | ⟨t,rfl⟩
   ·exact .inr h
   ·exact .inl (by simp)
  ·rcases hl with rfl | h
   ·exact .inl rfl
   ·exact .inr h
 ·rw[zEM,hpe]
  exact .inr ⟨E,x,rfl,by simpa using hp⟩
theorem zU0 {E:List El}(h:∀ x∈E,x.af.c<x.id.c∧0<x.id.c):Ord (prs E)↔Txt E:=⟨fun k=>(zaW E h k).1,fun k=>(zbP E k).1⟩
def Chn:Eid→List El→Prop
 | _,[]=>True
 | a,x::R=>x.af=a∧a.c<x.id.c∧Chn x.id R
theorem Chn.path {F:List El}:∀ {R:List El} {a:Eid} {p:List Eid},Chn a R→(∀ x∈R,x∈F)→((a=Eid.z∧p=[])∨Pth F a p) → ∀ x∈R,∃ q,Pth F x.id (p++q) ∧ ∀ y R',R=y::R' → ∃ q',q=y.id::q'
 | [],_,_,_,_,_=>fun x hx=>absurd hx (by simp)
 | y::R,a,p,hC,hm,ha=>by
  intro x hx
  obtain⟨h1,h2,h3⟩:=hC
  have hy:Pth F y.id (p++[y.id]):=by
   exact zB0s
  rcases List.mem_cons.1 hx with rfl | hx
  ·exact⟨[x.id],hy,fun y' R' e=>by injection e with e1 e2;subst e1;exact⟨[],rfl⟩⟩
  ·obtain⟨q,hq,_⟩:=Chn.path h3 (fun x hx=>hm x (List.mem_cons_of_mem _ hx)) (.inr hy) x hx
   rw[List.append_assoc] at hq
   exact⟨_,hq,fun y' R' e=>by injection e with e1 e2;subst e1;exact⟨q,rfl⟩⟩
theorem Chn.pw {F:List El}:∀ {R:List El} {a:Eid} {p:List Eid},Chn a R→(∀ x∈R,x∈F)→((a=Eid.z∧p=[])∨Pth F a p)→R.Pairwise (Ah F)
 | [],_,_,_,_,_ => .nil
 | y::R,a,p,hC,hm,ha=>by
  obtain⟨h1,h2,h3⟩:=hC
  have hy:Pth F y.id (p++[y.id]):=by
   exact zB0s
  refine List.pairwise_cons.2 ⟨fun x hx=>?_,Chn.pw h3 (fun x hx=>hm x (List.mem_cons_of_mem _ hx)) (.inr hy)⟩
  obtain⟨q,hq,hh⟩:=Chn.path h3 (fun x hx=>hm x (List.mem_cons_of_mem _ hx)) (.inr hy) x hx
  cases R with
  | nil=>exact absurd hx (by simp)
  | cons w R =>
   obtain⟨q',rfl⟩:=hh w R rfl
   exact⟨_,_,hy,hq,zER _ _ _⟩
theorem Chn.grow:∀ {R:List El} {a:Eid},Chn a R → ∀ x∈R,a.c<x.id.c
 | [],_,_=>fun x hx=>absurd hx (by simp)
 | y::R,a,hC=>fun x hx=>by
  obtain⟨h1,h2,h3⟩:=hC
  rcases List.mem_cons.1 hx with rfl | hx
  ·exact h2
  ·have:=h3.grow x hx
   omega
theorem Chn.ct:∀ {R:List El} {a:Eid},Chn a R→0≤a.c → ∀ x∈R,x.af.c<x.id.c∧0<x.id.c
 | [],_,_,_=>fun x hx=>absurd hx (by simp)
 | y::R,a,hC,ha=>fun x hx=>by
  obtain⟨h1,h2,h3⟩:=hC
  rcases List.mem_cons.1 hx with rfl | hx
  ·rw[h1];omega
  ·exact h3.ct (by omega) x hx
theorem Chn.rt:∀ {R:List El} {a:Eid},Chn a R → ∀ x∈R,x.af=a ∨ ∃ y∈R,y.id=x.af
 | [],_,_=>fun x hx=>absurd hx (by simp)
 | y::R,a,hC=>fun x hx=>by
  obtain⟨h1,h2,h3⟩:=hC
  rcases List.mem_cons.1 hx with rfl | hx
  ·exact .inl h1
  ·rcases h3.rt x hx with e | ⟨w,hw,e⟩
   ·exact .inr ⟨y,List.mem_cons_self,e.symm⟩
   ·exact .inr ⟨w,List.mem_cons_of_mem _ hw,e⟩
theorem Chn.nd:∀ {R:List El} {a:Eid},Chn a R→(R.map (·.id)).Nodup
 | [],_,_=>List.nodup_nil
 | y::R,a,hC=>by
  obtain⟨h1,h2,h3⟩:=hC
  rw[List.map_cons,List.nodup_cons]
  refine⟨fun h=>?_,h3.nd⟩
  obtain⟨x,hx,e⟩:=List.mem_map.1 h
  have:=h3.grow x hx
  rw[e] at this
  omega
theorem Txt.put {A0 A1 B R:List El}{r:El}{R':List El}(hT:Txt (A0++A1++B))(hR:R=r::R')(hC:Chn r.af R)
  (ha:(r.af=Eid.z∧A0=[]) ∨ ∃ A00 w,A0=A00++[w]∧w.id=r.af)
  (hf:∀ x∈R,∀ y∈A0++A1++B,x.id≠y.id)
  (h1:∀ x∈A1,r.id.less x.id=true)
  (h2:∀ b B',B=b::B'→r.id.less b.id=false):Txt (A0++A1++R++B):=by
 have hrc:0≤r.af.c:=by
  rcases ha with⟨h,_⟩ | ⟨A00,w,rfl,h⟩
  ·rw[h];decide
  ·have:=(hT.s1.ct w (by simp)).2
   rw[h] at this
   omega
 have hrm:r∈R:=by rw[hR];exact List.mem_cons_self
 have hm:∀ x∈A0++A1++B,x∈A0++A1++R++B:=fun x hx=>by
  rcases List.mem_append.1 hx with h | h
  ·exact List.mem_append_left _ (List.mem_append_left _ h)
  ·exact List.mem_append_right _ h
 have hmR:∀ x∈R,x∈A0++A1++R++B:=fun x hx=>List.mem_append_left _ (List.mem_append_right _ hx)
 have hs:Set1 (A0++A1++R++B):=by
  refine⟨?_,fun x hx=>?_,fun x hx=>?_⟩
  ·have hn:=hT.s1.nd
   have hd:∀ x∈R,x.id ∉ (A0++A1++B).map (·.id):=fun x hx k=>by
    obtain⟨y,hy,e⟩:=List.mem_map.1 k
    exact hf x hx y hy e.symm
   rw[List.map_append,List.nodup_append] at hn
   rw[List.map_append,List.map_append,List.nodup_append,List.nodup_append]
   refine⟨⟨hn.1,hC.nd,fun a ha b hb e=>?_⟩,hn.2.1,fun a ha b hb e=>?_⟩
   ·obtain⟨x,hx,rfl⟩:=List.mem_map.1 hb
    subst e
    exact hd x hx (by rw[List.map_append];exact List.mem_append_left _ ha)
   ·rcases List.mem_append.1 ha with ha | ha
    ·exact hn.2.2 a ha b hb e
    ·obtain⟨x,hx,rfl⟩:=List.mem_map.1 ha
     subst e
     exact hd x hx (by rw[List.map_append];exact List.mem_append_right _ hb)
  ·rcases List.mem_append.1 hx with h | h
   ·rcases List.mem_append.1 h with h | h
    ·exact hT.s1.ct x (List.mem_append_left _ h)
    ·exact hC.ct hrc x h
   ·exact hT.s1.ct x (List.mem_append_right _ h)
  ·have old:x∈A0++A1++B→x.af=Eid.z ∨ ∃ y∈A0++A1++R++B,y.id=x.af:=fun h=>by
    rcases hT.s1.rt x h with e | ⟨y,hy,e⟩
    ·exact .inl e
    ·exact .inr ⟨y,hm y hy,e⟩
   rcases List.mem_append.1 hx with h | h
   ·rcases List.mem_append.1 h with h | h
    ·exact old (List.mem_append_left _ h)
    ·rcases hC.rt x h with e | ⟨y,hy,e⟩
     ·rcases ha with⟨h7,_⟩ | ⟨A00,w,rfl,h7⟩
      ·exact .inl (e.trans h7)
      ·exact .inr ⟨w,by simp,h7.trans e.symm⟩
     ·exact .inr ⟨y,hmR y hy,e⟩
   ·exact old (List.mem_append_right _ h)
 -- the path of the one that it names
 have hpa:∃ p,((r.af=Eid.z∧p=[])∨Pth (A0++A1++R++B) r.af p)∧(∀ u∈p,u.c≤r.af.c)∧(∀ x∈A0,∀ q,Pth (A0++A1++R++B) x.id q→q=p∨ahd q p)∧(∀ x∈A1++B,∀ q,Pth (A0++A1++R++B) x.id q→ahd p q):=by
  rcases ha with⟨h,rfl⟩ | ⟨A00,w,rfl,h⟩
  ·refine⟨[],.inl ⟨h,rfl⟩,(fun _ h=>absurd h (by simp)),(fun _ h=>absurd h (by simp)),fun x hx q hq=>?_⟩
   obtain⟨q0,rfl⟩:=hq.last
   cases q0 <;> trivial
  ·have hw:w∈A00++[w]++A1++B:=by simp
   obtain⟨p,hp⟩:=hT.s1.path hw
   have hpF:=hp.mono hm
   have hpw:=hT.pw
   have hpw':(A00++([w]++(A1++B))).Pairwise (Ah (A00++[w]++A1++B)):=by simpa using hpw
   have q1:=List.pairwise_append.1 hpw'
   have q2:=List.pairwise_append.1 q1.2.1
   refine⟨p,.inr (h ▸ hpF),fun u hu=>?_,fun x hx q hq=>?_,fun x hx q hq=>?_⟩
   ·have:=hp.grow (fun x hx=>(hT.s1.ct x hx).1) u hu
    rw[h] at this
    exact this
   ·rcases List.mem_append.1 hx with hx | hx
    ·obtain⟨p1,p2,k1,k2,k⟩:=q1.2.2 x hx w (by simp)
     rw[(k1.mono hm).fn hs hq,(k2.mono hm).fn hs hpF] at k
     exact .inr k
    ·rw[List.mem_singleton] at hx;subst hx
     exact .inl (hq.fn hs hpF)
   ·obtain⟨p1,p2,k1,k2,k⟩:=q2.2.2 w (by simp) x hx
    rw[(k1.mono hm).fn hs hpF,(k2.mono hm).fn hs hq] at k
    exact k
 obtain⟨p,hp,hpc,hA0,hAB⟩:=hpa
 have hCp:=hC.path hmR hp
 have hpr:∀ x∈R,∃ q',Pth (A0++A1++R++B) x.id (p++r.id::q'):=fun x hx=>by
  obtain⟨q,hq,hh⟩:=hCp x hx
  obtain⟨q',rfl⟩:=hh r R' hR
  exact⟨q',hq⟩
 have hrl:r.af.c<r.id.c:=hC.grow r hrm
 refine hT.ins hs (fun a ha x hx=>?_) (hC.pw hmR hp) (fun x hx b hb=>?_)
 ·-- what stands ahead
  obtain⟨q',hq'⟩:=hpr x hx
  have haE:a∈A0++A1++B:=List.mem_append_left _ ha
  obtain⟨pa,hpa⟩:=hs.path (hm a haE)
  refine⟨_,_,hpa,hq', ?_⟩
  rcases List.mem_append.1 ha with ha | ha
  ·rcases hA0 a ha pa hpa with rfl | k
   ·exact zER _ _ _
   ·exact zES k (zER _ _ _)
  ·-- those behind it that are greater
   have mid:∀ e:Eid,∀ pe,Pth (A0++A1++R++B) e pe→ahd p pe→(pe=pa∨ahd pe pa)→(∃ y∈A0++A1++B,y.id=e)→r.id.less e=true:=by
    rintro e pe hpe k1 k2 ⟨y,hy,rfl⟩
    rcases List.mem_append.1 hy with hy | hy
    ·rcases List.mem_append.1 hy with hy | hy
     ·rcases hA0 y hy pe hpe with rfl | k
      ·exact absurd k1 (zGI _)
      ·exact absurd (zES k k1) (zGI _)
     ·exact h1 y hy
    ·have hAh:=(List.pairwise_append.1 hT.pw).2.2 a (List.mem_append_right _ ha) y hy
     obtain⟨p1,p2,j1,j2,j⟩:=hAh
     rw[(j1.mono hm).fn hs hpa,(j2.mono hm).fn hs hpe] at j
     rcases k2 with rfl | k2
     ·exact absurd j (zGI _)
     ·exact absurd (zES j k2) (zGI _)
   -- a path of a: over elements of the old ones
   obtain⟨pa',hpa'⟩:=hT.s1.path haE
   have hpaE:pa'=pa:=(hpa'.mono hm).fn hs hpa
   subst hpaE
   have k:=hAB a (List.mem_append_left _ ha) _ hpa
   rcases zK4 k with⟨e,t,he⟩ | ⟨c,u,w,s,t,e1,e2,hl⟩
   ·have hpe:=hpa'.pre he
    have hle:r.id.less e=true:=mid e _ (hpe.mono hm) (zER _ _ _) (by
     cases t with
     | nil=>exact .inl he.symm
     | cons b t=>rw[he];exact .inr (by have:=zER (p++[e]) b t;simpa using this)) hpe.mem
    rw[he]
    exact zLF _ _ _ hle
   ·have hpe:=hpa'.pre e2
    have hle:r.id.less w=true:=mid w _ (hpe.mono hm) (by rw[e1];exact zLF _ _ _ hl) (by
     cases t with
     | nil=>exact .inl e2.symm
     | cons b t=>rw[e2];exact .inr (by have:=zER (c++[w]) b t;simpa using this)) hpe.mem
    have:=zTK hle
    have:=zTK hl
    have:=hpc u (by rw[e1];simp)
    omega
 ·-- what stands behind
  obtain⟨q',hq'⟩:=hpr x hx
  cases B with
  | nil=>exact absurd hb (by simp)
  | cons b0 B' =>
   have hb0:Ah (A0++A1++R++b0::B') x b0:=by
    have hbm:b0∈A0++A1++b0::B':=by simp
    obtain⟨pb,hpb⟩:=hT.s1.path hbm
    refine⟨_,_,hq',hpb.mono hm, ?_⟩
    have k:=hAB b0 (by simp) _ (hpb.mono hm)
    have hlt:b0.id.less r.id=true:=by
     rcases zPD (hf r hrm b0 hbm) with h | h
     ·rw[h2 b0 B' rfl] at h;cases h
     ·exact h
    rcases zK4 k with⟨e,t,he⟩ | ⟨c,u,w,s,t,e1,e2,hl⟩
    ·rw[he]
     refine zLF _ _ _ ?_
     rcases zCJ t with rfl | ⟨t',z,rfl⟩
     ·obtain⟨q0,e0⟩:=hpb.last
      rw[he] at e0
      have:=(List.append_inj' e0 rfl).2
      injection this with this
      rw[this];exact hlt
     ·have hpe:=hpb.pre he
      obtain⟨q0,e0⟩:=hpb.last
      have he2:pb=(p++e::t')++[z]:=by rw[he];simp
      rw[he2] at e0
      have e3:=(List.append_inj' e0 rfl).2
      injection e3 with e3
      subst e3
      -- the one ahead of the last one of a path is lesser
      have hlast:e.c<b0.id.c:=by
       rw[he2] at hpb
       generalize hbi:b0.id=i at hpb
       generalize hpp:(p++e::t')++[i]=pp at hpb
       cases hpb with
       | root m e4=>exact absurd (congrArg List.length hpp) (by simp;omega)
       | @step x0 p0 m kp =>
        have e5:=(List.append_inj' hpp rfl).1
        have g:=kp.grow (fun x hx=>(hT.s1.ct x hx).1) e (by rw[← e5];simp)
        have:=(hT.s1.ct x0 m).1
        omega
      have:=zTK hlt
      exact zLZ (by omega)
    ·rw[e1,e2,List.append_assoc,List.cons_append]
     exact zLF _ _ _ hl
   rcases List.mem_cons.1 hb with rfl | hb
   ·exact hb0
   ·have:=List.pairwise_cons.1 (List.pairwise_append.1 hT.pw).2.1
    exact hb0.trans hs ((this.1 b hb).mono hm)
def zM5 (q r:Rn):Bool:=decide (r.af=q.last)&&decide (r.sp.f=(⟨r.af.hd,IntKind.i64.wrap (r.af.c+1)⟩:Eid))
def room (q:Rn):Int:=IntKind.i64.wrap (64 - q.sp.n)
def addR (out : List Rn) (r : Rn) : List Rn :=
  match out.getLast? with
  | none=>out ++ [r]
  | some q=>if zM5 q r = true then
      (if r.cutE (room q) = 0 then out.set (out.length - 1) (zDW q (r.fst (room q))) ++ [r.snd (room q)]
       else if zFN q r = 0 then out.set (out.length - 1) (zDW q r)
       else out ++ [r])
    else out ++ [r]
def zBT (l:List Rn):List Rn:=l.foldl addR []
theorem zM1 (l:List Rn)(r:Rn):zBT (l++[r])=addR (zBT l) r:=by simp [zBT]
theorem zOO (out:List Rn)(r:Rn):(addR out r).length≤out.length+1:=by
 unfold addR
 split
 ·simp
 ·split
  ·split
   ·simp
   ·split <;> simp
  ·simp
theorem Rn.z_ok:Rn.z.ok:=⟨⟨Eid.z_ok,by decide,by decide⟩,Eid.z_ok,fun _ h=>by cases h⟩
theorem zG7 {a b:Rn}:zFN a b=0↔a.may=true∧b.may=true∧(a.both b).cutE a.sp.n=0∧(a.both b).fst a.sp.n=a∧(a.both b).snd a.sp.n=b:=by
 unfold zFN
 by_cases h:a.may=true∧b.may=true
 ·rw[if_pos h]
  by_cases k:(a.both b).cutE a.sp.n=0∧(a.both b).fst a.sp.n=a∧(a.both b).snd a.sp.n=b
  ·rw[if_pos k];exact⟨fun _=>⟨h.1,h.2,k⟩,fun _=>rfl⟩
  ·rw[if_neg k];exact⟨fun e=>(by cases e),fun e=>absurd e.2.2 k⟩
 ·rw[if_neg h];exact⟨fun e=>(by cases e),fun e=>absurd ⟨e.1,e.2.1⟩ h⟩
theorem zP9 {a b:Rn}(ha:a.ok)(hb:b.ok):(zDW a b).ok:=by
 unfold zDW
 split
 ·rename_i h
  obtain⟨ma,mb,_⟩:=zG7.1 h
  have ba:=Spn.may_le (Rn.may_sp ma)
  have bb:=Spn.may_le (Rn.may_sp mb)
  refine⟨⟨ha.1.1, ?_⟩,ha.2.1,fun x hx=>?_⟩
  ·show i64R (a.sp.n+b.sp.n)
   unfold i64R;omega
  ·rcases List.mem_append.1 hx with h | h
   ·exact ha.2.2 x h
   ·exact hb.2.2 x h
 ·exact Rn.z_ok
theorem zLX (a b:Rn):(zDW a b).rs.length≤1000:=by
 unfold zDW
 split
 ·rename_i h
  obtain⟨ma,mb,_⟩:=zG7.1 h
  have ba:=Spn.may_le (Rn.may_sp ma)
  have bb:=Spn.may_le (Rn.may_sp mb)
  have la:=Rn.may_len ma
  have lb:=Rn.may_len mb
  show (a.rs++b.rs).length≤_
  rw[List.length_append];omega
 ·exact Nat.zero_le _
theorem zYJ {r:Rn}{n:Int}(h:r.ok)(hc:r.cutE n=0):(r.fst n).ok:=by
 obtain⟨hm,h0,h1⟩:=Rn.cutE_iff.1 hc
 have hb:=Spn.may_le (Rn.may_sp hm)
 exact⟨⟨h.1.1,by show i64R n;unfold i64R;omega⟩,h.2.1,fun x hx=>h.2.2 x (List.mem_of_mem_take hx)⟩
theorem zZ4 {r:Rn}{n:Int}(h:r.ok)(hc:r.cutE n=0):(r.snd n).ok:=by
 obtain⟨hm,h0,h1⟩:=Rn.cutE_iff.1 hc
 have hb:=Spn.may_le (Rn.may_sp hm)
 exact⟨⟨⟨h.1.1.1,by show i64R (r.sp.f.c+n);unfold i64R;omega⟩,by show i64R (r.sp.n - n);unfold i64R;omega⟩,⟨h.1.1.1,by show i64R (r.sp.f.c+(n - 1));unfold i64R;omega⟩,fun x hx=>h.2.2 x (List.mem_of_mem_drop hx)⟩
def rnK:NK Rn Int where
 st:=10
 H:=rnH
 f:=fun r=>r.rs
 T:=zAY
 ok:=Rn.ok
 hl:=fun _=>rfl
 hz:=zI9
 ft:=zD4
theorem ND.lr {o:AV}{l:List Rn}{B:Nat}(h:rnK.ND M B o l):oneA o=true∧cellsA o=[o]∧RL M.size o∧(∀ N,lenO N o=some (I64 l.length,N))∧purA o=true ∧ ∀ j,rowOf o=some j→j<M.size:=by
 obtain⟨lr,rfl,h2,_⟩:=h
 exact⟨h2.one,h2.cells,h2.rl,fun N=>by rw[List.length_map];exact h2.len N,h2.pur,h2.lt⟩
theorem ze8 {o:AV}{l:List Rn}{B:Nat}(h:rnK.ND M B o l){n:Nat}(hn:n<l.length):∃ id cs ra,rowOf o=some id∧B≤id∧id<M.size∧M.get id=some (.row false cs)∧(n+1)*10≤cs.length∧(∀ N,iadO N 10 o (some n)=some (.ptr id (n*10),N))∧SlM M 1 zAY ra l[n].rs∧l[n].ok∧(∀ j,rowOf ra=some j→B≤j)∧rowOf ra≠some id∧Go.Ax.part cs (n*10) 10 true=some (.agg (rnR l[n] ra))∧(∀ k,k<10→cs[n*10+k]? = (rnR l[n] ra)[k]?) ∧
  ∀ (N:Mem) (y:Rn) (rb:AV),M.size≤N.size→SlM N 1 zAY rb y.rs→(∀ j,rowOf rb=some j→M.size≤j)→y.ok→(∀ j,j<M.size→j≠id→N.get j=M.get j)→N.get id=some (.row false (lay cs (n*10) (rnR y rb)))→B≤M.size→rnK.ND N B o (l.set n y):=by
 obtain⟨id,cs,ra,h1,h2,h3,h4,h5,h6,h7,h8,h9,h10⟩:=h.put hn
 have h7:(n+1)*10≤cs.length:=h7
 have h6:slot cs (n*10) 10=rnR l[n] ra:=h6
 refine⟨id,cs,ra,h1,h2,h3,h4,h7,h5,h8.1,h8.2.2,h8.2.1,h9, ?_,fun k hk=>zG6 h6 hk,fun N y rb z1 z2 z3 z4 z5 z6 z7=>h10 N y rb z1 ⟨z2,z3,z4⟩ z2.one z2.cells (fun j _ hj _ hne=>z5 j hj hne) z6 z7⟩
 have:=zED (off:=0) (n:=10) (ag:=true) h6 (by omega) (by omega)
 rw[Nat.add_zero] at this
 rw[this]
 rfl
theorem zKN {a:AV}{l:List Rn}(hS:Sl 10 isRn a l)(hl:l.length≤100000)(hd:∀ r∈l,r.rs.length≤1000000)(hf:l.length+3000000<fuel):zCX Try.prog (fsT tbl) fuel (d+8) 29 [a] (fun r M=>rnK.ND M 0 r (zBT l)):=by
 have ll:=hS.len
 refine zDO tf29 rfl (by simp [a29]) fun b' ht hx=>?_
 have h0:=hx 0 _ rfl
 clear hx
 simp only[a29,c29] at ht ⊢
 simp (disch:=try exact SX) only[RV,seval,zA0,h0,ll,hS.fz.rows,hS.fz.one,hS.fz.cells,hS.fz.icy,hS.fz.frz]
 refine zB7 (I:=fun n t N => ∃ (i:Nat) (o:AV),n=l.length - i∧i≤l.length∧nth zA3 t 2=o∧nth zA3 t 13=a∧nth zA3 t 14=I64 l.length∧nth zA3 t 15=I64 i∧Wf N∧rnK.ND N 0 o (zBT (l.take i))∧(zBT (l.take i)).length≤i∧(∀ q∈zBT (l.take i),q.rs.length≤1000000)) (n:=l.length) (by omega) ?_ ?_
 ·refine⟨0,NIL,rfl,Nat.zero_le _, ?_, ?_, ?_, ?_,Wf.mem0,NK.ND.nil _ _,Nat.le_refl 0,(fun _ h=>by cases h)⟩ <;> simp (disch:=try exact SX) only[RV,seval,zA0,h0,ll]
  all_goals first | rfl | assumption | done
 ·rintro n t N hlt ⟨i,o,rfl,hi,g2,g13,g14,g15,w,sm,bl,bd⟩
  simp only[ht] at hlt ⊢
  obtain⟨oo,oc,orl,olen,opu,olt⟩:=ND.lr sm
  by_cases hc:i<l.length
  ·have q1:decide ((i:Int)<l.length)=true:=DT
   have w1:IntKind.i64.wrap ((i:Int)+1)=((i+1:Nat):Int):=WI
   obtain⟨r,hiad,hr,hrl⟩:=hS.iad i hc
   have hts:=zM1 (l.take i) l[i]
   rw[← zB4 l i hc] at hts
   have hal:=zOO (zBT (l.take i)) l[i]
   have hde:=hd l[i] (List.getElem_mem hc)
   generalize l[i]=e at *
   generalize zBT (l.take i)=out at *
   obtain⟨ra,rfl,hra,hok⟩:=hr
   have ora:=hra.one
   have rlo:∀ m,N.size≤m→((rowsOf o).all fun i=>Nat.blt i m)=true:=fun m h=>zAM orl h
   by_cases hz:out.length=0
   ·have ho:out=[]:=List.eq_nil_of_length_eq_zero hz
    subst ho
    have olen':∀ N,lenO N o=some (I64 0,N):=olen
    have w2:IntKind.i64.wrap (-1) = -1:=by decide
    have q2:decide ((0:Int) ≤ -1)=false:=by decide
    have eA:addR [] e=[]++[e]:=rfl
    rw[eA] at hts hal
    simp (disch:=try exact SX) only[RV,seval,zA0,g2,g13,g14,g15,q1,hiad,hra.fz.rows,hra.fz.one,hra.fz.cells,hra.fz.icy,hra.fz.frz,w,oo,oc,rlo,olen',w2,q2]
    refine zCR (fuel:=fuel) (d:=d+6) hra (by omega) (by simp (disch:=try exact SX) only[RV,seval,zA0,w]) fun rt U kU sU nU=>?_
    have wU:=kU.wf
    have zU:N.size+1≤U.size:=kU.le
    have ort:=sU.one
    have crt:=sU.cells
    have rrt:=zAM sU.rl (Nat.le_refl U.size)
    have rlU:=rlo U.size (by omega)
    have rlU1:=rlo (U.size+1) (by omega)
    have kN:∀ j,j<N.size→U.get j=N.get j:=fun j hj=>(kU.get j (by show j<N.size+1;omega)).trans (by simp (disch:=try exact SX) only[RV,seval,zA0,w])
    simp (disch:=try exact SX) only[RV,seval,zA0,g2,g13,g14,g15,wU,oo,oc,rlU,rlU1,ort,crt,rrt]
    refine NK.ND.app (K:=rnK) (ra:=rt) (x:=e) (by':=80) wU sm (fun j _ hj=>kN j hj) (by omega) ⟨rfl,ort,crt⟩ ⟨sU,fun j _=>Nat.zero_le j,hok⟩ (fun j hj=>by have:N.size+1≤j:=nU j hj;omega) (by omega) (by omega) (Nat.zero_le _) fun o' M' sm' w' le' kp nw wm'=>?_
    obtain⟨oo',oc',orl',olen',opu',olt'⟩:=ND.lr sm'
    simp (disch:=try exact SX) only[RV,seval,zA0,g2,g13,g14,g15,w1]
    refine⟨hlt,l.length - (i+1),by omega,i+1,o',rfl,by omega,rfl,rfl,w',by rw[hts];exact sm',by rw[hts];simp,fun q hq=>?_⟩
    rw[hts] at hq
    simp at hq
    subst hq
    exact hde
   ·obtain⟨n,hn⟩:∃ n:Nat,out.length=n+1:=⟨out.length - 1,by omega⟩
    have hnl:n<out.length:=by omega
    have w2:IntKind.i64.wrap ((out.length:Int) - 1)=(n:Int):=WI
    have q2:decide ((0:Int)≤(n:Int))=true:=DT
    obtain⟨id,cs,rq,hrow,_,lid,hg,hcs,hoad,hrq,hqok,_,hne,hpt,hgt,hset⟩:=ze8 sm hnl
    have hgl:out.getLast? = some out[n]:=by rw[List.getLast?_eq_getElem?,hn,Nat.add_sub_cancel,List.getElem?_eq_getElem hnl]
    have hqd:=bd out[n] (List.getElem_mem hnl)
    have hon1:out.length - 1=n:=by omega
    unfold addR at hts hal
    rw[hgl] at hts hal
    simp only[hon1] at hts hal
    generalize out[n]=q at *
    have orq:=hrq.one
    have crq:=hrq.cells
    have lrq:=hrq.lt
    have idN:id≠N.size:=by omega
    have hn10:(n:Nat)*10+10≤cs.length:=by omega
    have fin:∀ (x:Rn) (o':AV) (M':Mem),zBT (l.take (i+1))=out++[x]→x=e→rnK.ND M' 0 o' (out++[x])→Wf M'→Wf M'∧rnK.ND M' 0 o' (zBT (l.take (i+1)))∧(zBT (l.take (i+1))).length≤i+1 ∧ ∀ q∈zBT (l.take (i+1)),q.rs.length≤1000000:=by
     intro x o' M' h1 h2 h3 h4
     subst h2
     rw[h1]
     refine⟨h4,h3,by simp;omega,fun q hq=>?_⟩
     rcases List.mem_append.1 hq with h | h
     ·exact bd q h
     ·rw[List.mem_singleton] at h;subst h;exact hde
    cases c1:zM5 q e with
    | false =>
     rw[c1] at hts hal
     simp only[Bool.false_eq_true,if_false] at hts hal
     unfold zM5 at c1
     simp (disch:=try exact SX) only[RV,seval,zA0,g2,g13,g14,g15,q1,hiad,hra.fz.rows,hra.fz.one,hra.fz.cells,hra.fz.icy,hra.fz.frz,orq,crq,w,oo,oc,rlo,olen,w2,q2,hoad,hg,hpt]
     refine zPA (d:=d+2) (hrq.keep fun j hj=>?_) (by simp (disch:=try exact SX) only[RV,seval,zA0,w]) ?_
     ·exact zB0f
     cases c2:decide (e.af=q.last) with
     | false =>
      simp (disch:=try exact SX) only[RV,seval,zA0,g2,g13,g14,g15,hra.fz.rows,hra.fz.one,hra.fz.cells,hra.fz.icy,hra.fz.frz,w,oo,oc,rlo,↓pIdE,zAE,↓pIdN,zAB,↓pHdE,zAC,↓pHdN,zAD,↓pLbE,zAF,↓pLbN,zAG,↓pSpE,zAH,↓pSpN,zAI,ETA,c2]
      exact zB02
     | true =>
      rw[c2,Bool.true_and] at c1
      simp (disch:=try exact SX) only[RV,seval,zA0,g2,g13,g14,g15,hra.fz.rows,hra.fz.one,hra.fz.cells,hra.fz.icy,hra.fz.frz,w,oo,oc,rlo,↓pIdE,zAE,↓pIdN,zAB,↓pHdE,zAC,↓pHdN,zAD,↓pLbE,zAF,↓pLbN,zAG,↓pSpE,zAH,↓pSpN,zAI,ETA,c2,c1]
      exact zB02
    | true =>
     rw[c1] at hts hal
     simp only[if_true] at hts hal
     unfold zM5 at c1
     simp only[Bool.and_eq_true] at c1
     obtain⟨c1,c2⟩:=c1
     obtain⟨v,⟨ca,cb,rfl,hca,hcb⟩,hcut⟩:=zJZ (fuel:=fuel) (d:=d+1) (n:=room q) hra (by omega)
     have oca:=hca.one
     have ocb:=hcb.one
     have hpn:=hgt 4 (by omega)
     have hnx:decide (e.sp.f=(⟨e.af.hd,IntKind.i64.wrap (e.af.c+1)⟩:Eid))=true:=c2
     simp (disch:=try exact SX) only[RV,seval,zA0,g2,g13,g14,g15,q1,hiad,hra.fz.rows,hra.fz.one,hra.fz.cells,hra.fz.icy,hra.fz.frz,orq,crq,w,oo,oc,rlo,olen,w2,q2,hoad,hg,hpt]
     refine zPA (d:=d+2) (hrq.keep fun j hj=>?_) (by simp (disch:=try exact SX) only[RV,seval,zA0,w]) ?_
     ·exact zB0f
     by_cases q3:e.cutE (room q)=0
     ·have q3':decide (e.cutE (room q)=0)=true:=decide_eq_true q3
      have eA:e.cutA (room q)=e.fst (room q):=by unfold Rn.cutA;rw[if_pos q3]
      have eB:e.cutB (room q)=e.snd (room q):=by unfold Rn.cutB;rw[if_pos q3]
      simp only[q3,if_true] at hts hal
      rw[eA] at hca hcut
      rw[eB] at hcb hcut
      have okA:=zYJ hok q3
      have okB:=zZ4 hok q3
      have lA:(e.fst (room q)).rs.length≤1000000:=by simp only[Rn.fst,List.length_take];omega
      have lB:(e.snd (room q)).rs.length≤1000000:=by simp only[Rn.snd,List.length_drop];omega
      have hjl:=zLX q (e.fst (room q))
      have hjok:=zP9 hqok okA
      generalize e.fst (room q)=eF at *
      generalize e.snd (room q)=eS at *
      generalize hjj:zDW q eF=jj at *
      unfold room at hcut q3 q3'
      simp (disch:=try exact SX) only[RV,seval,zA0,g2,g13,g14,g15,hra.fz.rows,hra.fz.one,hra.fz.cells,hra.fz.icy,hra.fz.frz,w,oo,oc,rlo,olen,w2,hoad,hg,hpt,↓pIdE,zAE,↓pIdN,zAB,↓pHdE,zAC,↓pHdN,zAD,↓pLbE,zAF,↓pLbN,zAG,↓pSpE,zAH,↓pSpN,zAI,ETA,c1,hnx,hpn,hcut,q3',hca.fz.rows,hca.fz.one,hca.fz.cells,hca.fz.icy,hca.fz.frz,hcb.fz.rows,hcb.fz.one,hcb.fz.cells,hcb.fz.icy,hcb.fz.frz,orq,crq]
      refine zJ1 (fuel:=fuel) (d:=d) (a:=q) (b:=eF) (hrq.keep fun j hj=>?_) hca hqok okA hqd lA (by omega) (by simp (disch:=try exact SX) only[RV,seval,zA0,w]) fun jr U kU sU nU=>?_
      ·exact zB0f
      rw[hjj] at sU ⊢
      have wU:=kU.wf
      have zU:N.size+3≤U.size:=kU.le
      have ojr:=sU.one
      have cjr:=sU.cells
      have rjr:=zAM sU.rl (Nat.le_refl U.size)
      have ljr:=sU.lt
      have nU:∀ j,rowOf jr=some j→N.size+3≤j:=nU
      have kN:∀ j,j<N.size→U.get j=N.get j:=fun j hj=>(kU.get j (by show j<N.size+3;omega)).trans (by simp (disch:=try exact SX) only[RV,seval,zA0,w])
      have gid:=(kN id lid).trans hg
      have k0:=kU.get N.size (by show _<N.size+3;omega)
      have k1:=kU.get (N.size+1) (by show _<N.size+3;omega)
      have k2:=kU.get (N.size+1+1) (by show _<N.size+3;omega)
      simp (disch:=try exact SX) only[RV,seval,zA0,w] at k0 k1 k2
      have rlU:=rlo U.size (by omega)
      have rlU1:=rlo (U.size+1) (by omega)
      simp (disch:=try exact SX) only[RV,seval,zA0,g2,g13,g14,g15,wU,oo,oc,rlU,rlU1,hoad,gid,k0,k1,k2,ojr,cjr,rjr,oca,ocb,hca.fz.rows,hca.fz.one,hca.fz.cells,hca.fz.icy,hca.fz.frz,hcb.fz.rows,hcb.fz.one,hcb.fz.cells,hcb.fz.icy,hcb.fz.frz]
      generalize hV:Mem.upd (Mem.upd (Mem.bk _ U) id _) N.size _=V
      have wV:Wf V:=by rw[← hV];simp (disch:=try exact SX) only[RV,seval,zA0,wU]
      have sV:V.size=U.size:=by rw[← hV];simp (disch:=try exact SX) only[RV,seval,zA0,wU]
      have gV:∀ j,j≠id→j≠N.size→V.get j=U.get j:=fun j h1 h2=>by rw[← hV];simp (disch:=try exact SX) only[RV,seval,zA0,wU]
      have giV:V.get id=some (.row false (lay cs (n*10) (rnR jj jr))):=by
       rw[← hV]
       exact zB0w
      have smV:rnK.ND V 0 o (out.set n jj):=hset V jj jr (by omega) (sU.keep fun j hj=>gV j (by have:=nU j hj;omega) (by have:=nU j hj;omega)) (fun j hj=>by have:=nU j hj;omega) hjok (fun j hj hne=>(gV j hne (by omega)).trans (kN j hj)) giV (Nat.zero_le _)
      refine zCR (fuel:=fuel) (d:=d+6) hcb (by omega) wV fun rt W kW sW nW=>?_
      have zW:V.size≤W.size:=kW.le
      have wW:=kW.wf
      have ort:=sW.one
      have crt:=sW.cells
      have rrt:=zAM sW.rl (Nat.le_refl W.size)
      have rlW:=rlo W.size (by omega)
      have rlW1:=rlo (W.size+1) (by omega)
      simp (disch:=try exact SX) only[RV,seval,zA0,g2,g13,g14,g15,wW,oo,oc,rlW,rlW1,ort,crt,rrt]
      refine NK.ND.app (K:=rnK) (ra:=rt) (x:=eS) (by':=80) wW smV (fun j _ hj=>kW.get j hj) kW.le ⟨rfl,ort,crt⟩ ⟨sW,fun j _=>Nat.zero_le j,okB⟩ nW (by rw[List.length_set];omega) (by rw[List.length_set];omega) (Nat.zero_le _) fun o' M' sm' w' le' kp nw wm'=>?_
      obtain⟨oo',oc',orl',olen',opu',olt'⟩:=ND.lr sm'
      simp (disch:=try exact SX) only[RV,seval,zA0,g2,g13,g14,g15,w1]
      refine⟨hlt,l.length - (i+1),by omega,i+1,o',rfl,by omega,rfl,rfl,w',by rw[hts];exact sm',by rw[hts];simp;omega,fun q' hq=>?_⟩
      rw[hts] at hq
      rcases List.mem_append.1 hq with h | h
      ·rcases List.mem_or_eq_of_mem_set h with h | rfl
       ·exact bd q' h
       ·omega
      ·rw[List.mem_singleton] at h;subst h;exact lB
     ·have q3':decide (e.cutE (room q)=0)=false:=decide_eq_false q3
      simp only[q3,if_false] at hts hal
      have hjl:=zLX q e
      have hjok:=zP9 hqok hok
      generalize hjj:zDW q e=jj at *
      unfold room at q3 q3'
      generalize e.cutA (room q)=eF at *
      generalize e.cutB (room q)=eS at *
      unfold room at hcut
      simp (disch:=try exact SX) only[RV,seval,zA0,g2,g13,g14,g15,hra.fz.rows,hra.fz.one,hra.fz.cells,hra.fz.icy,hra.fz.frz,w,oo,oc,rlo,olen,w2,hoad,hg,hpt,↓pIdE,zAE,↓pIdN,zAB,↓pHdE,zAC,↓pHdN,zAD,↓pLbE,zAF,↓pLbN,zAG,↓pSpE,zAH,↓pSpN,zAI,ETA,c1,hnx,hpn,hcut,q3',hca.fz.rows,hca.fz.one,hca.fz.cells,hca.fz.icy,hca.fz.frz,hcb.fz.rows,hcb.fz.one,hcb.fz.cells,hcb.fz.icy,hcb.fz.frz,orq,crq]
      refine zJ1 (fuel:=fuel) (d:=d) (a:=q) (b:=e) (hrq.keep fun j hj=>?_) hra hqok hok hqd hde (by omega) (by simp (disch:=try exact SX) only[RV,seval,zA0,w]) fun jr U kU sU nU=>?_
      ·exact zB0f
      rw[hjj] at sU ⊢
      have wU:=kU.wf
      have zU:N.size+3≤U.size:=kU.le
      have ojr:=sU.one
      have cjr:=sU.cells
      have rjr:=zAM sU.rl (Nat.le_refl U.size)
      have ljr:=sU.lt
      have nU:∀ j,rowOf jr=some j→N.size+3≤j:=nU
      have kN:∀ j,j<N.size→U.get j=N.get j:=fun j hj=>(kU.get j (by show j<N.size+3;omega)).trans (by simp (disch:=try exact SX) only[RV,seval,zA0,w])
      have gid:=(kN id lid).trans hg
      have k0:=kU.get N.size (by show _<N.size+3;omega)
      have k1:=kU.get (N.size+1) (by show _<N.size+3;omega)
      have k2:=kU.get (N.size+1+1) (by show _<N.size+3;omega)
      simp (disch:=try exact SX) only[RV,seval,zA0,w] at k0 k1 k2
      have rlU:=rlo U.size (by omega)
      have rlU1:=rlo (U.size+1) (by omega)
      have dU:U.dirty=false:=kU.di
      by_cases q4:zFN q e=0
      ·have q4':decide (zFN q e=0)=true:=decide_eq_true q4
       simp only[q4,if_true] at hts hal
       simp (disch:=try exact SX) only[RV,seval,zA0,g2,g13,g14,g15,wU,oo,oc,rlU,rlU1,hoad,gid,k0,k1,k2,ojr,cjr,rjr,oca,ocb,hca.fz.rows,hca.fz.one,hca.fz.cells,hca.fz.icy,hca.fz.frz,hcb.fz.rows,hcb.fz.one,hcb.fz.cells,hcb.fz.icy,hcb.fz.frz,q4',w1,dU,zC0]
       generalize hV:Mem.upd (Mem.upd (Mem.add (Mem.bk _ U) _) U.size _) id _=V
       have sV:V.size=U.size+1:=by rw[← hV];simp (disch:=try exact SX) only[RV,seval,zA0,wU]
       have gV:∀ j,j≠id→j<U.size→V.get j=U.get j:=fun j h1 h2=>by rw[← hV];simp (disch:=try exact SX) only[RV,seval,zA0,wU]
       have giV:V.get id=some (.row false (lay cs (n*10) (rnR jj jr))):=by
        rw[← hV]
        exact zB0w
       refine⟨hlt,l.length - (i+1),by omega,i+1,o,rfl,by omega,rfl,rfl, ?_,by rw[hts];simp;omega,fun q' hq=>?_⟩
       ·rw[hts]
        exact hset V jj jr (by omega) (sU.keep fun j hj=>gV j (by have:=nU j hj;omega) (ljr j hj)) (fun j hj=>by have:=nU j hj;omega) hjok (fun j hj hne=>(gV j hne (by omega)).trans (kN j hj)) giV (Nat.zero_le _)
       ·rw[hts] at hq
        rcases List.mem_or_eq_of_mem_set hq with h | rfl
        ·exact bd q' h
        ·omega
      ·have q4':decide (zFN q e=0)=false:=decide_eq_false q4
       simp only[q4,if_false] at hts hal
       simp (disch:=try exact SX) only[RV,seval,zA0,g2,g13,g14,g15,wU,oo,oc,rlU,rlU1,hoad,gid,k0,k1,k2,ojr,cjr,rjr,oca,ocb,hca.fz.rows,hca.fz.one,hca.fz.cells,hca.fz.icy,hca.fz.frz,hcb.fz.rows,hcb.fz.one,hcb.fz.cells,hcb.fz.icy,hcb.fz.frz,hra.fz.rows,hra.fz.one,hra.fz.cells,hra.fz.icy,hra.fz.frz,q4',dU,zC0]
       generalize hV:Mem.upd (Mem.add (Mem.bk _ U) _) U.size _=V
       have wV:Wf V:=by rw[← hV];simp (disch:=try exact SX) only[RV,seval,zA0,wU]
       have sV:V.size=U.size+1:=by rw[← hV];simp (disch:=try exact SX) only[RV,seval,zA0,wU]
       have gV:∀ j,j<U.size→V.get j=U.get j:=fun j h2=>by rw[← hV];simp (disch:=try exact SX) only[RV,seval,zA0,wU]
       refine zCR (fuel:=fuel) (d:=d+6) hra (by omega) wV fun rt W kW sW nW=>?_
       have zW:V.size≤W.size:=kW.le
       have wW:=kW.wf
       have ort:=sW.one
       have crt:=sW.cells
       have rrt:=zAM sW.rl (Nat.le_refl W.size)
       have rlW:=rlo W.size (by omega)
       have rlW1:=rlo (W.size+1) (by omega)
       simp (disch:=try exact SX) only[RV,seval,zA0,g2,g13,g14,g15,wW,oo,oc,rlW,rlW1,ort,crt,rrt]
       refine NK.ND.app (K:=rnK) (ra:=rt) (x:=e) (by':=80) wW sm (fun j _ hj=>(kW.get j (by omega)).trans ((gV j (by omega)).trans (kN j hj))) (by omega) ⟨rfl,ort,crt⟩ ⟨sW,fun j _=>Nat.zero_le j,hok⟩ (fun j hj=>by have:=nW j hj;omega) (by omega) (by omega) (Nat.zero_le _) fun o' M' sm' w' le' kp nw wm'=>?_
       obtain⟨oo',oc',orl',olen',opu',olt'⟩:=ND.lr sm'
       simp (disch:=try exact SX) only[RV,seval,zA0,g2,g13,g14,g15,w1]
       exact⟨hlt,l.length - (i+1),by omega,i+1,o',rfl,by omega,rfl,rfl,fin e o' M' hts rfl sm' w'⟩
  ·obtain rfl:i=l.length:=by omega
   have q1:decide ((l.length:Int)<l.length)=false:=DF
   rw[List.take_length] at sm
   simp (disch:=try exact SX) only[RV,seval,zA0,g2,g13,g14,g15,q1,oo,oc]
   exact⟨opu,sm⟩
theorem ND.mono {o:AV}{l:List Rn}{B B':Nat}(h:rnK.ND M B o l)(hb:B'≤B):rnK.ND M B' o l:=by
 obtain⟨lr,h1,h2,h3,h4,h5,h6⟩:=h
 exact⟨lr,h1,h2,fun x hx=>(h3 x hx).mono hb,fun j hj=>Nat.le_trans hb (h4 j hj),h5,h6⟩
theorem zR7 {M2:Mem}{o:AV}{l:List Rn}(h:rnK.ND M2 0 o l)(wf:Wf M):rnK.ND (M.app M2) M.size (shA M.size o) l :=
 h.sh (fun x=>by show purL (rnH x)=true;simp [rnH,spR,idR,purL,purA]) zKV (zPZ wf)
theorem zHQ {o:AV}{l:List Rn}(hS:SlM M 10 isRn o l)(hl:l.length≤100000)(hd:∀ r∈l,r.rs.length≤1000000)(hf:l.length+3000000<fuel)(wf:Wf M)(k:∀ r N,Kept M N→rnK.ND N M.size r (zBT l)→Q r N):W3 (zCN fuel (d+9) 29 [o] M) Q:=by
 obtain⟨a',N',i1,b1,_⟩:=zHM hS wf zDI (k:=12) (by omega)
 exact zB0u
theorem zM2 {a:AV}{l:List Rn}(hS:Sl 10 isRn a l)(hl:l.length≤100000)(hd:∀ r∈l,r.rs.length≤1000000)(hf:l.length+3000000<fuel)(wf:Wf M)(k:∀ r N,Kept M N→rnK.ND N M.size r (zBT l)→Q r N):W3 (zCN fuel (d+9) 29 [a] M) Q :=
 zCX.use (zKN (fuel:=fuel) (d:=d) hS hl hd hf) (M0:=M) (by simp only[icyL,hS.icy M 12 (by omega)]) wf fun r M2 hr=>k _ _ (zD5 wf) (zR7 hr wf)
theorem zPC {f n B:Nat}{af:AFunc}{o y:AV}{l:List Rn}{w:Value}(h:fsT tbl f=some af)(hg:af.gc=2)(hN:rnK.ND M B o l)(wf:Wf M)(hy:∀ M,icy 12 M y=some (y,M))(hc:∀ o',Sl 10 isRn o' l → ∀ M,zAU Try.prog (fsT tbl) fuel (n+1) (.fn f) [o',y] M=some (.sc w,M)):zAU Try.prog (fsT tbl) fuel (n+1) (.fn f) [o,y] M=some (.sc w,M):=by
 obtain⟨o',M',i1,s1,_⟩:=hN.nn.nr.icyk wf (k:=11) (by omega)
 have s2:Sl 10 isRn o' l:=s1
 exact zI1 (bs:=[o',y]) h hg (hc o' s2 mem0) (M3:=mem0) (M2:=M') (by simp only[icyL,s2.icy mem0 12 (by omega),hy]) (by simp only[icyL,i1,hy])
end Go.Proofs.Ytdgikiebohcohaa
