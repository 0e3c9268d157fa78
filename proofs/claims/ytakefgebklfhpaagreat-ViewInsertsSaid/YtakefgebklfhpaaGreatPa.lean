/-
  Texts joined: Tc In SaA VpD VqC VqG TwC VqH SaB SbD RnMay SbG SaC TrA TrB SbI TrC TrE TrF TpA TpB TpC TrD TpD.
-/
import Derived.Test.YtakefgebklfhpaaGreatTb
import Derived.Test.YtakefgebklfhpaaGreatRows
import Derived.Test.YtakefgebklfhpaaGreatEf
import Derived.KernelRfl
set_option linter.unusedSimpArgs false
set_option linter.unusedVariables false
set_option maxRecDepth 100000
namespace Go.Proofs.YtakefgebklfhpaaGreat
open Go Go.Ax
theorem ze8 : (tbl.map noX).map clr = msk (tbl.map noX) (zFJ Tryz.prog 112 0):=by kernel_rfl
theorem tabOK : zPW Glob.any Tryz.prog (fsT tbl):=zXT ze8 (by kernel_rfl)
end Go.Proofs.YtakefgebklfhpaaGreat
namespace Go.Proofs.YtakefgebklfhpaaGreat
open Go.Ax
theorem ovlOK : zPV Tryz.prog :=
 zX4 (g:=93) (tS:=58) (tR:=4) (by kernel_rfl) Tryz.func93 (by kernel_rfl) (by kernel_rfl) (by kernel_rfl) (by kernel_rfl) (by kernel_rfl)
theorem insFn : InsO (zZ3 Tryz.prog 60) 3 4 :=
 ⟨by kernel_rfl,by kernel_rfl,by kernel_rfl,by kernel_rfl,by kernel_rfl,by kernel_rfl,by kernel_rfl,by kernel_rfl,by kernel_rfl,by kernel_rfl,by kernel_rfl⟩
theorem za8 : zJL Tryz.prog :=
 zQH (g:=60) (t0:=58) (e0:=78) (ti0:=(Tryz.prog.info? 78).getD default) (O:=zZ3 Tryz.prog 60) (g':=94)
  (z:=(zeroOf Tryz.prog 78).getD default) (tint:=3) (tb:=4) (by kernel_rfl) Tryz.func60 (by kernel_rfl) (by kernel_rfl) (by kernel_rfl) (by kernel_rfl) (by kernel_rfl) insFn (by kernel_rfl) (by kernel_rfl) (by kernel_rfl)
theorem insOK : zMP Glob.any Tryz.prog:=zW9 ovlOK za8
end Go.Proofs.YtakefgebklfhpaaGreat
namespace Go.Proofs.YtakefgebklfhpaaGreat
open Go Go.Ax
abbrev U32 (n : Int) : AV:=.sc (.int .u32 n)
structure Lb where
 lv : Int
 cats : Int
 deriving DecidableEq
structure Hd where
 lb : Lb
 num : Int
 deriving DecidableEq
structure Eid where
 hd : Hd
 c : Int
 deriving DecidableEq
structure Spn where
 f : Eid
 n : Int
 deriving DecidableEq
structure Op where
 kd : Int
 hd : Hd
 sr : Int
 sp : Spn
 af : Eid
 to : Lb
 rs : List Int
 deriving DecidableEq
structure Rn where
 sp : Spn
 af : Eid
 rs : List Int
 deriving DecidableEq
abbrev Lb.z : Lb:=⟨0,0⟩
abbrev Hd.z : Hd:=⟨⟨0,0⟩,0⟩
abbrev Eid.z : Eid:=⟨⟨⟨0,0⟩,0⟩,0⟩
def i64R (x : Int) : Prop:=-9223372036854775808 ≤ x ∧ x ≤ 9223372036854775807
def Lb.ok (x : Lb) : Prop:=0 ≤ x.lv ∧ x.lv ≤ 255 ∧ 0 ≤ x.cats ∧ x.cats < 4294967296
def Hd.ok (x : Hd) : Prop:=x.lb.ok ∧ 0 ≤ x.num ∧ x.num ≤ 255
def Eid.ok (x : Eid) : Prop:=x.hd.ok ∧ i64R x.c
def Spn.ok (x : Spn) : Prop:=x.f.ok ∧ i64R x.n
def i32s (l : List Int) : Prop:=∀ x ∈ l, -2147483648 ≤ x ∧ x ≤ 2147483647
def Op.ok (o : Op) : Prop:=(0 ≤ o.kd ∧ o.kd ≤ 255) ∧ o.hd.ok ∧ i64R o.sr ∧ o.sp.ok ∧ o.af.ok ∧ o.to.ok ∧ i32s o.rs
def Rn.ok (o : Rn) : Prop:=o.sp.ok ∧ o.af.ok ∧ i32s o.rs
theorem Lb.z_ok : Lb.z.ok:=by unfold Lb.ok; decide
theorem Hd.z_ok : Hd.z.ok:=⟨Lb.z_ok,by decide,by decide⟩
theorem Eid.z_ok : Eid.z.ok:=⟨Hd.z_ok,by decide,by decide⟩
abbrev lbR (x : Lb) : List AV:=[U8 x.lv,U32 x.cats]
abbrev hdR (x : Hd) : List AV:=[U8 x.lb.lv,U32 x.lb.cats,U8 x.num]
abbrev idR (x : Eid) : List AV:=[U8 x.hd.lb.lv,U32 x.hd.lb.cats,U8 x.hd.num,I64 x.c]
abbrev spR (x : Spn) : List AV:=[U8 x.f.hd.lb.lv,U32 x.f.hd.lb.cats,U8 x.f.hd.num,I64 x.f.c,I64 x.n]
abbrev opR (o : Op) (ra : AV) : List AV:=[U8 o.kd,U8 o.hd.lb.lv,U32 o.hd.lb.cats,U8 o.hd.num,I64 o.sr,U8 o.sp.f.hd.lb.lv,U32 o.sp.f.hd.lb.cats,U8 o.sp.f.hd.num,I64 o.sp.f.c,I64 o.sp.n,U8 o.af.hd.lb.lv,U32 o.af.hd.lb.cats,U8 o.af.hd.num,I64 o.af.c,U8 o.to.lv,U32 o.to.cats,ra]
abbrev rnR (o : Rn) (ra : AV) : List AV:=[U8 o.sp.f.hd.lb.lv,U32 o.sp.f.hd.lb.cats,U8 o.sp.f.hd.num,I64 o.sp.f.c,I64 o.sp.n,U8 o.af.hd.lb.lv,U32 o.af.hd.lb.cats,U8 o.af.hd.num,I64 o.af.c,ra]
abbrev lbA (x : Lb) : AV:=.agg (lbR x)
abbrev hdA (x : Hd) : AV:=.agg (hdR x)
abbrev idA (x : Eid) : AV:=.agg (idR x)
abbrev spA (x : Spn) : AV:=.agg (spR x)
def zB4 (r : List AV) (x : Int) : Prop:=r = [I32 x]
def isLb (r : List AV) (x : Lb) : Prop:=r = lbR x ∧ x.ok
def zKB (r : List AV) (x : Eid) : Prop:=r = idR x ∧ x.ok
def isOp (r : List AV) (x : Op) : Prop:=∃ ra,r = opR x ra ∧ Sl 1 zB4 ra x.rs ∧ x.ok
def isRn (r : List AV) (x : Rn) : Prop:=∃ ra,r = rnR x ra ∧ Sl 1 zB4 ra x.rs ∧ x.ok
theorem zGX : FzT zB4:=fun r x h y hy=>by
 rw [h,List.mem_singleton] at hy; subst hy; exact zCD _ _
theorem zDS (x : Lb) : ∀ y ∈ lbR x,Fz y:=fun y hy=>by
 simp only [lbR,List.mem_cons,List.not_mem_nil,or_false] at hy
 rcases hy with rfl | rfl <;> exact zCD _ _
theorem zEA (x : Eid) : ∀ y ∈ idR x,Fz y:=fun y hy=>by
 simp only [idR,List.mem_cons,List.not_mem_nil,or_false] at hy
 rcases hy with rfl | rfl | rfl | rfl <;> exact zCD _ _
theorem zOM (x : Spn) : ∀ y ∈ spR x,Fz y:=fun y hy=>by
 simp only [spR,List.mem_cons,List.not_mem_nil,or_false] at hy
 rcases hy with rfl | rfl | rfl | rfl | rfl <;> exact zCD _ _
theorem zYG {o : Op} {ra : AV} (h : Fz ra) : ∀ y ∈ opR o ra,Fz y:=fun y hy=>by
 simp only [opR,List.mem_cons,List.not_mem_nil,or_false] at hy
 rcases hy with rfl | rfl | rfl | rfl | rfl | rfl | rfl | rfl | rfl | rfl | rfl | rfl | rfl | rfl | rfl | rfl | rfl
 all_goals first | exact zCD _ _ | exact h
theorem zYH {o : Rn} {ra : AV} (h : Fz ra) : ∀ y ∈ rnR o ra,Fz y:=fun y hy=>by
 simp only [rnR,List.mem_cons,List.not_mem_nil,or_false] at hy
 rcases hy with rfl | rfl | rfl | rfl | rfl | rfl | rfl | rfl | rfl | rfl
 all_goals first | exact zCD _ _ | exact h
theorem zSE : FzT isLb:=fun r x h=>by rw [h.1]; exact zDS x
theorem zLC : FzT zKB:=fun r x h=>by rw [h.1]; exact zEA x
theorem zN7 : FzT isOp:=fun r x h=>by
 obtain ⟨ra,rfl,hr,_⟩:=h
 exact zYG hr.fz
theorem zCZ : FzT isRn:=fun r x h=>by
 obtain ⟨ra,rfl,hr,_⟩:=h
 exact zYH hr.fz
theorem Lb.eta (x : Lb) : Lb.mk x.lv x.cats = x:=rfl
theorem Hd.eta (x : Hd) : Hd.mk x.lb x.num = x:=rfl
theorem Eid.eta (x : Eid) : Eid.mk x.hd x.c = x:=rfl
theorem Spn.eta (x : Spn) : Spn.mk x.f x.n = x:=rfl
theorem ETA : type_of% (And.intro @Lb.eta (And.intro @Hd.eta (And.intro @Eid.eta @Spn.eta))):=And.intro @Lb.eta (And.intro @Hd.eta (And.intro @Eid.eta @Spn.eta))
theorem zYS (a0 : Int) (a1 : Int) : PT.iss [.int .u8,.int .u32] [.int .u8 a0,.int .u32 a1]:=by
 simp only [PT.iss,PT.is]
 exact ⟨[.int .u8 a0],[.int .u32 a1],rfl,⟨_,rfl⟩,⟨[.int .u32 a1],[],rfl,⟨_,rfl⟩,rfl⟩⟩
def zXB (d : Option AV) (u v : AV) : Option AV:=match u,v with
 | .agg [.sc (.int .u8 a0),.sc (.int .u32 a1)],.agg [.sc (.int .u8 b0),.sc (.int .u32 b1)]=>some (BL (decide (a0 = b0) && decide (a1 = b1)))
 | _,_=>d
theorem pLbE {t : List AV} (i j : Nat) : zBA Tryz.prog t (mkO (.binOp .eql 25 (.tmp i) (.tmp j) 25) 4) = zXB (zDK Tryz.prog t (mkO (.binOp .eql 25 (.tmp i) (.tmp j) 25) 4)) (zA8 t (.tmp i)) (zA8 t (.tmp j)):=by
 unfold zXB
 split
 ·rename_i a0 a1 b0 b1 h1 h2
  obtain ⟨r,hr,he⟩:=pEqS (P:=Tryz.prog) [.int .u8,.int .u32] false 25 25 4 i j (by kernel_rfl) (by decide) (by kernel_rfl) h1 h2 rfl rfl (zYS _ _) (zYS _ _)
  have e : r = (decide (a0 = b0) && decide (a1 = b1)):=by
   rw [Bool.eq_iff_iff,he]
   simp []
  rw [← e]
  exact hr
 ·rfl
theorem zEK (d : Option AV) (a0 a1 : Int) (b0 b1 : Int) : zXB d (.agg [.sc (.int .u8 a0),.sc (.int .u32 a1)]) (.agg [.sc (.int .u8 b0),.sc (.int .u32 b1)]) = some (BL (decide ((⟨a0,a1⟩ : Lb) = ⟨b0,b1⟩))):=by
 simp only [zXB]
 congr 4
 rw [Bool.eq_iff_iff]
 simp []
theorem zYT (a0 : Int) (a1 : Int) : PT.iss [.int .u8,.int .u32] [.int .u8 a0,.int .u32 a1]:=by
 simp only [PT.iss,PT.is]
 exact ⟨[.int .u8 a0],[.int .u32 a1],rfl,⟨_,rfl⟩,⟨[.int .u32 a1],[],rfl,⟨_,rfl⟩,rfl⟩⟩
def zXC (d : Option AV) (u v : AV) : Option AV:=match u,v with
 | .agg [.sc (.int .u8 a0),.sc (.int .u32 a1)],.agg [.sc (.int .u8 b0),.sc (.int .u32 b1)]=>some (BL (!(decide (a0 = b0) && decide (a1 = b1))))
 | _,_=>d
theorem pLbN {t : List AV} (i j : Nat) : zBA Tryz.prog t (mkO (.binOp .neq 25 (.tmp i) (.tmp j) 25) 4) = zXC (zDK Tryz.prog t (mkO (.binOp .neq 25 (.tmp i) (.tmp j) 25) 4)) (zA8 t (.tmp i)) (zA8 t (.tmp j)):=by
 unfold zXC
 split
 ·rename_i a0 a1 b0 b1 h1 h2
  obtain ⟨r,hr,he⟩:=pEqS (P:=Tryz.prog) [.int .u8,.int .u32] true 25 25 4 i j (by kernel_rfl) (by decide) (by kernel_rfl) h1 h2 rfl rfl (zYT _ _) (zYT _ _)
  have e : r = (decide (a0 = b0) && decide (a1 = b1)):=by
   rw [Bool.eq_iff_iff,he]
   simp []
  rw [← e]
  exact hr
 ·rfl
theorem zG1 (d : Option AV) (a0 a1 : Int) (b0 b1 : Int) : zXC d (.agg [.sc (.int .u8 a0),.sc (.int .u32 a1)]) (.agg [.sc (.int .u8 b0),.sc (.int .u32 b1)]) = some (BL (!decide ((⟨a0,a1⟩ : Lb) = ⟨b0,b1⟩))):=by
 simp only [zXC]
 congr 4
 rw [Bool.eq_iff_iff]
 simp []
theorem zYP (a0 : Int) (a1 : Int) (a2 : Int) : PT.iss [.st [.int .u8,.int .u32],.int .u8] [.int .u8 a0,.int .u32 a1,.int .u8 a2]:=by
 simp only [PT.iss,PT.is]
 exact ⟨[.int .u8 a0,.int .u32 a1],[.int .u8 a2],rfl,⟨[.int .u8 a0],[.int .u32 a1],rfl,⟨_,rfl⟩,⟨[.int .u32 a1],[],rfl,⟨_,rfl⟩,rfl⟩⟩,⟨[.int .u8 a2],[],rfl,⟨_,rfl⟩,rfl⟩⟩
def zX8 (d : Option AV) (u v : AV) : Option AV:=match u,v with
 | .agg [.sc (.int .u8 a0),.sc (.int .u32 a1),.sc (.int .u8 a2)],.agg [.sc (.int .u8 b0),.sc (.int .u32 b1),.sc (.int .u8 b2)]=>some (BL (decide (a0 = b0) && decide (a1 = b1) && decide (a2 = b2)))
 | _,_=>d
theorem pHdE {t : List AV} (i j : Nat) : zBA Tryz.prog t (mkO (.binOp .eql 27 (.tmp i) (.tmp j) 27) 4) = zX8 (zDK Tryz.prog t (mkO (.binOp .eql 27 (.tmp i) (.tmp j) 27) 4)) (zA8 t (.tmp i)) (zA8 t (.tmp j)):=by
 unfold zX8
 split
 ·rename_i a0 a1 a2 b0 b1 b2 h1 h2
  obtain ⟨r,hr,he⟩:=pEqS (P:=Tryz.prog) [.st [.int .u8,.int .u32],.int .u8] false 27 27 4 i j (by kernel_rfl) (by decide) (by kernel_rfl) h1 h2 rfl rfl (zYP _ _ _) (zYP _ _ _)
  have e : r = (decide (a0 = b0) && decide (a1 = b1) && decide (a2 = b2)):=by
   rw [Bool.eq_iff_iff,he]
   simp [and_assoc]
  rw [← e]
  exact hr
 ·rfl
theorem zTL (d : Option AV) (a0 a1 a2 : Int) (b0 b1 b2 : Int) : zX8 d (.agg [.sc (.int .u8 a0),.sc (.int .u32 a1),.sc (.int .u8 a2)]) (.agg [.sc (.int .u8 b0),.sc (.int .u32 b1),.sc (.int .u8 b2)]) = some (BL (decide ((⟨⟨a0,a1⟩,a2⟩ : Hd) = ⟨⟨b0,b1⟩,b2⟩))):=by
 simp only [zX8]
 congr 4
 rw [Bool.eq_iff_iff]
 simp [and_assoc]
theorem zYQ (a0 : Int) (a1 : Int) (a2 : Int) (a3 : Int) : PT.iss [.st [.st [.int .u8,.int .u32],.int .u8],.int .i64] [.int .u8 a0,.int .u32 a1,.int .u8 a2,.int .i64 a3]:=by
 simp only [PT.iss,PT.is]
 exact ⟨[.int .u8 a0,.int .u32 a1,.int .u8 a2],[.int .i64 a3],rfl,⟨[.int .u8 a0,.int .u32 a1],[.int .u8 a2],rfl,⟨[.int .u8 a0],[.int .u32 a1],rfl,⟨_,rfl⟩,⟨[.int .u32 a1],[],rfl,⟨_,rfl⟩,rfl⟩⟩,⟨[.int .u8 a2],[],rfl,⟨_,rfl⟩,rfl⟩⟩,⟨[.int .i64 a3],[],rfl,⟨_,rfl⟩,rfl⟩⟩
def zX9 (d : Option AV) (u v : AV) : Option AV:=match u,v with
 | .agg [.sc (.int .u8 a0),.sc (.int .u32 a1),.sc (.int .u8 a2),.sc (.int .i64 a3)],.agg [.sc (.int .u8 b0),.sc (.int .u32 b1),.sc (.int .u8 b2),.sc (.int .i64 b3)]=>some (BL (decide (a0 = b0) && decide (a1 = b1) && decide (a2 = b2) && decide (a3 = b3)))
 | _,_=>d
theorem pIdE {t : List AV} (i j : Nat) : zBA Tryz.prog t (mkO (.binOp .eql 37 (.tmp i) (.tmp j) 37) 4) = zX9 (zDK Tryz.prog t (mkO (.binOp .eql 37 (.tmp i) (.tmp j) 37) 4)) (zA8 t (.tmp i)) (zA8 t (.tmp j)):=by
 unfold zX9
 split
 ·rename_i a0 a1 a2 a3 b0 b1 b2 b3 h1 h2
  obtain ⟨r,hr,he⟩:=pEqS (P:=Tryz.prog) [.st [.st [.int .u8,.int .u32],.int .u8],.int .i64] false 37 37 4 i j (by kernel_rfl) (by decide) (by kernel_rfl) h1 h2 rfl rfl (zYQ _ _ _ _) (zYQ _ _ _ _)
  have e : r = (decide (a0 = b0) && decide (a1 = b1) && decide (a2 = b2) && decide (a3 = b3)):=by
   rw [Bool.eq_iff_iff,he]
   simp [and_assoc]
  rw [← e]
  exact hr
 ·rfl
theorem zAW (d : Option AV) (a0 a1 a2 a3 : Int) (b0 b1 b2 b3 : Int) : zX9 d (.agg [.sc (.int .u8 a0),.sc (.int .u32 a1),.sc (.int .u8 a2),.sc (.int .i64 a3)]) (.agg [.sc (.int .u8 b0),.sc (.int .u32 b1),.sc (.int .u8 b2),.sc (.int .i64 b3)]) = some (BL (decide ((⟨⟨⟨a0,a1⟩,a2⟩,a3⟩ : Eid) = ⟨⟨⟨b0,b1⟩,b2⟩,b3⟩))):=by
 simp only [zX9]
 congr 4
 rw [Bool.eq_iff_iff]
 simp [and_assoc]
theorem zYR (a0 : Int) (a1 : Int) (a2 : Int) (a3 : Int) : PT.iss [.st [.st [.int .u8,.int .u32],.int .u8],.int .i64] [.int .u8 a0,.int .u32 a1,.int .u8 a2,.int .i64 a3]:=by
 simp only [PT.iss,PT.is]
 exact ⟨[.int .u8 a0,.int .u32 a1,.int .u8 a2],[.int .i64 a3],rfl,⟨[.int .u8 a0,.int .u32 a1],[.int .u8 a2],rfl,⟨[.int .u8 a0],[.int .u32 a1],rfl,⟨_,rfl⟩,⟨[.int .u32 a1],[],rfl,⟨_,rfl⟩,rfl⟩⟩,⟨[.int .u8 a2],[],rfl,⟨_,rfl⟩,rfl⟩⟩,⟨[.int .i64 a3],[],rfl,⟨_,rfl⟩,rfl⟩⟩
def zXA (d : Option AV) (u v : AV) : Option AV:=match u,v with
 | .agg [.sc (.int .u8 a0),.sc (.int .u32 a1),.sc (.int .u8 a2),.sc (.int .i64 a3)],.agg [.sc (.int .u8 b0),.sc (.int .u32 b1),.sc (.int .u8 b2),.sc (.int .i64 b3)]=>some (BL (!(decide (a0 = b0) && decide (a1 = b1) && decide (a2 = b2) && decide (a3 = b3))))
 | _,_=>d
theorem pIdN {t : List AV} (i j : Nat) : zBA Tryz.prog t (mkO (.binOp .neq 37 (.tmp i) (.tmp j) 37) 4) = zXA (zDK Tryz.prog t (mkO (.binOp .neq 37 (.tmp i) (.tmp j) 37) 4)) (zA8 t (.tmp i)) (zA8 t (.tmp j)):=by
 unfold zXA
 split
 ·rename_i a0 a1 a2 a3 b0 b1 b2 b3 h1 h2
  obtain ⟨r,hr,he⟩:=pEqS (P:=Tryz.prog) [.st [.st [.int .u8,.int .u32],.int .u8],.int .i64] true 37 37 4 i j (by kernel_rfl) (by decide) (by kernel_rfl) h1 h2 rfl rfl (zYR _ _ _ _) (zYR _ _ _ _)
  have e : r = (decide (a0 = b0) && decide (a1 = b1) && decide (a2 = b2) && decide (a3 = b3)):=by
   rw [Bool.eq_iff_iff,he]
   simp [and_assoc]
  rw [← e]
  exact hr
 ·rfl
theorem zBD (d : Option AV) (a0 a1 a2 a3 : Int) (b0 b1 b2 b3 : Int) : zXA d (.agg [.sc (.int .u8 a0),.sc (.int .u32 a1),.sc (.int .u8 a2),.sc (.int .i64 a3)]) (.agg [.sc (.int .u8 b0),.sc (.int .u32 b1),.sc (.int .u8 b2),.sc (.int .i64 b3)]) = some (BL (!decide ((⟨⟨⟨a0,a1⟩,a2⟩,a3⟩ : Eid) = ⟨⟨⟨b0,b1⟩,b2⟩,b3⟩))):=by
 simp only [zXA]
 congr 4
 rw [Bool.eq_iff_iff]
 simp [and_assoc]
theorem zYU (a0 : Int) (a1 : Int) (a2 : Int) (a3 : Int) (a4 : Int) : PT.iss [.st [.st [.st [.int .u8,.int .u32],.int .u8],.int .i64],.int .i64] [.int .u8 a0,.int .u32 a1,.int .u8 a2,.int .i64 a3,.int .i64 a4]:=by
 simp only [PT.iss,PT.is]
 exact ⟨[.int .u8 a0,.int .u32 a1,.int .u8 a2,.int .i64 a3],[.int .i64 a4],rfl,⟨[.int .u8 a0,.int .u32 a1,.int .u8 a2],[.int .i64 a3],rfl,⟨[.int .u8 a0,.int .u32 a1],[.int .u8 a2],rfl,⟨[.int .u8 a0],[.int .u32 a1],rfl,⟨_,rfl⟩,⟨[.int .u32 a1],[],rfl,⟨_,rfl⟩,rfl⟩⟩,⟨[.int .u8 a2],[],rfl,⟨_,rfl⟩,rfl⟩⟩,⟨[.int .i64 a3],[],rfl,⟨_,rfl⟩,rfl⟩⟩,⟨[.int .i64 a4],[],rfl,⟨_,rfl⟩,rfl⟩⟩
def zXD (d : Option AV) (u v : AV) : Option AV:=match u,v with
 | .agg [.sc (.int .u8 a0),.sc (.int .u32 a1),.sc (.int .u8 a2),.sc (.int .i64 a3),.sc (.int .i64 a4)],.agg [.sc (.int .u8 b0),.sc (.int .u32 b1),.sc (.int .u8 b2),.sc (.int .i64 b3),.sc (.int .i64 b4)]=>some (BL (decide (a0 = b0) && decide (a1 = b1) && decide (a2 = b2) && decide (a3 = b3) && decide (a4 = b4)))
 | _,_=>d
theorem pSpE {t : List AV} (i j : Nat) : zBA Tryz.prog t (mkO (.binOp .eql 43 (.tmp i) (.tmp j) 43) 4) = zXD (zDK Tryz.prog t (mkO (.binOp .eql 43 (.tmp i) (.tmp j) 43) 4)) (zA8 t (.tmp i)) (zA8 t (.tmp j)):=by
 unfold zXD
 split
 ·rename_i a0 a1 a2 a3 a4 b0 b1 b2 b3 b4 h1 h2
  obtain ⟨r,hr,he⟩:=pEqS (P:=Tryz.prog) [.st [.st [.st [.int .u8,.int .u32],.int .u8],.int .i64],.int .i64] false 43 43 4 i j (by kernel_rfl) (by decide) (by kernel_rfl) h1 h2 rfl rfl (zYU _ _ _ _ _) (zYU _ _ _ _ _)
  have e : r = (decide (a0 = b0) && decide (a1 = b1) && decide (a2 = b2) && decide (a3 = b3) && decide (a4 = b4)):=by
   rw [Bool.eq_iff_iff,he]
   simp [and_assoc]
  rw [← e]
  exact hr
 ·rfl
theorem zI9 (d : Option AV) (a0 a1 a2 a3 a4 : Int) (b0 b1 b2 b3 b4 : Int) : zXD d (.agg [.sc (.int .u8 a0),.sc (.int .u32 a1),.sc (.int .u8 a2),.sc (.int .i64 a3),.sc (.int .i64 a4)]) (.agg [.sc (.int .u8 b0),.sc (.int .u32 b1),.sc (.int .u8 b2),.sc (.int .i64 b3),.sc (.int .i64 b4)]) = some (BL (decide ((⟨⟨⟨⟨a0,a1⟩,a2⟩,a3⟩,a4⟩ : Spn) = ⟨⟨⟨⟨b0,b1⟩,b2⟩,b3⟩,b4⟩))):=by
 simp only [zXD]
 congr 4
 rw [Bool.eq_iff_iff]
 simp [and_assoc]
end Go.Proofs.YtakefgebklfhpaaGreat
namespace Go.Proofs.YtakefgebklfhpaaGreat
structure CellV where
 id : Eid
 ch : Int
 deriving DecidableEq
end Go.Proofs.YtakefgebklfhpaaGreat
namespace Go.Proofs.YtakefgebklfhpaaGreat
open Go Go.Ax
abbrev zFN (x : CellV) : List AV:=[U8 x.id.hd.lb.lv,U32 x.id.hd.lb.cats,U8 x.id.hd.num,I64 x.id.c,I32 x.ch]
abbrev zc5 (x : CellV) : AV:=.agg (zFN x)
def zD6 (r : List AV) (x : CellV) : Prop:=r = zFN x ∧ x.id.ok
theorem zVZ (x : CellV) : ∀ y ∈ zFN x,Fz y:=fun y hy=>by
 simp only [zFN,List.mem_cons,List.not_mem_nil,or_false] at hy
 rcases hy with rfl | rfl | rfl | rfl | rfl <;> exact zCD _ _
theorem zEG : FzT zD6:=fun r x h=>by rw [h.1]; exact zVZ x
theorem CellV.eta (x : CellV) : CellV.mk x.id x.ch = x:=rfl
theorem zYO (a0 : Int) (a1 : Int) (a2 : Int) (a3 : Int) (a4 : Int) : PT.iss [.st [.st [.st [.int .u8,.int .u32],.int .u8],.int .i64],.int .i32] [.int .u8 a0,.int .u32 a1,.int .u8 a2,.int .i64 a3,.int .i32 a4]:=by
 simp only [PT.iss,PT.is]
 exact ⟨[.int .u8 a0,.int .u32 a1,.int .u8 a2,.int .i64 a3],[.int .i32 a4],rfl,⟨[.int .u8 a0,.int .u32 a1,.int .u8 a2],[.int .i64 a3],rfl,⟨[.int .u8 a0,.int .u32 a1],[.int .u8 a2],rfl,⟨[.int .u8 a0],[.int .u32 a1],rfl,⟨_,rfl⟩,⟨[.int .u32 a1],[],rfl,⟨_,rfl⟩,rfl⟩⟩,⟨[.int .u8 a2],[],rfl,⟨_,rfl⟩,rfl⟩⟩,⟨[.int .i64 a3],[],rfl,⟨_,rfl⟩,rfl⟩⟩,⟨[.int .i32 a4],[],rfl,⟨_,rfl⟩,rfl⟩⟩
def zX7 (d : Option AV) (u v : AV) : Option AV:=match u,v with
 | .agg [.sc (.int .u8 a0),.sc (.int .u32 a1),.sc (.int .u8 a2),.sc (.int .i64 a3),.sc (.int .i32 a4)],.agg [.sc (.int .u8 b0),.sc (.int .u32 b1),.sc (.int .u8 b2),.sc (.int .i64 b3),.sc (.int .i32 b4)]=>some (BL (!(decide (a0 = b0) && decide (a1 = b1) && decide (a2 = b2) && decide (a3 = b3) && decide (a4 = b4))))
 | _,_=>d
theorem pCeN {t : List AV} (i j : Nat) : zBA Tryz.prog t (mkO (.binOp .neq 48 (.tmp i) (.tmp j) 48) 4) = zX7 (zDK Tryz.prog t (mkO (.binOp .neq 48 (.tmp i) (.tmp j) 48) 4)) (zA8 t (.tmp i)) (zA8 t (.tmp j)):=by
 unfold zX7
 split
 ·rename_i a0 a1 a2 a3 a4 b0 b1 b2 b3 b4 h1 h2
  obtain ⟨r,hr,he⟩:=pEqS (P:=Tryz.prog) [.st [.st [.st [.int .u8,.int .u32],.int .u8],.int .i64],.int .i32] true 48 48 4 i j (by kernel_rfl) (by decide) (by kernel_rfl) h1 h2 rfl rfl (zYO _ _ _ _ _) (zYO _ _ _ _ _)
  have e : r = (decide (a0 = b0) && decide (a1 = b1) && decide (a2 = b2) && decide (a3 = b3) && decide (a4 = b4)):=by
   rw [Bool.eq_iff_iff,he]
   simp [and_assoc]
  rw [← e]
  exact hr
 ·rfl
theorem zM3 (d : Option AV) (a0 a1 a2 a3 a4 : Int) (b0 b1 b2 b3 b4 : Int) : zX7 d (.agg [.sc (.int .u8 a0),.sc (.int .u32 a1),.sc (.int .u8 a2),.sc (.int .i64 a3),.sc (.int .i32 a4)]) (.agg [.sc (.int .u8 b0),.sc (.int .u32 b1),.sc (.int .u8 b2),.sc (.int .i64 b3),.sc (.int .i32 b4)]) = some (BL (!decide ((⟨⟨⟨⟨a0,a1⟩,a2⟩,a3⟩,a4⟩ : CellV) = ⟨⟨⟨⟨b0,b1⟩,b2⟩,b3⟩,b4⟩))):=by
 simp only [zX7]
 congr 4
 rw [Bool.eq_iff_iff]
 simp [and_assoc]
end Go.Proofs.YtakefgebklfhpaaGreat
namespace Go.Proofs.YtakefgebklfhpaaGreat
open Go Go.Ax
variable {fuel : Nat} {M : Mem} {Q : AV → Mem → Prop} {d : Nat}
set_option maxHeartbeats 4000000 in
theorem zKR {a b : AV} {l m : List CellV} (ha : Sl 5 zD6 a l) (hb : Sl 5 zD6 b m) (hf : l.length < fuel) (hl : l.length ≤ 1000000000) (M : Mem) :
  zAE Tryz.prog (fsT tbl) fuel (d + 1) (.fn 11) [a,b] M = some (BL (decide (l = m)),M):=by
 have hla:=ha.len
 have hlb:=hb.len
 apply zBI
 refine zAJ tf11 rfl (by simp only [icyL,fun M=>ha.icy M 12 (by omega),fun M=>hb.icy M 12 (by omega)]) (by simp [a11]) fun b' ht hx=>?_
 have h0:=hx 0 _ rfl
 have h1:=hx 1 _ rfl
 clear hx
 simp only [a11,c11] at ht ⊢
 by_cases hll : l.length = m.length
 ·have q1 : decide ((l.length : Int) = m.length) = true:=by simp; omega
  simp (maxSteps:=2000000) (disch:=first | omega | assumption | (simp only [DS,Nat.reduceAdd, *]; done) | (simp only [DZ]; omega)) only [RUN,RU,zA2,zA1,reduceIte,Nat.reduceEqDiff,h0,h1,hla,hlb,q1]
  refine zBG (I:=fun n t N => ∃ (i : Nat),n = l.length - i ∧ i ≤ l.length ∧ nth zA5 t 0 = a ∧ nth zA5 t 1 = b ∧ nth zA5 t 5 = I64 i ∧ l.take i = m.take i) (n:=l.length) (by omega) ?_ ?_
  ·refine ⟨0,rfl,Nat.zero_le _, ?_, ?_, ?_,rfl⟩ <;> simp (maxSteps:=2000000) (disch:=first | omega | assumption | (simp only [DS,Nat.reduceAdd, *]; done) | (simp only [DZ]; omega)) only [RUN,reduceIte,Nat.reduceEqDiff,h0,h1]
   all_goals first | rfl | assumption | done
  ·rintro n t N hlt ⟨i,rfl,hi,g0,g1,g5,tk⟩
   simp only [ht] at hlt ⊢
   by_cases hlt' : i < l.length
   ·have hc' : decide ((i : Int) < l.length) = true:=by simp; omega
    have hmt : i < m.length:=by omega
    have w1 : IntKind.i64.wrap ((i : Int) + 1) = ((i + 1 : Nat) : Int):=by rw [wrap_i64] <;> omega
    obtain ⟨r,hr,⟨rfl,_⟩,_⟩:=ha.iad i hlt'
    obtain ⟨r2,hr2,⟨rfl,_⟩,_⟩:=hb.iad i hmt
    by_cases he : l[i] = m[i]
    ·have q2 : decide (l[i] = m[i]) = true:=by simp [he]
     simp (maxSteps:=2000000) (disch:=first | omega | assumption | (simp only [DS,Nat.reduceAdd, *]; done) | (simp only [DZ]; omega)) only [RUN,RU,zA2,zA1,slot,reduceIte,Nat.reduceEqDiff,Nat.reduceBEq,Nat.reduceAdd,g0,g1,g5,hla,hc',hr,hr2,w1,↓pCeN,zM3,ETA,CellV.eta,q2]
     refine ⟨hlt,l.length - (i + 1),by omega,i + 1,rfl,by omega,rfl, ?_⟩
     rw [List.take_add_one,List.take_add_one,tk,List.getElem?_eq_getElem hlt',List.getElem?_eq_getElem hmt,he]
    ·have q2 : decide (l[i] = m[i]) = false:=by simp [he]
     simp (maxSteps:=2000000) (disch:=first | omega | assumption | (simp only [DS,Nat.reduceAdd, *]; done) | (simp only [DZ]; omega)) only [RUN,RU,zA2,zA1,zA0,zAA,frzL,slot,reduceIte,Nat.reduceEqDiff,Nat.reduceBEq,Nat.reduceAdd,g0,g1,g5,hla,hc',hr,hr2,↓pCeN,zM3,ETA,CellV.eta,q2]
     have : decide (l = m) = false:=by
      simp only [decide_eq_false_iff_not]
      rintro rfl; exact he rfl
     rw [this]
   ·have hc' : decide ((i : Int) < l.length) = false:=by simp; omega
    simp (maxSteps:=2000000) (disch:=first | omega | assumption | (simp only [DS,Nat.reduceAdd, *]; done) | (simp only [DZ]; omega)) only [RUN,RU,zA2,zA1,zA0,zAA,frzL,reduceIte,Nat.reduceEqDiff,g0,g5,hla,hc']
    have : decide (l = m) = true:=by
     simp only [decide_eq_true_eq]
     rw [show i = l.length by omega,List.take_length] at tk
     rw [tk,show l.length = m.length from hll,List.take_length]
    rw [this]
 ·have q1 : decide ((l.length : Int) = m.length) = false:=by simp; omega
  have q3 : decide (l = m) = false:=by
   simp only [decide_eq_false_iff_not]
   rintro rfl; exact hll rfl
  simp (maxSteps:=2000000) (disch:=first | omega | assumption | (simp only [DS,Nat.reduceAdd, *]; done) | (simp only [DZ]; omega)) only [RUN,RU,zA2,zA1,zA0,zAA,frzL,reduceIte,Nat.reduceEqDiff,h0,h1,hla,hlb,q1,q3]
end Go.Proofs.YtakefgebklfhpaaGreat
namespace Go.Ax
open Go
variable {α : Type} {M N : Mem} {st : Nat} {T : List AV → α → Prop} {v o : AV} {l : List α}
def SlR (M : Mem) (st : Nat) (T : List AV → α → Prop) (v : AV) (l : List α) : Prop :=
 (v = NIL ∧ l = []) ∨ ∃ (id : Nat) (rows : List (List AV)) (cap : Option Nat),v = .sl id 0 rows.length cap st ∧ M.rd id = some rows.flatten ∧ All2 T rows l ∧ ∀ r ∈ rows,r.length = st
theorem SlR.of (h : SlM M st T v l) : SlR M st T v l:=by
 rcases h with h | ⟨id,rows,cap,rfl,_,hg,hA,hr⟩
 ·exact .inl h
 ·exact .inr ⟨id,rows,cap,rfl,zBP hg,hA,hr⟩
theorem SlR.keep (h : SlR M st T v l) (k : ∀ j,N.rd j = M.rd j) : SlR N st T v l:=by
 rcases h with h | ⟨id,rows,cap,h1,h2,h3,h4⟩
 ·exact .inl h
 ·exact .inr ⟨id,rows,cap,h1,(k id).trans h2,h3,h4⟩
theorem SlR.icyk (h : SlR M st T v l) (wf : Wf M) (hT : FzT T) {k : Nat} (hk : 1 < k) : ∃ v' M',Go.Ax.icy k M v = some (v',M') ∧ Sl st T v' l ∧ Wf M' ∧ M'.size = M.size ∧ (∀ j,M'.rd j = M.rd j) ∧ ∀ j,rowOf v ≠ some j → M'.get j = M.get j:=by
 obtain ⟨k,rfl⟩ : ∃ j,k = j + 1:=⟨k - 1,by omega⟩
 rcases h with ⟨rfl,rfl⟩ | ⟨id,rows,cap,rfl,hg,hA,hr⟩
 ·exact ⟨NIL,M,rfl,.inl ⟨rfl,rfl⟩,wf,rfl,fun _=>rfl,fun _ _=>rfl⟩
 ·have hfl:=zAL hr
  have hcs : ∀ N,icyL (Go.Ax.icy k) N rows.flatten = some (rows.flatten,N):=zCT (by omega) fun x hx N=>hT.celI.flat hA x hx N k (by omega)
  have hble : Nat.ble (0 + rows.length * st) rows.flatten.length = true:=zBH (by omega)
  have hsl : slot rows.flatten 0 (rows.length * st) = rows.flatten:=zBU _ _ hfl.symm
  have hrd:=hg
  rw [zDZ] at hrd
  cases ho : M.get id with
  | none=>rw [ho] at hrd; cases hrd
  | some x =>
   rw [ho] at hrd
   cases x with
   | row b ds =>
    have e : ds = rows.flatten:=by simpa [rd1] using hrd
    subst e
    exact ⟨_,M.upd id (.fro rows.flatten),by simp only [Go.Ax.icy,hg,hble,hcs,ho,zB9 wf (Mem.get_lt ho),hsl],.inr ⟨rows,cap,rfl,hA,hr⟩,wf.upd _ _,rfl,NK.rd_fro wf ho,fun j hj=>zA4 wf _ _ _ (fun e=>hj (by rw [e]; rfl))⟩
   | fro ds=>exact ⟨_,M,by simp only [Go.Ax.icy,hg,hble,hcs,ho,hsl],.inr ⟨rows,cap,rfl,hA,hr⟩,wf,rfl,fun _=>rfl,fun _ _=>rfl⟩
   | _=>simp [rd1] at hrd
theorem SlR.hand {P : Program} {fs : Nat → Option AFunc} {fuel f n : Nat} {af : AFunc} {rest : List AV} {R : AV → Prop} {Q : AV → Mem → Prop} (h : fs f = some af) (hg : af.gc = 1) (hN : SlR M st T o l) (wf : Wf M) (hT : FzT T) (hr : ∀ M,icyL (Go.Ax.icy 12) M rest = some (rest,M)) (hc : ∀ o',Sl st T o' l → ∃ r,R r ∧ ∀ M,zAE P fs fuel (n + 1) (.fn f) (o' :: rest) M = some (r,M))
  (k : ∀ r M',R r → Wf M' → M'.size = M.size → SlR M' st T o l → (∀ j,rowOf o ≠ some j → M'.get j = M.get j) → Q r M') : W3 (zAE P fs fuel (n + 1) (.fn f) (o :: rest) M) Q:=by
 obtain ⟨o',M',i1,s1,w1,z1,r1,g1⟩:=hN.icyk wf hT (k:=12) (by omega)
 obtain ⟨r,hR,hcall⟩:=hc o' s1
 refine ⟨r,M',zDF (bs:=o' :: rest) h hg (hcall mem0) (M3:=mem0) ?_ ?_,k r M' hR w1 z1 (hN.keep r1) g1⟩
 ·simp only [icyL,s1.icy mem0 12 (by omega),hr]
 ·simp only [icyL,i1,hr]
end Go.Ax
namespace Go.Ax
open Go
variable {α : Type} {M N : Mem} {st : Nat} {T : List AV → α → Prop} {v o : AV} {l : List α}
theorem SlR.hand2 {P : Program} {fs : Nat → Option AFunc} {fuel f n : Nat} {af : AFunc} {y : AV} {R : AV → Prop} {Q : AV → Mem → Prop} (h : fs f = some af) (hg : af.gc = 1) (hN : SlR M st T o l) (wf : Wf M) (hT : FzT T) (hy : ∀ M,Go.Ax.icy 12 M y = some (y,M)) (hc : ∀ o',Sl st T o' l → ∃ r,R r ∧ ∀ M,zAE P fs fuel (n + 1) (.fn f) [y,o'] M = some (r,M))
  (k : ∀ r M',R r → Wf M' → M'.size = M.size → SlR M' st T o l → (∀ j,rowOf o ≠ some j → M'.get j = M.get j) → Q r M') : W3 (zAE P fs fuel (n + 1) (.fn f) [y,o] M) Q:=by
 obtain ⟨o',M',i1,s1,w1,z1,r1,g1⟩:=hN.icyk wf hT (k:=12) (by omega)
 obtain ⟨r,hR,hcall⟩:=hc o' s1
 refine ⟨r,M',zDF (bs:=[y,o']) h hg (hcall mem0) (M3:=mem0) ?_ ?_,k r M' hR w1 z1 (hN.keep r1) g1⟩
 ·simp only [icyL,hy,s1.icy mem0 12 (by omega)]
 ·simp only [icyL,hy,i1]
end Go.Ax
namespace Go.Proofs.YtakefgebklfhpaaGreat
open Go Go.Ax
variable {fuel : Nat} {M : Mem} {Q : AV → Mem → Prop} {d : Nat}
def zSX (a b : Int) : Int:=IntKind.u32.wrap ((BitVec.ofInt 32 a &&& ~~~ BitVec.ofInt 32 b).toNat : Nat)
def Lb.leq (a b : Lb) : Bool:=decide (a.lv ≤ b.lv) && decide (zSX a.cats b.cats = 0)
def Lb.may (a : Lb) : Bool:=!decide (15 < a.lv)
def Hd.may (h : Hd) : Bool:=h.lb.may && decide (h.num < 8)
def Eid.may (x : Eid) : Bool:=x.hd.may && decide (1 ≤ x.c) && decide (x.c ≤ 1099511627776)
def Spn.may (s : Spn) : Bool:=s.f.may && decide (1 ≤ s.n) && decide (s.n ≤ 64) && decide (s.f.c + s.n ≤ 1099511627777)
def err (b : Bool) : Int:=if b then 0 else 8
theorem zB0 : err true = 0:=rfl
theorem zBF : err false = 8:=rfl
theorem zUR (P : Program) (ty : TypeId) (a b : Int) : binV P .andNot ty .u32 a .u32 b = some (.int .u32 (zSX a b)):=by
 simp only [binV,binOp,ne_eq,not_true_eq_false,if_false,Op.intBits]
 rfl
theorem zGI (a b : Lb) (M : Mem) : zAE Tryz.prog (fsT tbl) fuel (d + 1) (.fn 26) [lbA a,lbA b] M = some (BL (a.leq b),M):=by
 apply zBI
 refine zAJ tf26 rfl (by simp (maxSteps:=2000000) (disch:=first | omega | assumption | (simp only [DS,Nat.reduceAdd, *]; done) | (simp only [DZ]; omega)) only [RUN,icyL,Nat.reduceSub]) (by simp [a26]) fun b' ht hx=>?_
 have h0:=hx 0 _ rfl
 have h1:=hx 1 _ rfl
 clear hx
 simp only [a26,c26] at ht ⊢
 unfold Lb.leq
 by_cases q : a.lv ≤ b.lv
 ·have q1 : decide (a.lv ≤ b.lv) = true:=decide_eq_true q
  simp (maxSteps:=2000000) (disch:=first | omega | assumption | (simp only [DS,Nat.reduceAdd, *]; done) | (simp only [DZ]; omega)) only [RUN,RU,zA2,zA1,zA0,zAA,frzL,reduceIte,Nat.reduceEqDiff,Nat.reduceAdd,h0,h1,q1,zUR]
 ·have q1 : decide (a.lv ≤ b.lv) = false:=decide_eq_false q
  simp (maxSteps:=2000000) (disch:=first | omega | assumption | (simp only [DS,Nat.reduceAdd, *]; done) | (simp only [DZ]; omega)) only [RUN,RU,zA2,zA1,zA0,zAA,frzL,reduceIte,Nat.reduceEqDiff,Nat.reduceAdd,h0,h1,q1,Bool.false_and]
theorem zEU (a : Lb) (M : Mem) : zAE Tryz.prog (fsT tbl) fuel (d + 1) (.fn 32) [lbA a] M = some (I64 (err a.may),M):=by
 apply zBI
 refine zAJ tf32 rfl (by simp (maxSteps:=2000000) (disch:=first | omega | assumption | (simp only [DS,Nat.reduceAdd, *]; done) | (simp only [DZ]; omega)) only [RUN,icyL,Nat.reduceSub]) (by simp [a32]) fun b' ht hx=>?_
 have h0:=hx 0 _ rfl
 clear hx
 simp only [a32,c32] at ht ⊢
 unfold Lb.may
 cases q : decide (15 < a.lv) <;> simp (maxSteps:=2000000) (disch:=first | omega | assumption | (simp only [DS,Nat.reduceAdd, *]; done) | (simp only [DZ]; omega)) only [RUN,RU,zA2,zA1,zA0,zAA,frzL,reduceIte,Nat.reduceEqDiff,h0,q,zB0,zBF]
theorem zIJ (b : Bool) (M : Mem) : zAE Tryz.prog (fsT tbl) fuel (d + 1) (.fn 44) [BL b] M = some (I64 (err b),M):=by
 apply zBI
 refine zAJ tf44 rfl (by simp (maxSteps:=2000000) (disch:=first | omega | assumption | (simp only [DS,Nat.reduceAdd, *]; done) | (simp only [DZ]; omega)) only [RUN,icyL]) (by simp [a44]) fun b' ht hx=>?_
 have h0:=hx 0 _ rfl
 clear hx
 simp only [a44,c44] at ht ⊢
 cases b <;> simp (maxSteps:=2000000) (disch:=first | omega | assumption | (simp only [DS,Nat.reduceAdd, *]; done) | (simp only [DZ]; omega)) only [RUN,RU,zA2,zA1,zA0,zAA,frzL,reduceIte,Nat.reduceEqDiff,h0,zB0,zBF]
theorem zF8 (h : Hd) (M : Mem) : zAE Tryz.prog (fsT tbl) fuel (d + 2) (.fn 25) [hdA h] M = some (I64 (err h.may),M):=by
 have hl:=fun M=>@zEU fuel d h.lb M
 have hr:=fun b M=>@zIJ fuel d b M
 apply zBI
 refine zAJ tf25 rfl (by simp (maxSteps:=2000000) (disch:=first | omega | assumption | (simp only [DS,Nat.reduceAdd, *]; done) | (simp only [DZ]; omega)) only [RUN,icyL,Nat.reduceSub]) (by simp [a25]) fun b' ht hx=>?_
 have h0:=hx 0 _ rfl
 clear hx
 simp only [a25,c25] at ht ⊢
 unfold Hd.may
 cases hm : h.lb.may <;> rw [hm] at hl
 ·simp (maxSteps:=2000000) (disch:=first | omega | assumption | (simp only [DS,Nat.reduceAdd, *]; done) | (simp only [DZ]; omega)) only [RUN,RU,zA2,zA1,zA0,zAA,frzL,slot,reduceIte,Nat.reduceEqDiff,Int.reduceEq,h0,hl,hr,zBF,Bool.false_and]
 ·simp (maxSteps:=2000000) (disch:=first | omega | assumption | (simp only [DS,Nat.reduceAdd, *]; done) | (simp only [DZ]; omega)) only [RUN,RU,zA2,zA1,zA0,zAA,frzL,slot,reduceIte,Nat.reduceEqDiff,h0,hl,hr,zB0]
theorem zJR (x : Eid) (M : Mem) : zAE Tryz.prog (fsT tbl) fuel (d + 3) (.fn 65) [idA x] M = some (I64 (err x.may),M):=by
 have hl:=fun M=>@zF8 fuel d x.hd M
 have hr:=fun b M=>@zIJ fuel (d + 1) b M
 apply zBI
 refine zAJ tf65 rfl (by simp (maxSteps:=2000000) (disch:=first | omega | assumption | (simp only [DS,Nat.reduceAdd, *]; done) | (simp only [DZ]; omega)) only [RUN,icyL,Nat.reduceSub]) (by simp [a65]) fun b' ht hx=>?_
 have h0:=hx 0 _ rfl
 clear hx
 simp only [a65,c65] at ht ⊢
 unfold Eid.may
 cases hm : x.hd.may <;> rw [hm] at hl
 ·simp (maxSteps:=2000000) (disch:=first | omega | assumption | (simp only [DS,Nat.reduceAdd, *]; done) | (simp only [DZ]; omega)) only [RUN,RU,zA2,zA1,zA0,zAA,frzL,slot,reduceIte,Nat.reduceEqDiff,Int.reduceEq,h0,hl,hr,zBF,Bool.false_and]
 ·cases q : decide (1 ≤ x.c)
  ·simp (maxSteps:=2000000) (disch:=first | omega | assumption | (simp only [DS,Nat.reduceAdd, *]; done) | (simp only [DZ]; omega)) only [RUN,RU,zA2,zA1,zA0,zAA,frzL,slot,reduceIte,Nat.reduceEqDiff,h0,hl,hr,zB0,q,Bool.false_and]
  ·simp (maxSteps:=2000000) (disch:=first | omega | assumption | (simp only [DS,Nat.reduceAdd, *]; done) | (simp only [DZ]; omega)) only [RUN,RU,zA2,zA1,zA0,zAA,frzL,slot,reduceIte,Nat.reduceEqDiff,h0,hl,hr,zB0,q]
theorem zFP (s : Spn) (M : Mem) : zAE Tryz.prog (fsT tbl) fuel (d + 4) (.fn 46) [spA s] M = some (I64 (err s.may),M):=by
 have hl:=fun M=>@zJR fuel d s.f M
 have hr:=fun b M=>@zIJ fuel (d + 2) b M
 apply zBI
 refine zAJ tf46 rfl (by simp (maxSteps:=2000000) (disch:=first | omega | assumption | (simp only [DS,Nat.reduceAdd, *]; done) | (simp only [DZ]; omega)) only [RUN,icyL,Nat.reduceSub]) (by simp [a46]) fun b' ht hx=>?_
 have h0:=hx 0 _ rfl
 clear hx
 simp only [a46,c46] at ht ⊢
 unfold Spn.may
 cases hm : s.f.may <;> rw [hm] at hl
 ·simp (maxSteps:=2000000) (disch:=first | omega | assumption | (simp only [DS,Nat.reduceAdd, *]; done) | (simp only [DZ]; omega)) only [RUN,RU,zA2,zA1,zA0,zAA,frzL,slot,reduceIte,Nat.reduceEqDiff,Int.reduceEq,h0,hl,hr,zBF,Bool.false_and]
 ·cases q1 : decide (1 ≤ s.n)
  ·simp (maxSteps:=2000000) (disch:=first | omega | assumption | (simp only [DS,Nat.reduceAdd, *]; done) | (simp only [DZ]; omega)) only [RUN,RU,zA2,zA1,zA0,zAA,frzL,slot,reduceIte,Nat.reduceEqDiff,h0,hl,hr,zB0,q1,Bool.false_and]
  ·cases q2 : decide (s.n ≤ 64)
   ·simp (maxSteps:=2000000) (disch:=first | omega | assumption | (simp only [DS,Nat.reduceAdd, *]; done) | (simp only [DZ]; omega)) only [RUN,RU,zA2,zA1,zA0,zAA,frzL,slot,reduceIte,Nat.reduceEqDiff,h0,hl,hr,zB0,q1,q2,Bool.false_and]
   ·have w : IntKind.i64.wrap (IntKind.i64.wrap (s.f.c + s.n) - 1) = s.f.c + s.n - 1:=by
     unfold Eid.may at hm
     simp only [Bool.and_eq_true,decide_eq_true_eq] at hm q1 q2
     rw [wrap_i64 (n:=s.f.c + s.n) (by omega) (by omega),wrap_i64 (by omega) (by omega)]
    have q3 : decide (s.f.c + s.n - 1 ≤ 1099511627776) = decide (s.f.c + s.n ≤ 1099511627777):=by
     rw [Bool.eq_iff_iff,decide_eq_true_iff,decide_eq_true_iff]; omega
    simp (maxSteps:=2000000) (disch:=first | omega | assumption | (simp only [DS,Nat.reduceAdd, *]; done) | (simp only [DZ]; omega)) only [RUN,RU,zA2,zA1,zA0,zAA,frzL,slot,reduceIte,Nat.reduceEqDiff,h0,hl,hr,zB0,q1,q2,w,q3]
end Go.Proofs.YtakefgebklfhpaaGreat
namespace Go.Proofs.YtakefgebklfhpaaGreat
open Go Go.Ax
variable {fuel : Nat} {M : Mem} {Q : AV → Mem → Prop} {d : Nat}
def zUC (x : Int) : Bool:=(decide (0 ≤ x) && decide (x < 55296)) || (decide (57343 < x) && decide (x ≤ 1114111))
def okR (x : Int) : Bool:=decide (x = -1) || zUC x
def chkR (l : List Int) : Int:=if 64 < l.length then 4 else err (l.all okR)
theorem zUD (x : Int) (M : Mem) : zAE Tryz.prog (fsT tbl) fuel (d + 1) (.fn 16) [I32 x] M = some (BL (zUC x),M):=by
 apply zBI
 refine zAJ tf16 rfl (by simp (maxSteps:=2000000) (disch:=first | omega | assumption | (simp only [DS,Nat.reduceAdd, *]; done) | (simp only [DZ]; omega)) only [RUN,icyL]) (by simp [a16]) fun b' ht hx=>?_
 have h0:=hx 0 _ rfl
 clear hx
 simp only [a16,c16] at ht ⊢
 unfold zUC
 cases q1 : decide (0 ≤ x) <;> cases q2 : decide (x < 55296) <;> cases q3 : decide (57343 < x) <;> cases q4 : decide (x ≤ 1114111)
 all_goals simp (maxSteps:=2000000) (disch:=first | omega | assumption | (simp only [DS,Nat.reduceAdd, *]; done) | (simp only [DZ]; omega)) only [RUN,RU,zA2,zA1,zA0,zAA,frzL,reduceIte,Nat.reduceEqDiff,h0,q1,q2,q3,q4]
theorem zUJ (x : Int) (M : Mem) : zAE Tryz.prog (fsT tbl) fuel (d + 2) (.fn 15) [I32 x] M = some (BL (!okR x),M):=by
 have hv:=fun M=>@zUD fuel d x M
 apply zBI
 refine zAJ tf15 rfl (by simp (maxSteps:=2000000) (disch:=first | omega | assumption | (simp only [DS,Nat.reduceAdd, *]; done) | (simp only [DZ]; omega)) only [RUN,icyL]) (by simp [a15]) fun b' ht hx=>?_
 have h0:=hx 0 _ rfl
 clear hx
 simp only [a15,c15] at ht ⊢
 unfold okR
 cases q : decide (x = -1) <;> simp (maxSteps:=2000000) (disch:=first | omega | assumption | (simp only [DS,Nat.reduceAdd, *]; done) | (simp only [DZ]; omega)) only [RUN,RU,zA2,zA1,zA0,zAA,frzL,reduceIte,Nat.reduceEqDiff,h0,q,hv]
theorem zRC {α : Type} (p : α → Bool) (l : List α) : (l.any fun x => !p x) = !l.all p:=by
 induction l with
 | nil=>rfl
 | cons x l ih=>simp only [List.any_cons,List.all_cons,ih,Bool.not_and]
theorem zGL {a : AV} {l : List Int} (hS : Sl 1 zB4 a l) (hf : 100 < fuel) (M : Mem) : zAE Tryz.prog (fsT tbl) fuel (d + 5) (.fn 6) [a] M = some (I64 (chkR l),M):=by
 have ll:=hS.len
 apply zBI
 refine zAJ tf6 rfl (by simp (maxSteps:=2000000) (disch:=first | omega | assumption | (simp only [DS,Nat.reduceAdd, *]; done) | (simp only [DZ]; omega)) only [icyL,hS.fz.icy]) (by simp [a6]) fun b' ht hx=>?_
 have h0:=hx 0 _ rfl
 clear hx
 simp only [a6,c6] at ht ⊢
 unfold chkR
 by_cases q : 64 < l.length
 ·have q1 : decide ((64 : Int) < l.length) = true:=decide_eq_true (by omega)
  simp (maxSteps:=2000000) (disch:=first | omega | assumption | (simp only [DS,Nat.reduceAdd, *]; done) | (simp only [DZ]; omega)) only [RUN,RU,zA2,zA1,zA0,zAA,frzL,reduceIte,Nat.reduceEqDiff,h0,ll,q1,q,if_true]
 ·have q1 : decide ((64 : Int) < l.length) = false:=decide_eq_false (by omega)
  have hh:=fun M=>zcN (P:=Tryz.prog) (fs:=fsT tbl) (fuel:=fuel) (l:=l) (ag:=false) (n:=d + 2) tf17 tf30 (fun _=>rfl) zGX hS (by omega) (by omega) (zYE 15) (p:=fun x => !okR x) (fun r x hr _ M=>by
   obtain rfl:=hr
   exact @zUJ fuel d x M) M
  rw [zRC] at hh
  cases hb : l.all okR <;> rw [hb] at hh <;> simp (maxSteps:=2000000) (disch:=first | omega | assumption | (simp only [DS,Nat.reduceAdd, *]; done) | (simp only [DZ]; omega)) only [RUN,RU,zA2,zA1,zA0,zAA,frzL,reduceIte,Nat.reduceEqDiff,h0,ll,q1,q,hh,if_false,zB0,zBF]
theorem zKN {a : AV} {l : List Int} (hS : Sl 1 zB4 a l) (hl : l.length ≤ 1000000000) (wf : Wf M)
  (k : ∀ a' M',Wf M' → M.size ≤ M'.size → (∀ j,j < M.size → M'.get j = M.get j) → SlM M' 1 zB4 a' l → (∀ id,rowOf a' = some id → M.size ≤ id) → M'.wm = M.wm → M'.dirty = M.dirty → Q a' M') : W3 (zAE Tryz.prog (fsT tbl) fuel (d + 1) (.fn 51) [a] M) Q :=
 zZK zGX.cel tf51 Tryz.underlying28 hS (by omega) (by omega) wf k
end Go.Proofs.YtakefgebklfhpaaGreat
namespace Go.Proofs.YtakefgebklfhpaaGreat
open Go Go.Ax
def Rn.may (r : Rn) : Bool:=r.sp.may && (decide (r.af = Eid.z) || (r.af.may && decide (r.af.c < r.sp.f.c))) && decide ((r.rs.length : Int) = r.sp.n) && decide (chkR r.rs = 0)
theorem zCI {o : Rn} {ra : AV} (h : Fz ra) (M : Mem) : icy 12 M (.agg (rnR o ra)) = some (.agg (rnR o ra),M):=zB2 (zYH h) (by omega) M
end Go.Proofs.YtakefgebklfhpaaGreat
namespace Go.Proofs.YtakefgebklfhpaaGreat
open Go Go.Ax
variable {fuel : Nat} {M : Mem} {Q : AV → Mem → Prop} {d : Nat}
set_option maxHeartbeats 4000000 in
theorem zC0 {o : Rn} {ra : AV} (hS : Sl 1 zB4 ra o.rs) (hf : 100 < fuel) (M : Mem) : zAE Tryz.prog (fsT tbl) fuel (d + 6) (.fn 52) [.agg (rnR o ra)] M = some (I64 (err o.may),M):=by
 have ll:=hS.len
 have hc:=fun M=>@zJR fuel (d + 2) o.af M
 have hs:=fun M=>@zFP fuel (d + 1) o.sp M
 have hr:=fun M=>zGL (fuel:=fuel) (d:=d) hS hf M
 apply zBI
 refine zAJ tf52 rfl (by simp only [icyL,zCI hS.fz]) (by simp [a52]) fun b' ht hx=>?_
 have h0:=hx 0 _ rfl
 clear hx
 simp only [a52,c52] at ht ⊢
 unfold Rn.may
 cases q0 : o.sp.may <;> rw [q0] at hs <;> simp only [Bool.false_and,Bool.true_and]
 all_goals
  cases q1 : decide (o.af = Eid.z)
  ·cases q2 : o.af.may <;> rw [q2] at hc
   ·simp (maxSteps:=2000000) (disch:=first | omega | assumption | (simp only [DS,Nat.reduceAdd, *]; done) | (simp only [DZ]; omega)) only [RUN,RU,zA2,zA1,zA0,zAA,frzL,slot,zAI,reduceIte,Nat.reduceEqDiff,Int.reduceEq,h0,↓pIdE,zAW,ETA,q1,hc,hs,zB0,zBF,Bool.false_and]
   ·cases q3 : decide (o.af.c < o.sp.f.c)
    ·simp (maxSteps:=2000000) (disch:=first | omega | assumption | (simp only [DS,Nat.reduceAdd, *]; done) | (simp only [DZ]; omega)) only [RUN,RU,zA2,zA1,zA0,zAA,frzL,slot,zAI,reduceIte,Nat.reduceEqDiff,Nat.reduceAdd,Int.reduceEq,h0,↓pIdE,zAW,ETA,q1,hc,hs,q3,zB0,zBF,Bool.false_and]
    ·cases q4 : decide ((o.rs.length : Int) = o.sp.n)
     ·simp (maxSteps:=2000000) (disch:=first | omega | assumption | (simp only [DS,Nat.reduceAdd, *]; done) | (simp only [DZ]; omega)) only [RUN,RU,zA2,zA1,zA0,zAA,frzL,slot,zAI,reduceIte,Nat.reduceEqDiff,Nat.reduceAdd,Int.reduceEq,h0,↓pIdE,zAW,ETA,q1,hc,hs,q3,q4,ll,zB0,zBF,Bool.false_and]
     ·cases q5 : decide (chkR o.rs = 0)
      ·simp (maxSteps:=2000000) (disch:=first | omega | assumption | (simp only [DS,Nat.reduceAdd, *]; done) | (simp only [DZ]; omega)) only [RUN,RU,zA2,zA1,zA0,zAA,frzL,slot,zAI,reduceIte,Nat.reduceEqDiff,Nat.reduceAdd,Int.reduceEq,h0,↓pIdE,zAW,ETA,q1,hc,hs,q3,q4,q5,ll,hr,zB0,zBF]
      ·simp (maxSteps:=2000000) (disch:=first | omega | assumption | (simp only [DS,Nat.reduceAdd, *]; done) | (simp only [DZ]; omega)) only [RUN,RU,zA2,zA1,zA0,zAA,frzL,slot,zAI,reduceIte,Nat.reduceEqDiff,Nat.reduceAdd,Int.reduceEq,h0,↓pIdE,zAW,ETA,q1,hc,hs,q3,q4,q5,ll,hr,zB0,zBF]
  ·cases q4 : decide ((o.rs.length : Int) = o.sp.n)
   ·simp (maxSteps:=2000000) (disch:=first | omega | assumption | (simp only [DS,Nat.reduceAdd, *]; done) | (simp only [DZ]; omega)) only [RUN,RU,zA2,zA1,zA0,zAA,frzL,slot,zAI,reduceIte,Nat.reduceEqDiff,Int.reduceEq,h0,↓pIdE,zAW,ETA,q1,hs,q4,ll,zB0,zBF,Bool.false_and]
   ·cases q5 : decide (chkR o.rs = 0)
    ·simp (maxSteps:=2000000) (disch:=first | omega | assumption | (simp only [DS,Nat.reduceAdd, *]; done) | (simp only [DZ]; omega)) only [RUN,RU,zA2,zA1,zA0,zAA,frzL,slot,zAI,reduceIte,Nat.reduceEqDiff,Int.reduceEq,h0,↓pIdE,zAW,ETA,q1,hs,q4,q5,ll,hr,zB0,zBF]
    ·simp (maxSteps:=2000000) (disch:=first | omega | assumption | (simp only [DS,Nat.reduceAdd, *]; done) | (simp only [DZ]; omega)) only [RUN,RU,zA2,zA1,zA0,zAA,frzL,slot,zAI,reduceIte,Nat.reduceEqDiff,Int.reduceEq,h0,↓pIdE,zAW,ETA,q1,hs,q4,q5,ll,hr,zB0,zBF]
end Go.Proofs.YtakefgebklfhpaaGreat
namespace Go.Proofs.YtakefgebklfhpaaGreat
open Go Go.Ax
variable {fuel : Nat} {M : Mem} {Q : AV → Mem → Prop} {d : Nat}
def Spn.at (s : Spn) (n : Int) : Eid:=⟨s.f.hd,s.f.c + n⟩
theorem zP2 (x : Eid) (n : Int) (M : Mem) : zAE Tryz.prog (fsT tbl) fuel (d + 1) (.fn 63) [idA x,I64 n] M = some (idA ⟨x.hd,IntKind.i64.wrap (x.c + n)⟩,M):=by
 apply zBI
 refine zAJ tf63 rfl (by simp (maxSteps:=2000000) (disch:=first | omega | assumption | (simp only [DS,Nat.reduceAdd, *]; done) | (simp only [DZ]; omega)) only [RUN,icyL,Nat.reduceSub]) (by simp [a63]) fun b' ht hx=>?_
 have h0:=hx 0 _ rfl
 have h1:=hx 1 _ rfl
 clear hx
 simp only [a63,c63] at ht ⊢
 simp (maxSteps:=2000000) (disch:=first | omega | assumption | (simp only [DS,Nat.reduceAdd, *]; done) | (simp only [DZ]; omega)) only [RUN,RU,zA2,zA1,zA0,zAA,frzL,slot,lay,reduceIte,Nat.reduceEqDiff,Nat.reduceAdd,Nat.reduceSub,h0,h1]
def Spn.has (s : Spn) (x : Eid) : Option Int:=if s.may = true ∧ x.hd = s.f.hd ∧ s.f.c ≤ x.c ∧ x.c < s.f.c + s.n then some (x.c - s.f.c) else none
theorem Spn.may_le {s : Spn} (h : s.may = true) : 1 ≤ s.f.c ∧ s.f.c ≤ 1099511627776 ∧ 1 ≤ s.n ∧ s.n ≤ 64 ∧ s.f.c + s.n ≤ 1099511627777:=by
 unfold Spn.may Eid.may at h
 simp only [Bool.and_eq_true,decide_eq_true_eq] at h
 omega
theorem zNC (s : Spn) (x : Eid) (M : Mem) : zAE Tryz.prog (fsT tbl) fuel (d + 5) (.fn 39) [spA s,idA x] M = some (.tup [I64 ((s.has x).getD 0),BL (s.has x).isSome],M):=by
 have hc:=fun M=>@zFP fuel d s M
 have hn:=fun x n M=>@zP2 fuel (d + 3) x n M
 have pIdN:=@pIdN
 apply zBI
 refine zAJ tf39 rfl (by simp (maxSteps:=2000000) (disch:=first | omega | assumption | (simp only [DS,Nat.reduceAdd, *]; done) | (simp only [DZ]; omega)) only [RUN,icyL,Nat.reduceSub]) (by simp [a39]) fun b' ht hx=>?_
 have h0:=hx 0 _ rfl
 have h1:=hx 1 _ rfl
 clear hx
 simp only [a39,c39] at ht ⊢
 cases hm : s.may with
 | false =>
  rw [hm] at hc
  have e : s.has x = none:=by unfold Spn.has; rw [if_neg (by simp [hm])]
  simp (maxSteps:=2000000) (disch:=first | omega | assumption | (simp only [DS,Nat.reduceAdd, *]; done) | (simp only [DZ]; omega)) only [RUN,RU,zA2,zA1,zA0,zAA,frzL,slot,reduceIte,Nat.reduceEqDiff,Nat.reduceAdd,Int.reduceEq,h0,h1,hc,zBF,e,Option.getD_none,Option.isSome_none]
 | true =>
  rw [hm] at hc
  have hb:=Spn.may_le hm
  generalize hw : IntKind.i64.wrap (x.c - s.f.c) = n at *
  by_cases q1 : n < 0
  ·have e : s.has x = none:=by
    unfold Spn.has
    rw [if_neg]
    rintro ⟨_,_,h1,h2⟩
    rw [wrap_i64 (by omega) (by omega)] at hw
    omega
   have q : decide (n < 0) = true:=decide_eq_true q1
   simp (maxSteps:=2000000) (disch:=first | omega | assumption | (simp only [DS,Nat.reduceAdd, *]; done) | (simp only [DZ]; omega)) only [RUN,RU,zA2,zA1,zA0,zAA,frzL,slot,reduceIte,Nat.reduceEqDiff,Nat.reduceAdd,h0,h1,hc,zB0,hw,q,e,Option.getD_none,Option.isSome_none]
  ·by_cases q2 : s.n ≤ n
   ·have e : s.has x = none:=by
     unfold Spn.has
     rw [if_neg]
     rintro ⟨_,_,h1,h2⟩
     rw [wrap_i64 (by omega) (by omega)] at hw
     omega
    have q : decide (n < 0) = false:=decide_eq_false q1
    have q' : decide (s.n ≤ n) = true:=decide_eq_true q2
    simp (maxSteps:=2000000) (disch:=first | omega | assumption | (simp only [DS,Nat.reduceAdd, *]; done) | (simp only [DZ]; omega)) only [RUN,RU,zA2,zA1,zA0,zAA,frzL,slot,reduceIte,Nat.reduceEqDiff,Nat.reduceBEq,Nat.reduceAdd,h0,h1,hc,zB0,hw,q,q',e,Option.getD_none,Option.isSome_none]
   ·have q : decide (n < 0) = false:=decide_eq_false q1
    have q' : decide (s.n ≤ n) = false:=decide_eq_false q2
    have w2 : IntKind.i64.wrap (s.f.c + n) = s.f.c + n:=wrap_i64 (by omega) (by omega)
    by_cases q3 : x = ⟨s.f.hd,s.f.c + n⟩
    ·have e : s.has x = some n:=by
      unfold Spn.has
      rw [if_pos ⟨hm,by rw [q3],by rw [q3]; show s.f.c ≤ s.f.c + n; omega,by rw [q3]; show s.f.c + n < _; omega⟩,q3]
      congr 1
      show s.f.c + n - s.f.c = n
      omega
     have q4 : decide (x = ⟨s.f.hd,s.f.c + n⟩) = true:=decide_eq_true q3
     simp (maxSteps:=2000000) (disch:=first | omega | assumption | (simp only [DS,Nat.reduceAdd, *]; done) | (simp only [DZ]; omega)) only [RUN,RU,zA2,zA1,zA0,zAA,frzL,slot,reduceIte,Nat.reduceEqDiff,Nat.reduceBEq,Nat.reduceAdd,h0,h1,hc,zB0,hw,q,q',hn,w2,↓pIdN,zBD,ETA,q4,e,Option.getD_some,Option.isSome_some]
    ·have e : s.has x = none:=by
      unfold Spn.has
      rw [if_neg]
      rintro ⟨_,h0,h1,h2⟩
      rw [wrap_i64 (by omega) (by omega)] at hw
      apply q3
      obtain ⟨xh,xc⟩:=x
      simp only at h0 hw ⊢
      rw [h0,← hw]
      congr 1
      omega
     have q4 : decide (x = ⟨s.f.hd,s.f.c + n⟩) = false:=decide_eq_false q3
     simp (maxSteps:=2000000) (disch:=first | omega | assumption | (simp only [DS,Nat.reduceAdd, *]; done) | (simp only [DZ]; omega)) only [RUN,RU,zA2,zA1,zA0,zAA,frzL,slot,reduceIte,Nat.reduceEqDiff,Nat.reduceBEq,Nat.reduceAdd,h0,h1,hc,zB0,hw,q,q',hn,w2,↓pIdN,zBD,ETA,q4,e,Option.getD_none,Option.isSome_none]
theorem zHW (s : Spn) (n : Int) (M : Mem) : zAE Tryz.prog (fsT tbl) fuel (d + 5) (.fn 55) [spA s,I64 n] M = some (if s.may then (if n < 0 ∨ s.n ≤ n then .tup [idA Eid.z,I64 2] else .tup [idA (s.at n),I64 0]) else .tup [idA Eid.z,I64 8],M):=by
 have hc:=fun M=>@zFP fuel d s M
 have hn:=fun x n M=>@zP2 fuel (d + 3) x n M
 apply zBI
 refine zAJ tf55 rfl (by simp (maxSteps:=2000000) (disch:=first | omega | assumption | (simp only [DS,Nat.reduceAdd, *]; done) | (simp only [DZ]; omega)) only [RUN,icyL,Nat.reduceSub]) (by simp [a55]) fun b' ht hx=>?_
 have h0:=hx 0 _ rfl
 have h1:=hx 1 _ rfl
 clear hx
 simp only [a55,c55] at ht ⊢
 cases hm : s.may with
 | false =>
  rw [hm] at hc
  simp (maxSteps:=2000000) (disch:=first | omega | assumption | (simp only [DS,Nat.reduceAdd, *]; done) | (simp only [DZ]; omega)) only [RUN,RU,zA2,zA1,zA0,zAA,frzL,slot,lay,zAI,reduceIte,Nat.reduceEqDiff,Nat.reduceAdd,Nat.reduceSub,Int.reduceEq,h0,hc,zBF,Bool.false_eq_true,if_false]
 | true =>
  rw [hm] at hc
  have hb:=Spn.may_le hm
  by_cases q1 : n < 0
  ·have q : decide (n < 0) = true:=decide_eq_true q1
   simp (maxSteps:=2000000) (disch:=first | omega | assumption | (simp only [DS,Nat.reduceAdd, *]; done) | (simp only [DZ]; omega)) only [RUN,RU,zA2,zA1,zA0,zAA,frzL,slot,lay,zAI,reduceIte,Nat.reduceEqDiff,Nat.reduceAdd,Nat.reduceSub,h0,h1,hc,zB0,q1,true_or,if_true]
  ·have q : decide (n < 0) = false:=decide_eq_false q1
   by_cases q2 : s.n ≤ n
   ·have q' : decide (s.n ≤ n) = true:=decide_eq_true q2
    simp (maxSteps:=2000000) (disch:=first | omega | assumption | (simp only [DS,Nat.reduceAdd, *]; done) | (simp only [DZ]; omega)) only [RUN,RU,zA2,zA1,zA0,zAA,frzL,slot,lay,zAI,reduceIte,Nat.reduceEqDiff,Nat.reduceAdd,Nat.reduceSub,h0,h1,hc,zB0,q1,q2,or_true,if_true]
   ·have q' : decide (s.n ≤ n) = false:=decide_eq_false q2
    have w2 : IntKind.i64.wrap (s.f.c + n) = s.f.c + n:=wrap_i64 (by omega) (by omega)
    unfold Spn.at
    simp (maxSteps:=2000000) (disch:=first | omega | assumption | (simp only [DS,Nat.reduceAdd, *]; done) | (simp only [DZ]; omega)) only [RUN,RU,zA2,zA1,zA0,zAA,frzL,slot,lay,Nat.reduceEqDiff,Nat.reduceAdd,Nat.reduceSub,h0,h1,hc,zB0,q1,q2,or_self,if_true,if_false,hn,w2]
end Go.Proofs.YtakefgebklfhpaaGreat
namespace Go.Proofs.YtakefgebklfhpaaGreat
open Go Go.Ax
variable {fuel : Nat} {M : Mem} {Q : AV → Mem → Prop} {d : Nat}
def Lb.ahead (a b : Lb) : Bool:=decide (a.lv < b.lv) || (decide (a.lv = b.lv) && decide (a.cats < b.cats))
def Eid.less (x y : Eid) : Bool:=if x.c = y.c then (if x.hd.lb = y.hd.lb then decide (x.hd.num < y.hd.num) else x.hd.lb.ahead y.hd.lb) else decide (x.c < y.c)
theorem zR6 (a b : Lb) (M : Mem) : zAE Tryz.prog (fsT tbl) fuel (d + 1) (.fn 89) [lbA a,lbA b] M = some (BL (a.ahead b),M):=by
 have pLbE:=@pLbE
 apply zBI
 refine zAJ tf89 rfl (by simp (maxSteps:=2000000) (disch:=first | omega | assumption | (simp only [DS,Nat.reduceAdd, *]; done) | (simp only [DZ]; omega)) only [RUN,icyL,Nat.reduceSub]) (by simp [a89]) fun b' ht hx=>?_
 have h0:=hx 0 _ rfl
 have h1:=hx 1 _ rfl
 clear hx
 simp only [a89,c89] at ht ⊢
 unfold Lb.ahead
 cases q1 : decide (a.lv < b.lv) with
 | true=>simp (maxSteps:=2000000) (disch:=first | omega | assumption | (simp only [DS,Nat.reduceAdd, *]; done) | (simp only [DZ]; omega)) only [RUN,RU,zA2,zA1,zA0,zAA,frzL,lay,zAI,reduceIte,Nat.reduceEqDiff,Nat.reduceBEq,Nat.reduceAdd,h0,h1,q1]
 | false =>
  have e : decide (a = (⟨b.lv,a.cats⟩ : Lb)) = decide (a.lv = b.lv):=by
   rw [Bool.eq_iff_iff,decide_eq_true_iff,decide_eq_true_iff]
   constructor
   ·intro h; rw [h]
   ·intro h
    obtain ⟨x,y⟩:=a
    simp only at h ⊢
    rw [h]
  cases q2 : decide (a.lv = b.lv) with
  | true =>
   rw [q2] at e
   simp (maxSteps:=2000000) (disch:=first | omega | assumption | (simp only [DS,Nat.reduceAdd, *]; done) | (simp only [DZ]; omega)) only [RUN,RU,zA2,zA1,zA0,zAA,frzL,slot,lay,zAI,reduceIte,Nat.reduceEqDiff,Nat.reduceBEq,Nat.reduceAdd,h0,h1,q1,↓pLbE,zEK,ETA,e]
  | false =>
   rw [q2] at e
   simp (maxSteps:=2000000) (disch:=first | omega | assumption | (simp only [DS,Nat.reduceAdd, *]; done) | (simp only [DZ]; omega)) only [RUN,RU,zA2,zA1,zA0,zAA,frzL,slot,lay,zAI,reduceIte,Nat.reduceEqDiff,Nat.reduceBEq,Nat.reduceAdd,h0,h1,q1,↓pLbE,zEK,ETA,e,Bool.false_and]
theorem zEV (x y : Eid) (M : Mem) : zAE Tryz.prog (fsT tbl) fuel (d + 2) (.fn 58) [idA x,idA y] M = some (BL (x.less y),M):=by
 have pLbN:=@pLbN
 have ha:=fun M=>@zR6 fuel d x.hd.lb y.hd.lb M
 apply zBI
 refine zAJ tf58 rfl (by simp (maxSteps:=2000000) (disch:=first | omega | assumption | (simp only [DS,Nat.reduceAdd, *]; done) | (simp only [DZ]; omega)) only [RUN,icyL,Nat.reduceSub]) (by simp [a58]) fun b' ht hx=>?_
 have h0:=hx 0 _ rfl
 have h1:=hx 1 _ rfl
 clear hx
 simp only [a58,c58] at ht ⊢
 unfold Eid.less
 by_cases q1 : x.c = y.c
 ·have q1' : decide (x.c = y.c) = true:=decide_eq_true q1
  by_cases q2 : x.hd.lb = y.hd.lb
  ·have q2' : decide (x.hd.lb = y.hd.lb) = true:=decide_eq_true q2
   simp only [if_pos q1,if_pos q2]
   simp (maxSteps:=2000000) (disch:=first | omega | assumption | (simp only [DS,Nat.reduceAdd, *]; done) | (simp only [DZ]; omega)) only [RUN,RU,zA2,zA1,zA0,zAA,frzL,slot,reduceIte,Nat.reduceEqDiff,Nat.reduceAdd,h0,h1,q1',↓pLbN,zG1,ETA,q2']
  ·have q2' : decide (x.hd.lb = y.hd.lb) = false:=decide_eq_false q2
   simp only [if_pos q1,if_neg q2]
   simp (maxSteps:=2000000) (disch:=first | omega | assumption | (simp only [DS,Nat.reduceAdd, *]; done) | (simp only [DZ]; omega)) only [RUN,RU,zA2,zA1,zA0,zAA,frzL,slot,reduceIte,Nat.reduceEqDiff,Nat.reduceAdd,h0,h1,q1',↓pLbN,zG1,ETA,q2',ha]
 ·have q1' : decide (x.c = y.c) = false:=decide_eq_false q1
  simp only [if_neg q1]
  simp (maxSteps:=2000000) (disch:=first | omega | assumption | (simp only [DS,Nat.reduceAdd, *]; done) | (simp only [DZ]; omega)) only [RUN,RU,zA2,zA1,zA0,zAA,frzL,reduceIte,Nat.reduceEqDiff,Nat.reduceAdd,h0,h1,q1']
def cutE (s : Spn) (n : Int) : Int:=if s.may then (if n ≤ 0 ∨ s.n ≤ n then 2 else 0) else 8
def spZ : Spn:=⟨Eid.z,0⟩
theorem zQG (s : Spn) (n : Int) (M : Mem) : zAE Tryz.prog (fsT tbl) fuel (d + 6) (.fn 104) [spA s,I64 n] M = some (if cutE s n = 0 then .tup [spA ⟨s.f,n⟩,spA ⟨s.at n,s.n - n⟩,I64 0] else .tup [spA spZ,spA spZ,I64 (cutE s n)],M):=by
 have hat:=fun M=>@zHW fuel d s n M
 apply zBI
 refine zAJ tf104 rfl (by simp (maxSteps:=2000000) (disch:=first | omega | assumption | (simp only [DS,Nat.reduceAdd, *]; done) | (simp only [DZ]; omega)) only [RUN,icyL,Nat.reduceSub]) (by simp [a104]) fun b' ht hx=>?_
 have h0:=hx 0 _ rfl
 have h1:=hx 1 _ rfl
 clear hx
 simp only [a104,c104] at ht ⊢
 unfold cutE spZ
 cases hm : s.may with
 | false =>
  simp only [hm,Bool.false_eq_true,if_false] at hat
  simp (maxSteps:=2000000) (disch:=first | omega | assumption | (simp only [DS,Nat.reduceAdd, *]; done) | (simp only [DZ]; omega)) only [RUN,RU,zA2,zA1,zA0,zAA,frzL,slot,lay,reduceIte,Nat.reduceEqDiff,Nat.reduceBEq,Nat.reduceAdd,Nat.reduceSub,Int.reduceEq,h0,h1,hat,Bool.false_eq_true,if_false]
  all_goals rfl
 | true =>
  simp only [hm,if_true] at hat
  have hb:=Spn.may_le hm
  by_cases q0 : n < 0 ∨ s.n ≤ n
  ·simp only [q0,if_true] at hat
   have q2 : n ≤ 0 ∨ s.n ≤ n:=by omega
   have q3 : decide (n = 0) = false:=decide_eq_false (by omega)
   simp (maxSteps:=2000000) (disch:=first | omega | assumption | (simp only [DS,Nat.reduceAdd, *]; done) | (simp only [DZ]; omega)) only [RUN,RU,zA2,zA1,zA0,zAA,frzL,slot,lay,reduceIte,Nat.reduceEqDiff,Nat.reduceBEq,Nat.reduceAdd,Nat.reduceSub,Int.reduceEq,h0,h1,hat,q2,if_true]
   all_goals rfl
  ·simp only [q0,if_false] at hat
   by_cases q3 : n = 0
   ·have q3' : decide (n = 0) = true:=decide_eq_true q3
    have q2 : n ≤ 0 ∨ s.n ≤ n:=by omega
    simp (maxSteps:=2000000) (disch:=first | omega | assumption | (simp only [DS,Nat.reduceAdd, *]; done) | (simp only [DZ]; omega)) only [RUN,RU,zA2,zA1,zA0,zAA,frzL,slot,lay,reduceIte,Nat.reduceEqDiff,Nat.reduceBEq,Nat.reduceAdd,Nat.reduceSub,Int.reduceEq,h0,h1,hat,q2,q3',if_true]
    all_goals rfl
   ·have q3' : decide (n = 0) = false:=decide_eq_false q3
    have q2 : ¬(n ≤ 0 ∨ s.n ≤ n):=by omega
    have w1 : IntKind.i64.wrap (s.n - n) = s.n - n:=wrap_i64 (by omega) (by omega)
    simp (maxSteps:=2000000) (disch:=first | omega | assumption | (simp only [DS,Nat.reduceAdd, *]; done) | (simp only [DZ]; omega)) only [RUN,RU,zA2,zA1,zA0,zAA,frzL,slot,lay,zAI,Nat.reduceEqDiff,Nat.reduceBEq,Nat.reduceAdd,Nat.reduceSub,h0,h1,hat,q2,q3',if_true,if_false,w1]
    rfl
theorem zS6 {a b : AV} {l m : List Int} (ha : Sl 1 zB4 a l) (hb : Sl 1 zB4 b m) (hf : l.length < fuel) (hl : l.length ≤ 1000000000) (M : Mem) :
  zAE Tryz.prog (fsT tbl) fuel (d + 1) (.fn 110) [a,b] M = some (BL (decide (l = m)),M):=by
 have hla:=ha.len
 have hlb:=hb.len
 apply zBI
 refine zAJ tf110 rfl (by simp (maxSteps:=2000000) (disch:=first | omega | assumption | (simp only [DS,Nat.reduceAdd, *]; done) | (simp only [DZ]; omega)) only [icyL,ha.fz.icy,hb.fz.icy]) (by simp [a110]) fun b' ht hx=>?_
 have h0:=hx 0 _ rfl
 have h1:=hx 1 _ rfl
 clear hx
 simp only [a110,c110] at ht ⊢
 by_cases hll : l.length = m.length
 ·have q1 : decide ((l.length : Int) = m.length) = true:=by simp; omega
  simp (maxSteps:=2000000) (disch:=first | omega | assumption | (simp only [DS,Nat.reduceAdd, *]; done) | (simp only [DZ]; omega)) only [RUN,RU,zA2,zA1,reduceIte,Nat.reduceEqDiff,h0,h1,hla,hlb,q1]
  refine zBG (I:=fun n t N => ∃ (i : Nat),n = l.length - i ∧ i ≤ l.length ∧ nth zA5 t 0 = a ∧ nth zA5 t 1 = b ∧ nth zA5 t 11 = a ∧ nth zA5 t 12 = I64 l.length ∧ nth zA5 t 13 = I64 i ∧ l.take i = m.take i) (n:=l.length) (by omega) ?_ ?_
  ·refine ⟨0,rfl,Nat.zero_le _, ?_, ?_, ?_, ?_, ?_,rfl⟩ <;> simp (maxSteps:=2000000) (disch:=first | omega | assumption | (simp only [DS,Nat.reduceAdd, *]; done) | (simp only [DZ]; omega)) only [RUN,reduceIte,Nat.reduceEqDiff,h0,h1]
   all_goals first | rfl | assumption | done
  ·rintro n t N hlt ⟨i,rfl,hi,g0,g1,g11,g12,g13,tk⟩
   simp only [ht] at hlt ⊢
   by_cases hlt' : i < l.length
   ·have hc' : decide ((i : Int) < l.length) = true:=by simp; omega
    have hmt : i < m.length:=by omega
    have w1 : IntKind.i64.wrap ((i : Int) + 1) = ((i + 1 : Nat) : Int):=by rw [wrap_i64] <;> omega
    obtain ⟨r,hr,rfl,_⟩:=ha.iad i hlt'
    obtain ⟨r2,hr2,rfl,_⟩:=hb.iad i hmt
    by_cases he : l[i] = m[i]
    ·have q2 : decide (l[i] = m[i]) = true:=by simp [he]
     simp (maxSteps:=2000000) (disch:=first | omega | assumption | (simp only [DS,Nat.reduceAdd, *]; done) | (simp only [DZ]; omega)) only [RUN,RU,zA2,zA1,reduceIte,Nat.reduceEqDiff,Nat.reduceBEq,Nat.reduceAdd,g0,g1,g11,g12,g13,hc',hr,hr2,w1,q2]
     refine ⟨hlt,l.length - (i + 1),by omega,i + 1,rfl,by omega,rfl, ?_⟩
     rw [List.take_add_one,List.take_add_one,tk,List.getElem?_eq_getElem hlt',List.getElem?_eq_getElem hmt,he]
    ·have q2 : decide (l[i] = m[i]) = false:=by simp [he]
     simp (maxSteps:=2000000) (disch:=first | omega | assumption | (simp only [DS,Nat.reduceAdd, *]; done) | (simp only [DZ]; omega)) only [RUN,RU,zA2,zA1,zA0,zAA,frzL,reduceIte,Nat.reduceEqDiff,Nat.reduceBEq,Nat.reduceAdd,g0,g1,g12,g13,hc',hr,hr2,q2]
     have : decide (l = m) = false:=by
      simp only [decide_eq_false_iff_not]
      rintro rfl; exact he rfl
     rw [this]
   ·have hc' : decide ((i : Int) < l.length) = false:=by simp; omega
    simp (maxSteps:=2000000) (disch:=first | omega | assumption | (simp only [DS,Nat.reduceAdd, *]; done) | (simp only [DZ]; omega)) only [RUN,RU,zA2,zA1,zA0,zAA,frzL,reduceIte,Nat.reduceEqDiff,g12,g13,hc']
    have : decide (l = m) = true:=by
     simp only [decide_eq_true_eq]
     rw [show i = l.length by omega,List.take_length] at tk
     rw [tk,show l.length = m.length from hll,List.take_length]
    rw [this]
 ·have q1 : decide ((l.length : Int) = m.length) = false:=by simp; omega
  have q3 : decide (l = m) = false:=by
   simp only [decide_eq_false_iff_not]
   rintro rfl; exact hll rfl
  simp (maxSteps:=2000000) (disch:=first | omega | assumption | (simp only [DS,Nat.reduceAdd, *]; done) | (simp only [DZ]; omega)) only [RUN,RU,zA2,zA1,zA0,zAA,frzL,reduceIte,Nat.reduceEqDiff,h0,h1,hla,hlb,q1,q3]
def rnEq (o p : Rn) : Bool:=decide (o.sp = p.sp) && decide (o.af = p.af) && decide (o.rs = p.rs)
theorem zG3 (o p : Rn) : rnEq o p = true ↔ o = p:=by
 obtain ⟨a1,a2,a3⟩:=o
 obtain ⟨b1,b2,b3⟩:=p
 simp [rnEq,and_assoc]
set_option maxHeartbeats 4000000 in
theorem zFH {o p : Rn} {ra rb : AV} (hR : Sl 1 zB4 ra o.rs) (hP : Sl 1 zB4 rb p.rs) (hl : o.rs.length ≤ 1000000000) (hf : o.rs.length < fuel) (M : Mem) : zAE Tryz.prog (fsT tbl) fuel (d + 2) (.fn 103) [.agg (rnR o ra),.agg (rnR p rb)] M = some (BL (rnEq o p),M):=by
 have ora:=hR.one
 have orb:=hP.one
 have hs:=fun M=>zS6 (fuel:=fuel) (d:=d) hR hP hf hl M
 apply zBI
 refine zAJ tf103 rfl (by simp only [icyL,zCI hR.fz,zCI hP.fz]) (by simp [a103]) fun b' ht hx=>?_
 have h0:=hx 0 _ rfl
 have h1:=hx 1 _ rfl
 clear hx
 simp only [a103,c103] at ht ⊢
 unfold rnEq
 cases q1 : decide (o.sp = p.sp)
 ·simp (maxSteps:=2000000) (disch:=first | omega | assumption | (simp only [DS,Nat.reduceAdd, *]; done) | (simp only [DZ]; omega)) only [RUN,RU,zA2,zA1,zA0,zAA,frzL,slot,reduceIte,Nat.reduceEqDiff,Nat.reduceAdd,h0,h1,↓pSpE,zI9,ETA,q1,Bool.false_and]
 ·cases q2 : decide (o.af = p.af)
  ·simp (maxSteps:=2000000) (disch:=first | omega | assumption | (simp only [DS,Nat.reduceAdd, *]; done) | (simp only [DZ]; omega)) only [RUN,RU,zA2,zA1,zA0,zAA,frzL,slot,reduceIte,Nat.reduceEqDiff,Nat.reduceAdd,h0,h1,↓pIdE,zAW,↓pSpE,zI9,ETA,q1,q2,Bool.false_and]
  ·simp (maxSteps:=2000000) (disch:=first | omega | assumption | (simp only [DS,Nat.reduceAdd, *]; done) | (simp only [DZ]; omega)) only [RUN,RU,zA2,zA1,zA0,zAA,frzL,slot,reduceIte,Nat.reduceEqDiff,Nat.reduceAdd,h0,h1,↓pIdE,zAW,↓pSpE,zI9,ETA,q1,q2,hs]
set_option maxHeartbeats 4000000 in
theorem zIP {o : Rn} {ra : AV} (hR : Sl 1 zB4 ra o.rs) (hl : o.rs.length ≤ 1000000000) : ∃ r,Sl 1 zB4 r o.rs ∧ ∀ M,zAE Tryz.prog (fsT tbl) fuel (d + 2) (.fn 92) [.agg (rnR o ra)] M = some (.agg (rnR o r),M):=by
 have ora:=hR.one
 refine zFT tf92 rfl (fun M=>by simp only [icyL,zCI hR.fz]) ?_
 refine zAJ tf92 rfl (by simp only [icyL,zCI hR.fz]) (by simp [a92]) fun b' ht hx=>?_
 have h0:=hx 0 _ rfl
 clear hx
 simp only [a92,c92] at ht ⊢
 simp (maxSteps:=2000000) (disch:=first | omega | assumption | (simp only [DS,Nat.reduceAdd, *]; done) | (simp only [DZ]; omega)) only [RUN,RU,zA2,zA1,reduceIte,Nat.reduceEqDiff,Nat.reduceAdd,h0]
 refine zKN hR hl (by simp (maxSteps:=2000000) (disch:=first | omega | assumption | (simp only [DS,Nat.reduceAdd, *]; done) | (simp only [DZ]; omega)) only [RUN]) fun a' M' wf' le' kp' sm' new' wm' di'=>?_
 have hsz : 2 ≤ M'.size:=le'
 have g0 : M'.get 0 = some (.row false (rnR o ra)):=by rw [kp' 0 (by show 0 < 2; omega)]; simp (maxSteps:=2000000) (disch:=first | omega | assumption | (simp only [DS,Nat.reduceAdd, *]; done) | (simp only [DZ]; omega)) only [RUN]
 have g1 : M'.get 1 = some (.row false (rnR ⟨⟨Eid.z,0⟩,Eid.z,[]⟩ NIL)):=by rw [kp' 1 (by show 1 < 2; omega)]; simp (maxSteps:=2000000) (disch:=first | omega | assumption | (simp only [DS,Nat.reduceAdd, *]; done) | (simp only [DZ]; omega)) only [RUN]
 have oa:=sm'.one
 have ca:=sm'.cells
 have rl:=zAT sm'.rl (Nat.le_refl M'.size)
 have nr : ∀ j,rowOf a' = some j → 2 ≤ j:=new'
 obtain ⟨ro,hro,hfr⟩:=zG7 sm' zGX.cel 11 (by omega)
 have hfr:=hfr ((M'.upd 0 (.row false (rnR o a'))).upd 1 (.row false (rnR o a'))) fun id h=>by
  have:=nr id h
  rw [zA4 (wf'.upd _ _) _ _ _ (by omega),zA4 wf' _ _ _ (by omega)]
 simp (maxSteps:=2000000) (disch:=first | omega | assumption | (simp only [DS,Nat.reduceAdd, *]; done) | (simp only [DZ]; omega)) only [RUN,RU,zA2,zA1,zA0,zAA,frzL,slot,lay,reduceIte,Nat.reduceEqDiff,Nat.reduceAdd,Nat.reduceSub,g0,g1,ca,hfr]
 exact ⟨_,hro,rfl⟩
def Rn.last (r : Rn) : Eid:=if r.sp.may then r.sp.at (r.sp.n - 1) else Eid.z
theorem zWI {o : Rn} {ra : AV} (hR : Sl 1 zB4 ra o.rs) (ho : o.ok) (M : Mem) : zAE Tryz.prog (fsT tbl) fuel (d + 6) (.fn 90) [.agg (rnR o ra)] M = some (idA o.last,M):=by
 have ora:=hR.one
 have hat:=fun M=>@zHW fuel d o.sp (IntKind.i64.wrap (o.sp.n - 1)) M
 apply zBI
 refine zAJ tf90 rfl (by simp only [icyL,zCI hR.fz]) (by simp [a90]) fun b' ht hx=>?_
 have h0:=hx 0 _ rfl
 clear hx
 simp only [a90,c90] at ht ⊢
 unfold Rn.last
 cases hm : o.sp.may with
 | false =>
  simp only [hm,Bool.false_eq_true,if_false] at hat
  simp (maxSteps:=2000000) (disch:=first | omega | assumption | (simp only [DS,Nat.reduceAdd, *]; done) | (simp only [DZ]; omega)) only [RUN,RU,zA2,zA1,zA0,zAA,frzL,slot,lay,reduceIte,Nat.reduceEqDiff,Nat.reduceAdd,Nat.reduceSub,h0,hat,Bool.false_eq_true,if_false]
 | true =>
  have hb:=Spn.may_le hm
  rw [wrap_i64 (by omega) (by omega)] at hat
  have w1 : IntKind.i64.wrap (o.sp.n - 1) = o.sp.n - 1:=wrap_i64 (by omega) (by omega)
  simp only [hm,if_true,if_neg (show ¬(o.sp.n - 1 < 0 ∨ o.sp.n ≤ o.sp.n - 1) by omega)] at hat
  simp (maxSteps:=2000000) (disch:=first | omega | assumption | (simp only [DS,Nat.reduceAdd, *]; done) | (simp only [DZ]; omega)) only [RUN,RU,zA2,zA1,zA0,zAA,frzL,slot,lay,reduceIte,Nat.reduceEqDiff,Nat.reduceAdd,Nat.reduceSub,h0,hat,w1,if_true]
end Go.Proofs.YtakefgebklfhpaaGreat
namespace Go.Proofs.YtakefgebklfhpaaGreat
open Go Go.Ax
variable {fuel : Nat} {M : Mem} {Q : AV → Mem → Prop} {d : Nat}
def Rn.z : Rn:=⟨⟨Eid.z,0⟩,Eid.z,[]⟩
set_option maxHeartbeats 4000000 in
theorem zG0 {o : Rn} {ra : AV} (hR : Sl 1 zB4 ra o.rs) (hl : o.rs.length ≤ 1000000000) : ∃ r,Sl 1 zB4 r o.rs ∧ ∀ M,zAE Tryz.prog (fsT tbl) fuel (d + 2) (.fn 105) [.agg (rnR o ra)] M = some (.agg (rnR o r),M):=by
 have ora:=hR.one
 refine zFT tf105 rfl (fun M=>by simp only [icyL,zCI hR.fz]) ?_
 refine zAJ tf105 rfl (by simp only [icyL,zCI hR.fz]) (by simp [a105]) fun b' ht hx=>?_
 have h0:=hx 0 _ rfl
 clear hx
 simp only [a105,c105] at ht ⊢
 simp (maxSteps:=2000000) (disch:=first | omega | assumption | (simp only [DS,Nat.reduceAdd, *]; done) | (simp only [DZ]; omega)) only [RUN,RU,zA2,zA1,slot,reduceIte,Nat.reduceEqDiff,Nat.reduceBEq,Nat.reduceAdd,h0]
 refine zKN hR hl (by simp (maxSteps:=2000000) (disch:=first | omega | assumption | (simp only [DS,Nat.reduceAdd, *]; done) | (simp only [DZ]; omega)) only [RUN]) fun a' M' wf' le' kp' sm' new' wm' di'=>?_
 have hd : M'.dirty = false:=di'
 have hsz : 2 ≤ M'.size:=le'
 have g0 : M'.get 0 = some (.row false (rnR o ra)):=by rw [kp' 0 (by show 0 < 2; omega)]; simp (maxSteps:=2000000) (disch:=first | omega | assumption | (simp only [DS,Nat.reduceAdd, *]; done) | (simp only [DZ]; omega)) only [RUN]
 have g1 : M'.get 1 = some (.row false (rnR ⟨⟨Eid.z,0⟩,Eid.z,[]⟩ NIL)):=by rw [kp' 1 (by show 1 < 2; omega)]; simp (maxSteps:=2000000) (disch:=first | omega | assumption | (simp only [DS,Nat.reduceAdd, *]; done) | (simp only [DZ]; omega)) only [RUN]
 have oa:=sm'.one
 have ca:=sm'.cells
 have rl:=zAT sm'.rl (Nat.le_refl M'.size)
 have nr : ∀ j,rowOf a' = some j → 2 ≤ j:=new'
 obtain ⟨ro,hro,hfr⟩:=zG7 sm' zGX.cel 11 (by omega)
 have hfr:=hfr ((((mem0.add (.row false (rnR o ra))).add (.row false (rnR ⟨⟨Eid.z,0⟩,Eid.z,[]⟩ NIL))).bk M').upd 1 (.row false (rnR o a'))) fun id h=>by
  have:=nr id h
  simp (maxSteps:=2000000) (disch:=first | omega | assumption | (simp only [DS,Nat.reduceAdd, *]; done) | (simp only [DZ]; omega)) only [RUN]
 simp (maxSteps:=2000000) (disch:=first | omega | assumption | (simp only [DS,Nat.reduceAdd, *]; done) | (simp only [DZ]; omega)) only [RUN,RU,zA2,zA0,zAA,frzL,slot,lay,zAI,reduceIte,Nat.reduceEqDiff,Nat.reduceBEq,Nat.reduceAdd,Nat.reduceSub,hd,g1,ca,hfr]
 exact ⟨_,hro,rfl⟩
def Rn.cutE (r : Rn) (n : Int) : Int:=if r.may then Go.Proofs.YtakefgebklfhpaaGreat.cutE r.sp n else 8
def Rn.fst (r : Rn) (n : Int) : Rn:=⟨⟨r.sp.f,n⟩,r.af,r.rs.take n.toNat⟩
def Rn.snd (r : Rn) (n : Int) : Rn:=⟨⟨r.sp.at n,r.sp.n - n⟩,r.sp.at (n - 1),r.rs.drop n.toNat⟩
def Rn.cutA (r : Rn) (n : Int) : Rn:=if r.cutE n = 0 then r.fst n else Rn.z
def Rn.cutB (r : Rn) (n : Int) : Rn:=if r.cutE n = 0 then r.snd n else Rn.z
theorem cutE_iff {s : Spn} {n : Int} : cutE s n = 0 ↔ s.may = true ∧ 0 < n ∧ n < s.n:=by
 unfold cutE
 cases s.may <;> simp
theorem Rn.cutE_iff {r : Rn} {n : Int} : r.cutE n = 0 ↔ r.may = true ∧ 0 < n ∧ n < r.sp.n:=by
 unfold Rn.cutE
 cases h : r.may
 ·simp
 ·rw [if_pos rfl,Go.Proofs.YtakefgebklfhpaaGreat.cutE_iff]
  unfold Rn.may at h
  simp only [Bool.and_eq_true] at h
  simp [h.1.1.1]
theorem Rn.may_sp {r : Rn} (h : r.may = true) : r.sp.may = true:=by
 unfold Rn.may at h
 simp only [Bool.and_eq_true] at h
 exact h.1.1.1
theorem Rn.may_len {r : Rn} (h : r.may = true) : (r.rs.length : Int) = r.sp.n:=by
 unfold Rn.may at h
 simp only [Bool.and_eq_true,decide_eq_true_eq] at h
 exact h.1.2
theorem za0 {s : Spn} {n : Int} (h : s.may = true) (h0 : 0 < n) (h1 : n ≤ s.n) : (⟨s.f,n⟩ : Spn).may = true:=by
 have:=Spn.may_le h
 unfold Spn.may at *
 simp only [Bool.and_eq_true,decide_eq_true_eq] at *
 exact ⟨⟨⟨h.1.1.1,by omega⟩,by omega⟩,by omega⟩
def cutK (r : Rn) (n : Int) (v : AV) : Prop:=∃ ra rb,v = .tup [.agg (rnR (r.cutA n) ra),.agg (rnR (r.cutB n) rb),I64 (r.cutE n)] ∧ Sl 1 zB4 ra (r.cutA n).rs ∧ Sl 1 zB4 rb (r.cutB n).rs
set_option maxHeartbeats 16000000 in
theorem zGM {o : Rn} {ra : AV} {n : Int} (hR : Sl 1 zB4 ra o.rs) (hf : 100 < fuel) : ∃ v,cutK o n v ∧ ∀ M,zAE Tryz.prog (fsT tbl) fuel (d + 7) (.fn 87) [.agg (rnR o ra),I64 n] M = some (v,M):=by
 have ora:=hR.one
 have hck:=fun M=>@zC0 fuel d o ra hR hf M
 have hic:=fun M=>@zQG fuel d o.sp n M
 unfold cutK Rn.cutA Rn.cutB Rn.cutE
 refine zFT tf87 rfl (fun M=>by simp only [icyL,zCI hR.fz,zN9]) ?_
 refine zAJ tf87 rfl (by simp only [icyL,zCI hR.fz,zN9]) (by simp [a87]) fun b' ht hx=>?_
 have h0:=hx 0 _ rfl
 have h1:=hx 1 _ rfl
 clear hx
 simp only [a87,c87] at ht ⊢
 cases hm : o.may with
 | false =>
  rw [hm] at hck
  simp only [Bool.false_eq_true,if_false]
  simp (maxSteps:=2000000) (disch:=first | omega | assumption | (simp only [DS,Nat.reduceAdd, *]; done) | (simp only [DZ]; omega)) only [RUN,RU,zA2,zA1,zA0,zAA,frzL,slot,lay,reduceIte,Nat.reduceEqDiff,Nat.reduceBEq,Nat.reduceAdd,Nat.reduceSub,Int.reduceEq,h0,hck,zBF]
  exact ⟨rfl,_,⟨NIL,NIL,rfl,.inl ⟨rfl,rfl⟩,.inl ⟨rfl,rfl⟩⟩,rfl⟩
 | true =>
  rw [hm] at hck
  simp only [if_true]
  by_cases q : cutE o.sp n = 0
  ·simp only [q,if_true] at hic ⊢
   obtain ⟨c1,c2,c3⟩:=cutE_iff.1 q
   have hb:=Spn.may_le c1
   have hml:=Rn.may_len hm
   obtain ⟨m,rfl⟩ : ∃ m : Nat,n = m:=⟨n.toNat,by omega⟩
   have hat:=fun M=>@zHW fuel (d + 1) ⟨o.sp.f,m⟩ ((m : Int) - 1) M
   rw [if_pos (za0 c1 c2 (by omega))] at hat
   simp only [if_neg (show ¬((m : Int) - 1 < 0 ∨ (m : Int) ≤ (m : Int) - 1) by omega)] at hat
   have w1 : IntKind.i64.wrap ((m : Int) - 1) = (m : Int) - 1:=wrap_i64 (by omega) (by omega)
   obtain ⟨r1,s1,b1⟩:=zXO hR (j:=m) (by omega)
   obtain ⟨r2,s2,b2⟩:=zNX hR (i:=m) (by omega)
   have o1:=b1.one
   have o2:=b2.one
   obtain ⟨p1,hp1,hr1⟩:=zG0 (fuel:=fuel) (d:=d + 4) (o:=o.fst m) b1 (by simp only [Rn.fst,List.length_take,Int.toNat_natCast]; omega)
   obtain ⟨p2,hp2,hr2⟩:=zG0 (fuel:=fuel) (d:=d + 4) (o:=o.snd m) b2 (by simp only [Rn.snd,List.length_drop,Int.toNat_natCast]; omega)
   have op1:=hp1.one
   have op2:=hp2.one
   unfold Rn.fst at hr1 hp1
   unfold Rn.snd at hr2 hp2
   have e1 : (⟨o.sp.f,(m : Int)⟩ : Spn).at ((m : Int) - 1) = o.sp.at ((m : Int) - 1):=rfl
   rw [e1] at hat
   simp (maxSteps:=2000000) (disch:=first | omega | assumption | (simp only [DS,Nat.reduceAdd, *]; done) | (simp only [DZ]; omega)) only [RUN,RU,zA2,zA1,zA0,zAA,frzL,slot,lay,zAI,reduceIte,Nat.reduceEqDiff,Nat.reduceBEq,Nat.reduceAdd,Nat.reduceSub,h0,h1,hR.fz.rows,hck,zB0,hic,hat,w1,s1,s2,b1.fz.cells,b2.fz.cells,hr1,hr2,hp1.fz.frz,hp2.fz.frz]
   exact ⟨_,⟨p1,p2,rfl,hp1,hp2⟩,rfl⟩
  ·simp only [q,if_false] at hic ⊢
   have q' : decide (cutE o.sp n = 0) = false:=decide_eq_false q
   simp (maxSteps:=2000000) (disch:=first | omega | assumption | (simp only [DS,Nat.reduceAdd, *]; done) | (simp only [DZ]; omega)) only [RUN,RU,zA2,zA1,zA0,zAA,frzL,slot,lay,reduceIte,Nat.reduceEqDiff,Nat.reduceBEq,Nat.reduceAdd,Nat.reduceSub,h0,h1,hck,zB0,hic,q']
   exact ⟨rfl,_,⟨NIL,NIL,rfl,.inl ⟨rfl,rfl⟩,.inl ⟨rfl,rfl⟩⟩,rfl⟩
end Go.Proofs.YtakefgebklfhpaaGreat
namespace Go.Proofs.YtakefgebklfhpaaGreat
open Go Go.Ax
theorem im88 : imax 8 8 = 8:=by decide
theorem im80 : imax 8 0 = 8:=by decide
theorem im08 : imax 0 8 = 8:=by decide
theorem im00 : imax 0 0 = 0:=by decide
theorem IMX : type_of% (And.intro im88 (And.intro im80 (And.intro im08 im00))):=And.intro im88 (And.intro im80 (And.intro im08 im00))
end Go.Proofs.YtakefgebklfhpaaGreat
namespace Go.Proofs.YtakefgebklfhpaaGreat
open Go Go.Ax
variable {fuel : Nat} {M : Mem} {Q : AV → Mem → Prop} {d : Nat}
theorem zBL {α : Type} (l : List α) (i : Nat) (h : i < l.length) : l.take (i + 1) = l.take i ++ [l[i]]:=by
 rw [List.take_add_one,List.getElem?_eq_getElem h]; rfl
def rowL (l : List Rn) : List Int:=l.flatMap (·.rs)
theorem zTV (l : List Rn) (x : Rn) : rowL (l ++ [x]) = rowL l ++ x.rs:=by simp [rowL]
set_option maxHeartbeats 4000000 in
theorem row_0 {a : AV} {l : List Rn} (hS : SlM M 10 isRn a l) (hl : l.length ≤ 10) (hd : ∀ r ∈ l,r.rs.length ≤ 1000000) (hf : 100 < fuel) (wf : Wf M) (hw : M.wm ≤ M.size) (k : ∀ o N,Kept M N → SlM N 1 zB4 o (rowL l) → (∀ j,rowOf o = some j → M.size ≤ j) → Q o N) :
  W3 (zAE Tryz.prog (fsT tbl) fuel (d + 1) (.fn 107) [a] M) Q:=by
 have ll:=hS.len
 refine zB6 tf107 rfl (by simp [a107]) fun b' ht hx=>?_
 have h0:=hx 0 _ rfl
 clear hx
 simp only [a107,c107] at ht ⊢
 simp (maxSteps:=2000000) (disch:=first | omega | assumption | (simp only [DS,Nat.reduceAdd, *]; done) | (simp only [DZ]; omega)) only [RUN,RU,zA2,zA1,reduceIte,Nat.reduceEqDiff,h0,ll]
 refine zBG (I:=fun n t N => ∃ (i : Nat) (o : AV),n = l.length - i ∧ i ≤ l.length ∧ nth zA5 t 2 = o ∧ nth zA5 t 5 = a ∧ nth zA5 t 6 = I64 l.length ∧ nth zA5 t 7 = I64 i ∧ Kept M N ∧ SlM N 1 zB4 o (rowL (l.take i)) ∧ (∀ j,rowOf o = some j → M.size ≤ j) ∧ (rowL (l.take i)).length ≤ 1000000 * i) (n:=l.length) (by omega) ?_ ?_
 ·refine ⟨0,NIL,rfl,Nat.zero_le _, ?_, ?_, ?_, ?_,Kept.refl wf,SlM.nil,(fun _ h=>by cases h),Nat.le_refl 0⟩ <;> simp (maxSteps:=2000000) (disch:=first | omega | assumption | (simp only [DS,Nat.reduceAdd, *]; done) | (simp only [DZ]; omega)) only [RUN,reduceIte,Nat.reduceEqDiff]
  all_goals first | rfl | assumption | done
 ·rintro n t N hlt ⟨i,o,rfl,hi,g2,g5,g6,g7,kN,sm,nr,bd⟩
  simp only [ht] at hlt ⊢
  have oo:=sm.one
  have oc:=sm.cells
  have w:=kN.wf
  have le:=kN.le
  have wm:=kN.wm
  by_cases hc : i < l.length
  ·have q1 : decide ((i : Int) < l.length) = true:=decide_eq_true (by omega)
   have w1 : IntKind.i64.wrap ((i : Int) + 1) = ((i + 1 : Nat) : Int):=by rw [wrap_i64] <;> omega
   obtain ⟨id,cs,r,hrow,lid,hg,hcs,hiad,hr,hrl,hpt,_⟩:=hS.atS hc
   have gN:=(kN.get id lid).trans hg
   have hts:=zTV (l.take i) l[i]
   rw [← zBL l i hc] at hts
   have hde:=hd l[i] (List.getElem_mem hc)
   generalize l[i] = e at *
   obtain ⟨ra,rfl,hra,hok⟩:=hr
   have ora:=hra.one
   have lid' : id < N.size:=by omega
   have rlo:=zAT sm.rl (show N.size ≤ N.size + 1 by omega)
   simp (maxSteps:=2000000) (disch:=first | omega | assumption | (simp only [DS,Nat.reduceAdd, *]; done) | (simp only [DZ]; omega)) only [RUN,RU,zA2,zA1,lay,reduceIte,Nat.reduceEqDiff,Nat.reduceAdd,g2,g5,g6,g7,q1,hiad,gN,hpt,hra.fz.rows,rlo]
   refine zbL (fun j hj=>by have:=nr j hj; simp only [zeA,zc0]; omega) (zPR (bytes:=4) (by simp (maxSteps:=2000000) (disch:=first | omega | assumption | (simp only [DS,Nat.reduceAdd, *]; done) | (simp only [DZ]; omega)) only [RUN,w]) (sm.keep fun j hj=>?_) zGX.cel hra (by omega) (by omega) (by omega) fun o' M' sm' w' le1 le2 kp nw wm' rl on oc' di'=>?_)
   ·have:=sm.lt j hj
    simp (maxSteps:=2000000) (disch:=first | omega | assumption | (simp only [DS,Nat.reduceAdd, *]; done) | (simp only [DZ]; omega)) only [RUN]
   simp only [zA9,zA6] at le1 le2 kp nw
   simp (maxSteps:=2000000) (disch:=first | omega | assumption | (simp only [DS,Nat.reduceAdd, *]; done) | (simp only [DZ]; omega)) only [RUN,RU,zA2,zA1,reduceIte,Nat.reduceEqDiff,g2,g5,g6,g7,w1]
   refine ⟨hlt,l.length - (i + 1),by omega,i + 1,o',rfl,by omega,rfl,rfl,⟨w',by omega,fun j hj=>?_,wm'.trans wm,di'.trans ((kN.add _).upd hw le _).di⟩,by rw [hts]; exact sm',fun j hj=>(nw j hj).elim (nr j) (fun h=>by omega), ?_⟩
   ·rw [kp j (by omega) (fun h=>by have:=nr j h; omega),zA4 (w.add _) _ _ _ (by omega),zAF w _ _ (by omega)]
    exact kN.get j hj
   ·rw [hts,List.length_append]; omega
  ·obtain rfl : i = l.length:=by omega
   have q1 : decide ((l.length : Int) < l.length) = false:=decide_eq_false (by omega)
   rw [List.take_length] at sm
   simp (maxSteps:=2000000) (disch:=first | omega | assumption | (simp only [DS,Nat.reduceAdd, *]; done) | (simp only [DZ]; omega)) only [RUN,RU,zA2,zA1,zA0,zAA,reduceIte,Nat.reduceEqDiff,g2,g6,g7]
   exact k o N kN sm nr
def Rn.both (a b : Rn) : Rn:=⟨⟨a.sp.f,a.sp.n + b.sp.n⟩,a.af,a.rs ++ b.rs⟩
def zH3 (a b : Rn) : Int:=if a.may = true ∧ b.may = true then (if (a.both b).cutE a.sp.n = 0 ∧ (a.both b).fst a.sp.n = a ∧ (a.both b).snd a.sp.n = b then 0 else 2) else 8
def zEJ (a b : Rn) : Rn:=if zH3 a b = 0 then a.both b else Rn.z
def zcU (a b : Rn) (v : AV) : Prop:=∃ r,v = .tup [.agg (rnR (zEJ a b) r),I64 (zH3 a b)] ∧ Sl 1 zB4 r (zEJ a b).rs
theorem zVI (r : Rn) (n : Int) : (r.cutA n).rs.length ≤ r.rs.length:=by
 unfold Rn.cutA
 split
 ·simp only [Rn.fst,List.length_take]; omega
 ·exact Nat.zero_le _
theorem zVJ (r : Rn) (n : Int) : (r.cutB n).rs.length ≤ r.rs.length:=by
 unfold Rn.cutB
 split
 ·simp only [Rn.snd,List.length_drop]; omega
 ·exact Nat.zero_le _
theorem zOT {a b : Rn} {ra rb : AV} (hA : Sl 1 zB4 ra a.rs) (hB : Sl 1 zB4 rb b.rs) (ha : a.ok) (hb : b.ok) : All2 isRn [rnR a ra,rnR b rb] [a,b]:=.cons ⟨ra,rfl,hA,ha⟩ (.cons ⟨rb,rfl,hB,hb⟩ .nil)
set_option maxHeartbeats 16000000 in
theorem zIO {a b : Rn} {ra rb : AV} (hA : Sl 1 zB4 ra a.rs) (hB : Sl 1 zB4 rb b.rs) (ha : a.ok) (hb : b.ok) (hla : a.rs.length ≤ 1000000) (hlb : b.rs.length ≤ 1000000) (hf : 2000000 < fuel) : ∃ v,zcU a b v ∧ ∀ M,zAE Tryz.prog (fsT tbl) fuel (d + 8) (.fn 91) [.agg (rnR a ra),.agg (rnR b rb)] M = some (v,M):=by
 have ora:=hA.one
 have orb:=hB.one
 have hca:=fun M=>@zC0 fuel (d + 1) a ra hA (by omega) M
 have hcb:=fun M=>@zC0 fuel (d + 1) b rb hB (by omega) M
 refine zFT tf91 rfl (fun M=>by simp only [icyL,zCI hA.fz,zCI hB.fz]) ?_
 refine zAJ tf91 rfl (by simp only [icyL,zCI hA.fz,zCI hB.fz]) (by simp [a91]) fun b' ht hx=>?_
 have h0:=hx 0 _ rfl
 have h1:=hx 1 _ rfl
 clear hx
 simp only [a91,c91] at ht ⊢
 unfold zcU zEJ zH3
 by_cases hm : a.may = true ∧ b.may = true
 ·obtain ⟨ma,mb⟩:=hm
  rw [ma] at hca
  rw [mb] at hcb
  simp only [ma,mb,and_self,if_true]
  have ba:=Spn.may_le (Rn.may_sp ma)
  have bb:=Spn.may_le (Rn.may_sp mb)
  have w1 : IntKind.i64.wrap (a.sp.n + b.sp.n) = a.sp.n + b.sp.n:=wrap_i64 (by omega) (by omega)
  simp (maxSteps:=2000000) (disch:=first | omega | assumption | (simp only [DS,Nat.reduceAdd, *]; done) | (simp only [DZ]; omega)) only [RUN,RU,zA2,zA1,slot,lay,zAI,zAB,reduceIte,Nat.reduceEqDiff,Nat.reduceBEq,Nat.reduceAdd,h0,h1,hca,hcb,zB0,IMX,zCW,BMM,w1]
  refine row_0 (d:=d + 6) (l:=[a,b]) (zU5 (zOT hA hB ha hb) (by simp) rfl (.inr rfl) (by simp (maxSteps:=2000000) (disch:=first | omega | assumption | (simp only [DS,Nat.reduceAdd, *]; done) | (simp only [DZ]; omega)) only [RUN]; rfl)) (by simp) (by simp; exact ⟨hla,hlb⟩) (by omega) (by simp (maxSteps:=2000000) (disch:=first | omega | assumption | (simp only [DS,Nat.reduceAdd, *]; done) | (simp only [DZ]; omega)) only [RUN]) (by simp (maxSteps:=2000000) (disch:=first | omega | assumption | (simp only [DS,Nat.reduceAdd, *]; done) | (simp only [DZ]; omega)) only [RUN,RU,Nat.reduceAdd]; exact Nat.le_refl _) fun o X kX sm nr=>?_
  have wX:=kX.wf
  have hd : X.dirty = false:=kX.di
  have hsX : 4 ≤ X.size:=kX.le
  have k0:=kX.get 0 (by show 0 < 4; omega)
  have k1:=kX.get 1 (by show 1 < 4; omega)
  have k2:=kX.get 2 (by show 2 < 4; omega)
  simp (maxSteps:=2000000) (disch:=first | omega | assumption | (simp only [DS,Nat.reduceAdd, *]; done) | (simp only [DZ]; omega)) only [RUN] at k0 k1 k2
  have oo:=sm.one
  have oc:=sm.cells
  have nr' : ∀ j,rowOf o = some j → 4 ≤ j:=nr
  have rlo:=zAT sm.rl (show X.size ≤ X.size by omega)
  have rlo1:=zAT sm.rl (show X.size ≤ X.size + 1 by omega)
  have sm' : SlM X 1 zB4 o (a.rs ++ b.rs):=by simpa [rowL] using sm
  simp (maxSteps:=2000000) (disch:=first | omega | assumption | (simp only [DS,Nat.reduceAdd, *]; done) | (simp only [DZ]; omega)) only [RUN,RU,zA2,zA1,slot,lay,zAI,reduceIte,Nat.reduceEqDiff,Nat.reduceBEq,Nat.reduceAdd,hd,k0,oc]
  refine ⟨rfl, ?_⟩
  have kY:=((kX.bk.add (.row false (rnR Rn.z NIL))).upd (Nat.zero_le _) (show _ ≤ X.size from kX.le) (.row false (rnR (a.both b) o)))
  have wY:=kY.wf
  refine zO0 (n:=d + 6) (R:=cutK (a.both b) a.sp.n) (spR (a.both b).sp ++ idR a.af) o (rest:=[I64 a.sp.n]) (l:=(a.both b).rs) tf87 rfl (fun y hy=>(List.mem_append.1 hy).elim (zOM _ y) (zEA _ y)) (sm'.keep fun j hj=>?_) (by simp (maxSteps:=2000000) (disch:=first | omega | assumption | (simp only [DS,Nat.reduceAdd, *]; done) | (simp only [DZ]; omega)) only [RUN,wX]) zGX (fun M=>by simp only [icyL,zN9]) (fun a2 b2=>?_) fun v a2 N2 hv b2 w2 s2 k2' r2 f2=>?_
  ·have:=sm'.lt j hj
   simp (maxSteps:=2000000) (disch:=first | omega | assumption | (simp only [DS,Nat.reduceAdd, *]; done) | (simp only [DZ]; omega)) only [RUN]
  ·exact zGM (o:=a.both b) (d:=d) b2 (by omega)
  obtain ⟨ca,cb,rfl,hca',hcb'⟩:=hv
  have oca:=hca'.one
  have ocb:=hcb'.one
  have j0:=k2' 0 (fun h=>by have:=nr' 0 h; omega)
  have j1:=k2' 1 (fun h=>by have:=nr' 1 h; omega)
  have j2:=k2' 2 (fun h=>by have:=nr' 2 h; omega)
  have j3:=k2' X.size (fun h=>by have:=sm'.lt _ h; omega)
  simp only [zA9,zA6,zD1] at s2
  simp (maxSteps:=2000000) (disch:=first | omega | assumption | (simp only [DS,Nat.reduceAdd, *]; done) | (simp only [DZ]; omega)) only [RUN,k0,k1,k2] at j0 j1 j2 j3
  have z0:=Mem.get_lt j0
  have z1:=Mem.get_lt j1
  have z2:=Mem.get_lt j2
  have z3:=Mem.get_lt j3
  clear kY wY k2' kX k0 k1 k2 nr
  have bl : (a.both b).rs.length ≤ 2000000:=by show (a.rs ++ b.rs).length ≤ _; rw [List.length_append]; omega
  have la:=zVI (a.both b) a.sp.n
  have lb:=zVJ (a.both b) a.sp.n
  have hsa:=fun M=>zFH (fuel:=fuel) (d:=d + 5) (o:=(a.both b).cutA a.sp.n) (p:=a) hca' hA (by omega) (by omega) M
  have hsb:=fun M=>zFH (fuel:=fuel) (d:=d + 5) (o:=(a.both b).cutB a.sp.n) (p:=b) hcb' hB (by omega) (by omega) M
  have hfr:=fun N7 hN=>f2 N7 11 (by omega) hN
  clear f2
  have eA : ∀ (q : (a.both b).cutE a.sp.n = 0),(a.both b).cutA a.sp.n = (a.both b).fst a.sp.n:=fun q=>by unfold Rn.cutA; rw [if_pos q]
  have eB : ∀ (q : (a.both b).cutE a.sp.n = 0),(a.both b).cutB a.sp.n = (a.both b).snd a.sp.n:=fun q=>by unfold Rn.cutB; rw [if_pos q]
  generalize hA' : (a.both b).cutA a.sp.n = cA at *
  generalize hB' : (a.both b).cutB a.sp.n = cB at *
  by_cases q1 : (a.both b).cutE a.sp.n = 0
  ·have q1' : decide ((a.both b).cutE a.sp.n = 0) = true:=decide_eq_true q1
   rw [← eA q1,← eB q1]
   cases q2 : rnEq cA a with
   | false =>
    have q2' : ¬(cA = a):=fun h=>by rw [(zG3 cA a).2 h] at q2; cases q2
    rw [q2] at hsa
    simp only [q2',false_and,and_false,if_false]
    simp (maxSteps:=2000000) (disch:=first | omega | assumption | (simp only [DS,Nat.reduceAdd, *]; done) | (simp only [DZ]; omega)) only [RUN,RU,zA2,zA1,zA0,zAA,frzL,slot,lay,zAI,reduceIte,Nat.reduceEqDiff,Nat.reduceAdd,Nat.reduceSub,Int.reduceEq,j0,j2,q1',hsa]
    exact ⟨_,⟨NIL,rfl,.inl ⟨rfl,rfl⟩⟩,rfl⟩
   | true =>
    have q2':=(zG3 cA a).1 q2
    rw [q2] at hsa
    cases q3 : rnEq cB b with
    | false =>
     have q3' : ¬(cB = b):=fun h=>by rw [(zG3 cB b).2 h] at q3; cases q3
     rw [q3] at hsb
     simp only [q3',and_false,if_false]
     simp (maxSteps:=2000000) (disch:=first | omega | assumption | (simp only [DS,Nat.reduceAdd, *]; done) | (simp only [DZ]; omega)) only [RUN,RU,zA2,zA1,zA0,zAA,frzL,slot,lay,zAI,reduceIte,Nat.reduceEqDiff,Nat.reduceAdd,Nat.reduceSub,Int.reduceEq,j0,j1,j2,q1',hsa,hsb]
     exact ⟨_,⟨NIL,rfl,.inl ⟨rfl,rfl⟩⟩,rfl⟩
    | true =>
     have q3':=(zG3 cB b).1 q3
     rw [q3] at hsb
     simp only [eq_true (show (a.both b).cutE a.sp.n = 0 ∧ cA = a ∧ cB = b from ⟨q1,q2',q3'⟩),if_true]
     simp (maxSteps:=2000000) (disch:=first | omega | assumption | (simp only [DS,Nat.reduceAdd, *]; done) | (simp only [DZ]; omega)) only [RUN,RU,zA2,zA1,zA0,zAA,frzL,slot,lay,reduceIte,Nat.reduceEqDiff,Nat.reduceAdd,Nat.reduceSub,j0,j1,j2,j3,q1',hsa,hsb]
     have lo : ∀ j,rowOf o = some j → j < N2.size:=fun j hj=>by have:=sm'.lt j hj; omega
     rw [hfr _ (fun j hj=>by
      have u1:=lo j hj
      have u2:=nr' j hj
      simp (maxSteps:=2000000) (disch:=first | omega | assumption | (simp only [DS,Nat.reduceAdd, *]; done) | (simp only [DZ]; omega)) only [RUN])]
     exact ⟨_,⟨a2,rfl,b2⟩,rfl⟩
  ·have q1' : decide ((a.both b).cutE a.sp.n = 0) = false:=decide_eq_false q1
   simp only [q1,false_and,if_false]
   simp (maxSteps:=2000000) (disch:=first | omega | assumption | (simp only [DS,Nat.reduceAdd, *]; done) | (simp only [DZ]; omega)) only [RUN,RU,zA2,zA1,zA0,zAA,frzL,slot,lay,zAI,reduceIte,Nat.reduceEqDiff,Nat.reduceAdd,Nat.reduceSub,Int.reduceEq,j2,q1']
   exact ⟨_,⟨NIL,rfl,.inl ⟨rfl,rfl⟩⟩,rfl⟩
 ·have hz : imax (err a.may) (err b.may) = 8:=by
   cases ma : a.may <;> cases mb : b.may <;> first | rfl | exact absurd ⟨ma,mb⟩ hm
  simp only [hm,if_false]
  have q8 : ((8 : Int) = 0) = False:=by decide
  simp (maxSteps:=2000000) (disch:=first | omega | assumption | (simp only [DS,Nat.reduceAdd, *]; done) | (simp only [DZ]; omega)) only [RUN,RU,zA2,zA1,zA0,zAA,frzL,slot,lay,zAI,reduceIte,Nat.reduceEqDiff,Nat.reduceBEq,Nat.reduceAdd,Nat.reduceSub,h0,h1,hca,hcb,hz,zCW,BMM,q8,if_false]
  exact ⟨_,⟨NIL,rfl,.inl ⟨rfl,rfl⟩⟩,rfl⟩
def atE (r : Rn) (n : Int) : Int:=if r.may = true then (if n < 0 ∨ r.sp.n ≤ n then 2 else 0) else 8
def Rn.afAt (r : Rn) (n : Int) : Eid:=if 0 < n then r.sp.at (n - 1) else r.af
set_option maxHeartbeats 8000000 in
theorem zM9 {o : Rn} {ra : AV} {n : Int} (hR : Sl 1 zB4 ra o.rs) (hf : 100 < fuel) (M : Mem) : zAE Tryz.prog (fsT tbl) fuel (d + 7) (.fn 36) [.agg (rnR o ra),I64 n] M = some (if atE o n = 0 then .tup [idA (o.sp.at n),idA (o.afAt n),I32 (o.rs.getD n.toNat 0),I64 0] else .tup [idA Eid.z,idA Eid.z,I32 0,I64 (atE o n)],M):=by
 have ora:=hR.one
 have hck:=fun M=>@zC0 fuel d o ra hR hf M
 have hat:=fun n M=>@zHW fuel (d + 1) o.sp n M
 apply zBI
 refine zAJ tf36 rfl (by simp only [icyL,zCI hR.fz,zN9]) (by simp [a36]) fun b' ht hx=>?_
 have h0:=hx 0 _ rfl
 have h1:=hx 1 _ rfl
 clear hx
 simp only [a36,c36] at ht ⊢
 unfold atE
 cases hm : o.may with
 | false =>
  rw [hm] at hck
  have q8 : ((8 : Int) = 0) = False:=by decide
  simp only [Bool.false_eq_true,if_false,q8]
  simp (maxSteps:=2000000) (disch:=first | omega | assumption | (simp only [DS,Nat.reduceAdd, *]; done) | (simp only [DZ]; omega)) only [RUN,RU,zA2,zA1,zA0,zAA,frzL,slot,lay,reduceIte,Nat.reduceEqDiff,Nat.reduceBEq,Nat.reduceAdd,Nat.reduceSub,Int.reduceEq,h0,hck,zBF]
  all_goals rfl
 | true =>
  rw [hm] at hck
  have hs:=Rn.may_sp hm
  have hb:=Spn.may_le hs
  have hml:=Rn.may_len hm
  simp only [hs,if_true] at hat ⊢
  by_cases q : n < 0 ∨ o.sp.n ≤ n
  ·have hat:=hat n
   simp only [q,if_true] at hat ⊢
   have q2 : ((2 : Int) = 0) = False:=by decide
   simp only [q2,if_false]
   simp (maxSteps:=2000000) (disch:=first | omega | assumption | (simp only [DS,Nat.reduceAdd, *]; done) | (simp only [DZ]; omega)) only [RUN,RU,zA2,zA1,zA0,zAA,frzL,slot,lay,reduceIte,Nat.reduceEqDiff,Nat.reduceBEq,Nat.reduceAdd,Nat.reduceSub,Int.reduceEq,h0,h1,hck,hat,zB0]
   all_goals rfl
  ·obtain ⟨m,rfl⟩ : ∃ m : Nat,n = m:=⟨n.toNat,by omega⟩
   have hat0:=hat (m : Int)
   simp only [q,if_false] at hat0 ⊢
   simp only [if_true]
   obtain ⟨r,hr,rfl,_⟩:=hR.iad m (by omega)
   have eg : o.rs.getD (m : Int).toNat 0 = o.rs[m]:=by
    rw [Int.toNat_natCast,List.getD_eq_getElem?_getD,List.getElem?_eq_getElem (by omega)]; rfl
   rw [eg]
   unfold Rn.afAt
   by_cases q0 : (0 : Int) < m
   ·have q0' : decide ((0 : Int) < m) = true:=decide_eq_true q0
    have hat1:=hat ((m : Int) - 1)
    simp only [show ¬((m : Int) - 1 < 0 ∨ o.sp.n ≤ (m : Int) - 1) by omega,if_false] at hat1
    have w1 : IntKind.i64.wrap ((m : Int) - 1) = (m : Int) - 1:=wrap_i64 (by omega) (by omega)
    simp (maxSteps:=2000000) (disch:=first | omega | assumption | (simp only [DS,Nat.reduceAdd, *]; done) | (simp only [DZ]; omega)) only [RUN,RU,zA2,zA1,zA0,zAA,frzL,slot,lay,reduceIte,Nat.reduceEqDiff,Nat.reduceBEq,Nat.reduceAdd,Nat.reduceSub,h0,h1,hck,hat0,hat1,zB0,q0,w1,hr,if_true]
    all_goals exact ⟨rfl,rfl⟩
   ·have q0' : decide ((0 : Int) < m) = false:=decide_eq_false q0
    simp (maxSteps:=2000000) (disch:=first | omega | assumption | (simp only [DS,Nat.reduceAdd, *]; done) | (simp only [DZ]; omega)) only [RUN,RU,zA2,zA1,zA0,zAA,frzL,slot,lay,reduceIte,Nat.reduceEqDiff,Nat.reduceBEq,Nat.reduceAdd,Nat.reduceSub,h0,h1,hck,hat0,zB0,q0,hr,if_false]
    all_goals exact ⟨rfl,rfl⟩
end Go.Proofs.YtakefgebklfhpaaGreat
namespace Go.Proofs.YtakefgebklfhpaaGreat
open Go Go.Ax
variable {fuel : Nat} {M : Mem} {Q : AV → Mem → Prop} {d : Nat}
def zB3 : List Rn → Int
 | []=>0
 | r :: l=>r.sp.n + zB3 l
theorem zQ4 (l m : List Rn) : zB3 (l ++ m) = zB3 l + zB3 m:=by
 induction l with
 | nil=>simp [zB3]
 | cons r l ih=>simp only [List.cons_append,zB3,ih]; omega
theorem zMW (l : List Rn) (r : Rn) : zB3 (l ++ [r]) = zB3 l + r.sp.n:=by rw [zQ4]; simp [zB3]
theorem zEE {l : List Rn} (h : ∀ r ∈ l,r.may = true) : 0 ≤ zB3 l ∧ zB3 l ≤ 64 * l.length:=by
 induction l with
 | nil=>simp [zB3]
 | cons r l ih =>
  have:=Spn.may_le (Rn.may_sp (h r List.mem_cons_self))
  have:=ih fun r hr=>h r (List.mem_cons_of_mem _ hr)
  simp only [zB3,List.length_cons]
  omega
set_option maxHeartbeats 4000000 in
theorem zHR {a : AV} {l : List Rn} (hS : Sl 10 isRn a l) (hm : ∀ r ∈ l,r.may = true) (hl : l.length ≤ 1000000) (hf : l.length < fuel) (M : Mem) : zAE Tryz.prog (fsT tbl) fuel (d + 1) (.fn 56) [a] M = some (I64 (zB3 l),M):=by
 have ll:=hS.len
 apply zBI
 refine zAJ tf56 rfl (by simp only [icyL,fun M=>hS.icy M 12 (by omega)]) (by simp [a56]) fun b' ht hx=>?_
 have h0:=hx 0 _ rfl
 clear hx
 simp only [a56,c56] at ht ⊢
 simp (maxSteps:=2000000) (disch:=first | omega | assumption | (simp only [DS,Nat.reduceAdd, *]; done) | (simp only [DZ]; omega)) only [RUN,RU,zA2,zA1,reduceIte,Nat.reduceEqDiff,h0,ll]
 refine zBG (I:=fun n t N => ∃ (i : Nat),n = l.length - i ∧ i ≤ l.length ∧ nth zA5 t 2 = I64 (zB3 (l.take i)) ∧ nth zA5 t 5 = a ∧ nth zA5 t 6 = I64 l.length ∧ nth zA5 t 7 = I64 i ∧ Wf N) (n:=l.length) (by omega) ?_ ?_
 ·refine ⟨0,rfl,Nat.zero_le _, ?_, ?_, ?_, ?_,Wf.mem0⟩ <;> simp (maxSteps:=2000000) (disch:=first | omega | assumption | (simp only [DS,Nat.reduceAdd, *]; done) | (simp only [DZ]; omega)) only [RUN,RU,reduceIte,Nat.reduceEqDiff,zB3]
  all_goals first | rfl | assumption | done
 ·rintro n t N hlt ⟨i,rfl,hi,g2,g5,g6,g7,w⟩
  simp only [ht] at hlt ⊢
  by_cases hc : i < l.length
  ·have q1 : decide ((i : Int) < l.length) = true:=decide_eq_true (by omega)
   have w1 : IntKind.i64.wrap ((i : Int) + 1) = ((i + 1 : Nat) : Int):=by rw [wrap_i64] <;> omega
   obtain ⟨r,hiad,hr,hrl⟩:=hS.iad i hc
   have hts:=zMW (l.take i) l[i]
   rw [← zBL l i hc] at hts
   have hb:=Spn.may_le (Rn.may_sp (hm l[i] (List.getElem_mem hc)))
   have hcl:=zEE (l:=l.take i) (fun r hr=>hm r (List.mem_of_mem_take hr))
   rw [List.length_take] at hcl
   generalize l[i] = e at *
   obtain ⟨ra,rfl,hra,hok⟩:=hr
   have ora:=hra.one
   have w2 : IntKind.i64.wrap (zB3 (l.take i) + e.sp.n) = zB3 (l.take (i + 1)):=by rw [hts,wrap_i64] <;> omega
   simp (maxSteps:=2000000) (disch:=first | omega | assumption | (simp only [DS,Nat.reduceAdd, *]; done) | (simp only [DZ]; omega)) only [RUN,RU,zA2,zA1,slot,lay,reduceIte,Nat.reduceEqDiff,Nat.reduceAdd,g2,g5,g6,g7,q1,hiad,w,w1,w2]
   exact ⟨hlt,l.length - (i + 1),by omega,i + 1,rfl,by omega,rfl,rfl⟩
  ·obtain rfl : i = l.length:=by omega
   have q1 : decide ((l.length : Int) < l.length) = false:=decide_eq_false (by omega)
   rw [List.take_length] at g2
   simp (maxSteps:=2000000) (disch:=first | omega | assumption | (simp only [DS,Nat.reduceAdd, *]; done) | (simp only [DZ]; omega)) only [RUN,RU,zA2,zA1,zA0,zAA,frzL,reduceIte,Nat.reduceEqDiff,g2,g6,g7]
def zKQ (l m : List Rn) : Bool:=eqL rnEq l m
theorem zMB {l m : List Rn} : zKQ l m = true ↔ l = m:=zYA zG3
set_option maxHeartbeats 4000000 in
theorem zQ7 {a b : AV} {l m : List Rn} (h1' : Sl 10 isRn a l) (h2' : Sl 10 isRn b m) (hl : l.length ≤ 1000000) (hc : ∀ e ∈ l,e.rs.length ≤ 1000000 ∧ e.rs.length < fuel) (hf : l.length < fuel) (M : Mem) : zAE Tryz.prog (fsT tbl) fuel (d + 3) (.fn 102) [a,b,.fn 103 [] []] M = some (BL (zKQ l m),M):=by
 have la:=h1'.len
 have lb:=h2'.len
 apply zBI
 refine zAJ tf102 rfl (by simp (maxSteps:=2000000) (disch:=first | omega | assumption | (simp only [DS,Nat.reduceAdd, *]; done) | (simp only [DZ]; omega)) only [RUN,icyL,h1'.fz.icy,h2'.fz.icy,icyL]) (by simp [a102]) fun b' ht hx=>?_
 have h0:=hx 0 _ rfl
 have h1:=hx 1 _ rfl
 have h2:=hx 2 _ rfl
 clear hx
 simp only [a102,c102] at ht ⊢
 by_cases q : l.length = m.length
 ·have q0 : decide ((l.length : Int) = m.length) = true:=decide_eq_true (by omega)
  simp (maxSteps:=2000000) (disch:=first | omega | assumption | (simp only [DS,Nat.reduceAdd, *]; done) | (simp only [DZ]; omega)) only [RUN,RU,zA2,zA1,reduceIte,Nat.reduceEqDiff,h0,h1,la,lb,q0]
  refine zBG (I:=fun n t N => ∃ (i : Nat),n = l.length - i ∧ i ≤ l.length ∧ nth zA5 t 0 = a ∧ nth zA5 t 1 = b ∧ nth zA5 t 2 = .fn 103 [] [] ∧ nth zA5 t 15 = a ∧ nth zA5 t 16 = I64 l.length ∧ nth zA5 t 17 = I64 i ∧ Wf N ∧ (∀ j (x1 : j < l.length) (x2 : j < m.length),j < i → rnEq l[j] m[j] = true)) (n:=l.length) (by omega) ?_ ?_
  ·refine ⟨0,rfl,Nat.zero_le _, ?_, ?_, ?_, ?_, ?_, ?_,Wf.mem0,(fun _ _ _ h=>absurd h (by omega))⟩ <;> simp (maxSteps:=2000000) (disch:=first | omega | assumption | (simp only [DS,Nat.reduceAdd, *]; done) | (simp only [DZ]; omega)) only [RUN,reduceIte,Nat.reduceEqDiff,h0,h1,h2]
   all_goals first | rfl | assumption | done
  ·rintro n t N hlt ⟨i,rfl,hi,g0,g1,g2,g15,g16,g17,wN,hj⟩
   simp only [ht] at hlt ⊢
   by_cases hc' : i < l.length
   ·have q1 : decide ((i : Int) < l.length) = true:=decide_eq_true (by omega)
    have hc2 : i < m.length:=by omega
    obtain ⟨r1,i1,hr1,hl1⟩:=h1'.iad i hc'
    obtain ⟨r2,i2,hr2,hl2⟩:=h2'.iad i hc2
    have hcr:=hc l[i] (List.getElem_mem hc')
    have w1 : IntKind.i64.wrap ((i : Int) + 1) = ((i + 1 : Nat) : Int):=by rw [wrap_i64] <;> omega
    have qat:=fun q2=>zc7 (p:=rnEq) hc' hc2 q2
    have hj':=hj
    have key : rnEq l[i] m[i] = true → ∀ j (x1 : j < l.length) (x2 : j < m.length),j < i + 1 → rnEq l[j] m[j] = true:=fun q2 j x1 x2 hj'=>by
     rcases Nat.lt_succ_iff_lt_or_eq.1 hj' with h | rfl
     ·exact hj j x1 x2 h
     ·exact q2
    generalize l[i] = e1 at *
    generalize m[i] = e2 at *
    obtain ⟨ra1,rfl,b1,_⟩:=hr1
    obtain ⟨ra2,rfl,b2,_⟩:=hr2
    have hp:=fun M=>zFH (fuel:=fuel) (d:=d) b1 b2 (by omega) hcr.2 M
    have o1:=b1.one
    have o3:=b2.one
    cases q2 : rnEq e1 e2 with
    | true =>
     rw [q2] at hp
     simp (maxSteps:=2000000) (disch:=first | omega | assumption | (simp only [DS,Nat.reduceAdd, *]; done) | (simp only [DZ]; omega)) only [RUN,RU,zA2,zA1,slot,lay,reduceIte,Nat.reduceEqDiff,Nat.reduceAdd,g0,g1,g2,g15,g16,g17,q1,i1,i2,w1,hp,wN]
     exact ⟨hlt,l.length - (i + 1),by omega,i + 1,rfl,by omega,rfl,key q2⟩
    | false =>
     rw [q2] at hp
     have e : zKQ l m = false:=qat q2
     simp (maxSteps:=2000000) (disch:=first | omega | assumption | (simp only [DS,Nat.reduceAdd, *]; done) | (simp only [DZ]; omega)) only [RUN,RU,zA2,zA1,zA0,zAA,frzL,slot,lay,reduceIte,Nat.reduceEqDiff,Nat.reduceAdd,g1,g2,g15,g16,g17,q1,i1,i2,hp,e]
   ·obtain rfl : i = l.length:=by omega
    have q1 : decide ((l.length : Int) < l.length) = false:=decide_eq_false (by omega)
    have e : zKQ l m = true:=zZO q fun j x1 x2 _=>hj j x1 x2 x1
    simp (maxSteps:=2000000) (disch:=first | omega | assumption | (simp only [DS,Nat.reduceAdd, *]; done) | (simp only [DZ]; omega)) only [RUN,RU,zA2,zA1,zA0,zAA,frzL,reduceIte,Nat.reduceEqDiff,g16,g17,e]
 ·have q0 : decide ((l.length : Int) = m.length) = false:=decide_eq_false (by omega)
  have e : zKQ l m = false:=zc8 q
  simp (maxSteps:=2000000) (disch:=first | omega | assumption | (simp only [DS,Nat.reduceAdd, *]; done) | (simp only [DZ]; omega)) only [RUN,RU,zA2,zA1,zA0,zAA,frzL,reduceIte,Nat.reduceEqDiff,h0,h1,la,lb,q0,e]
theorem zUB {a b : AV} {l m : List Rn} (h1' : Sl 10 isRn a l) (h2' : Sl 10 isRn b m) (hl : l.length ≤ 1000000) (hc : ∀ e ∈ l,e.rs.length ≤ 1000000 ∧ e.rs.length < fuel) (hf : l.length < fuel) (M : Mem) : zAE Tryz.prog (fsT tbl) fuel (d + 4) (.fn 86) [a,b] M = some (BL (zKQ l m),M):=by
 have he:=fun M=>@zQ7 fuel d a b l m h1' h2' hl hc hf M
 apply zBI
 refine zAJ tf86 rfl (by simp (maxSteps:=2000000) (disch:=first | omega | assumption | (simp only [DS,Nat.reduceAdd, *]; done) | (simp only [DZ]; omega)) only [icyL,h1'.fz.icy,h2'.fz.icy]) (by simp [a86]) fun b' ht hx=>?_
 have h0:=hx 0 _ rfl
 have h1:=hx 1 _ rfl
 clear hx
 simp only [a86,c86] at ht ⊢
 simp (maxSteps:=2000000) (disch:=first | omega | assumption | (simp only [DS,Nat.reduceAdd, *]; done) | (simp only [DZ]; omega)) only [RUN,RU,zA2,zA1,zA0,zAA,frzL,reduceIte,Nat.reduceEqDiff,h0,h1,he]
def zBB : List Rn → Eid → Option (Nat × Int)
 | [],_=>none
 | r :: l,x=>match r.sp.has x with
  | some k=>some (0,k)
  | none=>(zBB l x).map fun p=>(p.1 + 1,p.2)
theorem zQY {l : List Rn} {x : Eid} (h : ∀ r ∈ l,r.sp.has x = none) : zBB l x = none:=by
 induction l with
 | nil=>rfl
 | cons r l ih =>
  unfold zBB
  rw [h r List.mem_cons_self,ih fun r hr=>h r (List.mem_cons_of_mem _ hr)]
  rfl
theorem zY0 {l : List Rn} {x : Eid} {i : Nat} {k : Int} (hi : i < l.length) (hk : l[i].sp.has x = some k) (h : ∀ j (hj : j < i),l[j].sp.has x = none) : zBB l x = some (i,k):=by
 induction l generalizing i with
 | nil=>exact absurd hi (by simp)
 | cons r l ih =>
  unfold zBB
  cases i with
  | zero=>rw [show r.sp.has x = some k from hk]
  | succ i =>
   rw [show r.sp.has x = none from h 0 (by omega),ih (i:=i) (by simpa using hi) hk fun j hj=>h (j + 1) (by omega)]
   rfl
def wN (p : Option (Nat × Int)) : Int:=match p with
 | some p=>p.1
 | none => -1
def wK (p : Option (Nat × Int)) : Int:=match p with
 | some p=>p.2
 | none=>0
set_option maxHeartbeats 4000000 in
theorem zMM {a : AV} {l : List Rn} {x : Eid} (hS : Sl 10 isRn a l) (hl : l.length ≤ 1000000) (hf : l.length < fuel) (M : Mem) : zAE Tryz.prog (fsT tbl) fuel (d + 6) (.fn 54) [a,idA x] M = some (.tup [I64 (wN (zBB l x)),I64 (wK (zBB l x))],M):=by
 have ll:=hS.len
 apply zBI
 refine zAJ tf54 rfl (by simp only [icyL,fun M=>hS.icy M 12 (by omega),zB2 (zEA x) (show 1 < 12 by omega)]) (by simp [a54]) fun b' ht hx=>?_
 have h0:=hx 0 _ rfl
 have h1:=hx 1 _ rfl
 clear hx
 simp only [a54,c54] at ht ⊢
 simp (maxSteps:=2000000) (disch:=first | omega | assumption | (simp only [DS,Nat.reduceAdd, *]; done) | (simp only [DZ]; omega)) only [RUN,RU,zA2,zA1,reduceIte,Nat.reduceEqDiff,h0,h1,ll]
 refine zBG (I:=fun n t N => ∃ (i : Nat),n = l.length - i ∧ i ≤ l.length ∧ nth zA5 t 3 = .ptr 0 0 ∧ nth zA5 t 10 = a ∧ nth zA5 t 11 = I64 l.length ∧ nth zA5 t 12 = I64 i ∧ Wf N ∧ N.get 0 = some (.row false (idR x)) ∧ (∀ j (h : j < l.length),j < i → l[j].sp.has x = none)) (n:=l.length) (by omega) ?_ ?_
 ·refine ⟨0,rfl,Nat.zero_le _, ?_, ?_, ?_, ?_,Wf.mem0.add _,by simp (maxSteps:=2000000) (disch:=first | omega | assumption | (simp only [DS,Nat.reduceAdd, *]; done) | (simp only [DZ]; omega)) only [RUN],(fun _ _ h=>absurd h (by omega))⟩ <;> simp (maxSteps:=2000000) (disch:=first | omega | assumption | (simp only [DS,Nat.reduceAdd, *]; done) | (simp only [DZ]; omega)) only [RUN,reduceIte,Nat.reduceEqDiff]
  all_goals first | rfl | assumption | done
 ·rintro n t N hlt ⟨i,rfl,hi,g3,g10,g11,g12,w,g,hj⟩
  simp only [ht] at hlt ⊢
  have lN:=Mem.get_lt g
  by_cases hc : i < l.length
  ·have q1 : decide ((i : Int) < l.length) = true:=decide_eq_true (by omega)
   have w1 : IntKind.i64.wrap ((i : Int) + 1) = ((i + 1 : Nat) : Int):=by rw [wrap_i64] <;> omega
   obtain ⟨r,hiad,hr,hrl⟩:=hS.iad i hc
   have wat:=fun k (hk : l[i].sp.has x = some k)=>zY0 hc hk fun j hj'=>hj j (by omega) hj'
   have key : l[i].sp.has x = none → ∀ j (h : j < l.length),j < i + 1 → l[j].sp.has x = none:=fun q2 j h hj'=>by
    rcases Nat.lt_succ_iff_lt_or_eq.1 hj' with h' | rfl
    ·exact hj j h h'
    ·exact q2
   generalize l[i] = e at *
   obtain ⟨ra,rfl,hra,hok⟩:=hr
   have ora:=hra.one
   have hh:=fun M=>@zNC fuel d e.sp x M
   cases q : e.sp.has x with
   | none =>
    rw [q] at hh
    simp only [Option.getD_none,Option.isSome_none] at hh
    simp (maxSteps:=2000000) (disch:=first | omega | assumption | (simp only [DS,Nat.reduceAdd, *]; done) | (simp only [DZ]; omega)) only [RUN,RU,zA2,zA1,slot,lay,reduceIte,Nat.reduceEqDiff,Nat.reduceAdd,g3,g10,g11,g12,q1,hiad,w,g,w1,hh]
    exact ⟨hlt,l.length - (i + 1),by omega,i + 1,rfl,by omega,rfl,key q⟩
   | some k =>
    rw [q] at hh
    simp only [Option.getD_some,Option.isSome_some] at hh
    rw [wat k q]
    simp (maxSteps:=2000000) (disch:=first | omega | assumption | (simp only [DS,Nat.reduceAdd, *]; done) | (simp only [DZ]; omega)) only [RUN,RU,zA2,zA1,zA0,zAA,frzL,slot,lay,reduceIte,Nat.reduceEqDiff,Nat.reduceAdd,g3,g10,g11,g12,q1,hiad,g,hh,wN,wK]
  ·obtain rfl : i = l.length:=by omega
   have q1 : decide ((l.length : Int) < l.length) = false:=decide_eq_false (by omega)
   have e : zBB l x = none:=zQY fun r hr=>by
    obtain ⟨j,hj',rfl⟩:=List.getElem_of_mem hr
    exact hj j hj' hj'
   rw [e]
   simp (maxSteps:=2000000) (disch:=first | omega | assumption | (simp only [DS,Nat.reduceAdd, *]; done) | (simp only [DZ]; omega)) only [RUN,RU,zA2,zA1,zA0,zAA,frzL,reduceIte,Nat.reduceEqDiff,g11,g12,wN,wK]
end Go.Proofs.YtakefgebklfhpaaGreat
namespace Go.Proofs.YtakefgebklfhpaaGreat
open Go Go.Ax
variable {fuel : Nat} {M : Mem} {Q : AV → Mem → Prop} {d : Nat}
def Rn.els (r : Rn) : List (Eid × Eid):=(List.range r.sp.n.toNat).map fun (i : Nat)=>(r.sp.at i,r.afAt i)
def elsL (l : List Rn) : List (Eid × Eid):=l.flatMap Rn.els
theorem zVN (l : List Rn) (r : Rn) : elsL (l ++ [r]) = elsL l ++ r.els:=by simp [elsL]
theorem zS2 {l : List Rn} {i k : Nat} (hi : i < l.length) (hk : k < l[i].sp.n.toNat) : ∃ post,elsL l = (elsL (l.take i) ++ l[i].els.take k) ++ (l[i].sp.at k,l[i].afAt k) :: post:=by
 refine ⟨l[i].els.drop (k + 1) ++ elsL (l.drop (i + 1)), ?_⟩
 have h1 : l = l.take i ++ l[i] :: l.drop (i + 1):=by rw [← List.drop_eq_getElem_cons hi,List.take_append_drop]
 have hkl : k < l[i].els.length:=by unfold Rn.els; simpa using hk
 have h2 : l[i].els = l[i].els.take k ++ l[i].els[k] :: l[i].els.drop (k + 1):=by rw [← List.drop_eq_getElem_cons hkl,List.take_append_drop]
 have h3 : l[i].els[k] = (l[i].sp.at k,l[i].afAt k):=by simp [Rn.els]
 rw [h3] at h2
 refine (congrArg elsL h1).trans ?_
 have h4 : elsL (l.take i ++ l[i] :: l.drop (i + 1)) = elsL (l.take i) ++ (l[i].els ++ elsL (l.drop (i + 1))):=by
  unfold elsL
  rw [List.flatMap_append,List.flatMap_cons]
 rw [h4,List.append_assoc,← List.cons_append,← List.append_assoc (l[i].els.take k),← h2]
theorem zS0 (r : Rn) : r.els.length = r.sp.n.toNat:=by simp [Rn.els]
theorem zS1 (r : Rn) (k : Nat) (hk : k < r.sp.n.toNat) : r.els.take (k + 1) = r.els.take k ++ [(r.sp.at k,r.afAt k)]:=by
 rw [zBL _ _ (by rw [zS0]; exact hk)]
 simp [Rn.els]
structure Yl (J : List (Eid × Eid) → (Nat → Prop) → Mem → Prop) (pre : List (Eid × Eid)) (O : Nat → Prop) (B : Nat) (N N' : Mem) : Prop where
 ok : ∃ O',J pre O' N' ∧ (∀ j,O' j → O j ∨ N.size ≤ j)
 wf : Wf N'
 le : N.size ≤ N'.size
 kp : ∀ j,j < N.size → ¬O j → N'.get j = N.get j
set_option maxHeartbeats 16000000 in
theorem zVM {J : List (Eid × Eid) → (Nat → Prop) → Mem → Prop} {S : Mem → Prop} {O : Nat → Prop} {a : AV} {l : List Rn} {p id : Nat} (hS : Sl 10 isRn a l) (hl : l.length ≤ 100000) (hm : ∀ r ∈ l,r.may = true) (hf : l.length + 100 < fuel) (wf : Wf M) (hg : M.get p = some (.row false [a]))
  (hJ0 : J [] O M)
  (hJ : ∀ pre O N N',J pre O N → Wf N' → N.size ≤ N'.size → (∀ j,j < N.size → N'.get j = N.get j) → J pre O N')
  (hJl : ∀ pre O N,J pre O N → ∀ j,O j → j < N.size)
  (hy : ∀ pre x post O N,elsL l = pre ++ x :: post → J pre O N → Wf N → M.size ≤ N.size → W3 (zAE Tryz.prog (fsT tbl) fuel (d + 7) (.yl id) [idA x.1,idA x.2] N) (fun v N'=>(v = BL true ∧ Yl J (pre ++ [x]) O M.size N N') ∨ (v = BL false ∧ S N')))
  (kk : ∀ u N O,J (elsL l) O N → Wf N → M.size ≤ N.size → Q u N) (ks : ∀ u N,S N → Q u N) :
  W3 (zAE Tryz.prog (fsT tbl) fuel (d + 8) (.fn 109) [.yl id,.ptr p 0] M) Q:=by
 have ll:=hS.len
 have lp:=Mem.get_lt hg
 refine zB6 tf109 rfl (by simp [a109]) fun b' ht hx=>?_
 have h0:=hx 0 _ rfl
 have h1:=hx 1 _ rfl
 clear hx
 simp only [a109,c109] at ht ⊢
 simp (maxSteps:=2000000) (disch:=first | omega | assumption | (simp only [DS,Nat.reduceAdd, *]; done) | (simp only [DZ]; omega)) only [RUN,RU,zA2,zA1,reduceIte,h1,ll,hg]
 refine zBG (I:=fun n t N => ∃ (i : Nat) (O' : Nat → Prop),n = l.length - i ∧ i ≤ l.length ∧ nth zA5 t 0 = .yl id ∧ nth zA5 t 10 = a ∧ nth zA5 t 11 = I64 l.length ∧ nth zA5 t 12 = I64 i ∧ Wf N ∧ M.size ≤ N.size ∧ J (elsL (l.take i)) O' N) (n:=l.length) (by omega) ?_ ?_
 ·refine ⟨0,O,rfl,Nat.zero_le _, ?_, ?_, ?_, ?_,wf,Nat.le_refl _,hJ0⟩ <;> simp (maxSteps:=2000000) (disch:=first | omega | assumption | (simp only [DS,Nat.reduceAdd, *]; done) | (simp only [DZ]; omega)) only [RUN,reduceIte,Nat.reduceEqDiff,h0]
  all_goals first | rfl | assumption | done
 ·rintro n t N hlt ⟨i,O',rfl,hi,g0,g10,g11,g12,w,le,hj⟩
  simp only [ht] at hlt ⊢
  by_cases hc : i < l.length
  ·have q1 : decide ((i : Int) < l.length) = true:=decide_eq_true (by omega)
   have w1 : IntKind.i64.wrap ((i : Int) + 1) = ((i + 1 : Nat) : Int):=by rw [wrap_i64] <;> omega
   obtain ⟨r,hiad,hr,hrl⟩:=hS.iad i hc
   have hts:=zVN (l.take i) l[i]
   rw [← zBL l i hc] at hts
   have hsp:=fun k=>@zS2 l i k hc
   have hme:=hm l[i] (List.getElem_mem hc)
   generalize l[i] = e at *
   obtain ⟨ra,rfl,hra,hok⟩:=hr
   have ora:=hra.one
   have hb:=Spn.may_le (Rn.may_sp hme)
   obtain ⟨m,hmn⟩ : ∃ m : Nat,e.sp.n = m:=⟨e.sp.n.toNat,by omega⟩
   have hmt : e.sp.n.toNat = m:=by omega
   have hes:=zS1 e
   have hel:=zS0 e
   have wX : Wf ((N.add (.row false (rnR Rn.z NIL))).upd N.size (.row false (rnR e ra))):=(w.add _).upd _ _
   have jX:=hJ _ _ _ _ hj wX (by rw [zA9,zA6]; omega) (fun j hj'=>by rw [zA4 (w.add _) _ _ _ (by omega),zAF w _ _ hj'])
   have gX : ((N.add (.row false (rnR Rn.z NIL))).upd N.size (.row false (rnR e ra))).get N.size = some (.row false (rnR e ra)):=zAG (w.add _) _ _ (by rw [zA6]; omega)
   have nX : N.size < ((N.add (.row false (rnR Rn.z NIL))).upd N.size (.row false (rnR e ra))).size:=by rw [zA9,zA6]; omega
   have nO : ¬O' N.size:=fun h=>by have:=hJl _ _ _ hj _ h; omega
   simp (maxSteps:=2000000) (disch:=first | omega | assumption | (simp only [DS,Nat.reduceAdd, *]; done) | (simp only [DZ]; omega)) only [RUN,RU,zA2,zA1,slot,lay,reduceIte,Nat.reduceEqDiff,Nat.reduceAdd,g10,g11,g12,q1,hiad]
   refine zBG (I:=fun nk tk Nk => ∃ (ik : Nat) (O2 : Nat → Prop),nk = m - ik ∧ ik ≤ m ∧ nth zA5 tk 0 = .yl id ∧ nth zA5 tk 4 = .ptr N.size 0 ∧ nth zA5 tk 10 = a ∧ nth zA5 tk 11 = I64 l.length ∧ nth zA5 tk 12 = I64 i ∧ nth zA5 tk 18 = I64 e.sp.n ∧ nth zA5 tk 19 = I64 ik ∧ Wf Nk ∧ N.size < Nk.size ∧ J (elsL (l.take i) ++ e.els.take ik) O2 Nk ∧ Nk.get N.size = some (.row false (rnR e ra)) ∧ ¬O2 N.size) (n:=m) (by omega) ?_ ?_
   ·refine ⟨0,O',rfl,Nat.zero_le _, ?_, ?_, ?_, ?_, ?_, ?_, ?_,wX,nX,(by rw [List.take_zero,List.append_nil]; exact jX),gX,nO⟩ <;> simp (maxSteps:=2000000) (disch:=first | omega | assumption | (simp only [DS,Nat.reduceAdd, *]; done) | (simp only [DZ]; omega)) only [RUN,reduceIte,Nat.reduceEqDiff,g0,g10,g11,g12]
    all_goals first | rfl | assumption | done
   ·rintro nk tk Nk hltk ⟨ik,O2,rfl,hik,gk0,gk4,gk10,gk11,gk12,gk18,gk19,wk,lk,jk,gk,nk⟩
    simp only [hlt] at hltk ⊢
    have kX : ∀ p q,Wf ((((Nk.add p).add q).upd Nk.size (.row false (idR (e.sp.at ik)))).upd (Nk.size + 1) (.row false (idR (e.afAt ik)))):=fun p q=>(((wk.add _).add _).upd _ _).upd _ _
    by_cases hck : ik < m
    ·have q2 : decide ((ik : Int) < e.sp.n) = true:=decide_eq_true (by omega)
     have w2 : IntKind.i64.wrap ((ik : Int) + 1) = ((ik + 1 : Nat) : Int):=by rw [wrap_i64] <;> omega
     have hatE : atE e ik = 0:=by
      unfold atE
      rw [if_pos hme,if_neg (by omega)]
     have hat:=fun M=>@zM9 fuel d e ra (ik : Int) hra (by omega) M
     simp only [hatE,if_true] at hat
     obtain ⟨post,hsp⟩:=hsp ik (by omega)
     have hes:=hes ik (by omega)
     rw [hmt] at hel
     simp (maxSteps:=2000000) (disch:=first | omega | assumption | (simp only [DS,Nat.reduceAdd, *]; done) | (simp only [DZ]; omega)) only [RUN,RU,zA2,zA1,slot,lay,reduceIte,Nat.reduceEqDiff,Nat.reduceAdd,gk0,gk4,gk18,gk19,q2,gk,hat]
     have jY:=hJ _ _ _ _ jk (kX (.row false (idR Eid.z)) (.row false (idR Eid.z))) (by simp only [zA9,zA6]; omega) (fun j hj'=>by
      rw [zA4 (((wk.add _).add _).upd _ _) _ _ _ (by omega),zA4 ((wk.add _).add _) _ _ _ (by omega),zAF (wk.add _) _ _ (by rw [zA6]; omega),zAF wk _ _ hj'])
     obtain ⟨v,N',hcall,hv⟩:=hy _ _ _ _ _ hsp jY (kX _ _) (by simp only [zA9,zA6]; omega)
     refine ⟨v,N',hcall, ?_⟩
     rcases hv with ⟨rfl,⟨O3,jO,hO3⟩,wY,lY,kY⟩ | ⟨rfl,hst⟩
     ·simp only [zA9,zA6] at lY kY hO3
      have g3 : N'.get N.size = some (.row false (rnR e ra)):=by
       rw [kY _ (by omega) nk,zA4 (((wk.add _).add _).upd _ _) _ _ _ (by omega),zA4 ((wk.add _).add _) _ _ _ (by omega),zAF (wk.add _) _ _ (by rw [zA6]; omega),zAF wk _ _ (by omega)]
       exact gk
      rw [List.append_assoc,← hes] at jO
      simp (maxSteps:=2000000) (disch:=first | omega | assumption | (simp only [DS,Nat.reduceAdd, *]; done) | (simp only [DZ]; omega)) only [RUN,RU,zA2,zA1,reduceIte,Nat.reduceEqDiff,gk0,gk4,gk10,gk11,gk12,gk18,gk19,w2]
      exact ⟨hltk,m - (ik + 1),by omega,ik + 1,O3,rfl,by omega,rfl,wY,by omega,jO,g3,fun h=>(hO3 _ h).elim nk (fun h=>by omega)⟩
     ·simp (maxSteps:=2000000) (disch:=first | omega | assumption | (simp only [DS,Nat.reduceAdd, *]; done) | (simp only [DZ]; omega)) only [RUN,RU,zA2,zA1,zA0,zAA,reduceIte,Nat.reduceEqDiff]
      exact ks _ _ hst
    ·obtain rfl : ik = m:=by omega
     have q2 : decide ((ik : Int) < e.sp.n) = false:=decide_eq_false (by omega)
     rw [List.take_of_length_le (l:=e.els) (by omega)] at jk
     simp (maxSteps:=2000000) (disch:=first | omega | assumption | (simp only [DS,Nat.reduceAdd, *]; done) | (simp only [DZ]; omega)) only [RUN,RU,zA2,zA1,reduceIte,Nat.reduceEqDiff,gk0,gk10,gk11,gk12,gk18,gk19,q2,w1]
     exact ⟨hltk,l.length - (i + 1),by omega,i + 1,O2,rfl,by omega,rfl,wk,by omega,by rw [hts]; exact jk⟩
  ·obtain rfl : i = l.length:=by omega
   have q1 : decide ((l.length : Int) < l.length) = false:=decide_eq_false (by omega)
   rw [List.take_length] at hj
   simp (maxSteps:=2000000) (disch:=first | omega | assumption | (simp only [DS,Nat.reduceAdd, *]; done) | (simp only [DZ]; omega)) only [RUN,RU,zA2,zA1,zA0,zAA,reduceIte,g11,g12]
   exact kk _ _ _ hj w le
end Go.Proofs.YtakefgebklfhpaaGreat
namespace Go.Proofs.YtakefgebklfhpaaGreat
open Go Go.Ax
/-! ### The order of ids -/
theorem zE6 (x y : Eid) : x.less y = true ↔ x.c < y.c ∨ (x.c = y.c ∧ (x.hd.lb.lv < y.hd.lb.lv ∨ (x.hd.lb.lv = y.hd.lb.lv ∧ (x.hd.lb.cats < y.hd.lb.cats ∨ (x.hd.lb.cats = y.hd.lb.cats ∧ x.hd.num < y.hd.num))))):=by
 obtain ⟨⟨⟨a,b⟩,c⟩,e⟩:=x
 obtain ⟨⟨⟨a',b'⟩,c'⟩,e'⟩:=y
 unfold Eid.less Lb.ahead
 by_cases h1 : e = e'
 ·subst h1
  by_cases h2 : (⟨a,b⟩ : Lb) = ⟨a',b'⟩
  ·injection h2 with h2 h3
   subst h2; subst h3
   simp
  ·have h3 : ¬(a = a' ∧ b = b'):=fun h=>h2 (by rw [h.1,h.2])
   simp only [h2,if_true,if_false,Bool.or_eq_true,Bool.and_eq_true,decide_eq_true_eq,Int.lt_irrefl,true_and,false_or]
   omega
 ·simp only [h1,if_false,decide_eq_true_eq,false_and,or_false]
theorem zKE (x : Eid) : x.less x = false:=by
 rw [← Bool.not_eq_true,zE6]; omega
theorem zJ8 {x y z : Eid} (h1 : x.less y = true) (h2 : y.less z = true) : x.less z = true:=by
 rw [zE6] at *; omega
theorem zSZ {x y : Eid} (h1 : x.less y = true) : y.less x = false:=by
 rw [← Bool.not_eq_true]; rw [zE6] at *; omega
theorem zWL {x y : Eid} (h : x ≠ y) : x.less y = true ∨ y.less x = true:=by
 rw [zE6,zE6]
 obtain ⟨⟨⟨a,b⟩,c⟩,e⟩:=x
 obtain ⟨⟨⟨a',b'⟩,c'⟩,e'⟩:=y
 simp only
 have : ¬(a = a' ∧ b = b' ∧ c = c' ∧ e = e'):=fun k=>h (by rw [k.1,k.2.1,k.2.2.1,k.2.2.2])
 omega
theorem zT0 {x y : Eid} (h : x.less y = true) : x.c ≤ y.c:=by
 rw [zE6] at h; omega
theorem zLK {x y : Eid} (h : x.c < y.c) : x.less y = true:=by
 rw [zE6]; omega
/-! ### Paths -/
def ahd : List Eid → List Eid → Prop
 | [],[]=>False
 | [],_ :: _=>True
 | _ :: _,[]=>False
 | a :: p,b :: q=>b.less a = true ∨ (a = b ∧ ahd p q)
theorem zGA : ∀ p : List Eid,¬ahd p p
 | []=>fun h=>h
 | a :: p=>fun h=>by
  rcases h with h | ⟨_,h⟩
  ·rw [zKE] at h; cases h
  ·exact zGA p h
theorem zED : ∀ {p q r : List Eid},ahd p q → ahd q r → ahd p r
 | [],[],_=>fun h _=>h.elim
 | [],_ :: _,[]=>fun _ h=>h.elim
 | [],_ :: _,_ :: _=>fun _ _=>trivial
 | _ :: _,[],_=>fun h _=>h.elim
 | _ :: _,_ :: _,[]=>fun _ h=>h.elim
 | a :: p,b :: q,c :: r=>fun h1 h2=>by
  rcases h1 with h1 | ⟨rfl,h1⟩ <;> rcases h2 with h2 | ⟨rfl,h2⟩
  ·exact .inl (zJ8 h2 h1)
  ·exact .inl h1
  ·exact .inl h2
  ·exact .inr ⟨rfl,zED h1 h2⟩
theorem zEC (p : List Eid) (x : Eid) (q : List Eid) : ahd p (p ++ x :: q):=by
 induction p with
 | nil=>trivial
 | cons a p ih=>exact .inr ⟨rfl,ih⟩
theorem zL3 (p : List Eid) {a b : Eid} (q r : List Eid) (h : b.less a = true) : ahd (p ++ a :: q) (p ++ b :: r):=by
 induction p with
 | nil=>exact .inl h
 | cons a p ih=>exact .inr ⟨rfl,ih⟩
theorem zJN : ∀ {p q : List Eid},ahd p q → (∃ x r,q = p ++ x :: r) ∨ ∃ c a b s t,p = c ++ a :: s ∧ q = c ++ b :: t ∧ b.less a = true
 | [],[]=>fun h=>h.elim
 | [],x :: r=>fun _ => .inl ⟨x,r,rfl⟩
 | _ :: _,[]=>fun h=>h.elim
 | a :: p,b :: q=>fun h=>by
  rcases h with h | ⟨rfl,h⟩
  ·exact .inr ⟨[],a,b,p,q,rfl,rfl,h⟩
  ·rcases zJN h with ⟨x,r,rfl⟩ | ⟨c,x,y,s,t,rfl,rfl,k⟩
   ·exact .inl ⟨x,r,rfl⟩
   ·exact .inr ⟨a :: c,x,y,s,t,rfl,rfl,k⟩
structure El where
 id : Eid
 af : Eid
 ch : Int
 deriving DecidableEq
inductive Pth (E : List El) : Eid → List Eid → Prop
 | root {x : El} : x ∈ E → x.af = Eid.z → Pth E x.id [x.id]
 | step {x : El} {p : List Eid} : x ∈ E → Pth E x.af p → Pth E x.id (p ++ [x.id])
theorem Pth.mono {E F : List El} (h : ∀ x ∈ E,x ∈ F) {x : Eid} {p : List Eid} (k : Pth E x p) : Pth F x p:=by
 induction k with
 | root m e=>exact .root (h _ m) e
 | step m _ ih=>exact .step (h _ m) ih
theorem Pth.mem {E : List El} {x : Eid} {p : List Eid} (k : Pth E x p) : ∃ e ∈ E,e.id = x:=by
 cases k with
 | root m _=>exact ⟨_,m,rfl⟩
 | step m _=>exact ⟨_,m,rfl⟩
theorem Pth.last {E : List El} {x : Eid} {p : List Eid} (k : Pth E x p) : ∃ q,p = q ++ [x]:=by
 cases k with
 | root m _=>exact ⟨[],rfl⟩
 | step m _=>exact ⟨_,rfl⟩
theorem Pth.pre {E : List El} {x : Eid} {p : List Eid} (k : Pth E x p) : ∀ {q y r},p = q ++ y :: r → Pth E y (q ++ [y]):=by
 induction k with
 | root m e =>
  intro q y r h
  cases q with
  | nil=>cases h; exact .root m e
  | cons a q=>simp at h
 | @step x p m kp ih =>
  intro q y r h
  rcases List.eq_nil_or_concat r with rfl | ⟨r',b,rfl⟩
  ·have h2:=List.append_inj' h rfl
   rw [← h2.1]
   injection h2.2 with h3
   rw [← h3]
   exact .step m kp
  ·have h' : p ++ [x.id] = (q ++ y :: r') ++ [b]:=by rw [h]; simp
   exact ih (List.append_inj' h' rfl).1
structure Set1 (E : List El) : Prop where
 nd : (E.map (·.id)).Nodup
 ct : ∀ x ∈ E,x.af.c < x.id.c ∧ 0 < x.id.c
 rt : ∀ x ∈ E,x.af = Eid.z ∨ ∃ y ∈ E,y.id = x.af
theorem zT7 {E : List El} (h : (E.map (·.id)).Nodup) {x y : El} (hx : x ∈ E) (hy : y ∈ E) (e : x.id = y.id) : x = y:=by
 induction E with
 | nil=>cases hx
 | cons a E ih =>
  rw [List.map_cons,List.nodup_cons] at h
  rcases List.mem_cons.1 hx with rfl | hx' <;> rcases List.mem_cons.1 hy with rfl | hy'
  ·rfl
  ·exact absurd (List.mem_map.2 ⟨y,hy',e.symm⟩) h.1
  ·exact absurd (List.mem_map.2 ⟨x,hx',e⟩) h.1
  ·exact ih h.2 hx' hy'
theorem Pth.nz {E : List El} (h : ∀ x ∈ E,0 < x.id.c) {x : Eid} {p : List Eid} (k : Pth E x p) : x ≠ Eid.z:=by
 obtain ⟨e,he,rfl⟩:=k.mem
 intro hz
 have:=h e he
 rw [hz] at this
 exact absurd this (by decide)
theorem Pth.fn {E : List El} (h : Set1 E) {x : Eid} {p : List Eid} (k : Pth E x p) : ∀ {q},Pth E x q → p = q:=by
 have hz:=fun x hx=>(h.ct x hx).2
 induction k with
 | @root x m e =>
  intro q k'
  generalize hx : x.id = i at k'
  cases k' with
  | root m' e'=>rfl
  | @step x' p' m' kp' =>
   have:=zT7 h.nd m m' hx
   subst this
   exact absurd e (kp'.nz hz)
 | @step x p m kp ih =>
  intro q k'
  generalize hx : x.id = i at k'
  cases k' with
  | @root x' m' e' =>
   have:=zT7 h.nd m m' hx
   subst this
   exact absurd e' (kp.nz hz)
  | @step x' p' m' kp' =>
   have:=zT7 h.nd m m' hx
   subst this
   rw [ih kp']
theorem Pth.ex {E : List El} (h : Set1 E) : ∀ (n : Nat) (x : El),x ∈ E → x.id.c ≤ n → ∃ p,Pth E x.id p
 | 0,x,hx,hn=>absurd (h.ct x hx).2 (by omega)
 | n + 1,x,hx,hn=>by
  rcases h.rt x hx with e | ⟨y,hy,e⟩
  ·exact ⟨_,.root hx e⟩
  ·have hc:=h.ct x hx
   obtain ⟨p,hp⟩:=Pth.ex h n y hy (by rw [e]; omega)
   rw [e] at hp
   exact ⟨_,.step hx hp⟩
theorem Set1.path {E : List El} (h : Set1 E) {x : El} (hx : x ∈ E) : ∃ p,Pth E x.id p:=Pth.ex h x.id.c.toNat x hx (by have:=h.ct x hx; omega)
theorem Pth.grow {E : List El} (h : ∀ x ∈ E,x.af.c < x.id.c) {x : Eid} {p : List Eid} (k : Pth E x p) : ∀ y ∈ p,y.c ≤ x.c:=by
 induction k with
 | root m e=>intro y hy; rw [List.mem_singleton] at hy; subst hy; exact Int.le_refl _
 | @step x p m kp ih =>
  intro y hy
  rcases List.mem_append.1 hy with hy | hy
  ·have:=ih y hy
   have:=h _ m
   omega
  ·rw [List.mem_singleton] at hy; subst hy; exact Int.le_refl _
def Ah (E : List El) (x y : El) : Prop:=∃ p q,Pth E x.id p ∧ Pth E y.id q ∧ ahd p q
theorem Ah.irr {E : List El} (h : Set1 E) (x : El) : ¬Ah E x x:=fun ⟨p,q,hp,hq,k⟩=>by
 rw [hp.fn h hq] at k
 exact zGA _ k
theorem Ah.trans {E : List El} (h : Set1 E) {x y z : El} (h1 : Ah E x y) (h2 : Ah E y z) : Ah E x z:=by
 obtain ⟨p,q,hp,hq,k⟩:=h1
 obtain ⟨q',r,hq',hr,k'⟩:=h2
 rw [hq'.fn h hq] at k'
 exact ⟨p,r,hp,hr,zED k k'⟩
theorem Ah.mono {E F : List El} (h : ∀ x ∈ E,x ∈ F) {x y : El} (k : Ah E x y) : Ah F x y:=by
 obtain ⟨p,q,hp,hq,k⟩:=k
 exact ⟨p,q,hp.mono h,hq.mono h,k⟩
structure Txt (E : List El) : Prop where
 s1 : Set1 E
 pw : E.Pairwise (Ah E)
theorem ze1 {α : Type} {R : α → α → Prop} : ∀ {l m : List α},(∀ x y,R x y → ¬R y x) → l.Pairwise R → m.Pairwise R → (∀ x,x ∈ l ↔ x ∈ m) → l = m
 | [],[],_,_,_,_=>rfl
 | [],b :: m,_,_,_,h=>absurd ((h b).2 List.mem_cons_self) (by simp)
 | a :: l,[],_,_,_,h=>absurd ((h a).1 List.mem_cons_self) (by simp)
 | a :: l,b :: m,hR,hl,hm,h=>by
  have hl':=List.pairwise_cons.1 hl
  have hm':=List.pairwise_cons.1 hm
  have e : a = b:=by
   rcases List.mem_cons.1 ((h a).1 List.mem_cons_self) with e | ha
   ·exact e
   ·rcases List.mem_cons.1 ((h b).2 List.mem_cons_self) with e | hb
    ·exact e.symm
    ·exact absurd (hm'.1 a ha) (hR _ _ (hl'.1 b hb))
  subst e
  rw [ze1 hR hl'.2 hm'.2 fun x=>?_]
  have na : a ∉ l:=fun k=>(hR _ _ (hl'.1 a k)) (hl'.1 a k)
  have nb : a ∉ m:=fun k=>(hR _ _ (hm'.1 a k)) (hm'.1 a k)
  have hx:=h x
  simp only [List.mem_cons] at hx
  by_cases k : x = a
  ·subst k; exact ⟨fun k=>absurd k na,fun k=>absurd k nb⟩
  ·simpa [k] using hx
theorem Txt.eq {E F : List El} (hE : Txt E) (hF : Txt F) (h : ∀ x,x ∈ E ↔ x ∈ F) : E = F:=by
 refine ze1 (R:=Ah E) (fun x y h1 h2=>Ah.irr hE.s1 x (Ah.trans hE.s1 h1 h2)) hE.pw (hF.pw.imp fun k=>k.mono fun x=>(h x).2) h
theorem Txt.nil : Txt []:=⟨⟨List.nodup_nil,fun _ h=>absurd h (by simp),fun _ h=>absurd h (by simp)⟩,.nil⟩
theorem Txt.filter {E : List El} (hE : Txt E) (f : El → Bool) (hf : ∀ x ∈ E,∀ y ∈ E,f x = true → y.id = x.af → f y = true) : Txt (E.filter f):=by
 have hs : Set1 (E.filter f):=by
  refine ⟨?_,fun x hx=>hE.s1.ct x (List.mem_filter.1 hx).1,fun x hx=>?_⟩
  ·exact (hE.s1.nd.sublist (List.Sublist.map _ List.filter_sublist))
  ·obtain ⟨h1,h2⟩:=List.mem_filter.1 hx
   rcases hE.s1.rt x h1 with e | ⟨y,hy,e⟩
   ·exact .inl e
   ·exact .inr ⟨y,List.mem_filter.2 ⟨hy,hf x h1 y hy h2 e⟩,e⟩
 refine ⟨hs, ?_⟩
 have h1:=hE.pw.sublist (List.filter_sublist (p:=f))
 refine List.Pairwise.imp_of_mem (fun {a b} ha hb k=>?_) h1
 obtain ⟨p,q,hp,hq,k⟩:=k
 obtain ⟨p',hp'⟩:=hs.path ha
 obtain ⟨q',hq'⟩:=hs.path hb
 rw [(hp'.mono fun x hx=>(List.mem_filter.1 hx).1).fn hE.s1 hp] at hp'
 rw [(hq'.mono fun x hx=>(List.mem_filter.1 hx).1).fn hE.s1 hq] at hq'
 exact ⟨p,q,hp',hq',k⟩
end Go.Proofs.YtakefgebklfhpaaGreat
namespace Go.Proofs.YtakefgebklfhpaaGreat
open Go Go.Ax
theorem zR5 (p : List Eid) : ¬ahd p []:=by
 cases p <;> exact fun h=>h
theorem zDG {α : Type} (l : List α) : l = [] ∨ ∃ q b,l = q ++ [b]:=by
 rcases List.eq_nil_or_concat l with h | ⟨q,b,h⟩
 ·exact .inl h
 ·exact .inr ⟨q,b,by rw [h,List.concat_eq_append]⟩
def popT (af : Eid) : List Eid → Eid → Eid × List Eid
 | [],el=>(el,[])
 | t :: s,el=>if t = af then (el,t :: s) else popT af s t
def ordS (x : Eid × Eid) (s seen : List Eid) : Bool:=!((decide ((popT x.2 s Eid.z).2 = []) && !decide (x.2 = Eid.z)) || (!decide ((popT x.2 s Eid.z).1 = Eid.z) && !x.1.less (popT x.2 s Eid.z).1) || decide (x.1 ∈ seen))
def stk (l : List (Eid × Eid)) : List Eid:=l.foldl (fun s x=>x.1 :: (popT x.2 s Eid.z).2) []
theorem zE8 (l : List (Eid × Eid)) (x : Eid × Eid) : stk (l ++ [x]) = x.1 :: (popT x.2 (stk l) Eid.z).2:=by simp [stk]
def Ord (l : List (Eid × Eid)) : Prop:=∀ pre x post,l = pre ++ x :: post → ordS x (stk pre) (pre.map (·.1)) = true
theorem Ord.nil : Ord []:=fun pre x post h=>absurd h (by simp)
theorem Ord.pre {l m : List (Eid × Eid)} (h : Ord (l ++ m)) : Ord l:=fun pre x post e=>h pre x (post ++ m) (by rw [e]; simp)
theorem Ord.snoc {l : List (Eid × Eid)} {x : Eid × Eid} (h : Ord l) (k : ordS x (stk l) (l.map (·.1)) = true) : Ord (l ++ [x]):=by
 intro pre y post e
 rcases zDG post with rfl | ⟨q,b,rfl⟩
 ·have:=List.append_inj' e rfl
  obtain ⟨rfl,h2⟩:=this
  injection h2 with h2
  subst h2
  exact k
 ·have e' : l ++ [x] = (pre ++ y :: q) ++ [b]:=by rw [e]; simp
  exact h pre y q (List.append_inj' e' rfl).1
theorem zID {af : Eid} : ∀ {m : List Eid} {q : List Eid} {el : Eid},(∀ t ∈ m,t ≠ af) → (q = [] ∨ ∃ t,q = af :: t) → popT af (m ++ q) el = (m.getLast?.getD el,q)
 | [],q,el,_,hq=>by
  rcases hq with rfl | ⟨t,rfl⟩
  ·rfl
  ·show popT af (af :: t) el = _
   rw [popT,if_pos rfl]; rfl
 | a :: m,q,el,hm,hq=>by
  rw [List.cons_append,popT,if_neg (hm a List.mem_cons_self),zID (fun t ht=>hm t (List.mem_cons_of_mem _ ht)) hq]
  cases m with
  | nil=>rfl
  | cons b m=>simp [List.getLast?_cons]
theorem zZ2 (af : Eid) : ∀ s : List Eid,∃ m q,s = m ++ q ∧ (∀ t ∈ m,t ≠ af) ∧ (q = [] ∨ ∃ t,q = af :: t)
 | []=>⟨[],[],rfl,(fun _ h=>absurd h (by simp)),.inl rfl⟩
 | a :: s=>by
  by_cases h : a = af
  ·subst h
   exact ⟨[],a :: s,rfl,(fun _ h=>absurd h (by simp)),.inr ⟨s,rfl⟩⟩
  ·obtain ⟨m,q,rfl,hm,hq⟩:=zZ2 af s
   exact ⟨a :: m,q,rfl,fun t ht=>(List.mem_cons.1 ht).elim (fun e=>e ▸ h) (hm t),hq⟩
def prs (E : List El) : List (Eid × Eid):=E.map fun x=>(x.id,x.af)
theorem zTN (E : List El) : (prs E).map (·.1) = E.map (·.id):=by simp [prs]
theorem Txt.ins {A R B : List El} (h : Txt (A ++ B)) (hs : Set1 (A ++ R ++ B)) (h1 : ∀ a ∈ A,∀ r ∈ R,Ah (A ++ R ++ B) a r) (h2 : R.Pairwise (Ah (A ++ R ++ B))) (h3 : ∀ r ∈ R,∀ b ∈ B,Ah (A ++ R ++ B) r b) : Txt (A ++ R ++ B):=by
 refine ⟨hs, ?_⟩
 have hm : ∀ x ∈ A ++ B,x ∈ A ++ R ++ B:=fun x hx=>by
  rcases List.mem_append.1 hx with h | h
  ·exact List.mem_append.2 (.inl (List.mem_append.2 (.inl h)))
  ·exact List.mem_append.2 (.inr h)
 have hp:=h.pw.imp (fun k=>Ah.mono hm k)
 obtain ⟨pA,pB,pAB⟩:=List.pairwise_append.1 hp
 refine List.pairwise_append.2 ⟨List.pairwise_append.2 ⟨pA,h2,h1⟩,pB,fun a ha b hb=>?_⟩
 rcases List.mem_append.1 ha with ha | ha
 ·exact pAB a ha b hb
 ·exact h3 a ha b hb
def Stk (E : List El) (s : List Eid) : Prop:=(E = [] ∧ s = []) ∨ ∃ E' y,E = E' ++ [y] ∧ Pth E y.id s.reverse
theorem zCP {α : Type} {P : List α → Prop} (h0 : P []) (h1 : ∀ l x,P l → P (l ++ [x])) (l : List α) : P l:=by
 suffices h : ∀ n (l : List α),l.length = n → P l from h _ l rfl
 intro n
 induction n with
 | zero=>intro l hl; rw [List.eq_nil_of_length_eq_zero hl]; exact h0
 | succ n ih =>
  intro l hl
  rcases zDG l with rfl | ⟨q,b,rfl⟩
  ·exact h0
  ·exact h1 q b (ih q (by simpa using hl))
theorem Stk.pos {E : List El} {s : List Eid} (hs : Set1 E) (h : Stk E s) : ∀ t ∈ s,t ≠ Eid.z:=by
 rcases h with ⟨_,rfl⟩ | ⟨E',y,rfl,hp⟩
 ·exact fun _ h=>absurd h (by simp)
 ·intro t ht
  obtain ⟨q,r,e⟩:=List.append_of_mem (List.mem_reverse.2 ht)
  exact (hp.pre e).nz fun x hx=>(hs.ct x hx).2
theorem zaS (E : List El) : (∀ x ∈ E,x.af.c < x.id.c ∧ 0 < x.id.c) → Ord (prs E) → Txt E ∧ Stk E (stk (prs E)):=by
 refine zCP (P:=fun E=>(∀ x ∈ E,x.af.c < x.id.c ∧ 0 < x.id.c) → Ord (prs E) → Txt E ∧ Stk E (stk (prs E))) (fun _ _=>⟨Txt.nil,.inl ⟨rfl,rfl⟩⟩) (fun E x ih hc ho=>?_) E
 have he : prs (E ++ [x]) = prs E ++ [(x.id,x.af)]:=by simp [prs]
 rw [he] at ho ⊢
 obtain ⟨hT,hS⟩:=ih (fun y hy=>hc y (List.mem_append_left _ hy)) ho.pre
 have hx:=hc x (List.mem_append_right _ List.mem_cons_self)
 have hst:=ho (prs E) (x.id,x.af) [] rfl
 obtain ⟨m,q,hmq,hm,hq⟩:=zZ2 x.af (stk (prs E))
 have hpe:=zID (el:=Eid.z) hm hq
 rw [← hmq] at hpe
 unfold ordS at hst
 rw [hpe,zTN] at hst
 simp only [Bool.not_eq_true',Bool.or_eq_false_iff,Bool.and_eq_false_iff,Bool.not_eq_false',decide_eq_false_iff_not,decide_eq_true_eq] at hst
 obtain ⟨⟨h1,h2⟩,h3⟩:=hst
 rw [zE8,hpe]
 have hmem : ∀ y ∈ E,y ∈ E ++ [x]:=fun y hy=>List.mem_append_left _ hy
 have hxm : x ∈ E ++ [x]:=List.mem_append_right _ List.mem_cons_self
 have hpos:=hS.pos hT.s1
 -- the path of the new one
 have hrt : x.af = Eid.z ∨ ∃ y ∈ E,y.id = x.af:=by
  rcases hq with rfl | ⟨t,rfl⟩
  ·rcases h1 with h1 | h1
   ·exact absurd rfl h1
   ·exact .inl h1
  ·rcases hS with ⟨_,h⟩ | ⟨E',y,rfl,hp⟩
   ·rw [h] at hmq
    exact absurd hmq.symm (by simp)
   ·rw [hmq] at hp
    exact .inr (hp.pre (q:=t.reverse) (y:=x.af) (r:=m.reverse) (by simp)).mem
 have hs1 : Set1 (E ++ [x]):=by
  refine ⟨?_,hc,fun y hy=>?_⟩
  ·rw [List.map_append,List.nodup_append]
   refine ⟨hT.s1.nd,by simp,fun a ha b hb e=>?_⟩
   simp at hb
   subst hb
   subst e
   exact h3 ha
  ·rcases List.mem_append.1 hy with hy | hy
   ·rcases hT.s1.rt y hy with e | ⟨w,hw,e⟩
    ·exact .inl e
    ·exact .inr ⟨w,hmem w hw,e⟩
   ·rw [List.mem_singleton] at hy; subst hy
    rcases hrt with e | ⟨w,hw,e⟩
    ·exact .inl e
    ·exact .inr ⟨w,hmem w hw,e⟩
 have hpx : Pth (E ++ [x]) x.id (x.id :: q).reverse:=by
  rcases hq with rfl | ⟨t,rfl⟩
  ·rcases h1 with h1 | h1
   ·exact absurd rfl h1
   ·exact .root hxm h1
  ·rcases hS with ⟨_,h⟩ | ⟨E',y,rfl,hp⟩
   ·rw [h] at hmq
    exact absurd hmq.symm (by simp)
   ·rw [hmq] at hp
    have:=hp.pre (q:=t.reverse) (y:=x.af) (r:=m.reverse) (by simp)
    have:=Pth.step hxm (this.mono hmem)
    simpa using this
 refine ⟨?_,.inr ⟨E,x,rfl,hpx⟩⟩
 have hT' : Txt (E ++ []):=by rw [List.append_nil]; exact hT
 have:=hT'.ins (R:=[x]) (by rw [List.append_nil]; exact hs1) (fun a ha r hr=>?_) (List.pairwise_singleton _ _) (fun r hr b hb=>absurd hb (by simp))
 ·rwa [List.append_nil] at this
 ·rw [List.mem_singleton] at hr; subst hr
  rw [List.append_nil]
  rcases hS with ⟨rfl,h⟩ | ⟨E',y,rfl,hp⟩
  ·exact absurd ha (by simp)
  ·have hyx : Ah (E' ++ [y] ++ [r]) y r:=by
    refine ⟨_,_,hp.mono hmem,hpx, ?_⟩
    rw [hmq,List.reverse_append,List.reverse_cons]
    rcases zDG m with rfl | ⟨m',e,rfl⟩
    ·rw [List.reverse_nil,List.append_nil]; exact zEC _ _ _
    ·rw [List.reverse_append]
     have hle : (m' ++ [e]).getLast?.getD Eid.z = e:=by simp
     rw [hle] at h2
     have hez : e ≠ Eid.z:=hpos e (by rw [hmq]; simp)
     rcases h2 with h2 | h2
     ·exact absurd h2 hez
     ·exact zL3 _ _ _ h2
   rcases List.mem_append.1 ha with ha | ha
   ·have:=(List.pairwise_append.1 hT.pw).2.2 a ha y List.mem_cons_self
    exact (this.mono hmem).trans hs1 hyx
   ·rw [List.mem_singleton] at ha; subst ha; exact hyx
theorem zHE : ∀ {c p q : List Eid},ahd (c ++ p) (c ++ q) → ahd p q
 | [],_,_,h=>h
 | a :: c,p,q,h=>by
  rcases h with h | ⟨_,h⟩
  ·rw [zKE] at h; cases h
  ·exact zHE h
theorem Txt.pre {E : List El} {x : El} (h : Txt (E ++ [x])) : Txt E:=by
 have hmem : ∀ y ∈ E,y ∈ E ++ [x]:=fun y hy=>List.mem_append_left _ hy
 have hxm : x ∈ E ++ [x]:=List.mem_append_right _ List.mem_cons_self
 have hp:=List.pairwise_append.1 h.pw
 have hcl : ∀ y ∈ E,y.af ≠ x.id:=fun y hy e=>by
  have h1:=hp.2.2 y hy x List.mem_cons_self
  obtain ⟨p,hpx⟩:=h.s1.path hxm
  have hpx':=hpx
  rw [← e] at hpx'
  have h2 : Ah (E ++ [x]) x y:=⟨_,_,hpx,.step (hmem y hy) hpx',zEC _ _ _⟩
  exact Ah.irr h.s1 x (h2.trans h.s1 h1)
 have hs : Set1 E:=by
  refine ⟨?_,fun y hy=>h.s1.ct y (hmem y hy),fun y hy=>?_⟩
  ·have:=h.s1.nd
   rw [List.map_append,List.nodup_append] at this
   exact this.1
  ·rcases h.s1.rt y (hmem y hy) with e | ⟨w,hw,e⟩
   ·exact .inl e
   ·rcases List.mem_append.1 hw with hw | hw
    ·exact .inr ⟨w,hw,e⟩
    ·rw [List.mem_singleton] at hw; subst hw
     exact absurd e.symm (hcl y hy)
 refine ⟨hs,List.Pairwise.imp_of_mem (fun {a b} ha hb k=>?_) hp.1⟩
 obtain ⟨p,q,k1,k2,k⟩:=k
 obtain ⟨p',hp'⟩:=hs.path ha
 obtain ⟨q',hq'⟩:=hs.path hb
 rw [(hp'.mono hmem).fn h.s1 k1] at hp'
 rw [(hq'.mono hmem).fn h.s1 k2] at hq'
 exact ⟨p,q,hp',hq',k⟩
theorem zbJ (E : List El) : Txt E → Ord (prs E) ∧ Stk E (stk (prs E)):=by
 refine zCP (P:=fun E=>Txt E → Ord (prs E) ∧ Stk E (stk (prs E))) (fun _=>⟨Ord.nil,.inl ⟨rfl,rfl⟩⟩) (fun E x ih hT=>?_) E
 have he : prs (E ++ [x]) = prs E ++ [(x.id,x.af)]:=by simp [prs]
 rw [he]
 have hE:=hT.pre
 obtain ⟨hO,hS⟩:=ih hE
 have hmem : ∀ y ∈ E,y ∈ E ++ [x]:=fun y hy=>List.mem_append_left _ hy
 have hxm : x ∈ E ++ [x]:=List.mem_append_right _ List.mem_cons_self
 have hpos:=hS.pos hE.s1
 have hps:=List.pairwise_append.1 hT.pw
 have hnx : x.id ∉ E.map (·.id):=by
  have:=hT.s1.nd
  rw [List.map_append,List.nodup_append] at this
  exact fun k=>this.2.2 _ k x.id (by simp) rfl
 have key : ∃ m q,stk (prs E) = m ++ q ∧ (∀ t ∈ m,t ≠ x.af) ∧ ((q = [] ∧ x.af = Eid.z) ∨ ∃ t,q = x.af :: t) ∧ (m = [] ∨ x.id.less (m.getLast?.getD Eid.z) = true) ∧ Pth (E ++ [x]) x.id (q.reverse ++ [x.id]):=by
  rcases hT.s1.rt x hxm with e | ⟨w,hw,e⟩
  ·refine ⟨stk (prs E),[],by simp,fun t ht=>e ▸ hpos t ht,.inl ⟨rfl,e⟩, ?_,.root hxm e⟩
   rcases hS with ⟨rfl,h⟩ | ⟨E',y,rfl,hp⟩
   ·exact .inl h
   ·right
    obtain ⟨p,q,k1,k2,k⟩:=hps.2.2 y (List.mem_append_right _ List.mem_cons_self) x List.mem_cons_self
    rw [(hp.mono hmem).fn hT.s1 k1 |>.symm,k2.fn hT.s1 (.root hxm e)] at k
    generalize stk (prs (E' ++ [y])) = s at *
    rcases zDG s with rfl | ⟨s',a,rfl⟩
    ·obtain ⟨z,hz⟩:=hp.last
     exact absurd hz (by simp)
    ·rw [List.reverse_append] at k
     simp only [List.reverse_cons,List.reverse_nil,List.nil_append,List.singleton_append] at k
     rcases k with k | ⟨_,k⟩
     ·simpa using k
     ·exact absurd k (zR5 _)
  ·have hwE : w ∈ E:=by
    rcases List.mem_append.1 hw with h | h
    ·exact h
    ·rw [List.mem_singleton] at h; subst h
     have:=hT.s1.ct w hxm
     rw [e] at this
     omega
   obtain ⟨pw,hpw⟩:=hT.s1.path hw
   have hpx : Pth (E ++ [x]) x.id (pw ++ [x.id]):=.step hxm (e ▸ hpw)
   rcases hS with ⟨rfl,h⟩ | ⟨E',y,rfl,hp⟩
   ·exact absurd hwE (by simp)
   ·have hyx:=hps.2.2 y (List.mem_append_right _ List.mem_cons_self) x List.mem_cons_self
    obtain ⟨p,q,k1,k2,k⟩:=hyx
    rw [(hp.mono hmem).fn hT.s1 k1 |>.symm,k2.fn hT.s1 hpx] at k
    have hpm:=hp.mono hmem
    generalize hsp : stk (prs (E' ++ [y])) = s at *
    have hpre : ∃ r,s.reverse = pw ++ r:=by
     rcases List.mem_append.1 hwE with h | h
     ·obtain ⟨p',q',j1,j2,j⟩:=(List.pairwise_append.1 hE.pw).2.2 w h y List.mem_cons_self
      rw [(j1.mono hmem).fn hT.s1 hpw,(j2.mono hmem).fn hT.s1 hpm] at j
      rcases zJN j with ⟨b,r,e2⟩ | ⟨c,a,b,s1,t1,e1,e2,hl⟩
      ·exact ⟨_,e2⟩
      ·rw [e1,e2,List.append_assoc] at k
       have k:=zHE k
       rcases k with k | ⟨k,_⟩
       ·rw [zSZ hl] at k; cases k
       ·rw [k,zKE] at hl; cases hl
     ·rw [List.mem_singleton] at h; subst h
      exact ⟨[],by rw [hpm.fn hT.s1 hpw]; simp⟩
    obtain ⟨r,hr⟩:=hpre
    obtain ⟨p0,hp0⟩:=hpw.last
    rw [e] at hp0
    have hs : s = r.reverse ++ pw.reverse:=by rw [← List.reverse_append,← hr,List.reverse_reverse]
    refine ⟨r.reverse,pw.reverse,hs,fun t ht et=>?_,.inr ⟨p0.reverse,by rw [hp0]; simp⟩, ?_,by rw [List.reverse_reverse]; exact hpx⟩
    ·subst et
     obtain ⟨a1,b1,e1⟩:=List.append_of_mem (List.mem_reverse.1 ht)
     have g1:=hpm.pre (q:=p0) (y:=x.af) (r:=r) (by rw [hr,hp0]; simp)
     have g2:=hpm.pre (q:=pw ++ a1) (y:=x.af) (r:=b1) (by rw [hr,e1]; simp)
     have g3:=congrArg List.length (g1.fn hT.s1 g2)
     rw [hp0] at g3
     simp at g3
    ·rw [hr] at k
     cases r with
     | nil=>exact .inl rfl
     | cons a r =>
      right
      have k:=zHE k
      rcases k with k | ⟨_,k⟩
      ·simpa using k
      ·exact absurd k (zR5 _)
 obtain ⟨m,q,hmq,hm,hq,hl,hp⟩:=key
 have hpe:=zID (el:=Eid.z) (q:=q) hm (hq.elim (fun h => .inl h.1) .inr)
 rw [← hmq] at hpe
 refine ⟨hO.snoc ?_, ?_⟩
 ·unfold ordS
  rw [hpe,zTN]
  simp only [Bool.not_eq_true',Bool.or_eq_false_iff,Bool.and_eq_false_iff,Bool.not_eq_false',decide_eq_false_iff_not,decide_eq_true_eq]
  refine ⟨⟨?_, ?_⟩,hnx⟩
  ·rcases hq with ⟨_,h⟩ | ⟨t,rfl⟩
   ·exact .inr h
   ·exact .inl (by simp)
  ·rcases hl with rfl | h
   ·exact .inl rfl
   ·exact .inr h
 ·rw [zE8,hpe]
  exact .inr ⟨E,x,rfl,by simpa using hp⟩
theorem zTI {E : List El} (h : ∀ x ∈ E,x.af.c < x.id.c ∧ 0 < x.id.c) : Ord (prs E) ↔ Txt E:=⟨fun k=>(zaS E h k).1,fun k=>(zbJ E k).1⟩
end Go.Proofs.YtakefgebklfhpaaGreat
namespace Go.Proofs.YtakefgebklfhpaaGreat
open Go Go.Ax
def Chn : Eid → List El → Prop
 | _,[]=>True
 | a,x :: R=>x.af = a ∧ a.c < x.id.c ∧ Chn x.id R
theorem Chn.path {F : List El} : ∀ {R : List El} {a : Eid} {p : List Eid},Chn a R → (∀ x ∈ R,x ∈ F) → ((a = Eid.z ∧ p = []) ∨ Pth F a p) → ∀ x ∈ R,∃ q,Pth F x.id (p ++ q) ∧ ∀ y R',R = y :: R' → ∃ q',q = y.id :: q'
 | [],_,_,_,_,_=>fun x hx=>absurd hx (by simp)
 | y :: R,a,p,hC,hm,ha=>by
  intro x hx
  obtain ⟨h1,h2,h3⟩:=hC
  have hy : Pth F y.id (p ++ [y.id]):=by
   have hym:=hm y List.mem_cons_self
   rcases ha with ⟨rfl,rfl⟩ | ha
   ·exact .root hym h1
   ·exact .step hym (h1 ▸ ha)
  rcases List.mem_cons.1 hx with rfl | hx
  ·exact ⟨[x.id],hy,fun y' R' e=>by injection e with e1 e2; subst e1; exact ⟨[],rfl⟩⟩
  ·obtain ⟨q,hq,_⟩:=Chn.path h3 (fun x hx=>hm x (List.mem_cons_of_mem _ hx)) (.inr hy) x hx
   rw [List.append_assoc] at hq
   exact ⟨_,hq,fun y' R' e=>by injection e with e1 e2; subst e1; exact ⟨q,rfl⟩⟩
theorem Chn.pw {F : List El} : ∀ {R : List El} {a : Eid} {p : List Eid},Chn a R → (∀ x ∈ R,x ∈ F) → ((a = Eid.z ∧ p = []) ∨ Pth F a p) → R.Pairwise (Ah F)
 | [],_,_,_,_,_ => .nil
 | y :: R,a,p,hC,hm,ha=>by
  obtain ⟨h1,h2,h3⟩:=hC
  have hy : Pth F y.id (p ++ [y.id]):=by
   have hym:=hm y List.mem_cons_self
   rcases ha with ⟨rfl,rfl⟩ | ha
   ·exact .root hym h1
   ·exact .step hym (h1 ▸ ha)
  refine List.pairwise_cons.2 ⟨fun x hx=>?_,Chn.pw h3 (fun x hx=>hm x (List.mem_cons_of_mem _ hx)) (.inr hy)⟩
  obtain ⟨q,hq,hh⟩:=Chn.path h3 (fun x hx=>hm x (List.mem_cons_of_mem _ hx)) (.inr hy) x hx
  cases R with
  | nil=>exact absurd hx (by simp)
  | cons w R =>
   obtain ⟨q',rfl⟩:=hh w R rfl
   exact ⟨_,_,hy,hq,zEC _ _ _⟩
theorem Chn.grow : ∀ {R : List El} {a : Eid},Chn a R → ∀ x ∈ R,a.c < x.id.c
 | [],_,_=>fun x hx=>absurd hx (by simp)
 | y :: R,a,hC=>fun x hx=>by
  obtain ⟨h1,h2,h3⟩:=hC
  rcases List.mem_cons.1 hx with rfl | hx
  ·exact h2
  ·have:=h3.grow x hx
   omega
theorem Chn.ct : ∀ {R : List El} {a : Eid},Chn a R → 0 ≤ a.c → ∀ x ∈ R,x.af.c < x.id.c ∧ 0 < x.id.c
 | [],_,_,_=>fun x hx=>absurd hx (by simp)
 | y :: R,a,hC,ha=>fun x hx=>by
  obtain ⟨h1,h2,h3⟩:=hC
  rcases List.mem_cons.1 hx with rfl | hx
  ·rw [h1]; omega
  ·exact h3.ct (by omega) x hx
theorem Chn.rt : ∀ {R : List El} {a : Eid},Chn a R → ∀ x ∈ R,x.af = a ∨ ∃ y ∈ R,y.id = x.af
 | [],_,_=>fun x hx=>absurd hx (by simp)
 | y :: R,a,hC=>fun x hx=>by
  obtain ⟨h1,h2,h3⟩:=hC
  rcases List.mem_cons.1 hx with rfl | hx
  ·exact .inl h1
  ·rcases h3.rt x hx with e | ⟨w,hw,e⟩
   ·exact .inr ⟨y,List.mem_cons_self,e.symm⟩
   ·exact .inr ⟨w,List.mem_cons_of_mem _ hw,e⟩
theorem Chn.nd : ∀ {R : List El} {a : Eid},Chn a R → (R.map (·.id)).Nodup
 | [],_,_=>List.nodup_nil
 | y :: R,a,hC=>by
  obtain ⟨h1,h2,h3⟩:=hC
  rw [List.map_cons,List.nodup_cons]
  refine ⟨fun h=>?_,h3.nd⟩
  obtain ⟨x,hx,e⟩:=List.mem_map.1 h
  have:=h3.grow x hx
  rw [e] at this
  omega
theorem Txt.put {A0 A1 B R : List El} {r : El} {R' : List El} (hT : Txt (A0 ++ A1 ++ B)) (hR : R = r :: R') (hC : Chn r.af R)
  (ha : (r.af = Eid.z ∧ A0 = []) ∨ ∃ A00 w,A0 = A00 ++ [w] ∧ w.id = r.af)
  (hf : ∀ x ∈ R,∀ y ∈ A0 ++ A1 ++ B,x.id ≠ y.id)
  (h1 : ∀ x ∈ A1,r.id.less x.id = true)
  (h2 : ∀ b B',B = b :: B' → r.id.less b.id = false) : Txt (A0 ++ A1 ++ R ++ B):=by
 have hrc : 0 ≤ r.af.c:=by
  rcases ha with ⟨h,_⟩ | ⟨A00,w,rfl,h⟩
  ·rw [h]; decide
  ·have:=(hT.s1.ct w (by simp)).2
   rw [h] at this
   omega
 have hrm : r ∈ R:=by rw [hR]; exact List.mem_cons_self
 have hm : ∀ x ∈ A0 ++ A1 ++ B,x ∈ A0 ++ A1 ++ R ++ B:=fun x hx=>by
  rcases List.mem_append.1 hx with h | h
  ·exact List.mem_append_left _ (List.mem_append_left _ h)
  ·exact List.mem_append_right _ h
 have hmR : ∀ x ∈ R,x ∈ A0 ++ A1 ++ R ++ B:=fun x hx=>List.mem_append_left _ (List.mem_append_right _ hx)
 have hs : Set1 (A0 ++ A1 ++ R ++ B):=by
  refine ⟨?_,fun x hx=>?_,fun x hx=>?_⟩
  ·have hn:=hT.s1.nd
   have hd : ∀ x ∈ R,x.id ∉ (A0 ++ A1 ++ B).map (·.id):=fun x hx k=>by
    obtain ⟨y,hy,e⟩:=List.mem_map.1 k
    exact hf x hx y hy e.symm
   rw [List.map_append,List.nodup_append] at hn
   rw [List.map_append,List.map_append,List.nodup_append,List.nodup_append]
   refine ⟨⟨hn.1,hC.nd,fun a ha b hb e=>?_⟩,hn.2.1,fun a ha b hb e=>?_⟩
   ·obtain ⟨x,hx,rfl⟩:=List.mem_map.1 hb
    subst e
    exact hd x hx (by rw [List.map_append]; exact List.mem_append_left _ ha)
   ·rcases List.mem_append.1 ha with ha | ha
    ·exact hn.2.2 a ha b hb e
    ·obtain ⟨x,hx,rfl⟩:=List.mem_map.1 ha
     subst e
     exact hd x hx (by rw [List.map_append]; exact List.mem_append_right _ hb)
  ·rcases List.mem_append.1 hx with h | h
   ·rcases List.mem_append.1 h with h | h
    ·exact hT.s1.ct x (List.mem_append_left _ h)
    ·exact hC.ct hrc x h
   ·exact hT.s1.ct x (List.mem_append_right _ h)
  ·have old : x ∈ A0 ++ A1 ++ B → x.af = Eid.z ∨ ∃ y ∈ A0 ++ A1 ++ R ++ B,y.id = x.af:=fun h=>by
    rcases hT.s1.rt x h with e | ⟨y,hy,e⟩
    ·exact .inl e
    ·exact .inr ⟨y,hm y hy,e⟩
   rcases List.mem_append.1 hx with h | h
   ·rcases List.mem_append.1 h with h | h
    ·exact old (List.mem_append_left _ h)
    ·rcases hC.rt x h with e | ⟨y,hy,e⟩
     ·rcases ha with ⟨h7,_⟩ | ⟨A00,w,rfl,h7⟩
      ·exact .inl (e.trans h7)
      ·exact .inr ⟨w,by simp,h7.trans e.symm⟩
     ·exact .inr ⟨y,hmR y hy,e⟩
   ·exact old (List.mem_append_right _ h)
 -- the path of the one that it names
 have hpa : ∃ p,((r.af = Eid.z ∧ p = []) ∨ Pth (A0 ++ A1 ++ R ++ B) r.af p) ∧ (∀ u ∈ p,u.c ≤ r.af.c) ∧ (∀ x ∈ A0,∀ q,Pth (A0 ++ A1 ++ R ++ B) x.id q → q = p ∨ ahd q p) ∧ (∀ x ∈ A1 ++ B,∀ q,Pth (A0 ++ A1 ++ R ++ B) x.id q → ahd p q):=by
  rcases ha with ⟨h,rfl⟩ | ⟨A00,w,rfl,h⟩
  ·refine ⟨[],.inl ⟨h,rfl⟩,(fun _ h=>absurd h (by simp)),(fun _ h=>absurd h (by simp)),fun x hx q hq=>?_⟩
   obtain ⟨q0,rfl⟩:=hq.last
   cases q0 <;> trivial
  ·have hw : w ∈ A00 ++ [w] ++ A1 ++ B:=by simp
   obtain ⟨p,hp⟩:=hT.s1.path hw
   have hpF:=hp.mono hm
   have hpw:=hT.pw
   have hpw' : (A00 ++ ([w] ++ (A1 ++ B))).Pairwise (Ah (A00 ++ [w] ++ A1 ++ B)):=by simpa using hpw
   have q1:=List.pairwise_append.1 hpw'
   have q2:=List.pairwise_append.1 q1.2.1
   refine ⟨p,.inr (h ▸ hpF),fun u hu=>?_,fun x hx q hq=>?_,fun x hx q hq=>?_⟩
   ·have:=hp.grow (fun x hx=>(hT.s1.ct x hx).1) u hu
    rw [h] at this
    exact this
   ·rcases List.mem_append.1 hx with hx | hx
    ·obtain ⟨p1,p2,k1,k2,k⟩:=q1.2.2 x hx w (by simp)
     rw [(k1.mono hm).fn hs hq,(k2.mono hm).fn hs hpF] at k
     exact .inr k
    ·rw [List.mem_singleton] at hx; subst hx
     exact .inl (hq.fn hs hpF)
   ·obtain ⟨p1,p2,k1,k2,k⟩:=q2.2.2 w (by simp) x hx
    rw [(k1.mono hm).fn hs hpF,(k2.mono hm).fn hs hq] at k
    exact k
 obtain ⟨p,hp,hpc,hA0,hAB⟩:=hpa
 have hCp:=hC.path hmR hp
 have hpr : ∀ x ∈ R,∃ q',Pth (A0 ++ A1 ++ R ++ B) x.id (p ++ r.id :: q'):=fun x hx=>by
  obtain ⟨q,hq,hh⟩:=hCp x hx
  obtain ⟨q',rfl⟩:=hh r R' hR
  exact ⟨q',hq⟩
 have hrl : r.af.c < r.id.c:=hC.grow r hrm
 refine hT.ins hs (fun a ha x hx=>?_) (hC.pw hmR hp) (fun x hx b hb=>?_)
 ·-- what stands ahead
  obtain ⟨q',hq'⟩:=hpr x hx
  have haE : a ∈ A0 ++ A1 ++ B:=List.mem_append_left _ ha
  obtain ⟨pa,hpa⟩:=hs.path (hm a haE)
  refine ⟨_,_,hpa,hq', ?_⟩
  rcases List.mem_append.1 ha with ha | ha
  ·rcases hA0 a ha pa hpa with rfl | k
   ·exact zEC _ _ _
   ·exact zED k (zEC _ _ _)
  ·-- those behind it that are greater
   have mid : ∀ e : Eid,∀ pe,Pth (A0 ++ A1 ++ R ++ B) e pe → ahd p pe → (pe = pa ∨ ahd pe pa) → (∃ y ∈ A0 ++ A1 ++ B,y.id = e) → r.id.less e = true:=by
    rintro e pe hpe k1 k2 ⟨y,hy,rfl⟩
    rcases List.mem_append.1 hy with hy | hy
    ·rcases List.mem_append.1 hy with hy | hy
     ·rcases hA0 y hy pe hpe with rfl | k
      ·exact absurd k1 (zGA _)
      ·exact absurd (zED k k1) (zGA _)
     ·exact h1 y hy
    ·have hAh:=(List.pairwise_append.1 hT.pw).2.2 a (List.mem_append_right _ ha) y hy
     obtain ⟨p1,p2,j1,j2,j⟩:=hAh
     rw [(j1.mono hm).fn hs hpa,(j2.mono hm).fn hs hpe] at j
     rcases k2 with rfl | k2
     ·exact absurd j (zGA _)
     ·exact absurd (zED j k2) (zGA _)
   -- a path of a: over elements of the old ones
   obtain ⟨pa',hpa'⟩:=hT.s1.path haE
   have hpaE : pa' = pa:=(hpa'.mono hm).fn hs hpa
   subst hpaE
   have k:=hAB a (List.mem_append_left _ ha) _ hpa
   rcases zJN k with ⟨e,t,he⟩ | ⟨c,u,w,s,t,e1,e2,hl⟩
   ·have hpe:=hpa'.pre he
    have hle : r.id.less e = true:=mid e _ (hpe.mono hm) (zEC _ _ _) (by
     cases t with
     | nil=>exact .inl he.symm
     | cons b t=>rw [he]; exact .inr (by have:=zEC (p ++ [e]) b t; simpa using this)) hpe.mem
    rw [he]
    exact zL3 _ _ _ hle
   ·have hpe:=hpa'.pre e2
    have hle : r.id.less w = true:=mid w _ (hpe.mono hm) (by rw [e1]; exact zL3 _ _ _ hl) (by
     cases t with
     | nil=>exact .inl e2.symm
     | cons b t=>rw [e2]; exact .inr (by have:=zEC (c ++ [w]) b t; simpa using this)) hpe.mem
    have:=zT0 hle
    have:=zT0 hl
    have:=hpc u (by rw [e1]; simp)
    omega
 ·-- what stands behind
  obtain ⟨q',hq'⟩:=hpr x hx
  cases B with
  | nil=>exact absurd hb (by simp)
  | cons b0 B' =>
   have hb0 : Ah (A0 ++ A1 ++ R ++ b0 :: B') x b0:=by
    have hbm : b0 ∈ A0 ++ A1 ++ b0 :: B':=by simp
    obtain ⟨pb,hpb⟩:=hT.s1.path hbm
    refine ⟨_,_,hq',hpb.mono hm, ?_⟩
    have k:=hAB b0 (by simp) _ (hpb.mono hm)
    have hlt : b0.id.less r.id = true:=by
     rcases zWL (hf r hrm b0 hbm) with h | h
     ·rw [h2 b0 B' rfl] at h; cases h
     ·exact h
    rcases zJN k with ⟨e,t,he⟩ | ⟨c,u,w,s,t,e1,e2,hl⟩
    ·rw [he]
     refine zL3 _ _ _ ?_
     rcases zDG t with rfl | ⟨t',z,rfl⟩
     ·obtain ⟨q0,e0⟩:=hpb.last
      rw [he] at e0
      have:=(List.append_inj' e0 rfl).2
      injection this with this
      rw [this]; exact hlt
     ·have hpe:=hpb.pre he
      obtain ⟨q0,e0⟩:=hpb.last
      have he2 : pb = (p ++ e :: t') ++ [z]:=by rw [he]; simp
      rw [he2] at e0
      have e3:=(List.append_inj' e0 rfl).2
      injection e3 with e3
      subst e3
      -- the one ahead of the last one of a path is lesser
      have hlast : e.c < b0.id.c:=by
       rw [he2] at hpb
       generalize hbi : b0.id = i at hpb
       generalize hpp : (p ++ e :: t') ++ [i] = pp at hpb
       cases hpb with
       | root m e4=>exact absurd (congrArg List.length hpp) (by simp; omega)
       | @step x0 p0 m kp =>
        have e5:=(List.append_inj' hpp rfl).1
        have g:=kp.grow (fun x hx=>(hT.s1.ct x hx).1) e (by rw [← e5]; simp)
        have:=(hT.s1.ct x0 m).1
        omega
      have:=zT0 hlt
      exact zLK (by omega)
    ·rw [e1,e2,List.append_assoc,List.cons_append]
     exact zL3 _ _ _ hl
   rcases List.mem_cons.1 hb with rfl | hb
   ·exact hb0
   ·have:=List.pairwise_cons.1 (List.pairwise_append.1 hT.pw).2.1
    exact hb0.trans hs ((this.1 b hb).mono hm)
end Go.Proofs.YtakefgebklfhpaaGreat
namespace Go.Proofs.YtakefgebklfhpaaGreat
open Go Go.Ax
variable {fuel : Nat} {M : Mem} {Q : AV → Mem → Prop} {d : Nat}
def zLQ (q r : Rn) : Bool:=decide (r.af = q.last) && decide (r.sp.f = (⟨r.af.hd,IntKind.i64.wrap (r.af.c + 1)⟩ : Eid))
def room (q : Rn) : Int:=IntKind.i64.wrap (64 - q.sp.n)
def addR (out : List Rn) (r : Rn) : List Rn :=
  match out.getLast? with
  | none=>out ++ [r]
  | some q=>if zLQ q r = true then
      (if r.cutE (room q) = 0 then out.set (out.length - 1) (zEJ q (r.fst (room q))) ++ [r.snd (room q)]
       else if zH3 q r = 0 then out.set (out.length - 1) (zEJ q r)
       else out ++ [r])
    else out ++ [r]
def zBO (l : List Rn) : List Rn:=l.foldl addR []
theorem zLL (l : List Rn) (r : Rn) : zBO (l ++ [r]) = addR (zBO l) r:=by simp [zBO]
theorem zO6 (out : List Rn) (r : Rn) : (addR out r).length ≤ out.length + 1:=by
 unfold addR
 split
 ·simp
 ·split
  ·split
   ·simp
   ·split <;> simp
  ·simp
theorem Rn.z_ok : Rn.z.ok:=⟨⟨Eid.z_ok,by decide,by decide⟩,Eid.z_ok,fun _ h=>by cases h⟩
theorem zFV {a b : Rn} : zH3 a b = 0 ↔ a.may = true ∧ b.may = true ∧ (a.both b).cutE a.sp.n = 0 ∧ (a.both b).fst a.sp.n = a ∧ (a.both b).snd a.sp.n = b:=by
 unfold zH3
 by_cases h : a.may = true ∧ b.may = true
 ·rw [if_pos h]
  by_cases k : (a.both b).cutE a.sp.n = 0 ∧ (a.both b).fst a.sp.n = a ∧ (a.both b).snd a.sp.n = b
  ·rw [if_pos k]; exact ⟨fun _=>⟨h.1,h.2,k⟩,fun _=>rfl⟩
  ·rw [if_neg k]; exact ⟨fun e=>(by cases e),fun e=>absurd e.2.2 k⟩
 ·rw [if_neg h]; exact ⟨fun e=>(by cases e),fun e=>absurd ⟨e.1,e.2.1⟩ h⟩
theorem zOU {a b : Rn} (ha : a.ok) (hb : b.ok) : (zEJ a b).ok:=by
 unfold zEJ
 split
 ·rename_i h
  obtain ⟨ma,mb,_⟩:=zFV.1 h
  have ba:=Spn.may_le (Rn.may_sp ma)
  have bb:=Spn.may_le (Rn.may_sp mb)
  refine ⟨⟨ha.1.1, ?_⟩,ha.2.1,fun x hx=>?_⟩
  ·show i64R (a.sp.n + b.sp.n)
   unfold i64R; omega
  ·rcases List.mem_append.1 hx with h | h
   ·exact ha.2.2 x h
   ·exact hb.2.2 x h
 ·exact Rn.z_ok
theorem zLJ (a b : Rn) : (zEJ a b).rs.length ≤ 1000:=by
 unfold zEJ
 split
 ·rename_i h
  obtain ⟨ma,mb,_⟩:=zFV.1 h
  have ba:=Spn.may_le (Rn.may_sp ma)
  have bb:=Spn.may_le (Rn.may_sp mb)
  have la:=Rn.may_len ma
  have lb:=Rn.may_len mb
  show (a.rs ++ b.rs).length ≤ _
  rw [List.length_append]; omega
 ·exact Nat.zero_le _
theorem zYD {r : Rn} {n : Int} (h : r.ok) (hc : r.cutE n = 0) : (r.fst n).ok:=by
 obtain ⟨hm,h0,h1⟩:=Rn.cutE_iff.1 hc
 have hb:=Spn.may_le (Rn.may_sp hm)
 exact ⟨⟨h.1.1,by show i64R n; unfold i64R; omega⟩,h.2.1,fun x hx=>h.2.2 x (List.mem_of_mem_take hx)⟩
theorem zZ5 {r : Rn} {n : Int} (h : r.ok) (hc : r.cutE n = 0) : (r.snd n).ok:=by
 obtain ⟨hm,h0,h1⟩:=Rn.cutE_iff.1 hc
 have hb:=Spn.may_le (Rn.may_sp hm)
 exact ⟨⟨⟨h.1.1.1,by show i64R (r.sp.f.c + n); unfold i64R; omega⟩,by show i64R (r.sp.n - n); unfold i64R; omega⟩,⟨h.1.1.1,by show i64R (r.sp.f.c + (n - 1)); unfold i64R; omega⟩,fun x hx=>h.2.2 x (List.mem_of_mem_drop hx)⟩
set_option maxHeartbeats 32000000 in
theorem zFY {a : AV} {l : List Rn} (hS : Sl 10 isRn a l) (hl : l.length ≤ 100000) (hd : ∀ r ∈ l,r.rs.length ≤ 1000000) (hf : l.length + 3000000 < fuel) : ∃ r,Sl 10 isRn r (zBO l) ∧ ∀ M,zAE Tryz.prog (fsT tbl) fuel (d + 9) (.fn 59) [a] M = some (r,M):=by
 have ll:=hS.len
 refine zFT tf59 rfl (fun M=>by simp only [icyL,fun M=>hS.icy M 12 (by omega)]) ?_
 refine zAJ tf59 rfl (by simp only [icyL,fun M=>hS.icy M 12 (by omega)]) (by simp [a59]) fun b' ht hx=>?_
 have h0:=hx 0 _ rfl
 clear hx
 simp only [a59,c59] at ht ⊢
 simp (maxSteps:=2000000) (disch:=first | omega | assumption | (simp only [DS,Nat.reduceAdd, *]; done) | (simp only [DZ]; omega)) only [RUN,RU,zA2,zA1,reduceIte,Nat.reduceEqDiff,h0,ll]
 refine zBG (I:=fun n t N => ∃ (i : Nat) (o : AV),n = l.length - i ∧ i ≤ l.length ∧ nth zA5 t 2 = o ∧ nth zA5 t 13 = a ∧ nth zA5 t 14 = I64 l.length ∧ nth zA5 t 15 = I64 i ∧ Wf N ∧ SlM N 10 isRn o (zBO (l.take i)) ∧ (zBO (l.take i)).length ≤ i ∧ (∀ q ∈ zBO (l.take i),q.rs.length ≤ 1000000)) (n:=l.length) (by omega) ?_ ?_
 ·refine ⟨0,NIL,rfl,Nat.zero_le _, ?_, ?_, ?_, ?_,Wf.mem0,SlM.nil,Nat.le_refl 0,(fun _ h=>by cases h)⟩ <;> simp (maxSteps:=2000000) (disch:=first | omega | assumption | (simp only [DS,Nat.reduceAdd, *]; done) | (simp only [DZ]; omega)) only [RUN,reduceIte,Nat.reduceEqDiff]
  all_goals first | rfl | assumption | done
 ·rintro n t N hlt ⟨i,o,rfl,hi,g2,g13,g14,g15,w,sm,bl,bd⟩
  simp only [ht] at hlt ⊢
  have oo:=sm.one
  have oc:=sm.cells
  by_cases hc : i < l.length
  ·have q1 : decide ((i : Int) < l.length) = true:=decide_eq_true (by omega)
   have w1 : IntKind.i64.wrap ((i : Int) + 1) = ((i + 1 : Nat) : Int):=by rw [wrap_i64] <;> omega
   obtain ⟨r,hiad,hr,hrl⟩:=hS.iad i hc
   have hts:=zLL (l.take i) l[i]
   rw [← zBL l i hc] at hts
   have hal:=zO6 (zBO (l.take i)) l[i]
   have hde:=hd l[i] (List.getElem_mem hc)
   generalize l[i] = e at *
   generalize zBO (l.take i) = out at *
   obtain ⟨ra,rfl,hra,hok⟩:=hr
   have ora:=hra.one
   have olen:=sm.len
   have rlo : ∀ m,N.size ≤ m → ((rowsOf o).all fun i=>Nat.blt i m) = true:=fun m h=>zAT sm.rl h
   obtain ⟨rt,hrt,htw⟩:=zIP (fuel:=fuel) (d:=d + 6) hra (by omega)
   have ort:=hrt.one
   by_cases hz : out.length = 0
   ·have ho : out = []:=List.eq_nil_of_length_eq_zero hz
    subst ho
    have olen' : ∀ N,lenO N o = some (I64 0,N):=olen
    have w2 : IntKind.i64.wrap (-1) = -1:=by decide
    have q2 : decide ((0 : Int) ≤ -1) = false:=by decide
    have eA : addR [] e = [] ++ [e]:=rfl
    rw [eA] at hts hal
    simp (maxSteps:=2000000) (disch:=first | omega | assumption | (simp only [DS,Nat.reduceAdd, *]; done) | (simp only [DZ]; omega)) only [RUN,RU,zA2,zA1,slot,lay,zAI,zAB,reduceIte,Nat.reduceEqDiff,Nat.reduceBEq,Nat.reduceAdd,Int.reduceLE,Int.reduceSub,g2,g13,g14,g15,q1,hiad,rlo,olen',w2,htw]
    refine app1 (bytes:=80) (x:=e) ((w.add _).upd _ _) (sm.keep fun j hj=>?_) zCZ ⟨rt,rfl,hrt,hok⟩ rfl (by omega) (by simp) (by simp) fun o' M' sm' w' le' kp nw wm' rl on oc'=>?_
    ·have:=sm.lt j hj
     rw [zA4 (w.add _) _ _ _ (by omega),zAF w _ _ this]
    simp (maxSteps:=2000000) (disch:=first | omega | assumption | (simp only [DS,Nat.reduceAdd, *]; done) | (simp only [DZ]; omega)) only [RUN,RU,zA2,zA1,reduceIte,Nat.reduceEqDiff,g2,g13,g14,g15,w1]
    refine ⟨hlt,l.length - (i + 1),by omega,i + 1,o',rfl,by omega,rfl,rfl,w',by rw [hts]; exact sm',by rw [hts]; simp,fun q hq=>?_⟩
    rw [hts] at hq
    simp at hq
    subst hq
    exact hde
   ·obtain ⟨n,hn⟩ : ∃ n : Nat,out.length = n + 1:=⟨out.length - 1,by omega⟩
    have hnl : n < out.length:=by omega
    have w2 : IntKind.i64.wrap ((out.length : Int) - 1) = (n : Int):=by rw [wrap_i64] <;> omega
    have q2 : decide ((0 : Int) ≤ (n : Int)) = true:=decide_eq_true (by omega)
    obtain ⟨id,cs,r,hrow,lid,hg,hcs,hoad,hr2,hrl2,hpt,hgt,hpp,hset⟩:=sm.atS hnl
    have hgl : out.getLast? = some out[n]:=by rw [List.getLast?_eq_getElem?,hn,Nat.add_sub_cancel,List.getElem?_eq_getElem hnl]
    have hqd:=bd out[n] (List.getElem_mem hnl)
    have hon1 : out.length - 1 = n:=by omega
    unfold addR at hts hal
    rw [hgl] at hts hal
    simp only [hon1] at hts hal
    generalize out[n] = q at *
    obtain ⟨rq,rfl,hrq,hqok⟩:=hr2
    have orq:=hrq.one
    have hla:=fun M=>@zWI fuel (d + 2) q rq hrq hqok M
    have idN : id ≠ N.size:=by omega
    have hn10 : (n : Nat) * 10 + 10 ≤ cs.length:=by omega
    have fin : ∀ (x : Rn) (o' : AV) (M' : Mem),zBO (l.take (i + 1)) = out ++ [x] → x = e → SlM M' 10 isRn o' (out ++ [x]) → Wf M' → Wf M' ∧ SlM M' 10 isRn o' (zBO (l.take (i + 1))) ∧ (zBO (l.take (i + 1))).length ≤ i + 1 ∧ ∀ q ∈ zBO (l.take (i + 1)),q.rs.length ≤ 1000000:=by
     intro x o' M' h1 h2 h3 h4
     subst h2
     rw [h1]
     refine ⟨h4,h3,by simp; omega,fun q hq=>?_⟩
     rcases List.mem_append.1 hq with h | h
     ·exact bd q h
     ·rw [List.mem_singleton] at h; subst h; exact hde
    cases c1 : zLQ q e with
    | false =>
     rw [c1] at hts hal
     simp only [Bool.false_eq_true,if_false] at hts hal
     unfold zLQ at c1
     cases c2 : decide (e.af = q.last) with
     | false =>
      simp (maxSteps:=2000000) (disch:=first | omega | assumption | (simp only [DS,Nat.reduceAdd, *]; done) | (simp only [DZ]; omega)) only [RUN,RU,zA2,zA1,slot,lay,zAI,zAB,reduceIte,Nat.reduceEqDiff,Nat.reduceBEq,Nat.reduceAdd,g2,g13,g14,g15,q1,hiad,rlo,olen,w2,q2,htw,hoad,hg,hpt,hla,↓pIdE,zAW,ETA,c2]
      refine app1 (bytes:=80) (x:=e) ((w.add _).upd _ _) (sm.keep fun j hj=>?_) zCZ ⟨rt,rfl,hrt,hok⟩ rfl (by omega) (by omega) (by omega) fun o' M' sm' w' le' kp nw wm' rl on oc'=>?_
      ·have:=sm.lt j hj
       rw [zA4 (w.add _) _ _ _ (by omega),zAF w _ _ this]
      simp (maxSteps:=2000000) (disch:=first | omega | assumption | (simp only [DS,Nat.reduceAdd, *]; done) | (simp only [DZ]; omega)) only [RUN,RU,zA2,zA1,reduceIte,Nat.reduceEqDiff,g2,g13,g14,g15,w1]
      exact ⟨hlt,l.length - (i + 1),by omega,i + 1,o',rfl,by omega,rfl,rfl,fin e o' M' hts rfl sm' w'⟩
     | true =>
      rw [c2,Bool.true_and] at c1
      simp (maxSteps:=2000000) (disch:=first | omega | assumption | (simp only [DS,Nat.reduceAdd, *]; done) | (simp only [DZ]; omega)) only [RUN,RU,zA2,zA1,slot,lay,zAI,zAB,reduceIte,Nat.reduceEqDiff,Nat.reduceBEq,Nat.reduceAdd,g2,g13,g14,g15,q1,hiad,rlo,olen,w2,q2,htw,hoad,hg,hpt,hla,↓pIdE,zAW,ETA,c2,c1]
      refine app1 (bytes:=80) (x:=e) ((w.add _).upd _ _) (sm.keep fun j hj=>?_) zCZ ⟨rt,rfl,hrt,hok⟩ rfl (by omega) (by omega) (by omega) fun o' M' sm' w' le' kp nw wm' rl on oc'=>?_
      ·have:=sm.lt j hj
       rw [zA4 (w.add _) _ _ _ (by omega),zAF w _ _ this]
      simp (maxSteps:=2000000) (disch:=first | omega | assumption | (simp only [DS,Nat.reduceAdd, *]; done) | (simp only [DZ]; omega)) only [RUN,RU,zA2,zA1,reduceIte,Nat.reduceEqDiff,g2,g13,g14,g15,w1]
      exact ⟨hlt,l.length - (i + 1),by omega,i + 1,o',rfl,by omega,rfl,rfl,fin e o' M' hts rfl sm' w'⟩
    | true =>
     rw [c1] at hts hal
     simp only [if_true] at hts hal
     unfold zLQ at c1
     simp only [Bool.and_eq_true] at c1
     obtain ⟨c1,c2⟩:=c1
     obtain ⟨v,⟨ca,cb,rfl,hca,hcb⟩,hcut⟩:=zGM (fuel:=fuel) (d:=d + 1) (n:=room q) hra (by omega)
     have oca:=hca.one
     have ocb:=hcb.one
     have hpn:=hgt 4 (by omega)
     have hnx : decide (e.sp.f = (⟨e.af.hd,IntKind.i64.wrap (e.af.c + 1)⟩ : Eid)) = true:=c2
     have wA : ∀ (M : Mem) p q,Wf M → Wf ((M.add p).upd M.size q):=fun M p q h=>(h.add p).upd _ _
     have hzR : (rnR (⟨⟨Eid.z,0⟩,Eid.z,[]⟩ : Rn) NIL).length = 10:=rfl
     by_cases q3 : e.cutE (room q) = 0
     ·have q3' : decide (e.cutE (room q) = 0) = true:=decide_eq_true q3
      have eA : e.cutA (room q) = e.fst (room q):=by unfold Rn.cutA; rw [if_pos q3]
      have eB : e.cutB (room q) = e.snd (room q):=by unfold Rn.cutB; rw [if_pos q3]
      simp only [q3,if_true] at hts hal
      rw [eA] at hca hcut
      rw [eB] at hcb hcut
      have okA:=zYD hok q3
      have okB:=zZ5 hok q3
      have lA : (e.fst (room q)).rs.length ≤ 1000000:=by simp only [Rn.fst,List.length_take]; omega
      have lB : (e.snd (room q)).rs.length ≤ 1000000:=by simp only [Rn.snd,List.length_drop]; omega
      have hjl:=zLJ q (e.fst (room q))
      have hjok:=zOU hqok okA
      obtain ⟨v2,⟨jr,rfl,hjr⟩,hjoin⟩:=zIO (fuel:=fuel) (d:=d) hrq hca hqok okA hqd lA (by omega)
      obtain ⟨bt,hbt,hbw⟩:=zIP (fuel:=fuel) (d:=d + 6) hcb (by omega)
      have ojr:=hjr.one
      have obt:=hbt.one
      generalize e.fst (room q) = eF at *
      generalize e.snd (room q) = eS at *
      generalize zEJ q eF = jj at *
      unfold room at hcut q3 q3'
      clear hpp
      simp (maxSteps:=2000000) (disch:=first | omega | assumption | (simp only [DS,Nat.reduceAdd, *]; done) | (simp only [DZ]; omega)) only [RUN,RU,zA2,zA1,slot,lay,zAI,zAB,reduceIte,Nat.reduceEqDiff,Nat.reduceBEq,Nat.reduceAdd,g2,g13,g14,g15,q1,hiad,rlo,olen,w2,q2,hoad,hg,hpt,hla,↓pIdE,zAW,ETA,c1,hnx,hpn,hcut,q3',hjoin,hbw]
      have hidn1 : id ≠ N.size + 1:=by omega
      have hidn2 : id ≠ N.size + 1 + 1:=by omega
      refine app1 (bytes:=80) (x:=eS) (by simp (maxSteps:=2000000) (disch:=first | omega | assumption | (simp only [DS,Nat.reduceAdd, *]; done) | (simp only [DZ]; omega)) only [RUN,w]) (hset (rnR jj jr) jj ⟨jr,rfl,hjr,hjok⟩ rfl _ ?hgX) zCZ ⟨bt,rfl,hbt,okB⟩ rfl (by omega) (by rw [List.length_set]; omega) (by rw [List.length_set]; omega) fun o' M' sm' w' le' kp nw wm' rl on oc'=>?mainX
      case hgX=>simp (maxSteps:=2000000) (disch:=first | omega | assumption | (simp only [DS,Nat.reduceAdd, *]; done) | (simp only [DZ]; omega)) only [RUN,RU,lay,Nat.reduceAdd]
      case mainX =>
       simp (maxSteps:=2000000) (disch:=first | omega | assumption | (simp only [DS,Nat.reduceAdd, *]; done) | (simp only [DZ]; omega)) only [RUN,RU,zA2,zA1,reduceIte,Nat.reduceEqDiff,g2,g13,g14,g15,w1]
       refine ⟨hlt,l.length - (i + 1),by omega,i + 1,o',rfl,by omega,rfl,rfl,w',by rw [hts]; exact sm',by rw [hts]; simp; omega,fun q' hq=>?_⟩
       rw [hts] at hq
       rcases List.mem_append.1 hq with h | h
       ·rcases List.mem_or_eq_of_mem_set h with h | rfl
        ·exact bd q' h
        ·omega
       ·rw [List.mem_singleton] at h; subst h; exact lB
     ·have q3' : decide (e.cutE (room q) = 0) = false:=decide_eq_false q3
      simp only [q3,if_false] at hts hal
      have hjl:=zLJ q e
      have hjok:=zOU hqok hok
      obtain ⟨v2,⟨jr,rfl,hjr⟩,hjoin⟩:=zIO (fuel:=fuel) (d:=d) hrq hra hqok hok hqd hde (by omega)
      have ojr:=hjr.one
      have hidn1 : id ≠ N.size + 1:=by omega
      have hidn2 : id ≠ N.size + 1 + 1:=by omega
      have hidn3 : id ≠ N.size + 1 + 1 + 1:=by omega
      generalize zEJ q e = jj at *
      unfold room at q3 q3'
      generalize e.cutA (room q) = eF at *
      generalize e.cutB (room q) = eS at *
      unfold room at hcut
      clear hpp
      by_cases q4 : zH3 q e = 0
      ·have q4' : decide (zH3 q e = 0) = true:=decide_eq_true q4
       simp only [q4,if_true] at hts hal
       simp (maxSteps:=2000000) (disch:=first | omega | assumption | (simp only [DS,Nat.reduceAdd, *]; done) | (simp only [DZ]; omega)) only [RUN,RU,zA2,zA1,slot,lay,zAI,reduceIte,Nat.reduceEqDiff,Nat.reduceBEq,Nat.reduceAdd,g2,g13,g14,g15,q1,hiad,w,olen,w2,q2,hoad,hg,hpt,hla,↓pIdE,zAW,ETA,c1,hnx,hpn,hcut,q3',hjoin,q4',w1]
       refine ⟨hlt,l.length - (i + 1),by omega,i + 1,o,rfl,by omega,rfl,by simp (maxSteps:=2000000) (disch:=first | omega | assumption | (simp only [DS,Nat.reduceAdd, *]; done) | (simp only [DZ]; omega)) only [], ?_,by rw [hts]; simp; omega,fun q' hq=>?_⟩
       ·rw [hts]
        refine hset (rnR jj jr) jj ⟨jr,rfl,hjr,hjok⟩ rfl _ ?_
        simp (maxSteps:=2000000) (disch:=first | omega | assumption | (simp only [DS,Nat.reduceAdd, *]; done) | (simp only [DZ]; omega)) only [RUN,RU,lay,Nat.reduceAdd]
       ·rw [hts] at hq
        rcases List.mem_or_eq_of_mem_set hq with h | rfl
        ·exact bd q' h
        ·omega
      ·have q4' : decide (zH3 q e = 0) = false:=decide_eq_false q4
       simp only [q4,if_false] at hts hal
       simp (maxSteps:=2000000) (disch:=first | omega | assumption | (simp only [DS,Nat.reduceAdd, *]; done) | (simp only [DZ]; omega)) only [RUN,RU,zA2,zA1,slot,lay,zAI,zAB,reduceIte,Nat.reduceEqDiff,Nat.reduceBEq,Nat.reduceAdd,g2,g13,g14,g15,q1,hiad,rlo,olen,w2,q2,htw,hoad,hg,hpt,hla,↓pIdE,zAW,ETA,c1,hnx,hpn,hcut,q3',hjoin,q4']
       refine app1 (bytes:=80) (x:=e) (by simp (maxSteps:=2000000) (disch:=first | omega | assumption | (simp only [DS,Nat.reduceAdd, *]; done) | (simp only [DZ]; omega)) only [RUN,w]) (sm.keep fun j hj=>?_) zCZ ⟨rt,rfl,hrt,hok⟩ rfl (by omega) (by omega) (by omega) fun o' M' sm' w' le' kp nw wm' rl on oc'=>?_
       ·have:=sm.lt j hj
        simp (maxSteps:=2000000) (disch:=first | omega | assumption | (simp only [DS,Nat.reduceAdd, *]; done) | (simp only [DZ]; omega)) only [RUN]
       simp (maxSteps:=2000000) (disch:=first | omega | assumption | (simp only [DS,Nat.reduceAdd, *]; done) | (simp only [DZ]; omega)) only [RUN,RU,zA2,zA1,reduceIte,Nat.reduceEqDiff,g2,g13,g14,g15,w1]
       exact ⟨hlt,l.length - (i + 1),by omega,i + 1,o',rfl,by omega,rfl,rfl,fin e o' M' hts rfl sm' w'⟩
  ·obtain rfl : i = l.length:=by omega
   have q1 : decide ((l.length : Int) < l.length) = false:=decide_eq_false (by omega)
   rw [List.take_length] at sm
   obtain ⟨ro,hro,hfr⟩:=zG7 sm zCZ.cel 12 (by omega)
   have hfr:=hfr N (fun _ _=>rfl)
   simp (maxSteps:=2000000) (disch:=first | omega | assumption | (simp only [DS,Nat.reduceAdd, *]; done) | (simp only [DZ]; omega)) only [RUN,RU,zA2,zA1,zA0,zAA,frzL,reduceIte,Nat.reduceEqDiff,g2,g14,g15,hfr]
   exact ⟨_,hro,rfl⟩
end Go.Proofs.YtakefgebklfhpaaGreat
namespace Go.Proofs.YtakefgebklfhpaaGreat
open Go Go.Ax
def Rn.elR (r : Rn) : List El:=(List.range r.sp.n.toNat).map fun (i : Nat)=>⟨r.sp.at i,r.afAt i,r.rs.getD i 0⟩
def elsR (l : List Rn) : List El:=l.flatMap Rn.elR
theorem zEP (l m : List Rn) : elsR (l ++ m) = elsR l ++ elsR m:=by simp [elsR]
theorem zCS (l : List Rn) (r : Rn) : elsR (l ++ [r]) = elsR l ++ r.elR:=by simp [elsR]
theorem zb0 (r : Rn) : prs r.elR = r.els:=by simp [prs,Rn.elR,Rn.els,Function.comp_def]
theorem zKM (l : List Rn) : prs (elsR l) = elsL l:=by
 induction l with
 | nil=>rfl
 | cons r l ih =>
  have : elsR (r :: l) = r.elR ++ elsR l:=by simp [elsR]
  rw [this]
  unfold prs at *
  rw [List.map_append,ih]
  have:=zb0 r
  unfold prs at this
  rw [this]
  simp [elsL]
theorem zB8 (r : Rn) : r.elR.length = r.sp.n.toNat:=by simp [Rn.elR]
theorem zBQ (r : Rn) (i : Nat) (h : i < r.elR.length) : r.elR[i] = ⟨r.sp.at i,r.afAt i,r.rs.getD i 0⟩:=by simp [Rn.elR]
def goes (q : Rn) (x : El) : Bool:=decide (q.sp.n < 64) && decide (x.af = q.sp.at (q.sp.n - 1)) && decide (x.id = q.sp.at q.sp.n)
def one (x : El) : Rn:=⟨⟨x.id,1⟩,x.af,[x.ch]⟩
def more (q : Rn) (x : El) : Rn:=⟨⟨q.sp.f,q.sp.n + 1⟩,q.af,q.rs ++ [x.ch]⟩
def addX (out : List Rn) (x : El) : List Rn :=
 match out.getLast? with
 | none=>out ++ [one x]
 | some q=>if goes q x then out.set (out.length - 1) (more q x) else out ++ [one x]
theorem zPJ {α : Type} (o : List α) (q x : α) : (o ++ [q]).set ((o ++ [q]).length - 1) x = o ++ [x]:=by simp
theorem zJM (x : El) : addX [] x = [one x]:=rfl
theorem zDM (o : List Rn) (q : Rn) (x : El) : addX (o ++ [q]) x = if goes q x then o ++ [more q x] else o ++ [q] ++ [one x]:=by
 unfold addX
 rw [List.getLast?_concat]
 simp only [zPJ]
theorem zR3 (o : List Rn) (q r : Rn) : addR (o ++ [q]) r = if zLQ q r = true then (if r.cutE (room q) = 0 then o ++ [zEJ q (r.fst (room q))] ++ [r.snd (room q)] else if zH3 q r = 0 then o ++ [zEJ q r] else o ++ [q] ++ [r]) else o ++ [q] ++ [r]:=by
 unfold addR
 rw [List.getLast?_concat]
 simp only [zPJ]
def zCY (E : List El) : List Rn:=E.foldl addX []
theorem at_at (s : Spn) (a b n : Int) : (⟨s.at a,n⟩ : Spn).at b = s.at (a + b):=by
 simp only [Spn.at]
 rw [Int.add_assoc]
theorem zU8 {r : Rn} {k : Nat} (hk : 0 < k) : (r.snd k).elR = r.elR.drop k:=by
 apply List.ext_getElem
 ·rw [List.length_drop,zB8,zB8]
  simp only [Rn.snd]; omega
 ·intro i h1 h2
  rw [List.getElem_drop,zBQ,zBQ]
  have e1 : (r.snd k).sp.at i = r.sp.at ((k + i : Nat) : Int):=by
   simp only [Rn.snd,at_at]; congr 1
  have e2 : (r.snd k).afAt i = r.afAt ((k + i : Nat) : Int):=by
   unfold Rn.afAt
   rw [if_pos (show (0 : Int) < ((k + i : Nat) : Int) by omega)]
   by_cases h : (0 : Int) < i
   ·rw [if_pos h]
    simp only [Rn.snd,at_at]; congr 1; omega
   ·rw [if_neg h]
    simp only [Rn.snd]; congr 1; omega
  have e3 : (r.snd k).rs.getD i 0 = r.rs.getD (k + i) 0:=by
   simp only [Rn.snd,Int.toNat_natCast,List.getD_eq_getElem?_getD,List.getElem?_drop]
  rw [e1,e2,e3]
theorem zSD {r : Rn} {k : Nat} (hk : (k : Int) ≤ r.sp.n) : (r.fst k).elR = r.elR.take k:=by
 apply List.ext_getElem
 ·rw [List.length_take,zB8,zB8]
  simp only [Rn.fst]; omega
 ·intro i h1 h2
  rw [List.length_take,zB8] at h2
  rw [List.getElem_take,zBQ,zBQ]
  have e3 : (r.fst k).rs.getD i 0 = r.rs.getD i 0:=by
   simp only [Rn.fst,Int.toNat_natCast,List.getD_eq_getElem?_getD]
   rw [List.getElem?_take_of_lt (by omega)]
  rw [e3]
  rfl
theorem zGD {α : Type} (l : List α) (i : Nat) (h : i < l.length) : l.drop i = l[i] :: l.drop (i + 1):=List.drop_eq_getElem_cons h
theorem feed {q r : Rn} (o : List Rn) (n : Nat) (hn : r.sp.n = n) (hl : r.rs.length = n) (k : Nat) : ∀ (j : Nat),j + k ≤ n → q.sp.n + j + k ≤ 64 → 0 ≤ q.sp.n → (∀ i : Nat,j ≤ i → i < j + k → r.sp.at i = q.sp.at (q.sp.n + i) ∧ r.afAt i = q.sp.at (q.sp.n + i - 1)) →
  ((r.elR.drop j).take k).foldl addX (o ++ [⟨⟨q.sp.f,q.sp.n + j⟩,q.af,q.rs ++ r.rs.take j⟩]) = o ++ [⟨⟨q.sp.f,q.sp.n + (j + k : Nat)⟩,q.af,q.rs ++ r.rs.take (j + k)⟩]:=by
 induction k with
 | zero=>intro j _ _ _ _; simp
 | succ k ih =>
  intro j h1 h2 h3 h4
  have hj : j < r.elR.length:=by rw [zB8]; omega
  have hjr : j < r.rs.length:=by omega
  rw [zGD _ _ hj,List.take_succ_cons,List.foldl_cons,zDM,zBQ]
  have hg : goes (⟨⟨q.sp.f,q.sp.n + j⟩,q.af,q.rs ++ r.rs.take j⟩ : Rn) ⟨r.sp.at j,r.afAt j,r.rs.getD j 0⟩ = true:=by
   unfold goes
   simp only [Bool.and_eq_true,decide_eq_true_eq]
   exact ⟨⟨by omega,(h4 j (by omega) (by omega)).2⟩,(h4 j (by omega) (by omega)).1⟩
  rw [if_pos hg]
  have hm : more (⟨⟨q.sp.f,q.sp.n + j⟩,q.af,q.rs ++ r.rs.take j⟩ : Rn) ⟨r.sp.at j,r.afAt j,r.rs.getD j 0⟩ = ⟨⟨q.sp.f,q.sp.n + (j + 1 : Nat)⟩,q.af,q.rs ++ r.rs.take (j + 1)⟩:=by
   unfold more
   have e : r.rs.getD j 0 = r.rs[j]:=by rw [List.getD_eq_getElem?_getD,List.getElem?_eq_getElem hjr]; rfl
   rw [e,zBL _ _ hjr,List.append_assoc]
   simp only [Int.natCast_add,Int.natCast_one,Int.add_assoc]
  rw [hm,ih (j + 1) (by omega) (by omega) h3 fun i hj' hi=>h4 i (by omega) (by omega)]
  rw [show j + 1 + k = j + (k + 1) by omega]
theorem zCN {r : Rn} (h : 1 ≤ r.sp.n) : r.elR = ⟨r.sp.f,r.af,r.rs.getD 0 0⟩ :: r.elR.drop 1:=by
 have h0 : 0 < r.elR.length:=by rw [zB8]; omega
 have:=zGD r.elR 0 h0
 rw [List.drop_zero] at this
 refine this.trans ?_
 rw [zBQ]
 simp [Spn.at,Rn.afAt]
theorem zVT {r : Rn} (o : List Rn) (n : Nat) (hn : r.sp.n = n) (hl : r.rs.length = n) (h1 : 1 ≤ n) (h2 : n ≤ 64) : (r.elR.drop 1).foldl addX (o ++ [one ⟨r.sp.f,r.af,r.rs.getD 0 0⟩]) = o ++ [r]:=by
 have e : (r.elR.drop 1).take (n - 1) = r.elR.drop 1:=by
  rw [List.take_of_length_le]
  rw [List.length_drop,zB8]; omega
 rw [← e]
 have:=feed (q:=⟨⟨r.sp.f,0⟩,r.af,[]⟩) (r:=r) o n hn hl (n - 1) 1 (by omega) (by simp only; omega) (Int.le_refl _) fun i hj hi=>?_
 ·have e1 : (⟨⟨r.sp.f,0 + (1 : Nat)⟩,r.af,[] ++ r.rs.take 1⟩ : Rn) = one ⟨r.sp.f,r.af,r.rs.getD 0 0⟩:=by
   unfold one
   have e0 : r.rs.take 1 = [r.rs.getD 0 0]:=by
    rw [zBL r.rs 0 (by omega),List.getD_eq_getElem?_getD,List.getElem?_eq_getElem (show 0 < r.rs.length by omega)]
    simp
   rw [e0]; rfl
  have e2 : (⟨⟨r.sp.f,0 + (1 + (n - 1) : Nat)⟩,r.af,[] ++ r.rs.take (1 + (n - 1))⟩ : Rn) = r:=by
   have : 1 + (n - 1) = n:=by omega
   rw [this,List.take_of_length_le (by omega),List.nil_append,Int.zero_add,← hn]
  simp only at this
  rw [e1,e2] at this
  exact this
 ·unfold Rn.afAt
  rw [if_pos (show (0 : Int) < i by omega)]
  simp only [Spn.at,Int.zero_add,true_and]
theorem zZJ {l : List Int} : chkR l = 0 ↔ l.length ≤ 64 ∧ l.all okR = true:=by
 unfold chkR
 by_cases h : 64 < l.length
 ·rw [if_pos h]; simp; omega
 ·rw [if_neg h]
  cases l.all okR <;> simp [err]
  omega
theorem Rn.may_iff {r : Rn} : r.may = true ↔ r.sp.may = true ∧ (r.af = Eid.z ∨ (r.af.may = true ∧ r.af.c < r.sp.f.c)) ∧ (r.rs.length : Int) = r.sp.n ∧ r.rs.length ≤ 64 ∧ r.rs.all okR = true:=by
 unfold Rn.may
 simp only [Bool.and_eq_true,Bool.or_eq_true,decide_eq_true_eq,zZJ,and_assoc]
theorem Spn.may_iff {s : Spn} : s.may = true ↔ s.f.may = true ∧ 1 ≤ s.n ∧ s.n ≤ 64 ∧ s.f.c + s.n ≤ 1099511627777:=by
 unfold Spn.may
 simp only [Bool.and_eq_true,decide_eq_true_eq,and_assoc]
theorem Eid.may_iff {x : Eid} : x.may = true ↔ x.hd.may = true ∧ 1 ≤ x.c ∧ x.c ≤ 1099511627776:=by
 unfold Eid.may
 simp only [Bool.and_eq_true,decide_eq_true_eq,and_assoc]
theorem zH6 {q r : Rn} (hq : q.may = true) (hr : r.may = true) (h1 : r.sp.f = q.sp.at q.sp.n) (h2 : q.sp.n + r.sp.n ≤ 64) : (q.both r).may = true:=by
 rw [Rn.may_iff] at *
 obtain ⟨a1,a2,a3,a4,a5⟩:=hq
 obtain ⟨b1,b2,b3,b4,b5⟩:=hr
 rw [Spn.may_iff] at *
 rw [h1] at b1
 simp only [Rn.both,Spn.at,List.length_append,List.all_append,a5,b5,Bool.and_self,and_true,Int.natCast_add] at *
 exact ⟨⟨a1.1,by omega,by omega,by omega⟩,a2,by omega,by omega⟩
theorem zOL {r : Rn} {k : Nat} (hr : r.may = true) (h0 : 0 < k) (h1 : (k : Int) ≤ r.sp.n) : (r.fst k).may = true:=by
 rw [Rn.may_iff] at *
 obtain ⟨a1,a2,a3,a4,a5⟩:=hr
 rw [Spn.may_iff] at *
 simp only [Rn.fst,Int.toNat_natCast,List.length_take]
 refine ⟨⟨a1.1,by omega,by omega,by omega⟩,a2,by omega,by omega, ?_⟩
 rw [List.all_eq_true] at *
 exact fun x hx=>a5 x (List.mem_of_mem_take hx)
theorem zPL {r : Rn} {k : Nat} (hr : r.may = true) (h0 : 0 < k) (h1 : (k : Int) < r.sp.n) : (r.snd k).may = true:=by
 rw [Rn.may_iff] at *
 obtain ⟨a1,a2,a3,a4,a5⟩:=hr
 rw [Spn.may_iff,Eid.may_iff] at *
 simp only [Rn.snd,Spn.at,Int.toNat_natCast,List.length_drop,Eid.may_iff]
 refine ⟨⟨⟨a1.1.1,by omega,by omega⟩,by omega,by omega,by omega⟩,.inr ⟨⟨a1.1.1,by omega,by omega⟩,by omega⟩,by omega,by omega, ?_⟩
 rw [List.all_eq_true] at *
 exact fun x hx=>a5 x (List.mem_of_mem_drop hx)
theorem Rn.last_at {q : Rn} (h : q.may = true) : q.last = q.sp.at (q.sp.n - 1):=by
 unfold Rn.last
 rw [if_pos (Rn.may_sp h)]
theorem zP1 {q r : Rn} (hq : q.may = true) : zLQ q r = true ↔ r.af = q.sp.at (q.sp.n - 1) ∧ r.sp.f = q.sp.at q.sp.n:=by
 unfold zLQ
 rw [Rn.last_at hq]
 simp only [Bool.and_eq_true,decide_eq_true_eq]
 have hb:=Spn.may_le (Rn.may_sp hq)
 constructor
 ·rintro ⟨h1,h2⟩
  refine ⟨h1, ?_⟩
  rw [h2,h1]
  simp only [Spn.at]
  rw [wrap_i64 (by omega) (by omega)]
  congr 1; omega
 ·rintro ⟨h1,h2⟩
  refine ⟨h1, ?_⟩
  rw [h2,h1]
  simp only [Spn.at]
  rw [wrap_i64 (by omega) (by omega)]
  congr 1; omega
theorem zKC {q r : Rn} (hq : q.may = true) (hr : r.may = true) (h1 : r.af = q.sp.at (q.sp.n - 1)) (h2 : r.sp.f = q.sp.at q.sp.n) (h3 : q.sp.n + r.sp.n ≤ 64) : zH3 q r = 0:=by
 have bq:=Spn.may_le (Rn.may_sp hq)
 have br:=Spn.may_le (Rn.may_sp hr)
 have lq:=Rn.may_len hq
 rw [zFV,Rn.cutE_iff]
 refine ⟨hq,hr,⟨zH6 hq hr h2 h3,by omega,by simp only [Rn.both]; omega⟩, ?_, ?_⟩
 ·unfold Rn.both Rn.fst
  simp only
  rw [List.take_append_of_le_length (by omega),List.take_of_length_le (by omega)]
 ·unfold Rn.both Rn.snd
  simp only
  have e1 : q.sp.n.toNat = q.rs.length:=by omega
  rw [e1,List.drop_left]
  have e2 : (⟨q.sp.f,q.sp.n + r.sp.n⟩ : Spn).at q.sp.n = r.sp.f:=h2.symm
  have e3 : (⟨q.sp.f,q.sp.n + r.sp.n⟩ : Spn).at (q.sp.n - 1) = r.af:=h1.symm
  rw [e2,e3,show q.sp.n + r.sp.n - q.sp.n = r.sp.n by omega]
theorem zUP {o : List Rn} {q r : Rn} (hq : q.may = true) (hr : r.may = true) : addR (o ++ [q]) r = r.elR.foldl addX (o ++ [q]) ∧ ∃ o' q',addR (o ++ [q]) r = o' ++ [q'] ∧ (∀ x ∈ o',x ∈ o ∨ x.may = true) ∧ q'.may = true:=by
 have bq:=Spn.may_le (Rn.may_sp hq)
 have br:=Spn.may_le (Rn.may_sp hr)
 have lq:=Rn.may_len hq
 have lr:=Rn.may_len hr
 obtain ⟨n,hn⟩ : ∃ n : Nat,r.sp.n = n:=⟨r.sp.n.toNat,by omega⟩
 have hrm : room q = 64 - q.sp.n:=by unfold room; rw [wrap_i64 (by omega) (by omega)]
 have hqo : ∀ x ∈ o ++ [q],x ∈ o ∨ x.may = true:=fun x hx=>by
  rcases List.mem_append.1 hx with h | h
  ·exact .inl h
  ·rw [List.mem_singleton] at h; subst h; exact .inr hq
 rw [zR3]
 by_cases h : zLQ q r = true
 ·rw [if_pos h]
  rw [zP1 hq] at h
  obtain ⟨h1,h2⟩:=h
  have h4 : ∀ i : Nat,i < n → r.sp.at i = q.sp.at (q.sp.n + i) ∧ r.afAt i = q.sp.at (q.sp.n + i - 1):=fun i hi=>by
   have e : r.sp.at i = q.sp.at (q.sp.n + i):=by
    simp only [Spn.at] at h2 ⊢
    rw [h2]
    simp only [Int.add_assoc]
   refine ⟨e, ?_⟩
   unfold Rn.afAt
   by_cases h0 : (0 : Int) < i
   ·rw [if_pos h0]
    simp only [Spn.at] at h2 ⊢
    rw [h2]
    simp only
    congr 1; omega
   ·have : (i : Int) = 0:=by omega
    rw [if_neg h0,this,h1,Int.add_zero]
  have hq0 : o ++ [q] = o ++ [⟨⟨q.sp.f,q.sp.n + (0 : Nat)⟩,q.af,q.rs ++ r.rs.take 0⟩]:=by simp
  by_cases h5 : q.sp.n + r.sp.n ≤ 64
  ·have hc : ¬r.cutE (room q) = 0:=by rw [Rn.cutE_iff,hrm]; omega
   rw [if_neg hc,if_pos (zKC hq hr h1 h2 h5)]
   have hj : zEJ q r = q.both r:=by unfold zEJ; rw [if_pos (zKC hq hr h1 h2 h5)]
   rw [hj]
   refine ⟨?_,o,_,rfl,fun x hx => .inl hx,zH6 hq hr h2 h5⟩
   have:=feed (q:=q) (r:=r) o n hn (by omega) n 0 (by omega) (by omega) (by omega) fun i _ hi=>h4 i (by omega)
   rw [← hq0,List.drop_zero,List.take_of_length_le (by rw [zB8]; omega)] at this
   rw [this]
   unfold Rn.both
   rw [Nat.zero_add,List.take_of_length_le (by omega),hn]
  ·by_cases h6 : q.sp.n < 64
   ·obtain ⟨k,hk⟩ : ∃ k : Nat,room q = k:=⟨(room q).toNat,by omega⟩
    have hc : r.cutE (room q) = 0:=by rw [Rn.cutE_iff,hrm]; exact ⟨hr,by omega,by omega⟩
    rw [if_pos hc,hk]
    have fm:=zOL (k:=k) hr (by omega) (by omega)
    have sm:=zPL (k:=k) hr (by omega) (by omega)
    have je:=zKC hq fm h1 h2 (by simp only [Rn.fst]; omega)
    have hj : zEJ q (r.fst k) = q.both (r.fst k):=by unfold zEJ; rw [if_pos je]
    rw [hj]
    refine ⟨?_,_,_,rfl,fun x hx=>?_,sm⟩
    ·have:=feed (q:=q) (r:=r) o n hn (by omega) k 0 (by omega) (by omega) (by omega) fun i _ hi=>h4 i (by omega)
     rw [← hq0,List.drop_zero] at this
     rw [← List.take_append_drop k r.elR,List.foldl_append,this]
     have e1 : (⟨⟨q.sp.f,q.sp.n + ((0 + k : Nat) : Int)⟩,q.af,q.rs ++ r.rs.take (0 + k)⟩ : Rn) = q.both (r.fst k):=by
      unfold Rn.both Rn.fst
      rw [Nat.zero_add,Int.toNat_natCast]
     rw [e1,← zU8 (by omega),zCN (Spn.may_le (Rn.may_sp sm)).2.2.1,List.foldl_cons,zDM,if_neg]
     ·have hsn : (r.snd k).sp.n = (n - k : Nat):=by simp only [Rn.snd]; omega
      have hsl : (r.snd k).rs.length = n - k:=by have:=Rn.may_len sm; omega
      exact (zVT _ (n - k) hsn hsl (by omega) (by omega)).symm
     ·intro hg
      unfold goes at hg
      rw [Bool.and_eq_true,Bool.and_eq_true] at hg
      have:=of_decide_eq_true hg.1.1
      simp only [Rn.both,Rn.fst] at this
      omega
    ·rcases List.mem_append.1 hx with hx | hx
     ·exact .inl hx
     ·rw [List.mem_singleton] at hx; subst hx
      exact .inr (zH6 hq fm h2 (by simp only [Rn.fst]; omega))
   ·have hc : ¬r.cutE (room q) = 0:=by rw [Rn.cutE_iff,hrm]; omega
    have hj : ¬zH3 q r = 0:=by
     rw [zFV,Rn.cutE_iff]
     rintro ⟨_,_,⟨hm,_⟩,_⟩
     have:=(Spn.may_le (Rn.may_sp hm)).2.2.2.1
     simp only [Rn.both] at this
     omega
    rw [if_neg hc,if_neg hj]
    refine ⟨?_,_,_,rfl,hqo,hr⟩
    rw [zCN (by omega),List.foldl_cons,zDM,if_neg]
    ·exact (zVT _ n hn (by omega) (by omega) (by omega)).symm
    ·unfold goes
     simp only [Bool.and_eq_true,decide_eq_true_eq]
     omega
 ·rw [if_neg h]
  refine ⟨?_,_,_,rfl,hqo,hr⟩
  rw [zCN (by omega),List.foldl_cons,zDM,if_neg]
  ·exact (zVT _ n hn (by omega) (by omega) (by omega)).symm
  ·unfold goes
   simp only [Bool.and_eq_true,decide_eq_true_eq]
   rintro ⟨⟨_,h2⟩,h3⟩
   exact h ((zP1 hq).2 ⟨h2,h3⟩)
theorem zC7 {l : List Rn} (h : ∀ r ∈ l,r.may = true) : zBO l = zCY (elsR l) ∧ ∀ r ∈ zBO l,r.may = true:=by
 revert h
 refine zCP (P:=fun l=>(∀ r ∈ l,r.may = true) → zBO l = zCY (elsR l) ∧ ∀ r ∈ zBO l,r.may = true) (fun _=>⟨rfl,fun r hr=>absurd hr (by simp [zBO])⟩) (fun l r ih h=>?_) l
 obtain ⟨e,hm⟩:=ih fun x hx=>h x (List.mem_append_left _ hx)
 have hr:=h r (List.mem_append_right _ List.mem_cons_self)
 have br:=Spn.may_le (Rn.may_sp hr)
 have lr:=Rn.may_len hr
 have hs : zBO (l ++ [r]) = addR (zBO l) r:=by simp [zBO]
 rw [hs,zCS]
 unfold zCY at *
 rw [List.foldl_append,← e]
 generalize zBO l = out at *
 rcases zDG out with rfl | ⟨o,q,rfl⟩
 ·have ha : addR [] r = [r]:=rfl
  rw [ha]
  refine ⟨?_,fun x hx=>by rw [List.mem_singleton] at hx; subst hx; exact hr⟩
  rw [zCN (by omega),List.foldl_cons,zJM]
  exact (zVT [] r.sp.n.toNat (by omega) (by omega) (by omega) (by omega)).symm
 ·have hq:=hm q (List.mem_append_right _ List.mem_cons_self)
  obtain ⟨h1,o',q',h2,h3,h4⟩:=zUP (o:=o) hq hr
  refine ⟨h1,fun x hx=>?_⟩
  rw [h2] at hx
  rcases List.mem_append.1 hx with hx | hx
  ·rcases h3 x hx with k | k
   ·exact hm x (List.mem_append_left _ k)
   ·exact k
  ·rw [List.mem_singleton] at hx; subst hx; exact h4
def El.may (x : El) : Bool:=x.id.may && (decide (x.af = Eid.z) || (x.af.may && decide (x.af.c < x.id.c))) && okR x.ch
theorem El.may_iff {x : El} : x.may = true ↔ x.id.may = true ∧ (x.af = Eid.z ∨ (x.af.may = true ∧ x.af.c < x.id.c)) ∧ okR x.ch = true:=by
 unfold El.may
 simp only [Bool.and_eq_true,Bool.or_eq_true,decide_eq_true_eq,and_assoc]
theorem El.may_ct {x : El} (h : x.may = true) : x.af.c < x.id.c ∧ 0 < x.id.c:=by
 rw [El.may_iff,Eid.may_iff] at h
 obtain ⟨h1,h2,_⟩:=h
 rcases h2 with h2 | h2
 ·rw [h2]; exact ⟨by show (0 : Int) < _; omega,by omega⟩
 ·exact ⟨h2.2,by omega⟩
theorem zJV {r : Rn} (hr : r.may = true) : ∀ x ∈ r.elR,x.may = true:=by
 intro x hx
 have br:=Spn.may_le (Rn.may_sp hr)
 have lr:=Rn.may_len hr
 obtain ⟨i,hi,rfl⟩:=List.getElem_of_mem hx
 rw [zB8] at hi
 rw [zBQ]
 rw [Rn.may_iff,Spn.may_iff,Eid.may_iff] at hr
 obtain ⟨⟨h1,h2⟩,h3,h4,h5,h6⟩:=hr
 rw [El.may_iff,Eid.may_iff]
 simp only [Spn.at]
 refine ⟨⟨h1.1,by omega,by omega⟩, ?_, ?_⟩
 ·unfold Rn.afAt
  by_cases h0 : (0 : Int) < i
  ·rw [if_pos h0,Eid.may_iff]
   simp only [Spn.at]
   exact .inr ⟨⟨h1.1,by omega,by omega⟩,by omega⟩
  ·rw [if_neg h0]
   rcases h3 with h3 | h3
   ·exact .inl h3
   ·exact .inr ⟨h3.1,by omega⟩
 ·rw [List.getD_eq_getElem?_getD,List.getElem?_eq_getElem (by omega)]
  exact List.all_eq_true.1 h6 _ (List.getElem_mem _)
theorem zOF {l : List Rn} (h : ∀ r ∈ l,r.may = true) : ∀ x ∈ elsR l,x.may = true:=by
 intro x hx
 obtain ⟨r,hr,hx⟩:=List.mem_flatMap.1 hx
 exact zJV (h r hr) x hx
theorem zZM {r : Rn} (hr : r.may = true) : Chn r.af r.elR:=by
 have br:=Spn.may_le (Rn.may_sp hr)
 have key : ∀ k i : Nat,i + k = r.sp.n.toNat → 0 < i → Chn (r.sp.at ((i : Int) - 1)) (r.elR.drop i):=by
  intro k
  induction k with
  | zero=>intro i hi _; rw [List.drop_of_length_le (by rw [zB8]; omega)]; trivial
  | succ k ih =>
   intro i hi h0
   have hl : i < r.elR.length:=by rw [zB8]; omega
   rw [zGD _ _ hl,zBQ]
   have:=ih (i + 1) (by omega) (by omega)
   refine ⟨?_, ?_, ?_⟩
   ·unfold Rn.afAt
    rw [if_pos (by omega)]
   ·simp only [Spn.at]; omega
   ·have e : ((i + 1 : Nat) : Int) - 1 = i:=by omega
    rw [e] at this
    exact this
 rw [zCN (by omega)]
 have:=key (r.sp.n.toNat - 1) 1 (by omega) (by omega)
 refine ⟨rfl, ?_, ?_⟩
 ·have:=(El.may_ct (zJV hr ⟨r.sp.f,r.af,r.rs.getD 0 0⟩ (by rw [zCN (by omega)]; exact List.mem_cons_self))).1
  exact this
 ·simpa [Spn.at] using this
theorem zCR (E : List El) : elsR (zCY E) = E ∧ ∀ q ∈ zCY E,1 ≤ q.sp.n ∧ (q.rs.length : Int) = q.sp.n:=by
 refine zCP (P:=fun E=>elsR (zCY E) = E ∧ ∀ q ∈ zCY E,1 ≤ q.sp.n ∧ (q.rs.length : Int) = q.sp.n) ⟨rfl,fun q hq=>absurd hq (by simp [zCY])⟩ (fun E x ih=>?_) E
 obtain ⟨h1,h2⟩:=ih
 have hs : zCY (E ++ [x]) = addX (zCY E) x:=by simp [zCY]
 rw [hs]
 have ho : (one x).elR = [x]:=by
  rw [zCN (by simp only [one]; omega),List.drop_of_length_le (by rw [zB8]; simp [one])]
  simp [one]
 have h1x : 1 ≤ (one x).sp.n ∧ ((one x).rs.length : Int) = (one x).sp.n:=⟨Int.le_refl _,rfl⟩
 generalize zCY E = out at *
 rcases zDG out with rfl | ⟨o,q,rfl⟩
 ·rw [zJM]
  have : E = []:=by rw [← h1]; rfl
  subst this
  refine ⟨?_,fun q hq=>by rw [List.mem_singleton] at hq; subst hq; exact h1x⟩
  simp [elsR,ho]
 ·rw [zDM]
  obtain ⟨hq1,hq2⟩:=h2 q (List.mem_append_right _ List.mem_cons_self)
  by_cases hg : goes q x = true
  ·rw [if_pos hg]
   unfold goes at hg
   simp only [Bool.and_eq_true,decide_eq_true_eq] at hg
   obtain ⟨⟨g1,g2⟩,g3⟩:=hg
   refine ⟨?_,fun y hy=>?_⟩
   ·rw [zCS] at h1
    rw [zCS,← h1,List.append_assoc]
    congr 1
    apply List.ext_getElem
    ·rw [List.length_append,zB8,zB8]
     simp only [more,List.length_singleton]; omega
    ·intro i i1 i2
     rw [zBQ]
     by_cases hi : i < q.elR.length
     ·rw [List.getElem_append_left hi,zBQ]
      rw [zB8] at hi
      have e3 : (more q x).rs.getD i 0 = q.rs.getD i 0:=by
       simp only [more,List.getD_eq_getElem?_getD]
       rw [List.getElem?_append_left (by omega)]
      rw [e3]; rfl
     ·have hi' : i = q.elR.length:=by
       rw [zB8] at i1 hi ⊢
       simp only [more] at i1
       omega
      rw [List.getElem_append_right (Nat.le_of_not_lt hi),List.getElem_singleton]
      rw [zB8] at hi'
      rw [hi']
      clear hi' i1 i2 hi
      obtain ⟨xi,xa,xc⟩:=x
      simp only at g2 g3
      have e : ((q.sp.n.toNat : Nat) : Int) = q.sp.n:=by omega
      have e3 : (more q ⟨xi,xa,xc⟩).rs.getD q.sp.n.toNat 0 = xc:=by
       simp only [more,List.getD_eq_getElem?_getD]
       rw [List.getElem?_append_right (by omega),show q.sp.n.toNat - q.rs.length = 0 by omega]
       rfl
      have e2 : (more q ⟨xi,xa,xc⟩).afAt ((q.sp.n.toNat : Nat) : Int) = xa:=by
       unfold Rn.afAt
       rw [if_pos (by omega),e,g2]
       rfl
      rw [e2,e3,e,g3]
      rfl
   ·rcases List.mem_append.1 hy with hy | hy
    ·exact h2 y (List.mem_append_left _ hy)
    ·rw [List.mem_singleton] at hy; subst hy
     simp only [more,List.length_append,List.length_singleton]
     omega
  ·rw [if_neg hg]
   refine ⟨by rw [zCS,ho,h1],fun y hy=>?_⟩
   rcases List.mem_append.1 hy with hy | hy
   ·exact h2 y hy
   ·rw [List.mem_singleton] at hy; subst hy; exact h1x
theorem zRU {E : List El} (h : ∀ x ∈ E,x.may = true) : ∀ q ∈ zCY E,q.may = true:=by
 revert h
 refine zCP (P:=fun E=>(∀ x ∈ E,x.may = true) → ∀ q ∈ zCY E,q.may = true) (fun _ q hq=>absurd hq (by simp [zCY])) (fun E x ih h=>?_) E
 have h2:=ih fun y hy=>h y (List.mem_append_left _ hy)
 have hx:=h x (List.mem_append_right _ List.mem_cons_self)
 have hs : zCY (E ++ [x]) = addX (zCY E) x:=by simp [zCY]
 rw [hs]
 have h1x : (one x).may = true:=by
  rw [El.may_iff,Eid.may_iff] at hx
  rw [Rn.may_iff,Spn.may_iff,Eid.may_iff]
  simp only [one,List.length_singleton,List.all_cons,List.all_nil,Bool.and_true]
  exact ⟨⟨⟨hx.1.1,hx.1.2⟩,by omega,by omega,by omega⟩,hx.2.1,by omega,by omega,hx.2.2⟩
 generalize zCY E = out at *
 rcases zDG out with rfl | ⟨o,q,rfl⟩
 ·rw [zJM]
  exact fun q hq=>by rw [List.mem_singleton] at hq; subst hq; exact h1x
 ·rw [zDM]
  have hq:=h2 q (List.mem_append_right _ List.mem_cons_self)
  by_cases hg : goes q x = true
  ·rw [if_pos hg]
   unfold goes at hg
   simp only [Bool.and_eq_true,decide_eq_true_eq] at hg
   obtain ⟨⟨g1,g2⟩,g3⟩:=hg
   intro y hy
   rcases List.mem_append.1 hy with hy | hy
   ·exact h2 y (List.mem_append_left _ hy)
   ·rw [List.mem_singleton] at hy; subst hy
    have : more q x = q.both (one x):=rfl
    rw [this]
    exact zH6 hq h1x g3 (by simp only [one]; omega)
  ·rw [if_neg hg]
   intro y hy
   rcases List.mem_append.1 hy with hy | hy
   ·exact h2 y hy
   ·rw [List.mem_singleton] at hy; subst hy; exact h1x
theorem zDP {l : List Rn} (h : ∀ r ∈ l,r.may = true) : zB3 l = (elsR l).length:=by
 induction l with
 | nil=>rfl
 | cons r l ih =>
  have br:=Spn.may_le (Rn.may_sp (h r List.mem_cons_self))
  have : elsR (r :: l) = r.elR ++ elsR l:=by simp [elsR]
  rw [this,List.length_append,zB8]
  simp only [zB3]
  rw [ih fun x hx=>h x (List.mem_cons_of_mem _ hx)]
  omega
def zDE (l : List Rn) : Prop:=(∀ r ∈ l,r.may = true) ∧ zB3 l ≤ 8192 ∧ Ord (elsL l) ∧ zBO l = l
structure TxtM (E : List El) : Prop where
 t : Txt E
 m : ∀ x ∈ E,x.may = true
 n : E.length ≤ 8192
theorem zMG {E : List El} (h : TxtM E) : zDE (zCY E):=by
 have hm:=zRU h.m
 obtain ⟨he,_⟩:=zCR E
 refine ⟨hm, ?_, ?_, ?_⟩
 ·rw [zDP hm,he]; have:=h.n; omega
 ·rw [← zKM,he]; exact (zTI fun x hx=>El.may_ct (h.m x hx)).2 h.t
 ·rw [(zC7 hm).1,he]
theorem zE2 {l : List Rn} (h : zDE l) : TxtM (elsR l) ∧ l = zCY (elsR l):=by
 obtain ⟨h1,h2,h3,h4⟩:=h
 have hm:=zOF h1
 refine ⟨⟨?_,hm, ?_⟩, ?_⟩
 ·rw [← zKM] at h3; exact (zTI fun x hx=>El.may_ct (hm x hx)).1 h3
 ·rw [zDP h1] at h2; omega
 ·rw [← (zC7 h1).1,h4]
end Go.Proofs.YtakefgebklfhpaaGreat
