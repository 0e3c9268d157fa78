/-
  Texts joined: Tc In SaA SaB TtG SbD RnMay SbG SaC TrA TrB SbI TrC TrE TrF TpZ TpA TpB TpC.
-/
import Derived.Test.YtakaojjlfcmphaaTb
import Derived.Test.YtakaojjlfcmphaaRows
import Derived.Test.YtakaojjlfcmphaaEf
import Derived.KernelRfl
set_option linter.unusedSimpArgs false
set_option linter.unusedVariables false
set_option maxRecDepth 100000
namespace Go.Proofs.Ytakaojjlfcmphaa
open Go Go.Ax
theorem zaO : (tbl.map noX).map clr = msk (tbl.map noX) (zF5 Try.prog 69 0):=by kernel_rfl
end Go.Proofs.Ytakaojjlfcmphaa
namespace Go.Proofs.Ytakaojjlfcmphaa
open Go.Ax
theorem ovlOK : zNP Try.prog :=
 zU1 (g:=52) (tS:=22) (tR:=4) (by kernel_rfl) Try.func52 (by kernel_rfl) (by kernel_rfl) (by kernel_rfl) (by kernel_rfl) (by kernel_rfl)
theorem insFn : InsO (zVN Try.prog 34) 3 4 :=
 ⟨by kernel_rfl,by kernel_rfl,by kernel_rfl,by kernel_rfl,by kernel_rfl,by kernel_rfl,by kernel_rfl,by kernel_rfl,by kernel_rfl,by kernel_rfl,by kernel_rfl⟩
theorem zWT : zIL Try.prog :=
 zOB (g:=34) (t0:=22) (e0:=34) (ti0:=(Try.prog.info? 34).getD default) (O:=zVN Try.prog 34) (g':=53)
  (z:=(zeroOf Try.prog 34).getD default) (tint:=3) (tb:=4) (by kernel_rfl) Try.func34 (by kernel_rfl) (by kernel_rfl) (by kernel_rfl) (by kernel_rfl) (by kernel_rfl) insFn (by kernel_rfl) (by kernel_rfl) (by kernel_rfl)
theorem insOK : zL8 Glob.any Try.prog:=zTA ovlOK zWT
end Go.Proofs.Ytakaojjlfcmphaa
namespace Go.Proofs.Ytakaojjlfcmphaa
open Go Go.Ax
abbrev U32 (n : Int) : AV:=.sc (.int .u32 n)
structure Lb where
 lv : Int
 cats : Int
 deriving DecidableEq
structure Hd where
 lb : Lb
 num : Int
 deriving DecidableEq
structure Eid where
 hd : Hd
 c : Int
 deriving DecidableEq
structure Spn where
 f : Eid
 n : Int
 deriving DecidableEq
structure Op where
 kd : Int
 hd : Hd
 sr : Int
 sp : Spn
 af : Eid
 to : Lb
 rs : List Int
 deriving DecidableEq
structure Rn where
 sp : Spn
 af : Eid
 rs : List Int
 deriving DecidableEq
abbrev Lb.z : Lb:=⟨0,0⟩
abbrev Hd.z : Hd:=⟨⟨0,0⟩,0⟩
abbrev Eid.z : Eid:=⟨⟨⟨0,0⟩,0⟩,0⟩
def i64R (x : Int) : Prop:=-9223372036854775808 ≤ x ∧ x ≤ 9223372036854775807
def Lb.ok (x : Lb) : Prop:=0 ≤ x.lv ∧ x.lv ≤ 255 ∧ 0 ≤ x.cats ∧ x.cats < 4294967296
def Hd.ok (x : Hd) : Prop:=x.lb.ok ∧ 0 ≤ x.num ∧ x.num ≤ 255
def Eid.ok (x : Eid) : Prop:=x.hd.ok ∧ i64R x.c
def Spn.ok (x : Spn) : Prop:=x.f.ok ∧ i64R x.n
def i32s (l : List Int) : Prop:=∀ x ∈ l, -2147483648 ≤ x ∧ x ≤ 2147483647
def Op.ok (o : Op) : Prop:=(0 ≤ o.kd ∧ o.kd ≤ 255) ∧ o.hd.ok ∧ i64R o.sr ∧ o.sp.ok ∧ o.af.ok ∧ o.to.ok ∧ i32s o.rs
def Rn.ok (o : Rn) : Prop:=o.sp.ok ∧ o.af.ok ∧ i32s o.rs
theorem Lb.z_ok : Lb.z.ok:=by unfold Lb.ok; decide
theorem Hd.z_ok : Hd.z.ok:=⟨Lb.z_ok,by decide,by decide⟩
theorem Eid.z_ok : Eid.z.ok:=⟨Hd.z_ok,by decide,by decide⟩
abbrev lbR (x : Lb) : List AV:=[U8 x.lv,U32 x.cats]
abbrev hdR (x : Hd) : List AV:=[U8 x.lb.lv,U32 x.lb.cats,U8 x.num]
abbrev idR (x : Eid) : List AV:=[U8 x.hd.lb.lv,U32 x.hd.lb.cats,U8 x.hd.num,I64 x.c]
abbrev spR (x : Spn) : List AV:=[U8 x.f.hd.lb.lv,U32 x.f.hd.lb.cats,U8 x.f.hd.num,I64 x.f.c,I64 x.n]
abbrev rnR (o : Rn) (ra : AV) : List AV:=[U8 o.sp.f.hd.lb.lv,U32 o.sp.f.hd.lb.cats,U8 o.sp.f.hd.num,I64 o.sp.f.c,I64 o.sp.n,U8 o.af.hd.lb.lv,U32 o.af.hd.lb.cats,U8 o.af.hd.num,I64 o.af.c,ra]
abbrev lbA (x : Lb) : AV:=.agg (lbR x)
abbrev hdA (x : Hd) : AV:=.agg (hdR x)
abbrev idA (x : Eid) : AV:=.agg (idR x)
abbrev spA (x : Spn) : AV:=.agg (spR x)
def zBU (r : List AV) (x : Int) : Prop:=r = [I32 x]
def isLb (r : List AV) (x : Lb) : Prop:=r = lbR x ∧ x.ok
def zOC (r : List AV) (x : Eid) : Prop:=r = idR x ∧ x.ok
def isRn (r : List AV) (x : Rn) : Prop:=∃ ra,r = rnR x ra ∧ Sl 1 zBU ra x.rs ∧ x.ok
theorem zI4 : FzT zBU:=fun r x h y hy=>by
 rw [h,List.mem_singleton] at hy; subst hy; exact zD4 _ _
theorem zGI (x : Lb) : ∀ y ∈ lbR x,Fz y:=fun y hy=>by
 simp only [lbR,List.mem_cons,List.not_mem_nil,or_false] at hy
 rcases hy with rfl | rfl <;> exact zD4 _ _
theorem zJZ (x : Eid) : ∀ y ∈ idR x,Fz y:=fun y hy=>by
 simp only [idR,List.mem_cons,List.not_mem_nil,or_false] at hy
 rcases hy with rfl | rfl | rfl | rfl <;> exact zD4 _ _
theorem zYV (x : Spn) : ∀ y ∈ spR x,Fz y:=fun y hy=>by
 simp only [spR,List.mem_cons,List.not_mem_nil,or_false] at hy
 rcases hy with rfl | rfl | rfl | rfl | rfl <;> exact zD4 _ _
theorem zQ1 {o : Rn} {ra : AV} (h : Fz ra) : ∀ y ∈ rnR o ra,Fz y:=fun y hy=>by
 simp only [rnR,List.mem_cons,List.not_mem_nil,or_false] at hy
 rcases hy with rfl | rfl | rfl | rfl | rfl | rfl | rfl | rfl | rfl | rfl
 all_goals first | exact zD4 _ _ | exact h
theorem zCJ : FzT isRn:=fun r x h=>by
 obtain ⟨ra,rfl,hr,_⟩:=h
 exact zQ1 hr.fz
theorem Lb.eta (x : Lb) : Lb.mk x.lv x.cats = x:=rfl
theorem Hd.eta (x : Hd) : Hd.mk x.lb x.num = x:=rfl
theorem Eid.eta (x : Eid) : Eid.mk x.hd x.c = x:=rfl
theorem Spn.eta (x : Spn) : Spn.mk x.f x.n = x:=rfl
theorem ETA : type_of% (And.intro @Lb.eta (And.intro @Hd.eta (And.intro @Eid.eta @Spn.eta))):=And.intro @Lb.eta (And.intro @Hd.eta (And.intro @Eid.eta @Spn.eta))
theorem zVC (a0 : Int) (a1 : Int) : PT.iss [.int .u8,.int .u32] [.int .u8 a0,.int .u32 a1]:=by
 simp only [PT.iss,PT.is]
 exact ⟨[.int .u8 a0],[.int .u32 a1],rfl,⟨_,rfl⟩,⟨[.int .u32 a1],[],rfl,⟨_,rfl⟩,rfl⟩⟩
def zU8 (d : Option AV) (u v : AV) : Option AV:=match u,v with
 | .agg [.sc (.int .u8 a0),.sc (.int .u32 a1)],.agg [.sc (.int .u8 b0),.sc (.int .u32 b1)]=>some (BL (decide (a0 = b0) && decide (a1 = b1)))
 | _,_=>d
theorem pLbE {t : List AV} (i j : Nat) : zB6 Try.prog t (mkO (.binOp .eql 25 (.tmp i) (.tmp j) 25) 4) = zU8 (zDK Try.prog t (mkO (.binOp .eql 25 (.tmp i) (.tmp j) 25) 4)) (zA8 t (.tmp i)) (zA8 t (.tmp j)):=by
 unfold zU8
 split
 ·rename_i a0 a1 b0 b1 h1 h2
  obtain ⟨r,hr,he⟩:=pEqS (P:=Try.prog) [.int .u8,.int .u32] false 25 25 4 i j (by kernel_rfl) (by decide) (by kernel_rfl) h1 h2 rfl rfl (zVC _ _) (zVC _ _)
  have e : r = (decide (a0 = b0) && decide (a1 = b1)):=by
   rw [Bool.eq_iff_iff,he]
   simp []
  rw [← e]
  exact hr
 ·rfl
theorem zAL (d : Option AV) (a0 a1 : Int) (b0 b1 : Int) : zU8 d (.agg [.sc (.int .u8 a0),.sc (.int .u32 a1)]) (.agg [.sc (.int .u8 b0),.sc (.int .u32 b1)]) = some (BL (decide ((⟨a0,a1⟩ : Lb) = ⟨b0,b1⟩))):=by
 simp only [zU8]
 congr 4
 rw [Bool.eq_iff_iff]
 simp []
theorem zVD (a0 : Int) (a1 : Int) : PT.iss [.int .u8,.int .u32] [.int .u8 a0,.int .u32 a1]:=by
 simp only [PT.iss,PT.is]
 exact ⟨[.int .u8 a0],[.int .u32 a1],rfl,⟨_,rfl⟩,⟨[.int .u32 a1],[],rfl,⟨_,rfl⟩,rfl⟩⟩
def zU9 (d : Option AV) (u v : AV) : Option AV:=match u,v with
 | .agg [.sc (.int .u8 a0),.sc (.int .u32 a1)],.agg [.sc (.int .u8 b0),.sc (.int .u32 b1)]=>some (BL (!(decide (a0 = b0) && decide (a1 = b1))))
 | _,_=>d
theorem pLbN {t : List AV} (i j : Nat) : zB6 Try.prog t (mkO (.binOp .neq 25 (.tmp i) (.tmp j) 25) 4) = zU9 (zDK Try.prog t (mkO (.binOp .neq 25 (.tmp i) (.tmp j) 25) 4)) (zA8 t (.tmp i)) (zA8 t (.tmp j)):=by
 unfold zU9
 split
 ·rename_i a0 a1 b0 b1 h1 h2
  obtain ⟨r,hr,he⟩:=pEqS (P:=Try.prog) [.int .u8,.int .u32] true 25 25 4 i j (by kernel_rfl) (by decide) (by kernel_rfl) h1 h2 rfl rfl (zVD _ _) (zVD _ _)
  have e : r = (decide (a0 = b0) && decide (a1 = b1)):=by
   rw [Bool.eq_iff_iff,he]
   simp []
  rw [← e]
  exact hr
 ·rfl
theorem zAM (d : Option AV) (a0 a1 : Int) (b0 b1 : Int) : zU9 d (.agg [.sc (.int .u8 a0),.sc (.int .u32 a1)]) (.agg [.sc (.int .u8 b0),.sc (.int .u32 b1)]) = some (BL (!decide ((⟨a0,a1⟩ : Lb) = ⟨b0,b1⟩))):=by
 simp only [zU9]
 congr 4
 rw [Bool.eq_iff_iff]
 simp []
theorem zV8 (a0 : Int) (a1 : Int) (a2 : Int) : PT.iss [.st [.int .u8,.int .u32],.int .u8] [.int .u8 a0,.int .u32 a1,.int .u8 a2]:=by
 simp only [PT.iss,PT.is]
 exact ⟨[.int .u8 a0,.int .u32 a1],[.int .u8 a2],rfl,⟨[.int .u8 a0],[.int .u32 a1],rfl,⟨_,rfl⟩,⟨[.int .u32 a1],[],rfl,⟨_,rfl⟩,rfl⟩⟩,⟨[.int .u8 a2],[],rfl,⟨_,rfl⟩,rfl⟩⟩
def zU4 (d : Option AV) (u v : AV) : Option AV:=match u,v with
 | .agg [.sc (.int .u8 a0),.sc (.int .u32 a1),.sc (.int .u8 a2)],.agg [.sc (.int .u8 b0),.sc (.int .u32 b1),.sc (.int .u8 b2)]=>some (BL (decide (a0 = b0) && decide (a1 = b1) && decide (a2 = b2)))
 | _,_=>d
theorem pHdE {t : List AV} (i j : Nat) : zB6 Try.prog t (mkO (.binOp .eql 27 (.tmp i) (.tmp j) 27) 4) = zU4 (zDK Try.prog t (mkO (.binOp .eql 27 (.tmp i) (.tmp j) 27) 4)) (zA8 t (.tmp i)) (zA8 t (.tmp j)):=by
 unfold zU4
 split
 ·rename_i a0 a1 a2 b0 b1 b2 h1 h2
  obtain ⟨r,hr,he⟩:=pEqS (P:=Try.prog) [.st [.int .u8,.int .u32],.int .u8] false 27 27 4 i j (by kernel_rfl) (by decide) (by kernel_rfl) h1 h2 rfl rfl (zV8 _ _ _) (zV8 _ _ _)
  have e : r = (decide (a0 = b0) && decide (a1 = b1) && decide (a2 = b2)):=by
   rw [Bool.eq_iff_iff,he]
   simp [and_assoc]
  rw [← e]
  exact hr
 ·rfl
theorem zAI (d : Option AV) (a0 a1 a2 : Int) (b0 b1 b2 : Int) : zU4 d (.agg [.sc (.int .u8 a0),.sc (.int .u32 a1),.sc (.int .u8 a2)]) (.agg [.sc (.int .u8 b0),.sc (.int .u32 b1),.sc (.int .u8 b2)]) = some (BL (decide ((⟨⟨a0,a1⟩,a2⟩ : Hd) = ⟨⟨b0,b1⟩,b2⟩))):=by
 simp only [zU4]
 congr 4
 rw [Bool.eq_iff_iff]
 simp [and_assoc]
theorem zV9 (a0 : Int) (a1 : Int) (a2 : Int) : PT.iss [.st [.int .u8,.int .u32],.int .u8] [.int .u8 a0,.int .u32 a1,.int .u8 a2]:=by
 simp only [PT.iss,PT.is]
 exact ⟨[.int .u8 a0,.int .u32 a1],[.int .u8 a2],rfl,⟨[.int .u8 a0],[.int .u32 a1],rfl,⟨_,rfl⟩,⟨[.int .u32 a1],[],rfl,⟨_,rfl⟩,rfl⟩⟩,⟨[.int .u8 a2],[],rfl,⟨_,rfl⟩,rfl⟩⟩
def zU5 (d : Option AV) (u v : AV) : Option AV:=match u,v with
 | .agg [.sc (.int .u8 a0),.sc (.int .u32 a1),.sc (.int .u8 a2)],.agg [.sc (.int .u8 b0),.sc (.int .u32 b1),.sc (.int .u8 b2)]=>some (BL (!(decide (a0 = b0) && decide (a1 = b1) && decide (a2 = b2))))
 | _,_=>d
theorem pHdN {t : List AV} (i j : Nat) : zB6 Try.prog t (mkO (.binOp .neq 27 (.tmp i) (.tmp j) 27) 4) = zU5 (zDK Try.prog t (mkO (.binOp .neq 27 (.tmp i) (.tmp j) 27) 4)) (zA8 t (.tmp i)) (zA8 t (.tmp j)):=by
 unfold zU5
 split
 ·rename_i a0 a1 a2 b0 b1 b2 h1 h2
  obtain ⟨r,hr,he⟩:=pEqS (P:=Try.prog) [.st [.int .u8,.int .u32],.int .u8] true 27 27 4 i j (by kernel_rfl) (by decide) (by kernel_rfl) h1 h2 rfl rfl (zV9 _ _ _) (zV9 _ _ _)
  have e : r = (decide (a0 = b0) && decide (a1 = b1) && decide (a2 = b2)):=by
   rw [Bool.eq_iff_iff,he]
   simp [and_assoc]
  rw [← e]
  exact hr
 ·rfl
theorem zAJ (d : Option AV) (a0 a1 a2 : Int) (b0 b1 b2 : Int) : zU5 d (.agg [.sc (.int .u8 a0),.sc (.int .u32 a1),.sc (.int .u8 a2)]) (.agg [.sc (.int .u8 b0),.sc (.int .u32 b1),.sc (.int .u8 b2)]) = some (BL (!decide ((⟨⟨a0,a1⟩,a2⟩ : Hd) = ⟨⟨b0,b1⟩,b2⟩))):=by
 simp only [zU5]
 congr 4
 rw [Bool.eq_iff_iff]
 simp [and_assoc]
theorem zVA (a0 : Int) (a1 : Int) (a2 : Int) (a3 : Int) : PT.iss [.st [.st [.int .u8,.int .u32],.int .u8],.int .i64] [.int .u8 a0,.int .u32 a1,.int .u8 a2,.int .i64 a3]:=by
 simp only [PT.iss,PT.is]
 exact ⟨[.int .u8 a0,.int .u32 a1,.int .u8 a2],[.int .i64 a3],rfl,⟨[.int .u8 a0,.int .u32 a1],[.int .u8 a2],rfl,⟨[.int .u8 a0],[.int .u32 a1],rfl,⟨_,rfl⟩,⟨[.int .u32 a1],[],rfl,⟨_,rfl⟩,rfl⟩⟩,⟨[.int .u8 a2],[],rfl,⟨_,rfl⟩,rfl⟩⟩,⟨[.int .i64 a3],[],rfl,⟨_,rfl⟩,rfl⟩⟩
def zU6 (d : Option AV) (u v : AV) : Option AV:=match u,v with
 | .agg [.sc (.int .u8 a0),.sc (.int .u32 a1),.sc (.int .u8 a2),.sc (.int .i64 a3)],.agg [.sc (.int .u8 b0),.sc (.int .u32 b1),.sc (.int .u8 b2),.sc (.int .i64 b3)]=>some (BL (decide (a0 = b0) && decide (a1 = b1) && decide (a2 = b2) && decide (a3 = b3)))
 | _,_=>d
theorem pIdE {t : List AV} (i j : Nat) : zB6 Try.prog t (mkO (.binOp .eql 29 (.tmp i) (.tmp j) 29) 4) = zU6 (zDK Try.prog t (mkO (.binOp .eql 29 (.tmp i) (.tmp j) 29) 4)) (zA8 t (.tmp i)) (zA8 t (.tmp j)):=by
 unfold zU6
 split
 ·rename_i a0 a1 a2 a3 b0 b1 b2 b3 h1 h2
  obtain ⟨r,hr,he⟩:=pEqS (P:=Try.prog) [.st [.st [.int .u8,.int .u32],.int .u8],.int .i64] false 29 29 4 i j (by kernel_rfl) (by decide) (by kernel_rfl) h1 h2 rfl rfl (zVA _ _ _ _) (zVA _ _ _ _)
  have e : r = (decide (a0 = b0) && decide (a1 = b1) && decide (a2 = b2) && decide (a3 = b3)):=by
   rw [Bool.eq_iff_iff,he]
   simp [and_assoc]
  rw [← e]
  exact hr
 ·rfl
theorem zAK (d : Option AV) (a0 a1 a2 a3 : Int) (b0 b1 b2 b3 : Int) : zU6 d (.agg [.sc (.int .u8 a0),.sc (.int .u32 a1),.sc (.int .u8 a2),.sc (.int .i64 a3)]) (.agg [.sc (.int .u8 b0),.sc (.int .u32 b1),.sc (.int .u8 b2),.sc (.int .i64 b3)]) = some (BL (decide ((⟨⟨⟨a0,a1⟩,a2⟩,a3⟩ : Eid) = ⟨⟨⟨b0,b1⟩,b2⟩,b3⟩))):=by
 simp only [zU6]
 congr 4
 rw [Bool.eq_iff_iff]
 simp [and_assoc]
theorem zVB (a0 : Int) (a1 : Int) (a2 : Int) (a3 : Int) : PT.iss [.st [.st [.int .u8,.int .u32],.int .u8],.int .i64] [.int .u8 a0,.int .u32 a1,.int .u8 a2,.int .i64 a3]:=by
 simp only [PT.iss,PT.is]
 exact ⟨[.int .u8 a0,.int .u32 a1,.int .u8 a2],[.int .i64 a3],rfl,⟨[.int .u8 a0,.int .u32 a1],[.int .u8 a2],rfl,⟨[.int .u8 a0],[.int .u32 a1],rfl,⟨_,rfl⟩,⟨[.int .u32 a1],[],rfl,⟨_,rfl⟩,rfl⟩⟩,⟨[.int .u8 a2],[],rfl,⟨_,rfl⟩,rfl⟩⟩,⟨[.int .i64 a3],[],rfl,⟨_,rfl⟩,rfl⟩⟩
def zU7 (d : Option AV) (u v : AV) : Option AV:=match u,v with
 | .agg [.sc (.int .u8 a0),.sc (.int .u32 a1),.sc (.int .u8 a2),.sc (.int .i64 a3)],.agg [.sc (.int .u8 b0),.sc (.int .u32 b1),.sc (.int .u8 b2),.sc (.int .i64 b3)]=>some (BL (!(decide (a0 = b0) && decide (a1 = b1) && decide (a2 = b2) && decide (a3 = b3))))
 | _,_=>d
theorem pIdN {t : List AV} (i j : Nat) : zB6 Try.prog t (mkO (.binOp .neq 29 (.tmp i) (.tmp j) 29) 4) = zU7 (zDK Try.prog t (mkO (.binOp .neq 29 (.tmp i) (.tmp j) 29) 4)) (zA8 t (.tmp i)) (zA8 t (.tmp j)):=by
 unfold zU7
 split
 ·rename_i a0 a1 a2 a3 b0 b1 b2 b3 h1 h2
  obtain ⟨r,hr,he⟩:=pEqS (P:=Try.prog) [.st [.st [.int .u8,.int .u32],.int .u8],.int .i64] true 29 29 4 i j (by kernel_rfl) (by decide) (by kernel_rfl) h1 h2 rfl rfl (zVB _ _ _ _) (zVB _ _ _ _)
  have e : r = (decide (a0 = b0) && decide (a1 = b1) && decide (a2 = b2) && decide (a3 = b3)):=by
   rw [Bool.eq_iff_iff,he]
   simp [and_assoc]
  rw [← e]
  exact hr
 ·rfl
theorem zAH (d : Option AV) (a0 a1 a2 a3 : Int) (b0 b1 b2 b3 : Int) : zU7 d (.agg [.sc (.int .u8 a0),.sc (.int .u32 a1),.sc (.int .u8 a2),.sc (.int .i64 a3)]) (.agg [.sc (.int .u8 b0),.sc (.int .u32 b1),.sc (.int .u8 b2),.sc (.int .i64 b3)]) = some (BL (!decide ((⟨⟨⟨a0,a1⟩,a2⟩,a3⟩ : Eid) = ⟨⟨⟨b0,b1⟩,b2⟩,b3⟩))):=by
 simp only [zU7]
 congr 4
 rw [Bool.eq_iff_iff]
 simp [and_assoc]
theorem zVE (a0 : Int) (a1 : Int) (a2 : Int) (a3 : Int) (a4 : Int) : PT.iss [.st [.st [.st [.int .u8,.int .u32],.int .u8],.int .i64],.int .i64] [.int .u8 a0,.int .u32 a1,.int .u8 a2,.int .i64 a3,.int .i64 a4]:=by
 simp only [PT.iss,PT.is]
 exact ⟨[.int .u8 a0,.int .u32 a1,.int .u8 a2,.int .i64 a3],[.int .i64 a4],rfl,⟨[.int .u8 a0,.int .u32 a1,.int .u8 a2],[.int .i64 a3],rfl,⟨[.int .u8 a0,.int .u32 a1],[.int .u8 a2],rfl,⟨[.int .u8 a0],[.int .u32 a1],rfl,⟨_,rfl⟩,⟨[.int .u32 a1],[],rfl,⟨_,rfl⟩,rfl⟩⟩,⟨[.int .u8 a2],[],rfl,⟨_,rfl⟩,rfl⟩⟩,⟨[.int .i64 a3],[],rfl,⟨_,rfl⟩,rfl⟩⟩,⟨[.int .i64 a4],[],rfl,⟨_,rfl⟩,rfl⟩⟩
def zUA (d : Option AV) (u v : AV) : Option AV:=match u,v with
 | .agg [.sc (.int .u8 a0),.sc (.int .u32 a1),.sc (.int .u8 a2),.sc (.int .i64 a3),.sc (.int .i64 a4)],.agg [.sc (.int .u8 b0),.sc (.int .u32 b1),.sc (.int .u8 b2),.sc (.int .i64 b3),.sc (.int .i64 b4)]=>some (BL (decide (a0 = b0) && decide (a1 = b1) && decide (a2 = b2) && decide (a3 = b3) && decide (a4 = b4)))
 | _,_=>d
theorem pSpE {t : List AV} (i j : Nat) : zB6 Try.prog t (mkO (.binOp .eql 31 (.tmp i) (.tmp j) 31) 4) = zUA (zDK Try.prog t (mkO (.binOp .eql 31 (.tmp i) (.tmp j) 31) 4)) (zA8 t (.tmp i)) (zA8 t (.tmp j)):=by
 unfold zUA
 split
 ·rename_i a0 a1 a2 a3 a4 b0 b1 b2 b3 b4 h1 h2
  obtain ⟨r,hr,he⟩:=pEqS (P:=Try.prog) [.st [.st [.st [.int .u8,.int .u32],.int .u8],.int .i64],.int .i64] false 31 31 4 i j (by kernel_rfl) (by decide) (by kernel_rfl) h1 h2 rfl rfl (zVE _ _ _ _ _) (zVE _ _ _ _ _)
  have e : r = (decide (a0 = b0) && decide (a1 = b1) && decide (a2 = b2) && decide (a3 = b3) && decide (a4 = b4)):=by
   rw [Bool.eq_iff_iff,he]
   simp [and_assoc]
  rw [← e]
  exact hr
 ·rfl
theorem zAN (d : Option AV) (a0 a1 a2 a3 a4 : Int) (b0 b1 b2 b3 b4 : Int) : zUA d (.agg [.sc (.int .u8 a0),.sc (.int .u32 a1),.sc (.int .u8 a2),.sc (.int .i64 a3),.sc (.int .i64 a4)]) (.agg [.sc (.int .u8 b0),.sc (.int .u32 b1),.sc (.int .u8 b2),.sc (.int .i64 b3),.sc (.int .i64 b4)]) = some (BL (decide ((⟨⟨⟨⟨a0,a1⟩,a2⟩,a3⟩,a4⟩ : Spn) = ⟨⟨⟨⟨b0,b1⟩,b2⟩,b3⟩,b4⟩))):=by
 simp only [zUA]
 congr 4
 rw [Bool.eq_iff_iff]
 simp [and_assoc]
theorem zVF (a0 : Int) (a1 : Int) (a2 : Int) (a3 : Int) (a4 : Int) : PT.iss [.st [.st [.st [.int .u8,.int .u32],.int .u8],.int .i64],.int .i64] [.int .u8 a0,.int .u32 a1,.int .u8 a2,.int .i64 a3,.int .i64 a4]:=by
 simp only [PT.iss,PT.is]
 exact ⟨[.int .u8 a0,.int .u32 a1,.int .u8 a2,.int .i64 a3],[.int .i64 a4],rfl,⟨[.int .u8 a0,.int .u32 a1,.int .u8 a2],[.int .i64 a3],rfl,⟨[.int .u8 a0,.int .u32 a1],[.int .u8 a2],rfl,⟨[.int .u8 a0],[.int .u32 a1],rfl,⟨_,rfl⟩,⟨[.int .u32 a1],[],rfl,⟨_,rfl⟩,rfl⟩⟩,⟨[.int .u8 a2],[],rfl,⟨_,rfl⟩,rfl⟩⟩,⟨[.int .i64 a3],[],rfl,⟨_,rfl⟩,rfl⟩⟩,⟨[.int .i64 a4],[],rfl,⟨_,rfl⟩,rfl⟩⟩
def zUB (d : Option AV) (u v : AV) : Option AV:=match u,v with
 | .agg [.sc (.int .u8 a0),.sc (.int .u32 a1),.sc (.int .u8 a2),.sc (.int .i64 a3),.sc (.int .i64 a4)],.agg [.sc (.int .u8 b0),.sc (.int .u32 b1),.sc (.int .u8 b2),.sc (.int .i64 b3),.sc (.int .i64 b4)]=>some (BL (!(decide (a0 = b0) && decide (a1 = b1) && decide (a2 = b2) && decide (a3 = b3) && decide (a4 = b4))))
 | _,_=>d
theorem pSpN {t : List AV} (i j : Nat) : zB6 Try.prog t (mkO (.binOp .neq 31 (.tmp i) (.tmp j) 31) 4) = zUB (zDK Try.prog t (mkO (.binOp .neq 31 (.tmp i) (.tmp j) 31) 4)) (zA8 t (.tmp i)) (zA8 t (.tmp j)):=by
 unfold zUB
 split
 ·rename_i a0 a1 a2 a3 a4 b0 b1 b2 b3 b4 h1 h2
  obtain ⟨r,hr,he⟩:=pEqS (P:=Try.prog) [.st [.st [.st [.int .u8,.int .u32],.int .u8],.int .i64],.int .i64] true 31 31 4 i j (by kernel_rfl) (by decide) (by kernel_rfl) h1 h2 rfl rfl (zVF _ _ _ _ _) (zVF _ _ _ _ _)
  have e : r = (decide (a0 = b0) && decide (a1 = b1) && decide (a2 = b2) && decide (a3 = b3) && decide (a4 = b4)):=by
   rw [Bool.eq_iff_iff,he]
   simp [and_assoc]
  rw [← e]
  exact hr
 ·rfl
theorem zAO (d : Option AV) (a0 a1 a2 a3 a4 : Int) (b0 b1 b2 b3 b4 : Int) : zUB d (.agg [.sc (.int .u8 a0),.sc (.int .u32 a1),.sc (.int .u8 a2),.sc (.int .i64 a3),.sc (.int .i64 a4)]) (.agg [.sc (.int .u8 b0),.sc (.int .u32 b1),.sc (.int .u8 b2),.sc (.int .i64 b3),.sc (.int .i64 b4)]) = some (BL (!decide ((⟨⟨⟨⟨a0,a1⟩,a2⟩,a3⟩,a4⟩ : Spn) = ⟨⟨⟨⟨b0,b1⟩,b2⟩,b3⟩,b4⟩))):=by
 simp only [zUB]
 congr 4
 rw [Bool.eq_iff_iff]
 simp [and_assoc]
end Go.Proofs.Ytakaojjlfcmphaa
namespace Go.Proofs.Ytakaojjlfcmphaa
open Go Go.Ax
variable {fuel : Nat} {M : Mem} {Q : AV → Mem → Prop} {d : Nat}
def zQC (a b : Int) : Int:=IntKind.u32.wrap ((BitVec.ofInt 32 a &&& ~~~ BitVec.ofInt 32 b).toNat : Nat)
def Lb.leq (a b : Lb) : Bool:=decide (a.lv ≤ b.lv) && decide (zQC a.cats b.cats = 0)
def Lb.may (a : Lb) : Bool:=!decide (15 < a.lv)
def Hd.may (h : Hd) : Bool:=h.lb.may && decide (h.num < 8)
def Eid.may (x : Eid) : Bool:=x.hd.may && decide (1 ≤ x.c) && decide (x.c ≤ 1099511627776)
def Spn.may (s : Spn) : Bool:=s.f.may && decide (1 ≤ s.n) && decide (s.n ≤ 64) && decide (s.f.c + s.n ≤ 1099511627777)
def err (b : Bool) : Int:=if b then 0 else 8
theorem zBP : err true = 0:=rfl
theorem zD2 : err false = 8:=rfl
theorem zRZ (P : Program) (ty : TypeId) (a b : Int) : binV P .andNot ty .u32 a .u32 b = some (.int .u32 (zQC a b)):=by
 simp only [binV,binOp,ne_eq,not_true_eq_false,if_false,Op.intBits]
 rfl
theorem zJ5 (a b : Lb) (M : Mem) : zAF Try.prog (fsT tbl) fuel (d + 1) (.fn 11) [lbA a,lbA b] M = some (BL (a.leq b),M):=by
 apply zC1
 refine zAX tf11 rfl (by simp (maxSteps:=2000000) (disch:=first | omega | assumption | (simp only [DS,Nat.reduceAdd, *]; done) | (simp only [DZ]; omega)) only [RUN,icyL,Nat.reduceSub]) (by simp [a11]) fun b' ht hx=>?_
 have h0:=hx 0 _ rfl
 have h1:=hx 1 _ rfl
 clear hx
 simp only [a11,c11,zzm] at ht ⊢
 unfold Lb.leq
 by_cases q : a.lv ≤ b.lv
 ·have q1 : decide (a.lv ≤ b.lv) = true:=decide_eq_true q
  simp (maxSteps:=2000000) (disch:=first | omega | assumption | (simp only [DS,Nat.reduceAdd, *]; done) | (simp only [DZ]; omega)) only [RUN,RU,zA4,zA2,zA1,zA5,frzL,reduceIte,Nat.reduceEqDiff,Nat.reduceAdd,h0,h1,q1,zRZ]
 ·have q1 : decide (a.lv ≤ b.lv) = false:=decide_eq_false q
  simp (maxSteps:=2000000) (disch:=first | omega | assumption | (simp only [DS,Nat.reduceAdd, *]; done) | (simp only [DZ]; omega)) only [RUN,RU,zA4,zA2,zA1,zA5,frzL,reduceIte,Nat.reduceEqDiff,Nat.reduceAdd,h0,h1,q1,Bool.false_and]
theorem zIA (a : Lb) (M : Mem) : zAF Try.prog (fsT tbl) fuel (d + 1) (.fn 15) [lbA a] M = some (I64 (err a.may),M):=by
 apply zC1
 refine zAX tf15 rfl (by simp (maxSteps:=2000000) (disch:=first | omega | assumption | (simp only [DS,Nat.reduceAdd, *]; done) | (simp only [DZ]; omega)) only [RUN,icyL,Nat.reduceSub]) (by simp [a15]) fun b' ht hx=>?_
 have h0:=hx 0 _ rfl
 clear hx
 simp only [a15,c15] at ht ⊢
 unfold Lb.may
 cases q : decide (15 < a.lv) <;> simp (maxSteps:=2000000) (disch:=first | omega | assumption | (simp only [DS,Nat.reduceAdd, *]; done) | (simp only [DZ]; omega)) only [RUN,RU,zA4,zA2,zA1,zA5,frzL,reduceIte,Nat.reduceEqDiff,h0,q,zBP,zD2]
theorem zHN (b : Bool) (M : Mem) : zAF Try.prog (fsT tbl) fuel (d + 1) (.fn 58) [BL b] M = some (I64 (err b),M):=by
 apply zC1
 refine zAX tf58 rfl (by simp (maxSteps:=2000000) (disch:=first | omega | assumption | (simp only [DS,Nat.reduceAdd, *]; done) | (simp only [DZ]; omega)) only [RUN,icyL]) (by simp [a58]) fun b' ht hx=>?_
 have h0:=hx 0 _ rfl
 clear hx
 simp only [a58,c58,zzm] at ht ⊢
 cases b <;> simp (maxSteps:=2000000) (disch:=first | omega | assumption | (simp only [DS,Nat.reduceAdd, *]; done) | (simp only [DZ]; omega)) only [RUN,RU,zA4,zA2,zA1,zA5,frzL,reduceIte,Nat.reduceEqDiff,h0,zBP,zD2]
theorem z00 : decide ((0 : Int) = 0) = true:=rfl
theorem z80 : decide ((8 : Int) = 0) = false:=rfl
theorem zLG (h : Hd) (M : Mem) : zAF Try.prog (fsT tbl) fuel (d + 2) (.fn 59) [hdA h] M = some (I64 (err h.may),M):=by
 have hl:=fun M=>@zIA fuel d h.lb M
 have hr:=fun b M=>@zHN fuel d b M
 apply zC1
 refine zAX tf59 rfl (by simp (maxSteps:=2000000) (disch:=first | omega | assumption | (simp only [DS,Nat.reduceAdd, *]; done) | (simp only [DZ]; omega)) only [RUN,icyL,Nat.reduceSub]) (by simp [a59]) fun b' ht hx=>?_
 have h0:=hx 0 _ rfl
 clear hx
 simp only [a59,c59,zzm] at ht ⊢
 unfold Hd.may
 cases hm : h.lb.may <;> rw [hm] at hl
 ·simp (maxSteps:=2000000) (disch:=first | omega | assumption | (simp only [DS,Nat.reduceAdd, *]; done) | (simp only [DZ]; omega)) only [RUN,RU,zA4,zA2,zA1,zA5,frzL,slot,reduceIte,Nat.reduceEqDiff,Int.reduceEq,h0,hl,hr,zD2,Bool.false_and]
 ·simp (maxSteps:=2000000) (disch:=first | omega | assumption | (simp only [DS,Nat.reduceAdd, *]; done) | (simp only [DZ]; omega)) only [RUN,RU,zA4,zA2,zA1,zA5,frzL,slot,reduceIte,Nat.reduceEqDiff,h0,hl,hr,zBP]
theorem zPH (x : Eid) (M : Mem) : zAF Try.prog (fsT tbl) fuel (d + 3) (.fn 44) [idA x] M = some (I64 (err x.may),M):=by
 have hl:=fun M=>@zLG fuel d x.hd M
 have hr:=fun b M=>@zHN fuel (d + 1) b M
 apply zC1
 refine zAX tf44 rfl (by simp (maxSteps:=2000000) (disch:=first | omega | assumption | (simp only [DS,Nat.reduceAdd, *]; done) | (simp only [DZ]; omega)) only [RUN,icyL,Nat.reduceSub]) (by simp [a44]) fun b' ht hx=>?_
 have h0:=hx 0 _ rfl
 clear hx
 simp only [a44,c44,zzm] at ht ⊢
 unfold Eid.may
 cases hm : x.hd.may <;> rw [hm] at hl
 ·simp (maxSteps:=2000000) (disch:=first | omega | assumption | (simp only [DS,Nat.reduceAdd, *]; done) | (simp only [DZ]; omega)) only [RUN,RU,zA4,zA2,zA1,zA5,frzL,slot,reduceIte,Nat.reduceEqDiff,Int.reduceEq,h0,hl,hr,zD2,Bool.false_and]
 ·cases q : decide (1 ≤ x.c)
  ·simp (maxSteps:=2000000) (disch:=first | omega | assumption | (simp only [DS,Nat.reduceAdd, *]; done) | (simp only [DZ]; omega)) only [RUN,RU,zA4,zA2,zA1,zA5,frzL,slot,reduceIte,Nat.reduceEqDiff,h0,hl,hr,zBP,q,Bool.false_and]
  ·simp (maxSteps:=2000000) (disch:=first | omega | assumption | (simp only [DS,Nat.reduceAdd, *]; done) | (simp only [DZ]; omega)) only [RUN,RU,zA4,zA2,zA1,zA5,frzL,slot,reduceIte,Nat.reduceEqDiff,h0,hl,hr,zBP,q]
theorem zH5 (s : Spn) (M : Mem) : zAF Try.prog (fsT tbl) fuel (d + 4) (.fn 45) [spA s] M = some (I64 (err s.may),M):=by
 have hl:=fun M=>@zPH fuel d s.f M
 have hr:=fun b M=>@zHN fuel (d + 2) b M
 apply zC1
 refine zAX tf45 rfl (by simp (maxSteps:=2000000) (disch:=first | omega | assumption | (simp only [DS,Nat.reduceAdd, *]; done) | (simp only [DZ]; omega)) only [RUN,icyL,Nat.reduceSub]) (by simp [a45]) fun b' ht hx=>?_
 have h0:=hx 0 _ rfl
 clear hx
 simp only [a45,c45,zzm] at ht ⊢
 unfold Spn.may
 cases hm : s.f.may <;> rw [hm] at hl
 ·simp (maxSteps:=2000000) (disch:=first | omega | assumption | (simp only [DS,Nat.reduceAdd, *]; done) | (simp only [DZ]; omega)) only [RUN,RU,zA4,zA2,zA1,zA5,frzL,slot,reduceIte,Nat.reduceEqDiff,Int.reduceEq,h0,hl,hr,zD2,Bool.false_and]
 ·cases q1 : decide (1 ≤ s.n)
  ·simp (maxSteps:=2000000) (disch:=first | omega | assumption | (simp only [DS,Nat.reduceAdd, *]; done) | (simp only [DZ]; omega)) only [RUN,RU,zA4,zA2,zA1,zA5,frzL,slot,reduceIte,Nat.reduceEqDiff,h0,hl,hr,zBP,q1,Bool.false_and]
  ·cases q2 : decide (s.n ≤ 64)
   ·simp (maxSteps:=2000000) (disch:=first | omega | assumption | (simp only [DS,Nat.reduceAdd, *]; done) | (simp only [DZ]; omega)) only [RUN,RU,zA4,zA2,zA1,zA5,frzL,slot,reduceIte,Nat.reduceEqDiff,h0,hl,hr,zBP,q1,q2,Bool.false_and]
   ·have w : IntKind.i64.wrap (IntKind.i64.wrap (s.f.c + s.n) - 1) = s.f.c + s.n - 1:=by
     unfold Eid.may at hm
     simp only [Bool.and_eq_true,decide_eq_true_eq] at hm q1 q2
     rw [wrap_i64 (n:=s.f.c + s.n) (by omega) (by omega),wrap_i64 (by omega) (by omega)]
    have q3 : decide (s.f.c + s.n - 1 ≤ 1099511627776) = decide (s.f.c + s.n ≤ 1099511627777):=by
     rw [Bool.eq_iff_iff,decide_eq_true_iff,decide_eq_true_iff]; omega
    simp (maxSteps:=2000000) (disch:=first | omega | assumption | (simp only [DS,Nat.reduceAdd, *]; done) | (simp only [DZ]; omega)) only [RUN,RU,zA4,zA2,zA1,zA5,frzL,slot,reduceIte,Nat.reduceEqDiff,h0,hl,hr,zBP,q1,q2,w,q3]
end Go.Proofs.Ytakaojjlfcmphaa
namespace Go.Proofs.Ytakaojjlfcmphaa
open Go Go.Ax
variable {fuel : Nat} {d : Nat}
theorem zML {P : Program} {fs : Nat → Option AFunc} {f : Nat} {af : AFunc} {g : List AV → Option AV} {args : List AV} {r : AV} {n : Nat} {M : Mem} (h : fs f = some af) (hg : af.gc = 3) (hb : af.body = .ext g) (hi : icyL (icy 12) M args = some (args,M)) (hr : g args = some r) :
  zAF P fs fuel (n + 1) (.fn f) args M = some (r,M):=by
 simp only [zAF,h,hg,hi,hb,hr]
theorem zG3 (a b : Int) : zQC a b = 0 ↔ BitVec.ofInt 32 a &&& ~~~ BitVec.ofInt 32 b = 0#32:=by
 have e : zQC a b = ((BitVec.ofInt 32 a &&& ~~~ BitVec.ofInt 32 b).toNat : Int):=by
  have:=(BitVec.ofInt 32 a &&& ~~~ BitVec.ofInt 32 b).isLt
  unfold zQC
  generalize (BitVec.ofInt 32 a &&& ~~~ BitVec.ofInt 32 b).toNat = z at *
  simp [IntKind.wrap,IntKind.bits,IntKind.signed]
  omega
 rw [e,← BitVec.toNat_inj]
 simp
theorem zNS (x y z : BitVec 32) (h1 : x &&& ~~~ y = 0#32) (h2 : y &&& ~~~ z = 0#32) : x &&& ~~~ z = 0#32:=by
 apply BitVec.eq_of_getLsbD_eq
 intro i hi
 have a1:=congrArg (fun v=>BitVec.getLsbD v i) h1
 have a2:=congrArg (fun v=>BitVec.getLsbD v i) h2
 simp only [BitVec.getLsbD_and,BitVec.getLsbD_not,hi,BitVec.getLsbD_zero,decide_true,Bool.true_and] at a1 a2 ⊢
 cases hx : x.getLsbD i <;> cases hy : y.getLsbD i <;> cases hz : z.getLsbD i <;> simp_all
theorem zKA {a b c : Lb} (h1 : a.leq b = true) (h2 : b.leq c = true) : a.leq c = true:=by
 unfold Lb.leq at *
 simp only [Bool.and_eq_true,decide_eq_true_eq,zG3] at *
 exact ⟨Int.le_trans h1.1 h2.1,zNS _ _ _ h1.2 h2.2⟩
theorem zFD (a : Lb) : a.leq a = true:=by
 unfold Lb.leq
 simp only [Bool.and_eq_true,decide_eq_true_eq,zG3]
 refine ⟨Int.le_refl _, ?_⟩
 apply BitVec.eq_of_getLsbD_eq
 intro i hi
 simp only [BitVec.getLsbD_and,BitVec.getLsbD_not,hi,BitVec.getLsbD_zero,decide_true,Bool.true_and]
 cases (BitVec.ofInt 32 a.cats).getLsbD i <;> rfl
def zJ7 (u v : Lb) : Lb:=⟨if v.lv < u.lv then v.lv else u.lv,andI u.cats v.cats⟩
theorem zTK {u v : Lb} (h : u.may = false) (M : Mem) : zAF Try.prog (fsT tbl) fuel (d + 1) (.fn 7) [lbA u,lbA v] M = some (.tup [lbA Lb.z,I64 8],M):=by
 refine zML tf7 rfl rfl (by simp only [icyL,zCK (zGI u) (show 1 < 12 by omega),zCK (zGI v) (show 1 < 12 by omega)]) ?_
 unfold Lb.may at h
 simp only [Bool.not_eq_false'] at h
 unfold zFX
 simp only [h,Bool.true_or] <;> rfl
theorem zTM {u v : Lb} (h1 : u.may = true) (h2 : v.may = true) (M : Mem) : zAF Try.prog (fsT tbl) fuel (d + 1) (.fn 7) [lbA u,lbA v] M = some (.tup [lbA (zJ7 u v),I64 0],M):=by
 refine zML tf7 rfl rfl (by simp only [icyL,zCK (zGI u) (show 1 < 12 by omega),zCK (zGI v) (show 1 < 12 by omega)]) ?_
 unfold Lb.may at h1 h2
 simp only [Bool.not_eq_true'] at h1 h2
 unfold zFX
 simp only [h1,h2,Bool.or_self] <;> rfl
theorem zQR (c d : Int) : BitVec.ofInt 32 (andI c d) = BitVec.ofInt 32 c &&& BitVec.ofInt 32 d:=by
 have e : andI c d = ((BitVec.ofInt 32 c &&& BitVec.ofInt 32 d).toNat : Int):=by
  have:=(BitVec.ofInt 32 c &&& BitVec.ofInt 32 d).isLt
  unfold andI
  generalize (BitVec.ofInt 32 c &&& BitVec.ofInt 32 d).toNat = z at *
  simp [IntKind.wrap,IntKind.bits,IntKind.signed]
  omega
 rw [e,BitVec.ofInt_natCast,BitVec.ofNat_toNat]
 simp
theorem zP8 (x y z : BitVec 32) : x &&& ~~~ (y &&& z) = 0#32 ↔ x &&& ~~~ y = 0#32 ∧ x &&& ~~~ z = 0#32:=by
 constructor
 ·intro h
  constructor
  all_goals
   apply BitVec.eq_of_getLsbD_eq
   intro i hi
   have a1:=congrArg (fun v=>BitVec.getLsbD v i) h
   simp only [BitVec.getLsbD_and,BitVec.getLsbD_not,hi,BitVec.getLsbD_zero,decide_true,Bool.true_and] at a1 ⊢
   cases hx : x.getLsbD i <;> cases hy : y.getLsbD i <;> cases hz : z.getLsbD i <;> simp_all
 ·rintro ⟨h1,h2⟩
  apply BitVec.eq_of_getLsbD_eq
  intro i hi
  have a1:=congrArg (fun v=>BitVec.getLsbD v i) h1
  have a2:=congrArg (fun v=>BitVec.getLsbD v i) h2
  simp only [BitVec.getLsbD_and,BitVec.getLsbD_not,hi,BitVec.getLsbD_zero,decide_true,Bool.true_and] at a1 a2 ⊢
  cases hx : x.getLsbD i <;> cases hy : y.getLsbD i <;> cases hz : z.getLsbD i <;> simp_all
theorem zTG (x u v : Lb) : x.leq (zJ7 u v) = (x.leq u && x.leq v):=by
 rw [Bool.eq_iff_iff]
 unfold Lb.leq zJ7
 simp only [Bool.and_eq_true,decide_eq_true_eq,zG3,zQR,zP8]
 constructor
 ·rintro ⟨h1,h2,h3⟩
  split at h1 <;> exact ⟨⟨by omega,h2⟩,by omega,h3⟩
 ·rintro ⟨⟨h1,h2⟩,h3,h4⟩
  exact ⟨by split <;> omega,h2,h4⟩
theorem zTL {u v : Lb} (h1 : u.may = true) (h2 : v.may = true) : (zJ7 u v).may = true:=by
 unfold Lb.may zJ7 at *
 simp only [Bool.not_eq_true',decide_eq_false_iff_not] at *
 split <;> omega
end Go.Proofs.Ytakaojjlfcmphaa
namespace Go.Proofs.Ytakaojjlfcmphaa
open Go Go.Ax
variable {fuel : Nat} {M : Mem} {Q : AV → Mem → Prop} {d : Nat}
def zRN (x : Int) : Bool:=(decide (0 ≤ x) && decide (x < 55296)) || (decide (57343 < x) && decide (x ≤ 1114111))
def okR (x : Int) : Bool:=decide (x = -1) || zRN x
def chkR (l : List Int) : Int:=if 64 < l.length then 4 else err (l.all okR)
theorem zRO (x : Int) (M : Mem) : zAF Try.prog (fsT tbl) fuel (d + 1) (.fn 61) [I32 x] M = some (BL (zRN x),M):=by
 apply zC1
 refine zAX tf61 rfl (by simp (maxSteps:=2000000) (disch:=first | omega | assumption | (simp only [DS,Nat.reduceAdd, *]; done) | (simp only [DZ]; omega)) only [RUN,RU,zA4,zA2,zA1,zA5,frzL,slot,lay,icyL,zA6,zA0,kR,reduceIte,Nat.reduceEqDiff,Nat.reduceBEq,Nat.reduceLT,Nat.reduceAdd,Nat.reduceLeDiff,Nat.reduceSub,Nat.reduceMul,Int.reduceLT,Int.reduceLE,Int.reduceEq,Int.reduceAdd,Int.reduceSub,Int.reduceMul]) (by simp [a61]) fun b' ht hx=>?_
 have h0:=hx 0 _ rfl
 clear hx
 simp only [a61,c61,zzm,zzg] at ht ⊢
 unfold zRN
 cases q1 : decide (0 ≤ x) <;> cases q2 : decide (x < 55296) <;> cases q3 : decide (57343 < x) <;> cases q4 : decide (x ≤ 1114111)
 all_goals simp (maxSteps:=2000000) (disch:=first | omega | assumption | (simp only [DS,Nat.reduceAdd, *]; done) | (simp only [DZ]; omega)) only [RUN,RU,zA4,zA2,zA1,zA5,frzL,slot,lay,icyL,zA6,zA0,kR,reduceIte,Nat.reduceEqDiff,Nat.reduceBEq,Nat.reduceLT,Nat.reduceAdd,Nat.reduceLeDiff,Nat.reduceSub,Nat.reduceMul,Int.reduceLT,Int.reduceLE,Int.reduceEq,Int.reduceAdd,Int.reduceSub,Int.reduceMul,h0,q1,q2,q3,q4]
theorem zRT (x : Int) (M : Mem) : zAF Try.prog (fsT tbl) fuel (d + 2) (.fn 60) [I32 x] M = some (BL (!okR x),M):=by
 have hv:=fun M=>@zRO fuel d x M
 apply zC1
 refine zAX tf60 rfl (by simp (maxSteps:=2000000) (disch:=first | omega | assumption | (simp only [DS,Nat.reduceAdd, *]; done) | (simp only [DZ]; omega)) only [RUN,RU,zA4,zA2,zA1,zA5,frzL,slot,lay,icyL,zA6,zA0,kR,reduceIte,Nat.reduceEqDiff,Nat.reduceBEq,Nat.reduceLT,Nat.reduceAdd,Nat.reduceLeDiff,Nat.reduceSub,Nat.reduceMul,Int.reduceLT,Int.reduceLE,Int.reduceEq,Int.reduceAdd,Int.reduceSub,Int.reduceMul]) (by simp [a60]) fun b' ht hx=>?_
 have h0:=hx 0 _ rfl
 clear hx
 simp only [a60,c60,zzm,zzg] at ht ⊢
 unfold okR
 cases q : decide (x = -1) <;> simp (maxSteps:=2000000) (disch:=first | omega | assumption | (simp only [DS,Nat.reduceAdd, *]; done) | (simp only [DZ]; omega)) only [RUN,RU,zA4,zA2,zA1,zA5,frzL,slot,lay,icyL,zA6,zA0,kR,reduceIte,Nat.reduceEqDiff,Nat.reduceBEq,Nat.reduceLT,Nat.reduceAdd,Nat.reduceLeDiff,Nat.reduceSub,Nat.reduceMul,Int.reduceLT,Int.reduceLE,Int.reduceEq,Int.reduceAdd,Int.reduceSub,Int.reduceMul,h0,q,hv,Bool.not_or]
theorem zLA {α : Type} (p : α → Bool) (l : List α) : (l.any fun x => !p x) = !l.all p:=by
 induction l with
 | nil=>rfl
 | cons x l ih=>simp only [List.any_cons,List.all_cons,ih,Bool.not_and]
theorem zOH {a : AV} {l : List Int} (hS : Sl 1 zBU a l) (hf : 100 < fuel) (M : Mem) : zAF Try.prog (fsT tbl) fuel (d + 5) (.fn 46) [a] M = some (I64 (chkR l),M):=by
 have ll:=hS.len
 apply zC1
 refine zAX tf46 rfl (by simp (maxSteps:=2000000) (disch:=first | omega | assumption | (simp only [DS,Nat.reduceAdd, *]; done) | (simp only [DZ]; omega)) only [RUN,RU,zA4,zA2,zA1,zA5,frzL,slot,lay,icyL,zA6,zA0,kR,reduceIte,Nat.reduceEqDiff,Nat.reduceBEq,Nat.reduceLT,Nat.reduceAdd,Nat.reduceLeDiff,Nat.reduceSub,Nat.reduceMul,Int.reduceLT,Int.reduceLE,Int.reduceEq,Int.reduceAdd,Int.reduceSub,Int.reduceMul,hS.fz.rows,hS.fz.one,hS.fz.cells,hS.fz.icy,hS.fz.frz]) (by simp [a46]) fun b' ht hx=>?_
 have h0:=hx 0 _ rfl
 clear hx
 simp only [a46,c46,zzm] at ht ⊢
 unfold chkR
 by_cases q : 64 < l.length
 ·have q1 : decide ((64 : Int) < l.length) = true:=decide_eq_true (by omega)
  simp (maxSteps:=2000000) (disch:=first | omega | assumption | (simp only [DS,Nat.reduceAdd, *]; done) | (simp only [DZ]; omega)) only [RUN,RU,zA4,zA2,zA1,zA5,frzL,slot,lay,icyL,zA6,zA0,kR,reduceIte,Nat.reduceEqDiff,Nat.reduceBEq,Nat.reduceLT,Nat.reduceAdd,Nat.reduceLeDiff,Nat.reduceSub,Nat.reduceMul,Int.reduceLT,Int.reduceLE,Int.reduceEq,Int.reduceAdd,Int.reduceSub,Int.reduceMul,h0,ll,hS.fz.rows,hS.fz.one,hS.fz.cells,hS.fz.icy,hS.fz.frz,q1,q,if_true]
 ·have q1 : decide ((64 : Int) < l.length) = false:=decide_eq_false (by omega)
  have hh:=fun M=>zZ6 (P:=Try.prog) (fs:=fsT tbl) (fuel:=fuel) (l:=l) (ag:=false) (n:=d + 2) tf62 tf67 (fun _=>rfl) zI4 hS (by omega) (by omega) (zPZ 60) (p:=fun x => !okR x) (fun r x hr _ M=>by
   obtain rfl:=hr
   exact @zRT fuel d x M) M
  rw [zLA] at hh
  cases hb : l.all okR <;> rw [hb] at hh <;> simp (maxSteps:=2000000) (disch:=first | omega | assumption | (simp only [DS,Nat.reduceAdd, *]; done) | (simp only [DZ]; omega)) only [RUN,RU,zA4,zA2,zA1,zA5,frzL,slot,lay,icyL,zA6,zA0,kR,reduceIte,Nat.reduceEqDiff,Nat.reduceBEq,Nat.reduceLT,Nat.reduceAdd,Nat.reduceLeDiff,Nat.reduceSub,Nat.reduceMul,Int.reduceLT,Int.reduceLE,Int.reduceEq,Int.reduceAdd,Int.reduceSub,Int.reduceMul,h0,ll,hS.fz.rows,hS.fz.one,hS.fz.cells,hS.fz.icy,hS.fz.frz,q1,q,hh,if_false,zBP,zD2]
theorem zR3 {a : AV} {l : List Int} (hS : Sl 1 zBU a l) (hl : l.length ≤ 1000000000) (wf : Wf M)
  (k : ∀ a' M',Wf M' → M.size ≤ M'.size → (∀ j,j < M.size → M'.get j = M.get j) → SlM M' 1 zBU a' l → (∀ id,rowOf a' = some id → M.size ≤ id) → M'.wm = M.wm → M'.dirty = M.dirty → Q a' M') : W3 (zAF Try.prog (fsT tbl) fuel (d + 1) (.fn 57) [a] M) Q :=
 zW6 zI4.cel tf57 Try.underlying32 hS (by omega) (by omega) wf k
end Go.Proofs.Ytakaojjlfcmphaa
namespace Go.Proofs.Ytakaojjlfcmphaa
open Go Go.Ax
def Rn.may (r : Rn) : Bool:=r.sp.may && (decide (r.af = Eid.z) || (r.af.may && decide (r.af.c < r.sp.f.c))) && decide ((r.rs.length : Int) = r.sp.n) && decide (chkR r.rs = 0)
theorem zXN {o : Rn} {ra : AV} (h : Fz ra) : rowsOf (.agg (rnR o ra)) = []:=zG0 (zQ1 h)
theorem zC7 {o : Rn} {ra : AV} (h : Fz ra) (M : Mem) : icy 12 M (.agg (rnR o ra)) = some (.agg (rnR o ra),M):=zCK (zQ1 h) (by omega) M
end Go.Proofs.Ytakaojjlfcmphaa
namespace Go.Proofs.Ytakaojjlfcmphaa
open Go Go.Ax
variable {fuel : Nat} {M : Mem} {Q : AV → Mem → Prop} {d : Nat}
set_option maxHeartbeats 4000000 in
theorem zC8 {o : Rn} {ra : AV} (hS : Sl 1 zBU ra o.rs) (hf : 100 < fuel) (M : Mem) : zAF Try.prog (fsT tbl) fuel (d + 6) (.fn 27) [.agg (rnR o ra)] M = some (I64 (err o.may),M):=by
 have ll:=hS.len
 have hc:=fun M=>@zPH fuel (d + 2) o.af M
 have hs:=fun M=>@zH5 fuel (d + 1) o.sp M
 have hr:=fun M=>zOH (fuel:=fuel) (d:=d) hS hf M
 apply zC1
 refine zAX tf27 rfl (by simp only [icyL,zC7 hS.fz]) (by simp [a27]) fun b' ht hx=>?_
 have h0:=hx 0 _ rfl
 clear hx
 simp only [a27,c27,zz2,zzm,zzg] at ht ⊢
 unfold Rn.may
 cases q0 : o.sp.may <;> rw [q0] at hs <;> simp only [Bool.false_and,Bool.true_and]
 all_goals
  cases q1 : decide (o.af = Eid.z)
  ·cases q2 : o.af.may <;> rw [q2] at hc
   ·simp (maxSteps:=2000000) (disch:=first | omega | assumption | (simp only [DS,Nat.reduceAdd, *]; done) | (simp only [DZ]; omega)) only [RUN,RU,zA4,zA2,zA1,zA5,frzL,slot,lay,icyL,zA6,zA0,kR,reduceIte,Nat.reduceEqDiff,Nat.reduceBEq,Nat.reduceLT,Nat.reduceAdd,Nat.reduceLeDiff,Nat.reduceSub,Nat.reduceMul,Int.reduceLT,Int.reduceLE,Int.reduceEq,Int.reduceAdd,Int.reduceSub,Int.reduceMul,h0,hS.fz.rows,hS.fz.one,hS.fz.cells,hS.fz.icy,hS.fz.frz,↓pIdE,zAK,↓pIdN,zAH,↓pHdE,zAI,↓pHdN,zAJ,↓pLbE,zAL,↓pLbN,zAM,↓pSpE,zAN,↓pSpN,zAO,ETA,q1,hc,hs,zBP,zD2,z00,z80,Bool.false_and]
   ·cases q3 : decide (o.af.c < o.sp.f.c)
    ·simp (maxSteps:=2000000) (disch:=first | omega | assumption | (simp only [DS,Nat.reduceAdd, *]; done) | (simp only [DZ]; omega)) only [RUN,RU,zA4,zA2,zA1,zA5,frzL,slot,lay,icyL,zA6,zA0,kR,reduceIte,Nat.reduceEqDiff,Nat.reduceBEq,Nat.reduceLT,Nat.reduceAdd,Nat.reduceLeDiff,Nat.reduceSub,Nat.reduceMul,Int.reduceLT,Int.reduceLE,Int.reduceEq,Int.reduceAdd,Int.reduceSub,Int.reduceMul,h0,hS.fz.rows,hS.fz.one,hS.fz.cells,hS.fz.icy,hS.fz.frz,↓pIdE,zAK,↓pIdN,zAH,↓pHdE,zAI,↓pHdN,zAJ,↓pLbE,zAL,↓pLbN,zAM,↓pSpE,zAN,↓pSpN,zAO,ETA,q1,hc,hs,q3,zBP,zD2,z00,z80,Bool.false_and]
    ·cases q4 : decide ((o.rs.length : Int) = o.sp.n)
     ·simp (maxSteps:=2000000) (disch:=first | omega | assumption | (simp only [DS,Nat.reduceAdd, *]; done) | (simp only [DZ]; omega)) only [RUN,RU,zA4,zA2,zA1,zA5,frzL,slot,lay,icyL,zA6,zA0,kR,reduceIte,Nat.reduceEqDiff,Nat.reduceBEq,Nat.reduceLT,Nat.reduceAdd,Nat.reduceLeDiff,Nat.reduceSub,Nat.reduceMul,Int.reduceLT,Int.reduceLE,Int.reduceEq,Int.reduceAdd,Int.reduceSub,Int.reduceMul,h0,hS.fz.rows,hS.fz.one,hS.fz.cells,hS.fz.icy,hS.fz.frz,↓pIdE,zAK,↓pIdN,zAH,↓pHdE,zAI,↓pHdN,zAJ,↓pLbE,zAL,↓pLbN,zAM,↓pSpE,zAN,↓pSpN,zAO,ETA,q1,hc,hs,q3,q4,ll,zBP,zD2,z00,z80,Bool.false_and]
     ·cases q5 : decide (chkR o.rs = 0)
      ·simp (maxSteps:=2000000) (disch:=first | omega | assumption | (simp only [DS,Nat.reduceAdd, *]; done) | (simp only [DZ]; omega)) only [RUN,RU,zA4,zA2,zA1,zA5,frzL,slot,lay,icyL,zA6,zA0,kR,reduceIte,Nat.reduceEqDiff,Nat.reduceBEq,Nat.reduceLT,Nat.reduceAdd,Nat.reduceLeDiff,Nat.reduceSub,Nat.reduceMul,Int.reduceLT,Int.reduceLE,Int.reduceEq,Int.reduceAdd,Int.reduceSub,Int.reduceMul,h0,hS.fz.rows,hS.fz.one,hS.fz.cells,hS.fz.icy,hS.fz.frz,↓pIdE,zAK,↓pIdN,zAH,↓pHdE,zAI,↓pHdN,zAJ,↓pLbE,zAL,↓pLbN,zAM,↓pSpE,zAN,↓pSpN,zAO,ETA,q1,hc,hs,q3,q4,q5,ll,hr,zBP,zD2,z00,z80,Bool.false_and]
      ·simp (maxSteps:=2000000) (disch:=first | omega | assumption | (simp only [DS,Nat.reduceAdd, *]; done) | (simp only [DZ]; omega)) only [RUN,RU,zA4,zA2,zA1,zA5,frzL,slot,lay,icyL,zA6,zA0,kR,reduceIte,Nat.reduceEqDiff,Nat.reduceBEq,Nat.reduceLT,Nat.reduceAdd,Nat.reduceLeDiff,Nat.reduceSub,Nat.reduceMul,Int.reduceLT,Int.reduceLE,Int.reduceEq,Int.reduceAdd,Int.reduceSub,Int.reduceMul,h0,hS.fz.rows,hS.fz.one,hS.fz.cells,hS.fz.icy,hS.fz.frz,↓pIdE,zAK,↓pIdN,zAH,↓pHdE,zAI,↓pHdN,zAJ,↓pLbE,zAL,↓pLbN,zAM,↓pSpE,zAN,↓pSpN,zAO,ETA,q1,hc,hs,q3,q4,q5,ll,hr,zBP,zD2,z00,z80,Bool.false_and]
  ·cases q4 : decide ((o.rs.length : Int) = o.sp.n)
   ·simp (maxSteps:=2000000) (disch:=first | omega | assumption | (simp only [DS,Nat.reduceAdd, *]; done) | (simp only [DZ]; omega)) only [RUN,RU,zA4,zA2,zA1,zA5,frzL,slot,lay,icyL,zA6,zA0,kR,reduceIte,Nat.reduceEqDiff,Nat.reduceBEq,Nat.reduceLT,Nat.reduceAdd,Nat.reduceLeDiff,Nat.reduceSub,Nat.reduceMul,Int.reduceLT,Int.reduceLE,Int.reduceEq,Int.reduceAdd,Int.reduceSub,Int.reduceMul,h0,hS.fz.rows,hS.fz.one,hS.fz.cells,hS.fz.icy,hS.fz.frz,↓pIdE,zAK,↓pIdN,zAH,↓pHdE,zAI,↓pHdN,zAJ,↓pLbE,zAL,↓pLbN,zAM,↓pSpE,zAN,↓pSpN,zAO,ETA,q1,hc,hs,q4,ll,zBP,zD2,z00,z80,Bool.false_and]
   ·cases q5 : decide (chkR o.rs = 0)
    ·simp (maxSteps:=2000000) (disch:=first | omega | assumption | (simp only [DS,Nat.reduceAdd, *]; done) | (simp only [DZ]; omega)) only [RUN,RU,zA4,zA2,zA1,zA5,frzL,slot,lay,icyL,zA6,zA0,kR,reduceIte,Nat.reduceEqDiff,Nat.reduceBEq,Nat.reduceLT,Nat.reduceAdd,Nat.reduceLeDiff,Nat.reduceSub,Nat.reduceMul,Int.reduceLT,Int.reduceLE,Int.reduceEq,Int.reduceAdd,Int.reduceSub,Int.reduceMul,h0,hS.fz.rows,hS.fz.one,hS.fz.cells,hS.fz.icy,hS.fz.frz,↓pIdE,zAK,↓pIdN,zAH,↓pHdE,zAI,↓pHdN,zAJ,↓pLbE,zAL,↓pLbN,zAM,↓pSpE,zAN,↓pSpN,zAO,ETA,q1,hc,hs,q4,q5,ll,hr,zBP,zD2,z00,z80,Bool.false_and]
    ·simp (maxSteps:=2000000) (disch:=first | omega | assumption | (simp only [DS,Nat.reduceAdd, *]; done) | (simp only [DZ]; omega)) only [RUN,RU,zA4,zA2,zA1,zA5,frzL,slot,lay,icyL,zA6,zA0,kR,reduceIte,Nat.reduceEqDiff,Nat.reduceBEq,Nat.reduceLT,Nat.reduceAdd,Nat.reduceLeDiff,Nat.reduceSub,Nat.reduceMul,Int.reduceLT,Int.reduceLE,Int.reduceEq,Int.reduceAdd,Int.reduceSub,Int.reduceMul,h0,hS.fz.rows,hS.fz.one,hS.fz.cells,hS.fz.icy,hS.fz.frz,↓pIdE,zAK,↓pIdN,zAH,↓pHdE,zAI,↓pHdN,zAJ,↓pLbE,zAL,↓pLbN,zAM,↓pSpE,zAN,↓pSpN,zAO,ETA,q1,hc,hs,q4,q5,ll,hr,zBP,zD2,z00,z80,Bool.false_and]
end Go.Proofs.Ytakaojjlfcmphaa
namespace Go.Proofs.Ytakaojjlfcmphaa
open Go Go.Ax
variable {fuel : Nat} {M : Mem} {Q : AV → Mem → Prop} {d : Nat}
def Spn.at (s : Spn) (n : Int) : Eid:=⟨s.f.hd,s.f.c + n⟩
theorem zN4 (x : Eid) (n : Int) (M : Mem) : zAF Try.prog (fsT tbl) fuel (d + 1) (.fn 49) [idA x,I64 n] M = some (idA ⟨x.hd,IntKind.i64.wrap (x.c + n)⟩,M):=by
 apply zC1
 refine zAX tf49 rfl (by simp (maxSteps:=2000000) (disch:=first | omega | assumption | (simp only [DS,Nat.reduceAdd, *]; done) | (simp only [DZ]; omega)) only [RUN,RU,zA4,zA2,zA1,zA5,frzL,slot,lay,icyL,zA6,zA0,kR,reduceIte,Nat.reduceEqDiff,Nat.reduceBEq,Nat.reduceLT,Nat.reduceAdd,Nat.reduceLeDiff,Nat.reduceSub,Nat.reduceMul,Int.reduceLT,Int.reduceLE,Int.reduceEq,Int.reduceAdd,Int.reduceSub,Int.reduceMul]) (by simp [a49]) fun b' ht hx=>?_
 have h0:=hx 0 _ rfl
 have h1:=hx 1 _ rfl
 clear hx
 simp only [a49,c49,zz2] at ht ⊢
 simp (maxSteps:=2000000) (disch:=first | omega | assumption | (simp only [DS,Nat.reduceAdd, *]; done) | (simp only [DZ]; omega)) only [RUN,RU,zA4,zA2,zA1,zA5,frzL,slot,lay,icyL,zA6,zA0,kR,reduceIte,Nat.reduceEqDiff,Nat.reduceBEq,Nat.reduceLT,Nat.reduceAdd,Nat.reduceLeDiff,Nat.reduceSub,Nat.reduceMul,Int.reduceLT,Int.reduceLE,Int.reduceEq,Int.reduceAdd,Int.reduceSub,Int.reduceMul,h0,h1]
def Spn.has (s : Spn) (x : Eid) : Option Int:=if s.may = true ∧ x.hd = s.f.hd ∧ s.f.c ≤ x.c ∧ x.c < s.f.c + s.n then some (x.c - s.f.c) else none
theorem Spn.may_le {s : Spn} (h : s.may = true) : 1 ≤ s.f.c ∧ s.f.c ≤ 1099511627776 ∧ 1 ≤ s.n ∧ s.n ≤ 64 ∧ s.f.c + s.n ≤ 1099511627777:=by
 unfold Spn.may Eid.may at h
 simp only [Bool.and_eq_true,decide_eq_true_eq] at h
 omega
theorem zWQ (s : Spn) (x : Eid) (M : Mem) : zAF Try.prog (fsT tbl) fuel (d + 5) (.fn 48) [spA s,idA x] M = some (.tup [I64 ((s.has x).getD 0),BL (s.has x).isSome],M):=by
 have hc:=fun M=>@zH5 fuel d s M
 have hn:=fun x n M=>@zN4 fuel (d + 3) x n M
 have pIdN:=@pIdN
 apply zC1
 refine zAX tf48 rfl (by simp (maxSteps:=2000000) (disch:=first | omega | assumption | (simp only [DS,Nat.reduceAdd, *]; done) | (simp only [DZ]; omega)) only [RUN,RU,zA4,zA2,zA1,zA5,frzL,slot,lay,icyL,zA6,zA0,kR,reduceIte,Nat.reduceEqDiff,Nat.reduceBEq,Nat.reduceLT,Nat.reduceAdd,Nat.reduceLeDiff,Nat.reduceSub,Nat.reduceMul,Int.reduceLT,Int.reduceLE,Int.reduceEq,Int.reduceAdd,Int.reduceSub,Int.reduceMul]) (by simp [a48]) fun b' ht hx=>?_
 have h0:=hx 0 _ rfl
 have h1:=hx 1 _ rfl
 clear hx
 simp only [a48,c48,zzm,zzg] at ht ⊢
 cases hm : s.may with
 | false =>
  rw [hm] at hc
  have e : s.has x = none:=by unfold Spn.has; rw [if_neg (by simp [hm])]
  simp (maxSteps:=2000000) (disch:=first | omega | assumption | (simp only [DS,Nat.reduceAdd, *]; done) | (simp only [DZ]; omega)) only [RUN,RU,zA4,zA2,zA1,zA5,frzL,slot,lay,icyL,zA6,zA0,kR,reduceIte,Nat.reduceEqDiff,Nat.reduceBEq,Nat.reduceLT,Nat.reduceAdd,Nat.reduceLeDiff,Nat.reduceSub,Nat.reduceMul,Int.reduceLT,Int.reduceLE,Int.reduceEq,Int.reduceAdd,Int.reduceSub,Int.reduceMul,h0,h1,hc,zD2,z80,e,Option.getD_none,Option.isSome_none]
 | true =>
  rw [hm] at hc
  have hb:=Spn.may_le hm
  generalize hw : IntKind.i64.wrap (x.c - s.f.c) = n at *
  by_cases q1 : n < 0
  ·have e : s.has x = none:=by
    unfold Spn.has
    rw [if_neg]
    rintro ⟨_,_,h1,h2⟩
    rw [wrap_i64 (by omega) (by omega)] at hw
    omega
   have q : decide (n < 0) = true:=decide_eq_true q1
   simp (maxSteps:=2000000) (disch:=first | omega | assumption | (simp only [DS,Nat.reduceAdd, *]; done) | (simp only [DZ]; omega)) only [RUN,RU,zA4,zA2,zA1,zA5,frzL,slot,lay,icyL,zA6,zA0,kR,reduceIte,Nat.reduceEqDiff,Nat.reduceBEq,Nat.reduceLT,Nat.reduceAdd,Nat.reduceLeDiff,Nat.reduceSub,Nat.reduceMul,Int.reduceLT,Int.reduceLE,Int.reduceEq,Int.reduceAdd,Int.reduceSub,Int.reduceMul,h0,h1,hc,zBP,z00,hw,q,e,Option.getD_none,Option.isSome_none]
  ·by_cases q2 : s.n ≤ n
   ·have e : s.has x = none:=by
     unfold Spn.has
     rw [if_neg]
     rintro ⟨_,_,h1,h2⟩
     rw [wrap_i64 (by omega) (by omega)] at hw
     omega
    have q : decide (n < 0) = false:=decide_eq_false q1
    have q' : decide (s.n ≤ n) = true:=decide_eq_true q2
    simp (maxSteps:=2000000) (disch:=first | omega | assumption | (simp only [DS,Nat.reduceAdd, *]; done) | (simp only [DZ]; omega)) only [RUN,RU,zA4,zA2,zA1,zA5,frzL,slot,lay,icyL,zA6,zA0,kR,reduceIte,Nat.reduceEqDiff,Nat.reduceBEq,Nat.reduceLT,Nat.reduceAdd,Nat.reduceLeDiff,Nat.reduceSub,Nat.reduceMul,Int.reduceLT,Int.reduceLE,Int.reduceEq,Int.reduceAdd,Int.reduceSub,Int.reduceMul,h0,h1,hc,zBP,z00,hw,q,q',e,Option.getD_none,Option.isSome_none]
   ·have q : decide (n < 0) = false:=decide_eq_false q1
    have q' : decide (s.n ≤ n) = false:=decide_eq_false q2
    have w2 : IntKind.i64.wrap (s.f.c + n) = s.f.c + n:=wrap_i64 (by omega) (by omega)
    by_cases q3 : x = ⟨s.f.hd,s.f.c + n⟩
    ·have e : s.has x = some n:=by
      unfold Spn.has
      rw [if_pos ⟨hm,by rw [q3],by rw [q3]; show s.f.c ≤ s.f.c + n; omega,by rw [q3]; show s.f.c + n < _; omega⟩,q3]
      congr 1
      show s.f.c + n - s.f.c = n
      omega
     have q4 : decide (x = ⟨s.f.hd,s.f.c + n⟩) = true:=decide_eq_true q3
     simp (maxSteps:=2000000) (disch:=first | omega | assumption | (simp only [DS,Nat.reduceAdd, *]; done) | (simp only [DZ]; omega)) only [RUN,RU,zA4,zA2,zA1,zA5,frzL,slot,lay,icyL,zA6,zA0,kR,reduceIte,Nat.reduceEqDiff,Nat.reduceBEq,Nat.reduceLT,Nat.reduceAdd,Nat.reduceLeDiff,Nat.reduceSub,Nat.reduceMul,Int.reduceLT,Int.reduceLE,Int.reduceEq,Int.reduceAdd,Int.reduceSub,Int.reduceMul,h0,h1,hc,zBP,z00,hw,q,q',hn,w2,↓pIdN,zAH,ETA,q4,e,Option.getD_some,Option.isSome_some]
    ·have e : s.has x = none:=by
      unfold Spn.has
      rw [if_neg]
      rintro ⟨_,h0,h1,h2⟩
      rw [wrap_i64 (by omega) (by omega)] at hw
      apply q3
      obtain ⟨xh,xc⟩:=x
      simp only at h0 hw ⊢
      rw [h0,← hw]
      congr 1
      omega
     have q4 : decide (x = ⟨s.f.hd,s.f.c + n⟩) = false:=decide_eq_false q3
     simp (maxSteps:=2000000) (disch:=first | omega | assumption | (simp only [DS,Nat.reduceAdd, *]; done) | (simp only [DZ]; omega)) only [RUN,RU,zA4,zA2,zA1,zA5,frzL,slot,lay,icyL,zA6,zA0,kR,reduceIte,Nat.reduceEqDiff,Nat.reduceBEq,Nat.reduceLT,Nat.reduceAdd,Nat.reduceLeDiff,Nat.reduceSub,Nat.reduceMul,Int.reduceLT,Int.reduceLE,Int.reduceEq,Int.reduceAdd,Int.reduceSub,Int.reduceMul,h0,h1,hc,zBP,z00,hw,q,q',hn,w2,↓pIdN,zAH,ETA,q4,e,Option.getD_none,Option.isSome_none]
theorem zK3 (s : Spn) (n : Int) (M : Mem) : zAF Try.prog (fsT tbl) fuel (d + 5) (.fn 31) [spA s,I64 n] M = some (if s.may then (if n < 0 ∨ s.n ≤ n then .tup [idA Eid.z,I64 2] else .tup [idA (s.at n),I64 0]) else .tup [idA Eid.z,I64 8],M):=by
 have hc:=fun M=>@zH5 fuel d s M
 have hn:=fun x n M=>@zN4 fuel (d + 3) x n M
 apply zC1
 refine zAX tf31 rfl (by simp (maxSteps:=2000000) (disch:=first | omega | assumption | (simp only [DS,Nat.reduceAdd, *]; done) | (simp only [DZ]; omega)) only [RUN,RU,zA4,zA2,zA1,zA5,frzL,slot,lay,icyL,zA6,zA0,kR,reduceIte,Nat.reduceEqDiff,Nat.reduceBEq,Nat.reduceLT,Nat.reduceAdd,Nat.reduceLeDiff,Nat.reduceSub,Nat.reduceMul,Int.reduceLT,Int.reduceLE,Int.reduceEq,Int.reduceAdd,Int.reduceSub,Int.reduceMul]) (by simp [a31]) fun b' ht hx=>?_
 have h0:=hx 0 _ rfl
 have h1:=hx 1 _ rfl
 clear hx
 simp only [a31,c31,zz2,zzm] at ht ⊢
 cases hm : s.may with
 | false =>
  rw [hm] at hc
  simp (maxSteps:=2000000) (disch:=first | omega | assumption | (simp only [DS,Nat.reduceAdd, *]; done) | (simp only [DZ]; omega)) only [RUN,RU,zA4,zA2,zA1,zA5,frzL,slot,lay,icyL,zA6,zA0,kR,reduceIte,Nat.reduceEqDiff,Nat.reduceBEq,Nat.reduceLT,Nat.reduceAdd,Nat.reduceLeDiff,Nat.reduceSub,Nat.reduceMul,Int.reduceLT,Int.reduceLE,Int.reduceEq,Int.reduceAdd,Int.reduceSub,Int.reduceMul,h0,h1,hc,zD2,z80,Bool.false_eq_true,if_false]
 | true =>
  rw [hm] at hc
  have hb:=Spn.may_le hm
  by_cases q1 : n < 0
  ·have q : decide (n < 0) = true:=decide_eq_true q1
   simp (maxSteps:=2000000) (disch:=first | omega | assumption | (simp only [DS,Nat.reduceAdd, *]; done) | (simp only [DZ]; omega)) only [RUN,RU,zA4,zA2,zA1,zA5,frzL,slot,lay,icyL,zA6,zA0,kR,reduceIte,Nat.reduceEqDiff,Nat.reduceBEq,Nat.reduceLT,Nat.reduceAdd,Nat.reduceLeDiff,Nat.reduceSub,Nat.reduceMul,Int.reduceLT,Int.reduceLE,Int.reduceEq,Int.reduceAdd,Int.reduceSub,Int.reduceMul,h0,h1,hc,zBP,z00,q,q1,true_or,if_true]
  ·have q : decide (n < 0) = false:=decide_eq_false q1
   by_cases q2 : s.n ≤ n
   ·have q' : decide (s.n ≤ n) = true:=decide_eq_true q2
    simp (maxSteps:=2000000) (disch:=first | omega | assumption | (simp only [DS,Nat.reduceAdd, *]; done) | (simp only [DZ]; omega)) only [RUN,RU,zA4,zA2,zA1,zA5,frzL,slot,lay,icyL,zA6,zA0,kR,reduceIte,Nat.reduceEqDiff,Nat.reduceBEq,Nat.reduceLT,Nat.reduceAdd,Nat.reduceLeDiff,Nat.reduceSub,Nat.reduceMul,Int.reduceLT,Int.reduceLE,Int.reduceEq,Int.reduceAdd,Int.reduceSub,Int.reduceMul,h0,h1,hc,zBP,z00,q,q',q1,q2,or_true,if_true]
   ·have q' : decide (s.n ≤ n) = false:=decide_eq_false q2
    have w2 : IntKind.i64.wrap (s.f.c + n) = s.f.c + n:=wrap_i64 (by omega) (by omega)
    unfold Spn.at
    simp (maxSteps:=2000000) (disch:=first | omega | assumption | (simp only [DS,Nat.reduceAdd, *]; done) | (simp only [DZ]; omega)) only [RUN,RU,zA4,zA2,zA1,zA5,frzL,slot,lay,icyL,zA6,zA0,kR,reduceIte,Nat.reduceEqDiff,Nat.reduceBEq,Nat.reduceLT,Nat.reduceAdd,Nat.reduceLeDiff,Nat.reduceSub,Nat.reduceMul,Int.reduceLT,Int.reduceLE,Int.reduceEq,Int.reduceAdd,Int.reduceSub,Int.reduceMul,h0,h1,hc,zBP,z00,q,q',q1,q2,or_self,if_true,if_false,hn,w2]
end Go.Proofs.Ytakaojjlfcmphaa
namespace Go.Proofs.Ytakaojjlfcmphaa
open Go Go.Ax
variable {fuel : Nat} {M : Mem} {Q : AV → Mem → Prop} {d : Nat}
def Lb.ahead (a b : Lb) : Bool:=decide (a.lv < b.lv) || (decide (a.lv = b.lv) && decide (a.cats < b.cats))
def Eid.less (x y : Eid) : Bool:=if x.c = y.c then (if x.hd.lb = y.hd.lb then decide (x.hd.num < y.hd.num) else x.hd.lb.ahead y.hd.lb) else decide (x.c < y.c)
theorem zOY (a b : Lb) (M : Mem) : zAF Try.prog (fsT tbl) fuel (d + 1) (.fn 51) [lbA a,lbA b] M = some (BL (a.ahead b),M):=by
 have pLbE:=@pLbE
 apply zC1
 refine zAX tf51 rfl (by simp (maxSteps:=2000000) (disch:=first | omega | assumption | (simp only [DS,Nat.reduceAdd, *]; done) | (simp only [DZ]; omega)) only [RUN,RU,zA4,zA2,zA1,zA5,frzL,slot,lay,icyL,zA6,zA0,kR,reduceIte,Nat.reduceEqDiff,Nat.reduceBEq,Nat.reduceLT,Nat.reduceAdd,Nat.reduceLeDiff,Nat.reduceSub,Nat.reduceMul,Int.reduceLT,Int.reduceLE,Int.reduceEq,Int.reduceAdd,Int.reduceSub,Int.reduceMul]) (by simp [a51]) fun b' ht hx=>?_
 have h0:=hx 0 _ rfl
 have h1:=hx 1 _ rfl
 clear hx
 simp only [a51,c51,zz3,zzm,zzg] at ht ⊢
 unfold Lb.ahead
 cases q1 : decide (a.lv < b.lv) with
 | true=>simp (maxSteps:=2000000) (disch:=first | omega | assumption | (simp only [DS,Nat.reduceAdd, *]; done) | (simp only [DZ]; omega)) only [RUN,RU,zA4,zA2,zA1,zA5,frzL,slot,lay,icyL,zA6,zA0,kR,reduceIte,Nat.reduceEqDiff,Nat.reduceBEq,Nat.reduceLT,Nat.reduceAdd,Nat.reduceLeDiff,Nat.reduceSub,Nat.reduceMul,Int.reduceLT,Int.reduceLE,Int.reduceEq,Int.reduceAdd,Int.reduceSub,Int.reduceMul,h0,h1,q1,↓pIdE,zAK,↓pIdN,zAH,↓pHdE,zAI,↓pHdN,zAJ,↓pLbE,zAL,↓pLbN,zAM,↓pSpE,zAN,↓pSpN,zAO,ETA,Bool.true_or]
 | false =>
  have e : decide (a = (⟨b.lv,a.cats⟩ : Lb)) = decide (a.lv = b.lv):=by
   rw [Bool.eq_iff_iff,decide_eq_true_iff,decide_eq_true_iff]
   constructor
   ·intro h; rw [h]
   ·intro h
    obtain ⟨x,y⟩:=a
    simp only at h ⊢
    rw [h]
  cases q2 : decide (a.lv = b.lv) with
  | true =>
   rw [q2] at e
   simp (maxSteps:=2000000) (disch:=first | omega | assumption | (simp only [DS,Nat.reduceAdd, *]; done) | (simp only [DZ]; omega)) only [RUN,RU,zA4,zA2,zA1,zA5,frzL,slot,lay,icyL,zA6,zA0,kR,reduceIte,Nat.reduceEqDiff,Nat.reduceBEq,Nat.reduceLT,Nat.reduceAdd,Nat.reduceLeDiff,Nat.reduceSub,Nat.reduceMul,Int.reduceLT,Int.reduceLE,Int.reduceEq,Int.reduceAdd,Int.reduceSub,Int.reduceMul,h0,h1,q1,↓pIdE,zAK,↓pIdN,zAH,↓pHdE,zAI,↓pHdN,zAJ,↓pLbE,zAL,↓pLbN,zAM,↓pSpE,zAN,↓pSpN,zAO,ETA,e,Bool.false_or,Bool.true_and]
  | false =>
   rw [q2] at e
   simp (maxSteps:=2000000) (disch:=first | omega | assumption | (simp only [DS,Nat.reduceAdd, *]; done) | (simp only [DZ]; omega)) only [RUN,RU,zA4,zA2,zA1,zA5,frzL,slot,lay,icyL,zA6,zA0,kR,reduceIte,Nat.reduceEqDiff,Nat.reduceBEq,Nat.reduceLT,Nat.reduceAdd,Nat.reduceLeDiff,Nat.reduceSub,Nat.reduceMul,Int.reduceLT,Int.reduceLE,Int.reduceEq,Int.reduceAdd,Int.reduceSub,Int.reduceMul,h0,h1,q1,↓pIdE,zAK,↓pIdN,zAH,↓pHdE,zAI,↓pHdN,zAJ,↓pLbE,zAL,↓pLbN,zAM,↓pSpE,zAN,↓pSpN,zAO,ETA,e,Bool.false_or,Bool.false_and]
theorem zEO (x y : Eid) (M : Mem) : zAF Try.prog (fsT tbl) fuel (d + 2) (.fn 33) [idA x,idA y] M = some (BL (x.less y),M):=by
 have pLbN:=@pLbN
 have ha:=fun M=>@zOY fuel d x.hd.lb y.hd.lb M
 apply zC1
 refine zAX tf33 rfl (by simp (maxSteps:=2000000) (disch:=first | omega | assumption | (simp only [DS,Nat.reduceAdd, *]; done) | (simp only [DZ]; omega)) only [RUN,RU,zA4,zA2,zA1,zA5,frzL,slot,lay,icyL,zA6,zA0,kR,reduceIte,Nat.reduceEqDiff,Nat.reduceBEq,Nat.reduceLT,Nat.reduceAdd,Nat.reduceLeDiff,Nat.reduceSub,Nat.reduceMul,Int.reduceLT,Int.reduceLE,Int.reduceEq,Int.reduceAdd,Int.reduceSub,Int.reduceMul]) (by simp [a33]) fun b' ht hx=>?_
 have h0:=hx 0 _ rfl
 have h1:=hx 1 _ rfl
 clear hx
 simp only [a33,c33,zzm] at ht ⊢
 unfold Eid.less
 by_cases q1 : x.c = y.c
 ·have q1' : decide (x.c = y.c) = true:=decide_eq_true q1
  by_cases q2 : x.hd.lb = y.hd.lb
  ·have q2' : decide (x.hd.lb = y.hd.lb) = true:=decide_eq_true q2
   simp only [if_pos q1,if_pos q2]
   simp (maxSteps:=2000000) (disch:=first | omega | assumption | (simp only [DS,Nat.reduceAdd, *]; done) | (simp only [DZ]; omega)) only [RUN,RU,zA4,zA2,zA1,zA5,frzL,slot,lay,icyL,zA6,zA0,kR,reduceIte,Nat.reduceEqDiff,Nat.reduceBEq,Nat.reduceLT,Nat.reduceAdd,Nat.reduceLeDiff,Nat.reduceSub,Nat.reduceMul,Int.reduceLT,Int.reduceLE,Int.reduceEq,Int.reduceAdd,Int.reduceSub,Int.reduceMul,h0,h1,q1',↓pIdE,zAK,↓pIdN,zAH,↓pHdE,zAI,↓pHdN,zAJ,↓pLbE,zAL,↓pLbN,zAM,↓pSpE,zAN,↓pSpN,zAO,ETA,q2']
  ·have q2' : decide (x.hd.lb = y.hd.lb) = false:=decide_eq_false q2
   simp only [if_pos q1,if_neg q2]
   simp (maxSteps:=2000000) (disch:=first | omega | assumption | (simp only [DS,Nat.reduceAdd, *]; done) | (simp only [DZ]; omega)) only [RUN,RU,zA4,zA2,zA1,zA5,frzL,slot,lay,icyL,zA6,zA0,kR,reduceIte,Nat.reduceEqDiff,Nat.reduceBEq,Nat.reduceLT,Nat.reduceAdd,Nat.reduceLeDiff,Nat.reduceSub,Nat.reduceMul,Int.reduceLT,Int.reduceLE,Int.reduceEq,Int.reduceAdd,Int.reduceSub,Int.reduceMul,h0,h1,q1',↓pIdE,zAK,↓pIdN,zAH,↓pHdE,zAI,↓pHdN,zAJ,↓pLbE,zAL,↓pLbN,zAM,↓pSpE,zAN,↓pSpN,zAO,ETA,q2',ha]
 ·have q1' : decide (x.c = y.c) = false:=decide_eq_false q1
  simp only [if_neg q1]
  simp (maxSteps:=2000000) (disch:=first | omega | assumption | (simp only [DS,Nat.reduceAdd, *]; done) | (simp only [DZ]; omega)) only [RUN,RU,zA4,zA2,zA1,zA5,frzL,slot,lay,icyL,zA6,zA0,kR,reduceIte,Nat.reduceEqDiff,Nat.reduceBEq,Nat.reduceLT,Nat.reduceAdd,Nat.reduceLeDiff,Nat.reduceSub,Nat.reduceMul,Int.reduceLT,Int.reduceLE,Int.reduceEq,Int.reduceAdd,Int.reduceSub,Int.reduceMul,h0,h1,q1']
def cutE (s : Spn) (n : Int) : Int:=if s.may then (if n ≤ 0 ∨ s.n ≤ n then 2 else 0) else 8
def spZ : Spn:=⟨Eid.z,0⟩
theorem zOA (s : Spn) (n : Int) (M : Mem) : zAF Try.prog (fsT tbl) fuel (d + 6) (.fn 54) [spA s,I64 n] M = some (if cutE s n = 0 then .tup [spA ⟨s.f,n⟩,spA ⟨s.at n,s.n - n⟩,I64 0] else .tup [spA spZ,spA spZ,I64 (cutE s n)],M):=by
 have hat:=fun M=>@zK3 fuel d s n M
 apply zC1
 refine zAX tf54 rfl (by simp (maxSteps:=2000000) (disch:=first | omega | assumption | (simp only [DS,Nat.reduceAdd, *]; done) | (simp only [DZ]; omega)) only [RUN,RU,zA4,zA2,zA1,zA5,frzL,slot,lay,icyL,zA6,zA0,kR,reduceIte,Nat.reduceEqDiff,Nat.reduceBEq,Nat.reduceLT,Nat.reduceAdd,Nat.reduceLeDiff,Nat.reduceSub,Nat.reduceMul,Int.reduceLT,Int.reduceLE,Int.reduceEq,Int.reduceAdd,Int.reduceSub,Int.reduceMul]) (by simp [a54]) fun b' ht hx=>?_
 have h0:=hx 0 _ rfl
 have h1:=hx 1 _ rfl
 clear hx
 simp only [a54,c54,zz1,zz2,zzm,zzg] at ht ⊢
 unfold cutE spZ
 cases hm : s.may with
 | false =>
  simp only [hm,Bool.false_eq_true,if_false] at hat
  simp (maxSteps:=2000000) (disch:=first | omega | assumption | (simp only [DS,Nat.reduceAdd, *]; done) | (simp only [DZ]; omega)) only [RUN,RU,zA4,zA2,zA1,zA5,frzL,slot,lay,icyL,zA6,zA0,kR,reduceIte,Nat.reduceEqDiff,Nat.reduceBEq,Nat.reduceLT,Nat.reduceAdd,Nat.reduceLeDiff,Nat.reduceSub,Nat.reduceMul,Int.reduceLT,Int.reduceLE,Int.reduceEq,Int.reduceAdd,Int.reduceSub,Int.reduceMul,h0,h1,hat,z80,Bool.false_eq_true,if_false]
  all_goals rfl
 | true =>
  simp only [hm,if_true] at hat
  have hb:=Spn.may_le hm
  by_cases q0 : n < 0 ∨ s.n ≤ n
  ·simp only [q0,if_true] at hat
   have q2 : n ≤ 0 ∨ s.n ≤ n:=by omega
   have q3 : decide (n = 0) = false:=decide_eq_false (by omega)
   simp (maxSteps:=2000000) (disch:=first | omega | assumption | (simp only [DS,Nat.reduceAdd, *]; done) | (simp only [DZ]; omega)) only [RUN,RU,zA4,zA2,zA1,zA5,frzL,slot,lay,icyL,zA6,zA0,kR,reduceIte,Nat.reduceEqDiff,Nat.reduceBEq,Nat.reduceLT,Nat.reduceAdd,Nat.reduceLeDiff,Nat.reduceSub,Nat.reduceMul,Int.reduceLT,Int.reduceLE,Int.reduceEq,Int.reduceAdd,Int.reduceSub,Int.reduceMul,h0,h1,hat,q2,q3,if_true]
   all_goals rfl
  ·simp only [q0,if_false] at hat
   by_cases q3 : n = 0
   ·have q3' : decide (n = 0) = true:=decide_eq_true q3
    have q2 : n ≤ 0 ∨ s.n ≤ n:=by omega
    simp (maxSteps:=2000000) (disch:=first | omega | assumption | (simp only [DS,Nat.reduceAdd, *]; done) | (simp only [DZ]; omega)) only [RUN,RU,zA4,zA2,zA1,zA5,frzL,slot,lay,icyL,zA6,zA0,kR,reduceIte,Nat.reduceEqDiff,Nat.reduceBEq,Nat.reduceLT,Nat.reduceAdd,Nat.reduceLeDiff,Nat.reduceSub,Nat.reduceMul,Int.reduceLT,Int.reduceLE,Int.reduceEq,Int.reduceAdd,Int.reduceSub,Int.reduceMul,h0,h1,hat,q2,q3',z00,if_true]
    all_goals rfl
   ·have q3' : decide (n = 0) = false:=decide_eq_false q3
    have q2 : ¬(n ≤ 0 ∨ s.n ≤ n):=by omega
    have w1 : IntKind.i64.wrap (s.n - n) = s.n - n:=wrap_i64 (by omega) (by omega)
    simp (maxSteps:=2000000) (disch:=first | omega | assumption | (simp only [DS,Nat.reduceAdd, *]; done) | (simp only [DZ]; omega)) only [RUN,RU,zA4,zA2,zA1,zA5,frzL,slot,lay,icyL,zA6,zA0,kR,reduceIte,Nat.reduceEqDiff,Nat.reduceBEq,Nat.reduceLT,Nat.reduceAdd,Nat.reduceLeDiff,Nat.reduceSub,Nat.reduceMul,Int.reduceLT,Int.reduceLE,Int.reduceEq,Int.reduceAdd,Int.reduceSub,Int.reduceMul,h0,h1,hat,q2,q3',z00,if_true,if_false,w1]
    rfl
theorem zPT {a b : AV} {l m : List Int} (ha : Sl 1 zBU a l) (hb : Sl 1 zBU b m) (hf : l.length < fuel) (hl : l.length ≤ 1000000000) (M : Mem) :
  zAF Try.prog (fsT tbl) fuel (d + 1) (.fn 43) [a,b] M = some (BL (decide (l = m)),M):=by
 have hla:=ha.len
 have hlb:=hb.len
 apply zC1
 refine zAX tf43 rfl (by simp (maxSteps:=2000000) (disch:=first | omega | assumption | (simp only [DS,Nat.reduceAdd, *]; done) | (simp only [DZ]; omega)) only [RUN,RU,zA4,zA2,zA1,zA5,frzL,slot,lay,icyL,zA6,zA0,kR,reduceIte,Nat.reduceEqDiff,Nat.reduceBEq,Nat.reduceLT,Nat.reduceAdd,Nat.reduceLeDiff,Nat.reduceSub,Nat.reduceMul,Int.reduceLT,Int.reduceLE,Int.reduceEq,Int.reduceAdd,Int.reduceSub,Int.reduceMul,ha.fz.rows,ha.fz.one,ha.fz.cells,ha.fz.icy,ha.fz.frz,hb.fz.rows,hb.fz.one,hb.fz.cells,hb.fz.icy,hb.fz.frz]) (by simp [a43]) fun b' ht hx=>?_
 have h0:=hx 0 _ rfl
 have h1:=hx 1 _ rfl
 clear hx
 simp only [a43,c43,zzm] at ht ⊢
 by_cases hll : l.length = m.length
 ·have q1 : decide ((l.length : Int) = m.length) = true:=by simp; omega
  simp (maxSteps:=2000000) (disch:=first | omega | assumption | (simp only [DS,Nat.reduceAdd, *]; done) | (simp only [DZ]; omega)) only [RUN,RU,zA4,zA2,zA1,zA5,frzL,slot,lay,icyL,zA6,zA0,kR,reduceIte,Nat.reduceEqDiff,Nat.reduceBEq,Nat.reduceLT,Nat.reduceAdd,Nat.reduceLeDiff,Nat.reduceSub,Nat.reduceMul,Int.reduceLT,Int.reduceLE,Int.reduceEq,Int.reduceAdd,Int.reduceSub,Int.reduceMul,h0,h1,hla,hlb,ha.fz.rows,ha.fz.one,ha.fz.cells,ha.fz.icy,ha.fz.frz,hb.fz.rows,hb.fz.one,hb.fz.cells,hb.fz.icy,hb.fz.frz,q1]
  refine zCH (I:=fun n t N => ∃ (i : Nat),n = l.length - i ∧ i ≤ l.length ∧ nth zAC t 0 = a ∧ nth zAC t 1 = b ∧ nth zAC t 11 = a ∧ nth zAC t 12 = I64 l.length ∧ nth zAC t 13 = I64 i ∧ l.take i = m.take i) (n:=l.length) (by omega) ?_ ?_
  ·refine ⟨0,rfl,Nat.zero_le _, ?_, ?_, ?_, ?_, ?_,rfl⟩ <;> simp (maxSteps:=2000000) (disch:=first | omega | assumption | (simp only [DS,Nat.reduceAdd, *]; done) | (simp only [DZ]; omega)) only [RUN,RU,zA4,zA2,zA1,zA5,frzL,slot,lay,icyL,zA6,zA0,kR,reduceIte,Nat.reduceEqDiff,Nat.reduceBEq,Nat.reduceLT,Nat.reduceAdd,Nat.reduceLeDiff,Nat.reduceSub,Nat.reduceMul,Int.reduceLT,Int.reduceLE,Int.reduceEq,Int.reduceAdd,Int.reduceSub,Int.reduceMul,h0,h1,hla]
   all_goals first | rfl | assumption | done
  ·rintro n t N hlt ⟨i,rfl,hi,g0,g1,g11,g12,g13,tk⟩
   simp only [ht] at hlt ⊢
   by_cases hlt' : i < l.length
   ·have hc' : decide ((i : Int) < l.length) = true:=by simp; omega
    have hmt : i < m.length:=by omega
    have w1 : IntKind.i64.wrap ((i : Int) + 1) = ((i + 1 : Nat) : Int):=by rw [wrap_i64] <;> omega
    obtain ⟨r,hr,rfl,_⟩:=ha.iad i hlt'
    obtain ⟨r2,hr2,rfl,_⟩:=hb.iad i hmt
    by_cases he : l[i] = m[i]
    ·have q2 : decide (l[i] = m[i]) = true:=by simp [he]
     simp (maxSteps:=2000000) (disch:=first | omega | assumption | (simp only [DS,Nat.reduceAdd, *]; done) | (simp only [DZ]; omega)) only [RUN,RU,zA4,zA2,zA1,zA5,frzL,slot,lay,icyL,zA6,zA0,kR,reduceIte,Nat.reduceEqDiff,Nat.reduceBEq,Nat.reduceLT,Nat.reduceAdd,Nat.reduceLeDiff,Nat.reduceSub,Nat.reduceMul,Int.reduceLT,Int.reduceLE,Int.reduceEq,Int.reduceAdd,Int.reduceSub,Int.reduceMul,g0,g1,g11,g12,g13,hc',hr,hr2,w1,q2]
     refine ⟨hlt,l.length - (i + 1),by omega,i + 1,rfl,by omega,rfl, ?_⟩
     rw [List.take_add_one,List.take_add_one,tk,List.getElem?_eq_getElem hlt',List.getElem?_eq_getElem hmt,he]
    ·have q2 : decide (l[i] = m[i]) = false:=by simp [he]
     simp (maxSteps:=2000000) (disch:=first | omega | assumption | (simp only [DS,Nat.reduceAdd, *]; done) | (simp only [DZ]; omega)) only [RUN,RU,zA4,zA2,zA1,zA5,frzL,slot,lay,icyL,zA6,zA0,kR,reduceIte,Nat.reduceEqDiff,Nat.reduceBEq,Nat.reduceLT,Nat.reduceAdd,Nat.reduceLeDiff,Nat.reduceSub,Nat.reduceMul,Int.reduceLT,Int.reduceLE,Int.reduceEq,Int.reduceAdd,Int.reduceSub,Int.reduceMul,g0,g1,g11,g12,g13,hc',hr,hr2,w1,q2]
     have : decide (l = m) = false:=by
      simp only [decide_eq_false_iff_not]
      rintro rfl; exact he rfl
     rw [this]
   ·have hc' : decide ((i : Int) < l.length) = false:=by simp; omega
    simp (maxSteps:=2000000) (disch:=first | omega | assumption | (simp only [DS,Nat.reduceAdd, *]; done) | (simp only [DZ]; omega)) only [RUN,RU,zA4,zA2,zA1,zA5,frzL,slot,lay,icyL,zA6,zA0,kR,reduceIte,Nat.reduceEqDiff,Nat.reduceBEq,Nat.reduceLT,Nat.reduceAdd,Nat.reduceLeDiff,Nat.reduceSub,Nat.reduceMul,Int.reduceLT,Int.reduceLE,Int.reduceEq,Int.reduceAdd,Int.reduceSub,Int.reduceMul,g0,g1,g11,g12,g13,hc']
    have : decide (l = m) = true:=by
     simp only [decide_eq_true_eq]
     rw [show i = l.length by omega,List.take_length] at tk
     rw [tk,show l.length = m.length from hll,List.take_length]
    rw [this]
 ·have q1 : decide ((l.length : Int) = m.length) = false:=by simp; omega
  have q3 : decide (l = m) = false:=by
   simp only [decide_eq_false_iff_not]
   rintro rfl; exact hll rfl
  simp (maxSteps:=2000000) (disch:=first | omega | assumption | (simp only [DS,Nat.reduceAdd, *]; done) | (simp only [DZ]; omega)) only [RUN,RU,zA4,zA2,zA1,zA5,frzL,slot,lay,icyL,zA6,zA0,kR,reduceIte,Nat.reduceEqDiff,Nat.reduceBEq,Nat.reduceLT,Nat.reduceAdd,Nat.reduceLeDiff,Nat.reduceSub,Nat.reduceMul,Int.reduceLT,Int.reduceLE,Int.reduceEq,Int.reduceAdd,Int.reduceSub,Int.reduceMul,h0,h1,hla,hlb,ha.fz.rows,ha.fz.one,ha.fz.cells,ha.fz.icy,ha.fz.frz,hb.fz.rows,hb.fz.one,hb.fz.cells,hb.fz.icy,hb.fz.frz,q1,q3]
def rnEq (o p : Rn) : Bool:=decide (o.sp = p.sp) && decide (o.af = p.af) && decide (o.rs = p.rs)
theorem zFJ (o p : Rn) : rnEq o p = true ↔ o = p:=by
 obtain ⟨a1,a2,a3⟩:=o
 obtain ⟨b1,b2,b3⟩:=p
 simp [rnEq,and_assoc]
set_option maxHeartbeats 4000000 in
theorem zF4 {o p : Rn} {ra rb : AV} (hR : Sl 1 zBU ra o.rs) (hP : Sl 1 zBU rb p.rs) (hl : o.rs.length ≤ 1000000000) (hf : o.rs.length < fuel) (M : Mem) : zAF Try.prog (fsT tbl) fuel (d + 2) (.fn 25) [.agg (rnR o ra),.agg (rnR p rb)] M = some (BL (rnEq o p),M):=by
 have ora:=hR.one
 have orb:=hP.one
 have hs:=fun M=>zPT (fuel:=fuel) (d:=d) hR hP hf hl M
 apply zC1
 refine zAX tf25 rfl (by simp only [icyL,zC7 hR.fz,zC7 hP.fz]) (by simp [a25]) fun b' ht hx=>?_
 have h0:=hx 0 _ rfl
 have h1:=hx 1 _ rfl
 clear hx
 simp only [a25,c25,zzm] at ht ⊢
 unfold rnEq
 cases q1 : decide (o.sp = p.sp)
 ·simp (maxSteps:=2000000) (disch:=first | omega | assumption | (simp only [DS,Nat.reduceAdd, *]; done) | (simp only [DZ]; omega)) only [RUN,RU,zA4,zA2,zA1,zA5,frzL,slot,lay,icyL,zA6,zA0,kR,reduceIte,Nat.reduceEqDiff,Nat.reduceBEq,Nat.reduceLT,Nat.reduceAdd,Nat.reduceLeDiff,Nat.reduceSub,Nat.reduceMul,Int.reduceLT,Int.reduceLE,Int.reduceEq,Int.reduceAdd,Int.reduceSub,Int.reduceMul,h0,h1,hR.fz.rows,hR.fz.one,hR.fz.cells,hR.fz.icy,hR.fz.frz,hP.fz.rows,hP.fz.one,hP.fz.cells,hP.fz.icy,hP.fz.frz,↓pIdE,zAK,↓pIdN,zAH,↓pHdE,zAI,↓pHdN,zAJ,↓pLbE,zAL,↓pLbN,zAM,↓pSpE,zAN,↓pSpN,zAO,ETA,q1,Bool.false_and]
 ·cases q2 : decide (o.af = p.af)
  ·simp (maxSteps:=2000000) (disch:=first | omega | assumption | (simp only [DS,Nat.reduceAdd, *]; done) | (simp only [DZ]; omega)) only [RUN,RU,zA4,zA2,zA1,zA5,frzL,slot,lay,icyL,zA6,zA0,kR,reduceIte,Nat.reduceEqDiff,Nat.reduceBEq,Nat.reduceLT,Nat.reduceAdd,Nat.reduceLeDiff,Nat.reduceSub,Nat.reduceMul,Int.reduceLT,Int.reduceLE,Int.reduceEq,Int.reduceAdd,Int.reduceSub,Int.reduceMul,h0,h1,hR.fz.rows,hR.fz.one,hR.fz.cells,hR.fz.icy,hR.fz.frz,hP.fz.rows,hP.fz.one,hP.fz.cells,hP.fz.icy,hP.fz.frz,↓pIdE,zAK,↓pIdN,zAH,↓pHdE,zAI,↓pHdN,zAJ,↓pLbE,zAL,↓pLbN,zAM,↓pSpE,zAN,↓pSpN,zAO,ETA,q1,q2,Bool.false_and,Bool.true_and]
  ·simp (maxSteps:=2000000) (disch:=first | omega | assumption | (simp only [DS,Nat.reduceAdd, *]; done) | (simp only [DZ]; omega)) only [RUN,RU,zA4,zA2,zA1,zA5,frzL,slot,lay,icyL,zA6,zA0,kR,reduceIte,Nat.reduceEqDiff,Nat.reduceBEq,Nat.reduceLT,Nat.reduceAdd,Nat.reduceLeDiff,Nat.reduceSub,Nat.reduceMul,Int.reduceLT,Int.reduceLE,Int.reduceEq,Int.reduceAdd,Int.reduceSub,Int.reduceMul,h0,h1,hR.fz.rows,hR.fz.one,hR.fz.cells,hR.fz.icy,hR.fz.frz,hP.fz.rows,hP.fz.one,hP.fz.cells,hP.fz.icy,hP.fz.frz,↓pIdE,zAK,↓pIdN,zAH,↓pHdE,zAI,↓pHdN,zAJ,↓pLbE,zAL,↓pLbN,zAM,↓pSpE,zAN,↓pSpN,zAO,ETA,q1,q2,hs,Bool.false_and,Bool.true_and]
set_option maxHeartbeats 4000000 in
theorem zHR {o : Rn} {ra : AV} (hR : Sl 1 zBU ra o.rs) (hl : o.rs.length ≤ 1000000000) : ∃ r,Sl 1 zBU r o.rs ∧ ∀ M,zAF Try.prog (fsT tbl) fuel (d + 2) (.fn 41) [.agg (rnR o ra)] M = some (.agg (rnR o r),M):=by
 have ora:=hR.one
 refine zK0 tf41 rfl (fun M=>by simp only [icyL,zC7 hR.fz]) ?_
 refine zAX tf41 rfl (by simp only [icyL,zC7 hR.fz]) (by simp [a41]) fun b' ht hx=>?_
 have h0:=hx 0 _ rfl
 clear hx
 simp only [a41,c41,zz0] at ht ⊢
 simp (maxSteps:=2000000) (disch:=first | omega | assumption | (simp only [DS,Nat.reduceAdd, *]; done) | (simp only [DZ]; omega)) only [RUN,RU,zA4,zA2,zA1,zA5,frzL,slot,lay,icyL,zA6,zA0,kR,reduceIte,Nat.reduceEqDiff,Nat.reduceBEq,Nat.reduceLT,Nat.reduceAdd,Nat.reduceLeDiff,Nat.reduceSub,Nat.reduceMul,Int.reduceLT,Int.reduceLE,Int.reduceEq,Int.reduceAdd,Int.reduceSub,Int.reduceMul,h0,hR.fz.rows,hR.fz.one,hR.fz.cells,hR.fz.icy,hR.fz.frz]
 refine zR3 hR hl (by simp (maxSteps:=2000000) (disch:=first | omega | assumption | (simp only [DS,Nat.reduceAdd, *]; done) | (simp only [DZ]; omega)) only [RUN,RU,zA4,zA2,zA1,zA5,frzL,slot,lay,icyL,zA6,zA0,kR,reduceIte,Nat.reduceEqDiff,Nat.reduceBEq,Nat.reduceLT,Nat.reduceAdd,Nat.reduceLeDiff,Nat.reduceSub,Nat.reduceMul,Int.reduceLT,Int.reduceLE,Int.reduceEq,Int.reduceAdd,Int.reduceSub,Int.reduceMul]) fun a' M' wf' le' kp' sm' new' wm' di'=>?_
 have hsz : 2 ≤ M'.size:=le'
 have g0 : M'.get 0 = some (.row false (rnR o ra)):=by rw [kp' 0 (by show 0 < 2; omega)]; simp (maxSteps:=2000000) (disch:=first | omega | assumption | (simp only [DS,Nat.reduceAdd, *]; done) | (simp only [DZ]; omega)) only [RUN,RU,zA4,zA2,zA1,zA5,frzL,slot,lay,icyL,zA6,zA0,kR,reduceIte,Nat.reduceEqDiff,Nat.reduceBEq,Nat.reduceLT,Nat.reduceAdd,Nat.reduceLeDiff,Nat.reduceSub,Nat.reduceMul,Int.reduceLT,Int.reduceLE,Int.reduceEq,Int.reduceAdd,Int.reduceSub,Int.reduceMul]
 have g1 : M'.get 1 = some (.row false (rnR ⟨⟨Eid.z,0⟩,Eid.z,[]⟩ NIL)):=by rw [kp' 1 (by show 1 < 2; omega)]; simp (maxSteps:=2000000) (disch:=first | omega | assumption | (simp only [DS,Nat.reduceAdd, *]; done) | (simp only [DZ]; omega)) only [RUN,RU,zA4,zA2,zA1,zA5,frzL,slot,lay,icyL,zA6,zA0,kR,reduceIte,Nat.reduceEqDiff,Nat.reduceBEq,Nat.reduceLT,Nat.reduceAdd,Nat.reduceLeDiff,Nat.reduceSub,Nat.reduceMul,Int.reduceLT,Int.reduceLE,Int.reduceEq,Int.reduceAdd,Int.reduceSub,Int.reduceMul]
 have oa:=sm'.one
 have ca:=sm'.cells
 have rl:=zBB sm'.rl (Nat.le_refl M'.size)
 have nr : ∀ j,rowOf a' = some j → 2 ≤ j:=new'
 obtain ⟨ro,hro,hfr⟩:=zFN sm' zI4.cel 11 (by omega)
 have hfr:=hfr ((M'.upd 0 (.row false (rnR o a'))).upd 1 (.row false (rnR o a'))) fun id h=>by
  have:=nr id h
  rw [zA7 (wf'.upd _ _) _ _ _ (by omega),zA7 wf' _ _ _ (by omega)]
 simp (maxSteps:=2000000) (disch:=first | omega | assumption | (simp only [DS,Nat.reduceAdd, *]; done) | (simp only [DZ]; omega)) only [RUN,RU,zA4,zA2,zA1,zA5,frzL,slot,lay,icyL,zA6,zA0,kR,reduceIte,Nat.reduceEqDiff,Nat.reduceBEq,Nat.reduceLT,Nat.reduceAdd,Nat.reduceLeDiff,Nat.reduceSub,Nat.reduceMul,Int.reduceLT,Int.reduceLE,Int.reduceEq,Int.reduceAdd,Int.reduceSub,Int.reduceMul,h0,wf',g0,g1,oa,ca,rl,hfr]
 exact ⟨_,hro,rfl⟩
def Rn.last (r : Rn) : Eid:=if r.sp.may then r.sp.at (r.sp.n - 1) else Eid.z
theorem zTE {o : Rn} {ra : AV} (hR : Sl 1 zBU ra o.rs) (ho : o.ok) (M : Mem) : zAF Try.prog (fsT tbl) fuel (d + 6) (.fn 38) [.agg (rnR o ra)] M = some (idA o.last,M):=by
 have ora:=hR.one
 have hat:=fun M=>@zK3 fuel d o.sp (IntKind.i64.wrap (o.sp.n - 1)) M
 apply zC1
 refine zAX tf38 rfl (by simp only [icyL,zC7 hR.fz]) (by simp [a38]) fun b' ht hx=>?_
 have h0:=hx 0 _ rfl
 clear hx
 simp only [a38,c38,zz2,zzm] at ht ⊢
 unfold Rn.last
 cases hm : o.sp.may with
 | false =>
  simp only [hm,Bool.false_eq_true,if_false] at hat
  simp (maxSteps:=2000000) (disch:=first | omega | assumption | (simp only [DS,Nat.reduceAdd, *]; done) | (simp only [DZ]; omega)) only [RUN,RU,zA4,zA2,zA1,zA5,frzL,slot,lay,icyL,zA6,zA0,kR,reduceIte,Nat.reduceEqDiff,Nat.reduceBEq,Nat.reduceLT,Nat.reduceAdd,Nat.reduceLeDiff,Nat.reduceSub,Nat.reduceMul,Int.reduceLT,Int.reduceLE,Int.reduceEq,Int.reduceAdd,Int.reduceSub,Int.reduceMul,h0,hR.fz.rows,hR.fz.one,hR.fz.cells,hR.fz.icy,hR.fz.frz,hat,Bool.false_eq_true,if_false]
 | true =>
  have hb:=Spn.may_le hm
  rw [wrap_i64 (by omega) (by omega)] at hat
  have w1 : IntKind.i64.wrap (o.sp.n - 1) = o.sp.n - 1:=wrap_i64 (by omega) (by omega)
  simp only [hm,if_true,if_neg (show ¬(o.sp.n - 1 < 0 ∨ o.sp.n ≤ o.sp.n - 1) by omega)] at hat
  simp (maxSteps:=2000000) (disch:=first | omega | assumption | (simp only [DS,Nat.reduceAdd, *]; done) | (simp only [DZ]; omega)) only [RUN,RU,zA4,zA2,zA1,zA5,frzL,slot,lay,icyL,zA6,zA0,kR,reduceIte,Nat.reduceEqDiff,Nat.reduceBEq,Nat.reduceLT,Nat.reduceAdd,Nat.reduceLeDiff,Nat.reduceSub,Nat.reduceMul,Int.reduceLT,Int.reduceLE,Int.reduceEq,Int.reduceAdd,Int.reduceSub,Int.reduceMul,h0,hR.fz.rows,hR.fz.one,hR.fz.cells,hR.fz.icy,hR.fz.frz,hat,w1,if_true]
end Go.Proofs.Ytakaojjlfcmphaa
namespace Go.Proofs.Ytakaojjlfcmphaa
open Go Go.Ax
variable {fuel : Nat} {M : Mem} {Q : AV → Mem → Prop} {d : Nat}
def Rn.z : Rn:=⟨⟨Eid.z,0⟩,Eid.z,[]⟩
set_option maxHeartbeats 4000000 in
theorem zFF {o : Rn} {ra : AV} (hR : Sl 1 zBU ra o.rs) (hl : o.rs.length ≤ 1000000000) : ∃ r,Sl 1 zBU r o.rs ∧ ∀ M,zAF Try.prog (fsT tbl) fuel (d + 2) (.fn 55) [.agg (rnR o ra)] M = some (.agg (rnR o r),M):=by
 have ora:=hR.one
 refine zK0 tf55 rfl (fun M=>by simp only [icyL,zC7 hR.fz]) ?_
 refine zAX tf55 rfl (by simp only [icyL,zC7 hR.fz]) (by simp [a55]) fun b' ht hx=>?_
 have h0:=hx 0 _ rfl
 clear hx
 simp only [a55,c55,zz0] at ht ⊢
 simp (maxSteps:=2000000) (disch:=first | omega | assumption | (simp only [DS,Nat.reduceAdd, *]; done) | (simp only [DZ]; omega)) only [RUN,RU,zA4,zA2,zA1,zA5,frzL,slot,lay,icyL,zA6,zA0,kR,reduceIte,Nat.reduceEqDiff,Nat.reduceBEq,Nat.reduceLT,Nat.reduceAdd,Nat.reduceLeDiff,Nat.reduceSub,Nat.reduceMul,Int.reduceLT,Int.reduceLE,Int.reduceEq,Int.reduceAdd,Int.reduceSub,Int.reduceMul,h0,hR.fz.rows,hR.fz.one,hR.fz.cells,hR.fz.icy,hR.fz.frz]
 refine zR3 hR hl (by simp (maxSteps:=2000000) (disch:=first | omega | assumption | (simp only [DS,Nat.reduceAdd, *]; done) | (simp only [DZ]; omega)) only [RUN,RU,zA4,zA2,zA1,zA5,frzL,slot,lay,icyL,zA6,zA0,kR,reduceIte,Nat.reduceEqDiff,Nat.reduceBEq,Nat.reduceLT,Nat.reduceAdd,Nat.reduceLeDiff,Nat.reduceSub,Nat.reduceMul,Int.reduceLT,Int.reduceLE,Int.reduceEq,Int.reduceAdd,Int.reduceSub,Int.reduceMul]) fun a' M' wf' le' kp' sm' new' wm' di'=>?_
 have hd : M'.dirty = false:=di'
 have hsz : 2 ≤ M'.size:=le'
 have g0 : M'.get 0 = some (.row false (rnR o ra)):=by rw [kp' 0 (by show 0 < 2; omega)]; simp (maxSteps:=2000000) (disch:=first | omega | assumption | (simp only [DS,Nat.reduceAdd, *]; done) | (simp only [DZ]; omega)) only [RUN,RU,zA4,zA2,zA1,zA5,frzL,slot,lay,icyL,zA6,zA0,kR,reduceIte,Nat.reduceEqDiff,Nat.reduceBEq,Nat.reduceLT,Nat.reduceAdd,Nat.reduceLeDiff,Nat.reduceSub,Nat.reduceMul,Int.reduceLT,Int.reduceLE,Int.reduceEq,Int.reduceAdd,Int.reduceSub,Int.reduceMul]
 have g1 : M'.get 1 = some (.row false (rnR ⟨⟨Eid.z,0⟩,Eid.z,[]⟩ NIL)):=by rw [kp' 1 (by show 1 < 2; omega)]; simp (maxSteps:=2000000) (disch:=first | omega | assumption | (simp only [DS,Nat.reduceAdd, *]; done) | (simp only [DZ]; omega)) only [RUN,RU,zA4,zA2,zA1,zA5,frzL,slot,lay,icyL,zA6,zA0,kR,reduceIte,Nat.reduceEqDiff,Nat.reduceBEq,Nat.reduceLT,Nat.reduceAdd,Nat.reduceLeDiff,Nat.reduceSub,Nat.reduceMul,Int.reduceLT,Int.reduceLE,Int.reduceEq,Int.reduceAdd,Int.reduceSub,Int.reduceMul]
 have oa:=sm'.one
 have ca:=sm'.cells
 have rl:=zBB sm'.rl (Nat.le_refl M'.size)
 have nr : ∀ j,rowOf a' = some j → 2 ≤ j:=new'
 obtain ⟨ro,hro,hfr⟩:=zFN sm' zI4.cel 11 (by omega)
 have hfr:=hfr ((((mem0.add (.row false (rnR o ra))).add (.row false (rnR ⟨⟨Eid.z,0⟩,Eid.z,[]⟩ NIL))).bk M').upd 1 (.row false (rnR o a'))) fun id h=>by
  have:=nr id h
  simp (maxSteps:=2000000) (disch:=first | omega | assumption | (simp only [DS,Nat.reduceAdd, *]; done) | (simp only [DZ]; omega)) only [RUN,RU,zA4,zA2,zA1,zA5,frzL,slot,lay,icyL,zA6,zA0,kR,reduceIte,Nat.reduceEqDiff,Nat.reduceBEq,Nat.reduceLT,Nat.reduceAdd,Nat.reduceLeDiff,Nat.reduceSub,Nat.reduceMul,Int.reduceLT,Int.reduceLE,Int.reduceEq,Int.reduceAdd,Int.reduceSub,Int.reduceMul,wf']
 simp (maxSteps:=2000000) (disch:=first | omega | assumption | (simp only [DS,Nat.reduceAdd, *]; done) | (simp only [DZ]; omega)) only [RUN,RU,zA4,zA2,zA1,zA5,frzL,slot,lay,icyL,zA6,zA0,kR,reduceIte,Nat.reduceEqDiff,Nat.reduceBEq,Nat.reduceLT,Nat.reduceAdd,Nat.reduceLeDiff,Nat.reduceSub,Nat.reduceMul,Int.reduceLT,Int.reduceLE,Int.reduceEq,Int.reduceAdd,Int.reduceSub,Int.reduceMul,h0,hd,wf',g0,g1,oa,ca,rl,hfr]
 exact ⟨_,hro,rfl⟩
def Rn.cutE (r : Rn) (n : Int) : Int:=if r.may then Go.Proofs.Ytakaojjlfcmphaa.cutE r.sp n else 8
def Rn.fst (r : Rn) (n : Int) : Rn:=⟨⟨r.sp.f,n⟩,r.af,r.rs.take n.toNat⟩
def Rn.snd (r : Rn) (n : Int) : Rn:=⟨⟨r.sp.at n,r.sp.n - n⟩,r.sp.at (n - 1),r.rs.drop n.toNat⟩
def Rn.cutA (r : Rn) (n : Int) : Rn:=if r.cutE n = 0 then r.fst n else Rn.z
def Rn.cutB (r : Rn) (n : Int) : Rn:=if r.cutE n = 0 then r.snd n else Rn.z
theorem cutE_iff {s : Spn} {n : Int} : cutE s n = 0 ↔ s.may = true ∧ 0 < n ∧ n < s.n:=by
 unfold cutE
 cases s.may <;> simp
theorem Rn.cutE_iff {r : Rn} {n : Int} : r.cutE n = 0 ↔ r.may = true ∧ 0 < n ∧ n < r.sp.n:=by
 unfold Rn.cutE
 cases h : r.may
 ·simp
 ·rw [if_pos rfl,Go.Proofs.Ytakaojjlfcmphaa.cutE_iff]
  unfold Rn.may at h
  simp only [Bool.and_eq_true] at h
  simp [h.1.1.1]
theorem Rn.may_sp {r : Rn} (h : r.may = true) : r.sp.may = true:=by
 unfold Rn.may at h
 simp only [Bool.and_eq_true] at h
 exact h.1.1.1
theorem Rn.may_len {r : Rn} (h : r.may = true) : (r.rs.length : Int) = r.sp.n:=by
 unfold Rn.may at h
 simp only [Bool.and_eq_true,decide_eq_true_eq] at h
 exact h.1.2
theorem zWM {s : Spn} {n : Int} (h : s.may = true) (h0 : 0 < n) (h1 : n ≤ s.n) : (⟨s.f,n⟩ : Spn).may = true:=by
 have:=Spn.may_le h
 unfold Spn.may at *
 simp only [Bool.and_eq_true,decide_eq_true_eq] at *
 exact ⟨⟨⟨h.1.1.1,by omega⟩,by omega⟩,by omega⟩
def cutK (r : Rn) (n : Int) (v : AV) : Prop:=∃ ra rb,v = .tup [.agg (rnR (r.cutA n) ra),.agg (rnR (r.cutB n) rb),I64 (r.cutE n)] ∧ Sl 1 zBU ra (r.cutA n).rs ∧ Sl 1 zBU rb (r.cutB n).rs
set_option maxHeartbeats 16000000 in
theorem zG7 {o : Rn} {ra : AV} {n : Int} (hR : Sl 1 zBU ra o.rs) (hf : 100 < fuel) : ∃ v,cutK o n v ∧ ∀ M,zAF Try.prog (fsT tbl) fuel (d + 7) (.fn 39) [.agg (rnR o ra),I64 n] M = some (v,M):=by
 have ora:=hR.one
 have hck:=fun M=>@zC8 fuel d o ra hR hf M
 have hic:=fun M=>@zOA fuel d o.sp n M
 unfold cutK Rn.cutA Rn.cutB Rn.cutE
 refine zK0 tf39 rfl (fun M=>by simp only [icyL,zC7 hR.fz,zT7]) ?_
 refine zAX tf39 rfl (by simp only [icyL,zC7 hR.fz,zT7]) (by simp [a39]) fun b' ht hx=>?_
 have h0:=hx 0 _ rfl
 have h1:=hx 1 _ rfl
 clear hx
 simp only [a39,c39,zz0,zz1,zz2,zzm] at ht ⊢
 cases hm : o.may with
 | false =>
  rw [hm] at hck
  simp only [Bool.false_eq_true,if_false]
  simp (maxSteps:=2000000) (disch:=first | omega | assumption | (simp only [DS,Nat.reduceAdd, *]; done) | (simp only [DZ]; omega)) only [RUN,RU,zA4,zA2,zA1,zA5,frzL,slot,lay,icyL,zA6,zA0,kR,reduceIte,Nat.reduceEqDiff,Nat.reduceBEq,Nat.reduceLT,Nat.reduceAdd,Nat.reduceLeDiff,Nat.reduceSub,Nat.reduceMul,Int.reduceLT,Int.reduceLE,Int.reduceEq,Int.reduceAdd,Int.reduceSub,Int.reduceMul,h0,h1,hR.fz.rows,hR.fz.one,hR.fz.cells,hR.fz.icy,hR.fz.frz,hck,zD2,z80]
  exact ⟨rfl,_,⟨NIL,NIL,rfl,.inl ⟨rfl,rfl⟩,.inl ⟨rfl,rfl⟩⟩,rfl⟩
 | true =>
  rw [hm] at hck
  simp only [if_true]
  by_cases q : cutE o.sp n = 0
  ·simp only [q,if_true] at hic ⊢
   obtain ⟨c1,c2,c3⟩:=cutE_iff.1 q
   have hb:=Spn.may_le c1
   have hml:=Rn.may_len hm
   obtain ⟨m,rfl⟩ : ∃ m : Nat,n = m:=⟨n.toNat,by omega⟩
   have hat:=fun M=>@zK3 fuel (d + 1) ⟨o.sp.f,m⟩ ((m : Int) - 1) M
   rw [if_pos (zWM c1 c2 (by omega))] at hat
   simp only [if_neg (show ¬((m : Int) - 1 < 0 ∨ (m : Int) ≤ (m : Int) - 1) by omega)] at hat
   have w1 : IntKind.i64.wrap ((m : Int) - 1) = (m : Int) - 1:=wrap_i64 (by omega) (by omega)
   obtain ⟨r1,s1,b1⟩:=zaN hR (j:=m) (by omega)
   obtain ⟨r2,s2,b2⟩:=zRF hR (i:=m) (by omega)
   have o1:=b1.one
   have o2:=b2.one
   obtain ⟨p1,hp1,hr1⟩:=zFF (fuel:=fuel) (d:=d + 4) (o:=o.fst m) b1 (by simp only [Rn.fst,List.length_take,Int.toNat_natCast]; omega)
   obtain ⟨p2,hp2,hr2⟩:=zFF (fuel:=fuel) (d:=d + 4) (o:=o.snd m) b2 (by simp only [Rn.snd,List.length_drop,Int.toNat_natCast]; omega)
   have op1:=hp1.one
   have op2:=hp2.one
   unfold Rn.fst at hr1 hp1
   unfold Rn.snd at hr2 hp2
   have e1 : (⟨o.sp.f,(m : Int)⟩ : Spn).at ((m : Int) - 1) = o.sp.at ((m : Int) - 1):=rfl
   rw [e1] at hat
   simp (maxSteps:=2000000) (disch:=first | omega | assumption | (simp only [DS,Nat.reduceAdd, *]; done) | (simp only [DZ]; omega)) only [RUN,RU,zA4,zA2,zA1,zA5,frzL,slot,lay,icyL,zA6,zA0,kR,reduceIte,Nat.reduceEqDiff,Nat.reduceBEq,Nat.reduceLT,Nat.reduceAdd,Nat.reduceLeDiff,Nat.reduceSub,Nat.reduceMul,Int.reduceLT,Int.reduceLE,Int.reduceEq,Int.reduceAdd,Int.reduceSub,Int.reduceMul,h0,h1,hR.fz.rows,hR.fz.one,hR.fz.cells,hR.fz.icy,hR.fz.frz,hck,zBP,z00,hic,hat,w1,s1,s2,b1.fz.rows,b1.fz.one,b1.fz.cells,b1.fz.icy,b1.fz.frz,b2.fz.rows,b2.fz.one,b2.fz.cells,b2.fz.icy,b2.fz.frz,hr1,hr2,hp1.fz.rows,hp1.fz.one,hp1.fz.cells,hp1.fz.icy,hp1.fz.frz,hp2.fz.rows,hp2.fz.one,hp2.fz.cells,hp2.fz.icy,hp2.fz.frz]
   exact ⟨_,⟨p1,p2,rfl,hp1,hp2⟩,rfl⟩
  ·simp only [q,if_false] at hic ⊢
   have q' : decide (cutE o.sp n = 0) = false:=decide_eq_false q
   simp (maxSteps:=2000000) (disch:=first | omega | assumption | (simp only [DS,Nat.reduceAdd, *]; done) | (simp only [DZ]; omega)) only [RUN,RU,zA4,zA2,zA1,zA5,frzL,slot,lay,icyL,zA6,zA0,kR,reduceIte,Nat.reduceEqDiff,Nat.reduceBEq,Nat.reduceLT,Nat.reduceAdd,Nat.reduceLeDiff,Nat.reduceSub,Nat.reduceMul,Int.reduceLT,Int.reduceLE,Int.reduceEq,Int.reduceAdd,Int.reduceSub,Int.reduceMul,h0,h1,hR.fz.rows,hR.fz.one,hR.fz.cells,hR.fz.icy,hR.fz.frz,hck,zBP,z00,hic,q']
   exact ⟨rfl,_,⟨NIL,NIL,rfl,.inl ⟨rfl,rfl⟩,.inl ⟨rfl,rfl⟩⟩,rfl⟩
end Go.Proofs.Ytakaojjlfcmphaa
namespace Go.Proofs.Ytakaojjlfcmphaa
open Go Go.Ax
theorem im88 : imax 8 8 = 8:=by decide
theorem im80 : imax 8 0 = 8:=by decide
theorem im08 : imax 0 8 = 8:=by decide
theorem im00 : imax 0 0 = 0:=by decide
theorem IMX : type_of% (And.intro im88 (And.intro im80 (And.intro im08 im00))):=And.intro im88 (And.intro im80 (And.intro im08 im00))
end Go.Proofs.Ytakaojjlfcmphaa
namespace Go.Proofs.Ytakaojjlfcmphaa
open Go Go.Ax
variable {fuel : Nat} {M : Mem} {Q : AV → Mem → Prop} {d : Nat}
theorem zBJ {α : Type} (l : List α) (i : Nat) (h : i < l.length) : l.take (i + 1) = l.take i ++ [l[i]]:=by
 rw [List.take_add_one,List.getElem?_eq_getElem h]; rfl
def rowL (l : List Rn) : List Int:=l.flatMap (·.rs)
theorem zR8 (l : List Rn) (x : Rn) : rowL (l ++ [x]) = rowL l ++ x.rs:=by simp [rowL]
set_option maxHeartbeats 4000000 in
theorem row_0 {a : AV} {l : List Rn} (hS : SlM M 10 isRn a l) (hl : l.length ≤ 10) (hd : ∀ r ∈ l,r.rs.length ≤ 1000000) (hf : 100 < fuel) (wf : Wf M) (hw : M.wm ≤ M.size) (k : ∀ o N,Kept M N → SlM N 1 zBU o (rowL l) → (∀ j,rowOf o = some j → M.size ≤ j) → Q o N) :
  W3 (zAF Try.prog (fsT tbl) fuel (d + 1) (.fn 56) [a] M) Q:=by
 have ll:=hS.len
 refine zCS tf56 rfl (by simp [a56]) fun b' ht hx=>?_
 have h0:=hx 0 _ rfl
 clear hx
 simp only [a56,c56,zz0,zzm] at ht ⊢
 simp (maxSteps:=2000000) (disch:=first | omega | assumption | (simp only [DS,Nat.reduceAdd, *]; done) | (simp only [DZ]; omega)) only [RUN,RU,zA4,zA2,zA1,zA5,frzL,slot,lay,icyL,zA6,zA0,kR,reduceIte,Nat.reduceEqDiff,Nat.reduceBEq,Nat.reduceLT,Nat.reduceAdd,Nat.reduceLeDiff,Nat.reduceSub,Nat.reduceMul,Int.reduceLT,Int.reduceLE,Int.reduceEq,Int.reduceAdd,Int.reduceSub,Int.reduceMul,h0,ll]
 refine zCH (I:=fun n t N => ∃ (i : Nat) (o : AV),n = l.length - i ∧ i ≤ l.length ∧ nth zAC t 2 = o ∧ nth zAC t 5 = a ∧ nth zAC t 6 = I64 l.length ∧ nth zAC t 7 = I64 i ∧ Kept M N ∧ SlM N 1 zBU o (rowL (l.take i)) ∧ (∀ j,rowOf o = some j → M.size ≤ j) ∧ (rowL (l.take i)).length ≤ 1000000 * i) (n:=l.length) (by omega) ?_ ?_
 ·refine ⟨0,NIL,rfl,Nat.zero_le _, ?_, ?_, ?_, ?_,Kept.refl wf,SlM.nil,(fun _ h=>by cases h),Nat.le_refl 0⟩ <;> simp (maxSteps:=2000000) (disch:=first | omega | assumption | (simp only [DS,Nat.reduceAdd, *]; done) | (simp only [DZ]; omega)) only [RUN,RU,zA4,zA2,zA1,zA5,frzL,slot,lay,icyL,zA6,zA0,kR,reduceIte,Nat.reduceEqDiff,Nat.reduceBEq,Nat.reduceLT,Nat.reduceAdd,Nat.reduceLeDiff,Nat.reduceSub,Nat.reduceMul,Int.reduceLT,Int.reduceLE,Int.reduceEq,Int.reduceAdd,Int.reduceSub,Int.reduceMul,h0,ll]
  all_goals first | rfl | assumption | done
 ·rintro n t N hlt ⟨i,o,rfl,hi,g2,g5,g6,g7,kN,sm,nr,bd⟩
  simp only [ht] at hlt ⊢
  have oo:=sm.one
  have oc:=sm.cells
  have w:=kN.wf
  have le:=kN.le
  have wm:=kN.wm
  by_cases hc : i < l.length
  ·have q1 : decide ((i : Int) < l.length) = true:=decide_eq_true (by omega)
   have w1 : IntKind.i64.wrap ((i : Int) + 1) = ((i + 1 : Nat) : Int):=by rw [wrap_i64] <;> omega
   obtain ⟨id,cs,r,hrow,lid,hg,hcs,hiad,hr,hrl,hpt,_⟩:=hS.atS hc
   have gN:=(kN.get id lid).trans hg
   have hts:=zR8 (l.take i) l[i]
   rw [← zBJ l i hc] at hts
   have hde:=hd l[i] (List.getElem_mem hc)
   generalize l[i] = e at *
   obtain ⟨ra,rfl,hra,hok⟩:=hr
   have ora:=hra.one
   have lid' : id < N.size:=by omega
   have rlo:=zBB sm.rl (show N.size ≤ N.size + 1 by omega)
   simp (maxSteps:=2000000) (disch:=first | omega | assumption | (simp only [DS,Nat.reduceAdd, *]; done) | (simp only [DZ]; omega)) only [RUN,RU,zA4,zA2,zA1,zA5,frzL,slot,lay,icyL,zA6,zA0,kR,reduceIte,Nat.reduceEqDiff,Nat.reduceBEq,Nat.reduceLT,Nat.reduceAdd,Nat.reduceLeDiff,Nat.reduceSub,Nat.reduceMul,Int.reduceLT,Int.reduceLE,Int.reduceEq,Int.reduceAdd,Int.reduceSub,Int.reduceMul,g2,g5,g6,g7,q1,hiad,gN,hpt,hra.fz.rows,hra.fz.one,hra.fz.cells,hra.fz.icy,hra.fz.frz,w,oo,oc,rlo]
   refine zY5 (fun j hj=>by have:=nr j hj; simp only [zaQ,zYK]; omega) (zaS (bytes:=4) (by simp (maxSteps:=2000000) (disch:=first | omega | assumption | (simp only [DS,Nat.reduceAdd, *]; done) | (simp only [DZ]; omega)) only [RUN,RU,zA4,zA2,zA1,zA5,frzL,slot,lay,icyL,zA6,zA0,kR,reduceIte,Nat.reduceEqDiff,Nat.reduceBEq,Nat.reduceLT,Nat.reduceAdd,Nat.reduceLeDiff,Nat.reduceSub,Nat.reduceMul,Int.reduceLT,Int.reduceLE,Int.reduceEq,Int.reduceAdd,Int.reduceSub,Int.reduceMul,w]) (sm.keep fun j hj=>?_) zI4.cel hra (by omega) (by omega) (by omega) fun o' M' sm' w' le1 le2 kp nw wm' rl on oc' di'=>?_)
   ·have:=sm.lt j hj
    simp (maxSteps:=2000000) (disch:=first | omega | assumption | (simp only [DS,Nat.reduceAdd, *]; done) | (simp only [DZ]; omega)) only [RUN,RU,zA4,zA2,zA1,zA5,frzL,slot,lay,icyL,zA6,zA0,kR,reduceIte,Nat.reduceEqDiff,Nat.reduceBEq,Nat.reduceLT,Nat.reduceAdd,Nat.reduceLeDiff,Nat.reduceSub,Nat.reduceMul,Int.reduceLT,Int.reduceLE,Int.reduceEq,Int.reduceAdd,Int.reduceSub,Int.reduceMul,w]
   simp only [zAE,zAD] at le1 le2 kp nw
   simp (maxSteps:=2000000) (disch:=first | omega | assumption | (simp only [DS,Nat.reduceAdd, *]; done) | (simp only [DZ]; omega)) only [RUN,RU,zA4,zA2,zA1,zA5,frzL,slot,lay,icyL,zA6,zA0,kR,reduceIte,Nat.reduceEqDiff,Nat.reduceBEq,Nat.reduceLT,Nat.reduceAdd,Nat.reduceLeDiff,Nat.reduceSub,Nat.reduceMul,Int.reduceLT,Int.reduceLE,Int.reduceEq,Int.reduceAdd,Int.reduceSub,Int.reduceMul,g2,g5,g6,g7,w1]
   refine ⟨hlt,l.length - (i + 1),by omega,i + 1,o',rfl,by omega,rfl,rfl,⟨w',by omega,fun j hj=>?_,wm'.trans wm,di'.trans ((kN.add _).upd hw le _).di⟩,by rw [hts]; exact sm',fun j hj=>(nw j hj).elim (nr j) (fun h=>by omega), ?_⟩
   ·rw [kp j (by omega) (fun h=>by have:=nr j h; omega),zA7 (w.add _) _ _ _ (by omega),zAP w _ _ (by omega)]
    exact kN.get j hj
   ·rw [hts,List.length_append]; omega
  ·obtain rfl : i = l.length:=by omega
   have q1 : decide ((l.length : Int) < l.length) = false:=decide_eq_false (by omega)
   rw [List.take_length] at sm
   simp (maxSteps:=2000000) (disch:=first | omega | assumption | (simp only [DS,Nat.reduceAdd, *]; done) | (simp only [DZ]; omega)) only [RUN,RU,zA4,zA2,zA1,zA5,frzL,slot,lay,icyL,zA6,zA0,kR,reduceIte,Nat.reduceEqDiff,Nat.reduceBEq,Nat.reduceLT,Nat.reduceAdd,Nat.reduceLeDiff,Nat.reduceSub,Nat.reduceMul,Int.reduceLT,Int.reduceLE,Int.reduceEq,Int.reduceAdd,Int.reduceSub,Int.reduceMul,g2,g5,g6,g7,q1,oo,oc]
   exact k o N kN sm nr
def Rn.both (a b : Rn) : Rn:=⟨⟨a.sp.f,a.sp.n + b.sp.n⟩,a.af,a.rs ++ b.rs⟩
def zGP (a b : Rn) : Int:=if a.may = true ∧ b.may = true then (if (a.both b).cutE a.sp.n = 0 ∧ (a.both b).fst a.sp.n = a ∧ (a.both b).snd a.sp.n = b then 0 else 2) else 8
def zED (a b : Rn) : Rn:=if zGP a b = 0 then a.both b else Rn.z
def zZB (a b : Rn) (v : AV) : Prop:=∃ r,v = .tup [.agg (rnR (zED a b) r),I64 (zGP a b)] ∧ Sl 1 zBU r (zED a b).rs
theorem zSN (r : Rn) (n : Int) : (r.cutA n).rs.length ≤ r.rs.length:=by
 unfold Rn.cutA
 split
 ·simp only [Rn.fst,List.length_take]; omega
 ·exact Nat.zero_le _
theorem zSO (r : Rn) (n : Int) : (r.cutB n).rs.length ≤ r.rs.length:=by
 unfold Rn.cutB
 split
 ·simp only [Rn.snd,List.length_drop]; omega
 ·exact Nat.zero_le _
theorem zMY {a b : Rn} {ra rb : AV} (hA : Sl 1 zBU ra a.rs) (hB : Sl 1 zBU rb b.rs) (ha : a.ok) (hb : b.ok) : All2 isRn [rnR a ra,rnR b rb] [a,b]:=.cons ⟨ra,rfl,hA,ha⟩ (.cons ⟨rb,rfl,hB,hb⟩ .nil)
set_option maxHeartbeats 16000000 in
theorem zHQ {a b : Rn} {ra rb : AV} (hA : Sl 1 zBU ra a.rs) (hB : Sl 1 zBU rb b.rs) (ha : a.ok) (hb : b.ok) (hla : a.rs.length ≤ 1000000) (hlb : b.rs.length ≤ 1000000) (hf : 2000000 < fuel) : ∃ v,zZB a b v ∧ ∀ M,zAF Try.prog (fsT tbl) fuel (d + 8) (.fn 40) [.agg (rnR a ra),.agg (rnR b rb)] M = some (v,M):=by
 have ora:=hA.one
 have orb:=hB.one
 have hca:=fun M=>@zC8 fuel (d + 1) a ra hA (by omega) M
 have hcb:=fun M=>@zC8 fuel (d + 1) b rb hB (by omega) M
 refine zK0 tf40 rfl (fun M=>by simp only [icyL,zC7 hA.fz,zC7 hB.fz]) ?_
 refine zAX tf40 rfl (by simp only [icyL,zC7 hA.fz,zC7 hB.fz]) (by simp [a40]) fun b' ht hx=>?_
 have h0:=hx 0 _ rfl
 have h1:=hx 1 _ rfl
 clear hx
 simp only [a40,c40,zz0,zz1,zzm] at ht ⊢
 unfold zZB zED zGP
 by_cases hm : a.may = true ∧ b.may = true
 ·obtain ⟨ma,mb⟩:=hm
  rw [ma] at hca
  rw [mb] at hcb
  simp only [ma,mb,and_self,if_true]
  have ba:=Spn.may_le (Rn.may_sp ma)
  have bb:=Spn.may_le (Rn.may_sp mb)
  have w1 : IntKind.i64.wrap (a.sp.n + b.sp.n) = a.sp.n + b.sp.n:=wrap_i64 (by omega) (by omega)
  simp (maxSteps:=2000000) (disch:=first | omega | assumption | (simp only [DS,Nat.reduceAdd, *]; done) | (simp only [DZ]; omega)) only [RUN,RU,zA4,zA2,zA1,zA5,frzL,slot,lay,icyL,zA6,zA0,kR,reduceIte,Nat.reduceEqDiff,Nat.reduceBEq,Nat.reduceLT,Nat.reduceAdd,Nat.reduceLeDiff,Nat.reduceSub,Nat.reduceMul,Int.reduceLT,Int.reduceLE,Int.reduceEq,Int.reduceAdd,Int.reduceSub,Int.reduceMul,h0,h1,hA.fz.rows,hA.fz.one,hA.fz.cells,hA.fz.icy,hA.fz.frz,hB.fz.rows,hB.fz.one,hB.fz.cells,hB.fz.icy,hB.fz.frz,hca,hcb,zBP,z00,IMX,zDH,zDJ,zDI,BMM,w1]
  refine row_0 (d:=d + 6) (l:=[a,b]) (zRH (zMY hA hB ha hb) (by simp) rfl (.inr rfl) (by simp (maxSteps:=2000000) (disch:=first | omega | assumption | (simp only [DS,Nat.reduceAdd, *]; done) | (simp only [DZ]; omega)) only [RUN,RU,zA4,zA2,zA1,zA5,frzL,slot,lay,icyL,zA6,zA0,kR,reduceIte,Nat.reduceEqDiff,Nat.reduceBEq,Nat.reduceLT,Nat.reduceAdd,Nat.reduceLeDiff,Nat.reduceSub,Nat.reduceMul,Int.reduceLT,Int.reduceLE,Int.reduceEq,Int.reduceAdd,Int.reduceSub,Int.reduceMul]; rfl)) (by simp) (by simp; exact ⟨hla,hlb⟩) (by omega) (by simp (maxSteps:=2000000) (disch:=first | omega | assumption | (simp only [DS,Nat.reduceAdd, *]; done) | (simp only [DZ]; omega)) only [RUN,RU,zA4,zA2,zA1,zA5,frzL,slot,lay,icyL,zA6,zA0,kR,reduceIte,Nat.reduceEqDiff,Nat.reduceBEq,Nat.reduceLT,Nat.reduceAdd,Nat.reduceLeDiff,Nat.reduceSub,Nat.reduceMul,Int.reduceLT,Int.reduceLE,Int.reduceEq,Int.reduceAdd,Int.reduceSub,Int.reduceMul]) (by simp (maxSteps:=2000000) (disch:=first | omega | assumption | (simp only [DS,Nat.reduceAdd, *]; done) | (simp only [DZ]; omega)) only [RUN,RU,zA4,zA2,zA1,zA5,frzL,slot,lay,icyL,zA6,zA0,kR,reduceIte,Nat.reduceEqDiff,Nat.reduceBEq,Nat.reduceLT,Nat.reduceAdd,Nat.reduceLeDiff,Nat.reduceSub,Nat.reduceMul,Int.reduceLT,Int.reduceLE,Int.reduceEq,Int.reduceAdd,Int.reduceSub,Int.reduceMul]; exact Nat.le_refl _) fun o X kX sm nr=>?_
  have wX:=kX.wf
  have hd : X.dirty = false:=kX.di
  have hsX : 4 ≤ X.size:=kX.le
  have k0:=kX.get 0 (by show 0 < 4; omega)
  have k1:=kX.get 1 (by show 1 < 4; omega)
  have k2:=kX.get 2 (by show 2 < 4; omega)
  simp (maxSteps:=2000000) (disch:=first | omega | assumption | (simp only [DS,Nat.reduceAdd, *]; done) | (simp only [DZ]; omega)) only [RUN,RU,zA4,zA2,zA1,zA5,frzL,slot,lay,icyL,zA6,zA0,kR,reduceIte,Nat.reduceEqDiff,Nat.reduceBEq,Nat.reduceLT,Nat.reduceAdd,Nat.reduceLeDiff,Nat.reduceSub,Nat.reduceMul,Int.reduceLT,Int.reduceLE,Int.reduceEq,Int.reduceAdd,Int.reduceSub,Int.reduceMul] at k0 k1 k2
  have oo:=sm.one
  have oc:=sm.cells
  have nr' : ∀ j,rowOf o = some j → 4 ≤ j:=nr
  have rlo:=zBB sm.rl (show X.size ≤ X.size by omega)
  have rlo1:=zBB sm.rl (show X.size ≤ X.size + 1 by omega)
  have sm' : SlM X 1 zBU o (a.rs ++ b.rs):=by simpa [rowL] using sm
  simp (maxSteps:=2000000) (disch:=first | omega | assumption | (simp only [DS,Nat.reduceAdd, *]; done) | (simp only [DZ]; omega)) only [RUN,RU,zA4,zA2,zA1,zA5,frzL,slot,lay,icyL,zA6,zA0,kR,reduceIte,Nat.reduceEqDiff,Nat.reduceBEq,Nat.reduceLT,Nat.reduceAdd,Nat.reduceLeDiff,Nat.reduceSub,Nat.reduceMul,Int.reduceLT,Int.reduceLE,Int.reduceEq,Int.reduceAdd,Int.reduceSub,Int.reduceMul,wX,hd,k0,k1,k2,oo,oc,rlo,rlo1]
  refine ⟨rfl, ?_⟩
  have kY:=((kX.bk.add (.row false (rnR Rn.z NIL))).upd (Nat.zero_le _) (show _ ≤ X.size from kX.le) (.row false (rnR (a.both b) o)))
  have wY:=kY.wf
  refine zM9 (n:=d + 6) (R:=cutK (a.both b) a.sp.n) (spR (a.both b).sp ++ idR a.af) o (rest:=[I64 a.sp.n]) (l:=(a.both b).rs) tf39 rfl (fun y hy=>(List.mem_append.1 hy).elim (zYV _ y) (zJZ _ y)) (sm'.keep fun j hj=>?_) (by simp (maxSteps:=2000000) (disch:=first | omega | assumption | (simp only [DS,Nat.reduceAdd, *]; done) | (simp only [DZ]; omega)) only [RUN,RU,zA4,zA2,zA1,zA5,frzL,slot,lay,icyL,zA6,zA0,kR,reduceIte,Nat.reduceEqDiff,Nat.reduceBEq,Nat.reduceLT,Nat.reduceAdd,Nat.reduceLeDiff,Nat.reduceSub,Nat.reduceMul,Int.reduceLT,Int.reduceLE,Int.reduceEq,Int.reduceAdd,Int.reduceSub,Int.reduceMul,wX]) zI4 (fun M=>by simp only [icyL,zT7]) (fun a2 b2=>?_) fun v a2 N2 hv b2 w2 s2 k2' r2 f2=>?_
  ·have:=sm'.lt j hj
   simp (maxSteps:=2000000) (disch:=first | omega | assumption | (simp only [DS,Nat.reduceAdd, *]; done) | (simp only [DZ]; omega)) only [RUN,RU,zA4,zA2,zA1,zA5,frzL,slot,lay,icyL,zA6,zA0,kR,reduceIte,Nat.reduceEqDiff,Nat.reduceBEq,Nat.reduceLT,Nat.reduceAdd,Nat.reduceLeDiff,Nat.reduceSub,Nat.reduceMul,Int.reduceLT,Int.reduceLE,Int.reduceEq,Int.reduceAdd,Int.reduceSub,Int.reduceMul,wX]
  ·exact zG7 (o:=a.both b) (d:=d) b2 (by omega)
  obtain ⟨ca,cb,rfl,hca',hcb'⟩:=hv
  have oca:=hca'.one
  have ocb:=hcb'.one
  have j0:=k2' 0 (fun h=>by have:=nr' 0 h; omega)
  have j1:=k2' 1 (fun h=>by have:=nr' 1 h; omega)
  have j2:=k2' 2 (fun h=>by have:=nr' 2 h; omega)
  have j3:=k2' X.size (fun h=>by have:=sm'.lt _ h; omega)
  simp only [zAE,zAD,zCX] at s2
  simp (maxSteps:=2000000) (disch:=first | omega | assumption | (simp only [DS,Nat.reduceAdd, *]; done) | (simp only [DZ]; omega)) only [RUN,RU,zA4,zA2,zA1,zA5,frzL,slot,lay,icyL,zA6,zA0,kR,reduceIte,Nat.reduceEqDiff,Nat.reduceBEq,Nat.reduceLT,Nat.reduceAdd,Nat.reduceLeDiff,Nat.reduceSub,Nat.reduceMul,Int.reduceLT,Int.reduceLE,Int.reduceEq,Int.reduceAdd,Int.reduceSub,Int.reduceMul,k0,k1,k2,wX] at j0 j1 j2 j3
  have z0:=Mem.get_lt j0
  have z1:=Mem.get_lt j1
  have z2:=Mem.get_lt j2
  have z3:=Mem.get_lt j3
  clear kY wY k2' kX k0 k1 k2 nr
  have bl : (a.both b).rs.length ≤ 2000000:=by show (a.rs ++ b.rs).length ≤ _; rw [List.length_append]; omega
  have la:=zSN (a.both b) a.sp.n
  have lb:=zSO (a.both b) a.sp.n
  have hsa:=fun M=>zF4 (fuel:=fuel) (d:=d + 5) (o:=(a.both b).cutA a.sp.n) (p:=a) hca' hA (by omega) (by omega) M
  have hsb:=fun M=>zF4 (fuel:=fuel) (d:=d + 5) (o:=(a.both b).cutB a.sp.n) (p:=b) hcb' hB (by omega) (by omega) M
  have hfr:=fun N7 hN=>f2 N7 11 (by omega) hN
  clear f2
  have eA : ∀ (q : (a.both b).cutE a.sp.n = 0),(a.both b).cutA a.sp.n = (a.both b).fst a.sp.n:=fun q=>by unfold Rn.cutA; rw [if_pos q]
  have eB : ∀ (q : (a.both b).cutE a.sp.n = 0),(a.both b).cutB a.sp.n = (a.both b).snd a.sp.n:=fun q=>by unfold Rn.cutB; rw [if_pos q]
  generalize hA' : (a.both b).cutA a.sp.n = cA at *
  generalize hB' : (a.both b).cutB a.sp.n = cB at *
  by_cases q1 : (a.both b).cutE a.sp.n = 0
  ·have q1' : decide ((a.both b).cutE a.sp.n = 0) = true:=decide_eq_true q1
   rw [← eA q1,← eB q1]
   cases q2 : rnEq cA a with
   | false =>
    have q2' : ¬(cA = a):=fun h=>by rw [(zFJ cA a).2 h] at q2; cases q2
    rw [q2] at hsa
    simp only [q2',false_and,and_false,if_false]
    simp (maxSteps:=2000000) (disch:=first | omega | assumption | (simp only [DS,Nat.reduceAdd, *]; done) | (simp only [DZ]; omega)) only [RUN,RU,zA4,zA2,zA1,zA5,frzL,slot,lay,icyL,zA6,zA0,kR,reduceIte,Nat.reduceEqDiff,Nat.reduceBEq,Nat.reduceLT,Nat.reduceAdd,Nat.reduceLeDiff,Nat.reduceSub,Nat.reduceMul,Int.reduceLT,Int.reduceLE,Int.reduceEq,Int.reduceAdd,Int.reduceSub,Int.reduceMul,w2,j0,j1,j2,j3,hA.fz.rows,hA.fz.one,hA.fz.cells,hA.fz.icy,hA.fz.frz,hB.fz.rows,hB.fz.one,hB.fz.cells,hB.fz.icy,hB.fz.frz,hca'.fz.rows,hca'.fz.one,hca'.fz.cells,hca'.fz.icy,hca'.fz.frz,hcb'.fz.rows,hcb'.fz.one,hcb'.fz.cells,hcb'.fz.icy,hcb'.fz.frz,q1',hsa]
    exact ⟨_,⟨NIL,rfl,.inl ⟨rfl,rfl⟩⟩,rfl⟩
   | true =>
    have q2':=(zFJ cA a).1 q2
    rw [q2] at hsa
    cases q3 : rnEq cB b with
    | false =>
     have q3' : ¬(cB = b):=fun h=>by rw [(zFJ cB b).2 h] at q3; cases q3
     rw [q3] at hsb
     simp only [q3',and_false,if_false]
     simp (maxSteps:=2000000) (disch:=first | omega | assumption | (simp only [DS,Nat.reduceAdd, *]; done) | (simp only [DZ]; omega)) only [RUN,RU,zA4,zA2,zA1,zA5,frzL,slot,lay,icyL,zA6,zA0,kR,reduceIte,Nat.reduceEqDiff,Nat.reduceBEq,Nat.reduceLT,Nat.reduceAdd,Nat.reduceLeDiff,Nat.reduceSub,Nat.reduceMul,Int.reduceLT,Int.reduceLE,Int.reduceEq,Int.reduceAdd,Int.reduceSub,Int.reduceMul,w2,j0,j1,j2,j3,hA.fz.rows,hA.fz.one,hA.fz.cells,hA.fz.icy,hA.fz.frz,hB.fz.rows,hB.fz.one,hB.fz.cells,hB.fz.icy,hB.fz.frz,hca'.fz.rows,hca'.fz.one,hca'.fz.cells,hca'.fz.icy,hca'.fz.frz,hcb'.fz.rows,hcb'.fz.one,hcb'.fz.cells,hcb'.fz.icy,hcb'.fz.frz,q1',hsa,hsb]
     exact ⟨_,⟨NIL,rfl,.inl ⟨rfl,rfl⟩⟩,rfl⟩
    | true =>
     have q3':=(zFJ cB b).1 q3
     rw [q3] at hsb
     simp only [eq_true (show (a.both b).cutE a.sp.n = 0 ∧ cA = a ∧ cB = b from ⟨q1,q2',q3'⟩),if_true]
     simp (maxSteps:=2000000) (disch:=first | omega | assumption | (simp only [DS,Nat.reduceAdd, *]; done) | (simp only [DZ]; omega)) only [RUN,RU,zA4,zA2,zA1,zA5,frzL,slot,lay,icyL,zA6,zA0,kR,reduceIte,Nat.reduceEqDiff,Nat.reduceBEq,Nat.reduceLT,Nat.reduceAdd,Nat.reduceLeDiff,Nat.reduceSub,Nat.reduceMul,Int.reduceLT,Int.reduceLE,Int.reduceEq,Int.reduceAdd,Int.reduceSub,Int.reduceMul,w2,j0,j1,j2,j3,hA.fz.rows,hA.fz.one,hA.fz.cells,hA.fz.icy,hA.fz.frz,hB.fz.rows,hB.fz.one,hB.fz.cells,hB.fz.icy,hB.fz.frz,hca'.fz.rows,hca'.fz.one,hca'.fz.cells,hca'.fz.icy,hca'.fz.frz,hcb'.fz.rows,hcb'.fz.one,hcb'.fz.cells,hcb'.fz.icy,hcb'.fz.frz,q1',hsa,hsb,oo,oc]
     have lo : ∀ j,rowOf o = some j → j < N2.size:=fun j hj=>by have:=sm'.lt j hj; omega
     rw [hfr _ (fun j hj=>by
      have u1:=lo j hj
      have u2:=nr' j hj
      simp (maxSteps:=2000000) (disch:=first | omega | assumption | (simp only [DS,Nat.reduceAdd, *]; done) | (simp only [DZ]; omega)) only [RUN,RU,zA4,zA2,zA1,zA5,frzL,slot,lay,icyL,zA6,zA0,kR,reduceIte,Nat.reduceEqDiff,Nat.reduceBEq,Nat.reduceLT,Nat.reduceAdd,Nat.reduceLeDiff,Nat.reduceSub,Nat.reduceMul,Int.reduceLT,Int.reduceLE,Int.reduceEq,Int.reduceAdd,Int.reduceSub,Int.reduceMul,w2])]
     exact ⟨_,⟨a2,rfl,b2⟩,rfl⟩
  ·have q1' : decide ((a.both b).cutE a.sp.n = 0) = false:=decide_eq_false q1
   simp only [q1,false_and,if_false]
   simp (maxSteps:=2000000) (disch:=first | omega | assumption | (simp only [DS,Nat.reduceAdd, *]; done) | (simp only [DZ]; omega)) only [RUN,RU,zA4,zA2,zA1,zA5,frzL,slot,lay,icyL,zA6,zA0,kR,reduceIte,Nat.reduceEqDiff,Nat.reduceBEq,Nat.reduceLT,Nat.reduceAdd,Nat.reduceLeDiff,Nat.reduceSub,Nat.reduceMul,Int.reduceLT,Int.reduceLE,Int.reduceEq,Int.reduceAdd,Int.reduceSub,Int.reduceMul,w2,j0,j1,j2,j3,hA.fz.rows,hA.fz.one,hA.fz.cells,hA.fz.icy,hA.fz.frz,hB.fz.rows,hB.fz.one,hB.fz.cells,hB.fz.icy,hB.fz.frz,hca'.fz.rows,hca'.fz.one,hca'.fz.cells,hca'.fz.icy,hca'.fz.frz,hcb'.fz.rows,hcb'.fz.one,hcb'.fz.cells,hcb'.fz.icy,hcb'.fz.frz,q1']
   exact ⟨_,⟨NIL,rfl,.inl ⟨rfl,rfl⟩⟩,rfl⟩
 ·have hz : imax (err a.may) (err b.may) = 8:=by
   cases ma : a.may <;> cases mb : b.may <;> first | rfl | exact absurd ⟨ma,mb⟩ hm
  simp only [hm,if_false]
  have q8 : ((8 : Int) = 0) = False:=by decide
  simp (maxSteps:=2000000) (disch:=first | omega | assumption | (simp only [DS,Nat.reduceAdd, *]; done) | (simp only [DZ]; omega)) only [RUN,RU,zA4,zA2,zA1,zA5,frzL,slot,lay,icyL,zA6,zA0,kR,reduceIte,Nat.reduceEqDiff,Nat.reduceBEq,Nat.reduceLT,Nat.reduceAdd,Nat.reduceLeDiff,Nat.reduceSub,Nat.reduceMul,Int.reduceLT,Int.reduceLE,Int.reduceEq,Int.reduceAdd,Int.reduceSub,Int.reduceMul,h0,h1,hA.fz.rows,hA.fz.one,hA.fz.cells,hA.fz.icy,hA.fz.frz,hB.fz.rows,hB.fz.one,hB.fz.cells,hB.fz.icy,hB.fz.frz,hca,hcb,hz,z80,zDH,zDJ,zDI,BMM,q8,if_false]
  exact ⟨_,⟨NIL,rfl,.inl ⟨rfl,rfl⟩⟩,rfl⟩
def atE (r : Rn) (n : Int) : Int:=if r.may = true then (if n < 0 ∨ r.sp.n ≤ n then 2 else 0) else 8
def Rn.afAt (r : Rn) (n : Int) : Eid:=if 0 < n then r.sp.at (n - 1) else r.af
set_option maxHeartbeats 8000000 in
theorem zRB {o : Rn} {ra : AV} {n : Int} (hR : Sl 1 zBU ra o.rs) (hf : 100 < fuel) (M : Mem) : zAF Try.prog (fsT tbl) fuel (d + 7) (.fn 64) [.agg (rnR o ra),I64 n] M = some (if atE o n = 0 then .tup [idA (o.sp.at n),idA (o.afAt n),I32 (o.rs.getD n.toNat 0),I64 0] else .tup [idA Eid.z,idA Eid.z,I32 0,I64 (atE o n)],M):=by
 have ora:=hR.one
 have hck:=fun M=>@zC8 fuel d o ra hR hf M
 have hat:=fun n M=>@zK3 fuel (d + 1) o.sp n M
 apply zC1
 refine zAX tf64 rfl (by simp only [icyL,zC7 hR.fz,zT7]) (by simp [a64]) fun b' ht hx=>?_
 have h0:=hx 0 _ rfl
 have h1:=hx 1 _ rfl
 clear hx
 simp only [a64,c64,zz2,zzm] at ht ⊢
 unfold atE
 cases hm : o.may with
 | false =>
  rw [hm] at hck
  have q8 : ((8 : Int) = 0) = False:=by decide
  simp only [Bool.false_eq_true,if_false,q8]
  simp (maxSteps:=2000000) (disch:=first | omega | assumption | (simp only [DS,Nat.reduceAdd, *]; done) | (simp only [DZ]; omega)) only [RUN,RU,zA4,zA2,zA1,zA5,frzL,slot,lay,icyL,zA6,zA0,kR,reduceIte,Nat.reduceEqDiff,Nat.reduceBEq,Nat.reduceLT,Nat.reduceAdd,Nat.reduceLeDiff,Nat.reduceSub,Nat.reduceMul,Int.reduceLT,Int.reduceLE,Int.reduceEq,Int.reduceAdd,Int.reduceSub,Int.reduceMul,h0,h1,hR.fz.rows,hR.fz.one,hR.fz.cells,hR.fz.icy,hR.fz.frz,hck,zD2,z80]
  all_goals rfl
 | true =>
  rw [hm] at hck
  have hs:=Rn.may_sp hm
  have hb:=Spn.may_le hs
  have hml:=Rn.may_len hm
  simp only [hs,if_true] at hat ⊢
  by_cases q : n < 0 ∨ o.sp.n ≤ n
  ·have hat:=hat n
   simp only [q,if_true] at hat ⊢
   have q2 : ((2 : Int) = 0) = False:=by decide
   simp only [q2,if_false]
   simp (maxSteps:=2000000) (disch:=first | omega | assumption | (simp only [DS,Nat.reduceAdd, *]; done) | (simp only [DZ]; omega)) only [RUN,RU,zA4,zA2,zA1,zA5,frzL,slot,lay,icyL,zA6,zA0,kR,reduceIte,Nat.reduceEqDiff,Nat.reduceBEq,Nat.reduceLT,Nat.reduceAdd,Nat.reduceLeDiff,Nat.reduceSub,Nat.reduceMul,Int.reduceLT,Int.reduceLE,Int.reduceEq,Int.reduceAdd,Int.reduceSub,Int.reduceMul,h0,h1,hR.fz.rows,hR.fz.one,hR.fz.cells,hR.fz.icy,hR.fz.frz,hck,hat,zBP,z00]
   all_goals rfl
  ·obtain ⟨m,rfl⟩ : ∃ m : Nat,n = m:=⟨n.toNat,by omega⟩
   have hat0:=hat (m : Int)
   simp only [q,if_false] at hat0 ⊢
   simp only [if_true]
   obtain ⟨r,hr,rfl,_⟩:=hR.iad m (by omega)
   have eg : o.rs.getD (m : Int).toNat 0 = o.rs[m]:=by
    rw [Int.toNat_natCast,List.getD_eq_getElem?_getD,List.getElem?_eq_getElem (by omega)]; rfl
   rw [eg]
   unfold Rn.afAt
   by_cases q0 : (0 : Int) < m
   ·have q0' : decide ((0 : Int) < m) = true:=decide_eq_true q0
    have hat1:=hat ((m : Int) - 1)
    simp only [show ¬((m : Int) - 1 < 0 ∨ o.sp.n ≤ (m : Int) - 1) by omega,if_false] at hat1
    have w1 : IntKind.i64.wrap ((m : Int) - 1) = (m : Int) - 1:=wrap_i64 (by omega) (by omega)
    simp (maxSteps:=2000000) (disch:=first | omega | assumption | (simp only [DS,Nat.reduceAdd, *]; done) | (simp only [DZ]; omega)) only [RUN,RU,zA4,zA2,zA1,zA5,frzL,slot,lay,icyL,zA6,zA0,kR,reduceIte,Nat.reduceEqDiff,Nat.reduceBEq,Nat.reduceLT,Nat.reduceAdd,Nat.reduceLeDiff,Nat.reduceSub,Nat.reduceMul,Int.reduceLT,Int.reduceLE,Int.reduceEq,Int.reduceAdd,Int.reduceSub,Int.reduceMul,h0,h1,hR.fz.rows,hR.fz.one,hR.fz.cells,hR.fz.icy,hR.fz.frz,hck,hat0,hat1,zBP,z00,q0,q0',w1,hr,if_true]
    all_goals exact ⟨rfl,rfl⟩
   ·have q0' : decide ((0 : Int) < m) = false:=decide_eq_false q0
    simp (maxSteps:=2000000) (disch:=first | omega | assumption | (simp only [DS,Nat.reduceAdd, *]; done) | (simp only [DZ]; omega)) only [RUN,RU,zA4,zA2,zA1,zA5,frzL,slot,lay,icyL,zA6,zA0,kR,reduceIte,Nat.reduceEqDiff,Nat.reduceBEq,Nat.reduceLT,Nat.reduceAdd,Nat.reduceLeDiff,Nat.reduceSub,Nat.reduceMul,Int.reduceLT,Int.reduceLE,Int.reduceEq,Int.reduceAdd,Int.reduceSub,Int.reduceMul,h0,h1,hR.fz.rows,hR.fz.one,hR.fz.cells,hR.fz.icy,hR.fz.frz,hck,hat0,zBP,z00,q0,q0',hr,if_false]
    all_goals exact ⟨rfl,rfl⟩
end Go.Proofs.Ytakaojjlfcmphaa
namespace Go.Proofs.Ytakaojjlfcmphaa
open Go Go.Ax
variable {fuel : Nat} {M : Mem} {Q : AV → Mem → Prop} {d : Nat}
def zB5 : List Rn → Int
 | []=>0
 | r :: l=>r.sp.n + zB5 l
theorem zNW (l m : List Rn) : zB5 (l ++ m) = zB5 l + zB5 m:=by
 induction l with
 | nil=>simp [zB5]
 | cons r l ih=>simp only [List.cons_append,zB5,ih]; omega
theorem zLH (l : List Rn) (r : Rn) : zB5 (l ++ [r]) = zB5 l + r.sp.n:=by rw [zNW]; simp [zB5]
theorem zEA {l : List Rn} (h : ∀ r ∈ l,r.may = true) : 0 ≤ zB5 l ∧ zB5 l ≤ 64 * l.length:=by
 induction l with
 | nil=>simp [zB5]
 | cons r l ih =>
  have:=Spn.may_le (Rn.may_sp (h r List.mem_cons_self))
  have:=ih fun r hr=>h r (List.mem_cons_of_mem _ hr)
  simp only [zB5,List.length_cons]
  omega
set_option maxHeartbeats 4000000 in
theorem zH4 {a : AV} {l : List Rn} (hS : Sl 10 isRn a l) (hm : ∀ r ∈ l,r.may = true) (hl : l.length ≤ 1000000) (hf : l.length < fuel) (M : Mem) : zAF Try.prog (fsT tbl) fuel (d + 1) (.fn 28) [a] M = some (I64 (zB5 l),M):=by
 have ll:=hS.len
 apply zC1
 refine zAX tf28 rfl (by simp only [icyL,fun M=>hS.icy M 12 (by omega)]) (by simp [a28]) fun b' ht hx=>?_
 have h0:=hx 0 _ rfl
 clear hx
 simp only [a28,c28,zz0,zzm] at ht ⊢
 simp (maxSteps:=2000000) (disch:=first | omega | assumption | (simp only [DS,Nat.reduceAdd, *]; done) | (simp only [DZ]; omega)) only [RUN,RU,zA4,zA2,zA1,zA5,frzL,slot,lay,icyL,zA6,zA0,kR,reduceIte,Nat.reduceEqDiff,Nat.reduceBEq,Nat.reduceLT,Nat.reduceAdd,Nat.reduceLeDiff,Nat.reduceSub,Nat.reduceMul,Int.reduceLT,Int.reduceLE,Int.reduceEq,Int.reduceAdd,Int.reduceSub,Int.reduceMul,h0,ll,hS.fz.rows,hS.fz.one,hS.fz.cells,hS.fz.icy,hS.fz.frz]
 refine zCH (I:=fun n t N => ∃ (i : Nat),n = l.length - i ∧ i ≤ l.length ∧ nth zAC t 2 = I64 (zB5 (l.take i)) ∧ nth zAC t 5 = a ∧ nth zAC t 6 = I64 l.length ∧ nth zAC t 7 = I64 i ∧ Wf N) (n:=l.length) (by omega) ?_ ?_
 ·refine ⟨0,rfl,Nat.zero_le _, ?_, ?_, ?_, ?_,Wf.mem0⟩ <;> simp (maxSteps:=2000000) (disch:=first | omega | assumption | (simp only [DS,Nat.reduceAdd, *]; done) | (simp only [DZ]; omega)) only [RUN,RU,zA4,zA2,zA1,zA5,frzL,slot,lay,icyL,zA6,zA0,kR,reduceIte,Nat.reduceEqDiff,Nat.reduceBEq,Nat.reduceLT,Nat.reduceAdd,Nat.reduceLeDiff,Nat.reduceSub,Nat.reduceMul,Int.reduceLT,Int.reduceLE,Int.reduceEq,Int.reduceAdd,Int.reduceSub,Int.reduceMul,h0,ll,zB5]
  all_goals first | rfl | assumption | done
 ·rintro n t N hlt ⟨i,rfl,hi,g2,g5,g6,g7,w⟩
  simp only [ht] at hlt ⊢
  by_cases hc : i < l.length
  ·have q1 : decide ((i : Int) < l.length) = true:=decide_eq_true (by omega)
   have w1 : IntKind.i64.wrap ((i : Int) + 1) = ((i + 1 : Nat) : Int):=by rw [wrap_i64] <;> omega
   obtain ⟨r,hiad,hr,hrl⟩:=hS.iad i hc
   have hts:=zLH (l.take i) l[i]
   rw [← zBJ l i hc] at hts
   have hb:=Spn.may_le (Rn.may_sp (hm l[i] (List.getElem_mem hc)))
   have hcl:=zEA (l:=l.take i) (fun r hr=>hm r (List.mem_of_mem_take hr))
   rw [List.length_take] at hcl
   generalize l[i] = e at *
   obtain ⟨ra,rfl,hra,hok⟩:=hr
   have ora:=hra.one
   have w2 : IntKind.i64.wrap (zB5 (l.take i) + e.sp.n) = zB5 (l.take (i + 1)):=by rw [hts,wrap_i64] <;> omega
   simp (maxSteps:=2000000) (disch:=first | omega | assumption | (simp only [DS,Nat.reduceAdd, *]; done) | (simp only [DZ]; omega)) only [RUN,RU,zA4,zA2,zA1,zA5,frzL,slot,lay,icyL,zA6,zA0,kR,reduceIte,Nat.reduceEqDiff,Nat.reduceBEq,Nat.reduceLT,Nat.reduceAdd,Nat.reduceLeDiff,Nat.reduceSub,Nat.reduceMul,Int.reduceLT,Int.reduceLE,Int.reduceEq,Int.reduceAdd,Int.reduceSub,Int.reduceMul,g2,g5,g6,g7,hS.fz.rows,hS.fz.one,hS.fz.cells,hS.fz.icy,hS.fz.frz,q1,hiad,hra.fz.rows,hra.fz.one,hra.fz.cells,hra.fz.icy,hra.fz.frz,w,w1,w2]
   exact ⟨hlt,l.length - (i + 1),by omega,i + 1,rfl,by omega,rfl,rfl⟩
  ·obtain rfl : i = l.length:=by omega
   have q1 : decide ((l.length : Int) < l.length) = false:=decide_eq_false (by omega)
   rw [List.take_length] at g2
   simp (maxSteps:=2000000) (disch:=first | omega | assumption | (simp only [DS,Nat.reduceAdd, *]; done) | (simp only [DZ]; omega)) only [RUN,RU,zA4,zA2,zA1,zA5,frzL,slot,lay,icyL,zA6,zA0,kR,reduceIte,Nat.reduceEqDiff,Nat.reduceBEq,Nat.reduceLT,Nat.reduceAdd,Nat.reduceLeDiff,Nat.reduceSub,Nat.reduceMul,Int.reduceLT,Int.reduceLE,Int.reduceEq,Int.reduceAdd,Int.reduceSub,Int.reduceMul,g2,g5,g6,g7,q1]
def zJI (l m : List Rn) : Bool:=eqL rnEq l m
theorem zEH {l m : List Rn} : zJI l m = true ↔ l = m:=zV1 zFJ
set_option maxHeartbeats 4000000 in
theorem zO1 {a b : AV} {l m : List Rn} (h1' : Sl 10 isRn a l) (h2' : Sl 10 isRn b m) (hl : l.length ≤ 1000000) (hc : ∀ e ∈ l,e.rs.length ≤ 1000000 ∧ e.rs.length < fuel) (hf : l.length < fuel) (M : Mem) : zAF Try.prog (fsT tbl) fuel (d + 3) (.fn 24) [a,b,.fn 25 [] []] M = some (BL (zJI l m),M):=by
 have la:=h1'.len
 have lb:=h2'.len
 apply zC1
 refine zAX tf24 rfl (by simp (maxSteps:=2000000) (disch:=first | omega | assumption | (simp only [DS,Nat.reduceAdd, *]; done) | (simp only [DZ]; omega)) only [RUN,RU,zA4,zA2,zA1,zA5,frzL,slot,lay,icyL,zA6,zA0,kR,reduceIte,Nat.reduceEqDiff,Nat.reduceBEq,Nat.reduceLT,Nat.reduceAdd,Nat.reduceLeDiff,Nat.reduceSub,Nat.reduceMul,Int.reduceLT,Int.reduceLE,Int.reduceEq,Int.reduceAdd,Int.reduceSub,Int.reduceMul,h1'.fz.rows,h1'.fz.one,h1'.fz.cells,h1'.fz.icy,h1'.fz.frz,h2'.fz.rows,h2'.fz.one,h2'.fz.cells,h2'.fz.icy,h2'.fz.frz,frzL,icyL]) (by simp [a24]) fun b' ht hx=>?_
 have h0:=hx 0 _ rfl
 have h1:=hx 1 _ rfl
 have h2:=hx 2 _ rfl
 clear hx
 simp only [a24,c24,zz0,zzm] at ht ⊢
 by_cases q : l.length = m.length
 ·have q0 : decide ((l.length : Int) = m.length) = true:=decide_eq_true (by omega)
  simp (maxSteps:=2000000) (disch:=first | omega | assumption | (simp only [DS,Nat.reduceAdd, *]; done) | (simp only [DZ]; omega)) only [RUN,RU,zA4,zA2,zA1,zA5,frzL,slot,lay,icyL,zA6,zA0,kR,reduceIte,Nat.reduceEqDiff,Nat.reduceBEq,Nat.reduceLT,Nat.reduceAdd,Nat.reduceLeDiff,Nat.reduceSub,Nat.reduceMul,Int.reduceLT,Int.reduceLE,Int.reduceEq,Int.reduceAdd,Int.reduceSub,Int.reduceMul,h0,h1,h2,la,lb,h1'.fz.rows,h1'.fz.one,h1'.fz.cells,h1'.fz.icy,h1'.fz.frz,h2'.fz.rows,h2'.fz.one,h2'.fz.cells,h2'.fz.icy,h2'.fz.frz,q0]
  refine zCH (I:=fun n t N => ∃ (i : Nat),n = l.length - i ∧ i ≤ l.length ∧ nth zAC t 0 = a ∧ nth zAC t 1 = b ∧ nth zAC t 2 = .fn 25 [] [] ∧ nth zAC t 15 = a ∧ nth zAC t 16 = I64 l.length ∧ nth zAC t 17 = I64 i ∧ Wf N ∧ (∀ j (x1 : j < l.length) (x2 : j < m.length),j < i → rnEq l[j] m[j] = true)) (n:=l.length) (by omega) ?_ ?_
  ·refine ⟨0,rfl,Nat.zero_le _, ?_, ?_, ?_, ?_, ?_, ?_,Wf.mem0,(fun _ _ _ h=>absurd h (by omega))⟩ <;> simp (maxSteps:=2000000) (disch:=first | omega | assumption | (simp only [DS,Nat.reduceAdd, *]; done) | (simp only [DZ]; omega)) only [RUN,RU,zA4,zA2,zA1,zA5,frzL,slot,lay,icyL,zA6,zA0,kR,reduceIte,Nat.reduceEqDiff,Nat.reduceBEq,Nat.reduceLT,Nat.reduceAdd,Nat.reduceLeDiff,Nat.reduceSub,Nat.reduceMul,Int.reduceLT,Int.reduceLE,Int.reduceEq,Int.reduceAdd,Int.reduceSub,Int.reduceMul,h0,h1,h2,la]
   all_goals first | rfl | assumption | done
  ·rintro n t N hlt ⟨i,rfl,hi,g0,g1,g2,g15,g16,g17,wN,hj⟩
   simp only [ht] at hlt ⊢
   by_cases hc' : i < l.length
   ·have q1 : decide ((i : Int) < l.length) = true:=decide_eq_true (by omega)
    have hc2 : i < m.length:=by omega
    obtain ⟨r1,i1,hr1,hl1⟩:=h1'.iad i hc'
    obtain ⟨r2,i2,hr2,hl2⟩:=h2'.iad i hc2
    have hcr:=hc l[i] (List.getElem_mem hc')
    have w1 : IntKind.i64.wrap ((i : Int) + 1) = ((i + 1 : Nat) : Int):=by rw [wrap_i64] <;> omega
    have qat:=fun q2=>zYO (p:=rnEq) hc' hc2 q2
    have hj':=hj
    have key : rnEq l[i] m[i] = true → ∀ j (x1 : j < l.length) (x2 : j < m.length),j < i + 1 → rnEq l[j] m[j] = true:=fun q2 j x1 x2 hj'=>by
     rcases Nat.lt_succ_iff_lt_or_eq.1 hj' with h | rfl
     ·exact hj j x1 x2 h
     ·exact q2
    generalize l[i] = e1 at *
    generalize m[i] = e2 at *
    obtain ⟨ra1,rfl,b1,_⟩:=hr1
    obtain ⟨ra2,rfl,b2,_⟩:=hr2
    have hp:=fun M=>zF4 (fuel:=fuel) (d:=d) b1 b2 (by omega) hcr.2 M
    have o1:=b1.one
    have o3:=b2.one
    cases q2 : rnEq e1 e2 with
    | true =>
     rw [q2] at hp
     simp (maxSteps:=2000000) (disch:=first | omega | assumption | (simp only [DS,Nat.reduceAdd, *]; done) | (simp only [DZ]; omega)) only [RUN,RU,zA4,zA2,zA1,zA5,frzL,slot,lay,icyL,zA6,zA0,kR,reduceIte,Nat.reduceEqDiff,Nat.reduceBEq,Nat.reduceLT,Nat.reduceAdd,Nat.reduceLeDiff,Nat.reduceSub,Nat.reduceMul,Int.reduceLT,Int.reduceLE,Int.reduceEq,Int.reduceAdd,Int.reduceSub,Int.reduceMul,g0,g1,g2,g15,g16,g17,h1'.fz.rows,h1'.fz.one,h1'.fz.cells,h1'.fz.icy,h1'.fz.frz,h2'.fz.rows,h2'.fz.one,h2'.fz.cells,h2'.fz.icy,h2'.fz.frz,q1,i1,i2,w1,b1.fz.rows,b1.fz.one,b1.fz.cells,b1.fz.icy,b1.fz.frz,b2.fz.rows,b2.fz.one,b2.fz.cells,b2.fz.icy,b2.fz.frz,hp,wN]
     exact ⟨hlt,l.length - (i + 1),by omega,i + 1,rfl,by omega,rfl,key q2⟩
    | false =>
     rw [q2] at hp
     have e : zJI l m = false:=qat q2
     simp (maxSteps:=2000000) (disch:=first | omega | assumption | (simp only [DS,Nat.reduceAdd, *]; done) | (simp only [DZ]; omega)) only [RUN,RU,zA4,zA2,zA1,zA5,frzL,slot,lay,icyL,zA6,zA0,kR,reduceIte,Nat.reduceEqDiff,Nat.reduceBEq,Nat.reduceLT,Nat.reduceAdd,Nat.reduceLeDiff,Nat.reduceSub,Nat.reduceMul,Int.reduceLT,Int.reduceLE,Int.reduceEq,Int.reduceAdd,Int.reduceSub,Int.reduceMul,g0,g1,g2,g15,g16,g17,h1'.fz.rows,h1'.fz.one,h1'.fz.cells,h1'.fz.icy,h1'.fz.frz,h2'.fz.rows,h2'.fz.one,h2'.fz.cells,h2'.fz.icy,h2'.fz.frz,q1,i1,i2,w1,b1.fz.rows,b1.fz.one,b1.fz.cells,b1.fz.icy,b1.fz.frz,b2.fz.rows,b2.fz.one,b2.fz.cells,b2.fz.icy,b2.fz.frz,hp,wN,e]
   ·obtain rfl : i = l.length:=by omega
    have q1 : decide ((l.length : Int) < l.length) = false:=decide_eq_false (by omega)
    have e : zJI l m = true:=zWA q fun j x1 x2 _=>hj j x1 x2 x1
    simp (maxSteps:=2000000) (disch:=first | omega | assumption | (simp only [DS,Nat.reduceAdd, *]; done) | (simp only [DZ]; omega)) only [RUN,RU,zA4,zA2,zA1,zA5,frzL,slot,lay,icyL,zA6,zA0,kR,reduceIte,Nat.reduceEqDiff,Nat.reduceBEq,Nat.reduceLT,Nat.reduceAdd,Nat.reduceLeDiff,Nat.reduceSub,Nat.reduceMul,Int.reduceLT,Int.reduceLE,Int.reduceEq,Int.reduceAdd,Int.reduceSub,Int.reduceMul,g0,g1,g2,g15,g16,g17,q1,e]
 ·have q0 : decide ((l.length : Int) = m.length) = false:=decide_eq_false (by omega)
  have e : zJI l m = false:=zYP q
  simp (maxSteps:=2000000) (disch:=first | omega | assumption | (simp only [DS,Nat.reduceAdd, *]; done) | (simp only [DZ]; omega)) only [RUN,RU,zA4,zA2,zA1,zA5,frzL,slot,lay,icyL,zA6,zA0,kR,reduceIte,Nat.reduceEqDiff,Nat.reduceBEq,Nat.reduceLT,Nat.reduceAdd,Nat.reduceLeDiff,Nat.reduceSub,Nat.reduceMul,Int.reduceLT,Int.reduceLE,Int.reduceEq,Int.reduceAdd,Int.reduceSub,Int.reduceMul,h0,h1,h2,la,lb,h1'.fz.rows,h1'.fz.one,h1'.fz.cells,h1'.fz.icy,h1'.fz.frz,h2'.fz.rows,h2'.fz.one,h2'.fz.cells,h2'.fz.icy,h2'.fz.frz,q0,e]
theorem zFQ {a b : AV} {l m : List Rn} (h1' : Sl 10 isRn a l) (h2' : Sl 10 isRn b m) (hl : l.length ≤ 1000000) (hc : ∀ e ∈ l,e.rs.length ≤ 1000000 ∧ e.rs.length < fuel) (hf : l.length < fuel) (M : Mem) : zAF Try.prog (fsT tbl) fuel (d + 4) (.fn 8) [a,b] M = some (BL (zJI l m),M):=by
 have he:=fun M=>@zO1 fuel d a b l m h1' h2' hl hc hf M
 apply zC1
 refine zAX tf8 rfl (by simp (maxSteps:=2000000) (disch:=first | omega | assumption | (simp only [DS,Nat.reduceAdd, *]; done) | (simp only [DZ]; omega)) only [RUN,RU,zA4,zA2,zA1,zA5,frzL,slot,lay,icyL,zA6,zA0,kR,reduceIte,Nat.reduceEqDiff,Nat.reduceBEq,Nat.reduceLT,Nat.reduceAdd,Nat.reduceLeDiff,Nat.reduceSub,Nat.reduceMul,Int.reduceLT,Int.reduceLE,Int.reduceEq,Int.reduceAdd,Int.reduceSub,Int.reduceMul,h1'.fz.rows,h1'.fz.one,h1'.fz.cells,h1'.fz.icy,h1'.fz.frz,h2'.fz.rows,h2'.fz.one,h2'.fz.cells,h2'.fz.icy,h2'.fz.frz]) (by simp [a8]) fun b' ht hx=>?_
 have h0:=hx 0 _ rfl
 have h1:=hx 1 _ rfl
 clear hx
 simp only [a8,c8,zzm] at ht ⊢
 simp (maxSteps:=2000000) (disch:=first | omega | assumption | (simp only [DS,Nat.reduceAdd, *]; done) | (simp only [DZ]; omega)) only [RUN,RU,zA4,zA2,zA1,zA5,frzL,slot,lay,icyL,zA6,zA0,kR,reduceIte,Nat.reduceEqDiff,Nat.reduceBEq,Nat.reduceLT,Nat.reduceAdd,Nat.reduceLeDiff,Nat.reduceSub,Nat.reduceMul,Int.reduceLT,Int.reduceLE,Int.reduceEq,Int.reduceAdd,Int.reduceSub,Int.reduceMul,h0,h1,h1'.fz.rows,h1'.fz.one,h1'.fz.cells,h1'.fz.icy,h1'.fz.frz,h2'.fz.rows,h2'.fz.one,h2'.fz.cells,h2'.fz.icy,h2'.fz.frz,he]
def zB9 : List Rn → Eid → Option (Nat × Int)
 | [],_=>none
 | r :: l,x=>match r.sp.has x with
  | some k=>some (0,k)
  | none=>(zB9 l x).map fun p=>(p.1 + 1,p.2)
theorem zOQ {l : List Rn} {x : Eid} (h : ∀ r ∈ l,r.sp.has x = none) : zB9 l x = none:=by
 induction l with
 | nil=>rfl
 | cons r l ih =>
  unfold zB9
  rw [h r List.mem_cons_self,ih fun r hr=>h r (List.mem_cons_of_mem _ hr)]
  rfl
theorem zUT {l : List Rn} {x : Eid} {i : Nat} {k : Int} (hi : i < l.length) (hk : l[i].sp.has x = some k) (h : ∀ j (hj : j < i),l[j].sp.has x = none) : zB9 l x = some (i,k):=by
 induction l generalizing i with
 | nil=>exact absurd hi (by simp)
 | cons r l ih =>
  unfold zB9
  cases i with
  | zero=>rw [show r.sp.has x = some k from hk]
  | succ i =>
   rw [show r.sp.has x = none from h 0 (by omega),ih (i:=i) (by simpa using hi) hk fun j hj=>h (j + 1) (by omega)]
   rfl
def wN (p : Option (Nat × Int)) : Int:=match p with
 | some p=>p.1
 | none => -1
def wK (p : Option (Nat × Int)) : Int:=match p with
 | some p=>p.2
 | none=>0
set_option maxHeartbeats 4000000 in
theorem zL4 {a : AV} {l : List Rn} {x : Eid} (hS : Sl 10 isRn a l) (hl : l.length ≤ 1000000) (hf : l.length < fuel) (M : Mem) : zAF Try.prog (fsT tbl) fuel (d + 6) (.fn 30) [a,idA x] M = some (.tup [I64 (wN (zB9 l x)),I64 (wK (zB9 l x))],M):=by
 have ll:=hS.len
 apply zC1
 refine zAX tf30 rfl (by simp only [icyL,fun M=>hS.icy M 12 (by omega),zCK (zJZ x) (show 1 < 12 by omega)]) (by simp [a30]) fun b' ht hx=>?_
 have h0:=hx 0 _ rfl
 have h1:=hx 1 _ rfl
 clear hx
 simp only [a30,c30,zz0,zzm] at ht ⊢
 simp (maxSteps:=2000000) (disch:=first | omega | assumption | (simp only [DS,Nat.reduceAdd, *]; done) | (simp only [DZ]; omega)) only [RUN,RU,zA4,zA2,zA1,zA5,frzL,slot,lay,icyL,zA6,zA0,kR,reduceIte,Nat.reduceEqDiff,Nat.reduceBEq,Nat.reduceLT,Nat.reduceAdd,Nat.reduceLeDiff,Nat.reduceSub,Nat.reduceMul,Int.reduceLT,Int.reduceLE,Int.reduceEq,Int.reduceAdd,Int.reduceSub,Int.reduceMul,h0,h1,ll,hS.fz.rows,hS.fz.one,hS.fz.cells,hS.fz.icy,hS.fz.frz]
 refine zCH (I:=fun n t N => ∃ (i : Nat),n = l.length - i ∧ i ≤ l.length ∧ nth zAC t 3 = .ptr 0 0 ∧ nth zAC t 10 = a ∧ nth zAC t 11 = I64 l.length ∧ nth zAC t 12 = I64 i ∧ Wf N ∧ N.get 0 = some (.row false (idR x)) ∧ (∀ j (h : j < l.length),j < i → l[j].sp.has x = none)) (n:=l.length) (by omega) ?_ ?_
 ·refine ⟨0,rfl,Nat.zero_le _, ?_, ?_, ?_, ?_,Wf.mem0.add _,by simp (maxSteps:=2000000) (disch:=first | omega | assumption | (simp only [DS,Nat.reduceAdd, *]; done) | (simp only [DZ]; omega)) only [RUN,RU,zA4,zA2,zA1,zA5,frzL,slot,lay,icyL,zA6,zA0,kR,reduceIte,Nat.reduceEqDiff,Nat.reduceBEq,Nat.reduceLT,Nat.reduceAdd,Nat.reduceLeDiff,Nat.reduceSub,Nat.reduceMul,Int.reduceLT,Int.reduceLE,Int.reduceEq,Int.reduceAdd,Int.reduceSub,Int.reduceMul],(fun _ _ h=>absurd h (by omega))⟩ <;> simp (maxSteps:=2000000) (disch:=first | omega | assumption | (simp only [DS,Nat.reduceAdd, *]; done) | (simp only [DZ]; omega)) only [RUN,RU,zA4,zA2,zA1,zA5,frzL,slot,lay,icyL,zA6,zA0,kR,reduceIte,Nat.reduceEqDiff,Nat.reduceBEq,Nat.reduceLT,Nat.reduceAdd,Nat.reduceLeDiff,Nat.reduceSub,Nat.reduceMul,Int.reduceLT,Int.reduceLE,Int.reduceEq,Int.reduceAdd,Int.reduceSub,Int.reduceMul,h0,h1,ll]
  all_goals first | rfl | assumption | done
 ·rintro n t N hlt ⟨i,rfl,hi,g3,g10,g11,g12,w,g,hj⟩
  simp only [ht] at hlt ⊢
  have lN:=Mem.get_lt g
  by_cases hc : i < l.length
  ·have q1 : decide ((i : Int) < l.length) = true:=decide_eq_true (by omega)
   have w1 : IntKind.i64.wrap ((i : Int) + 1) = ((i + 1 : Nat) : Int):=by rw [wrap_i64] <;> omega
   obtain ⟨r,hiad,hr,hrl⟩:=hS.iad i hc
   have wat:=fun k (hk : l[i].sp.has x = some k)=>zUT hc hk fun j hj'=>hj j (by omega) hj'
   have key : l[i].sp.has x = none → ∀ j (h : j < l.length),j < i + 1 → l[j].sp.has x = none:=fun q2 j h hj'=>by
    rcases Nat.lt_succ_iff_lt_or_eq.1 hj' with h' | rfl
    ·exact hj j h h'
    ·exact q2
   generalize l[i] = e at *
   obtain ⟨ra,rfl,hra,hok⟩:=hr
   have ora:=hra.one
   have hh:=fun M=>@zWQ fuel d e.sp x M
   cases q : e.sp.has x with
   | none =>
    rw [q] at hh
    simp only [Option.getD_none,Option.isSome_none] at hh
    simp (maxSteps:=2000000) (disch:=first | omega | assumption | (simp only [DS,Nat.reduceAdd, *]; done) | (simp only [DZ]; omega)) only [RUN,RU,zA4,zA2,zA1,zA5,frzL,slot,lay,icyL,zA6,zA0,kR,reduceIte,Nat.reduceEqDiff,Nat.reduceBEq,Nat.reduceLT,Nat.reduceAdd,Nat.reduceLeDiff,Nat.reduceSub,Nat.reduceMul,Int.reduceLT,Int.reduceLE,Int.reduceEq,Int.reduceAdd,Int.reduceSub,Int.reduceMul,g3,g10,g11,g12,hS.fz.rows,hS.fz.one,hS.fz.cells,hS.fz.icy,hS.fz.frz,q1,hiad,hra.fz.rows,hra.fz.one,hra.fz.cells,hra.fz.icy,hra.fz.frz,w,g,w1,hh]
    exact ⟨hlt,l.length - (i + 1),by omega,i + 1,rfl,by omega,rfl,key q⟩
   | some k =>
    rw [q] at hh
    simp only [Option.getD_some,Option.isSome_some] at hh
    rw [wat k q]
    simp (maxSteps:=2000000) (disch:=first | omega | assumption | (simp only [DS,Nat.reduceAdd, *]; done) | (simp only [DZ]; omega)) only [RUN,RU,zA4,zA2,zA1,zA5,frzL,slot,lay,icyL,zA6,zA0,kR,reduceIte,Nat.reduceEqDiff,Nat.reduceBEq,Nat.reduceLT,Nat.reduceAdd,Nat.reduceLeDiff,Nat.reduceSub,Nat.reduceMul,Int.reduceLT,Int.reduceLE,Int.reduceEq,Int.reduceAdd,Int.reduceSub,Int.reduceMul,g3,g10,g11,g12,hS.fz.rows,hS.fz.one,hS.fz.cells,hS.fz.icy,hS.fz.frz,q1,hiad,hra.fz.rows,hra.fz.one,hra.fz.cells,hra.fz.icy,hra.fz.frz,w,g,w1,hh,wN,wK]
  ·obtain rfl : i = l.length:=by omega
   have q1 : decide ((l.length : Int) < l.length) = false:=decide_eq_false (by omega)
   have e : zB9 l x = none:=zOQ fun r hr=>by
    obtain ⟨j,hj',rfl⟩:=List.getElem_of_mem hr
    exact hj j hj' hj'
   rw [e]
   simp (maxSteps:=2000000) (disch:=first | omega | assumption | (simp only [DS,Nat.reduceAdd, *]; done) | (simp only [DZ]; omega)) only [RUN,RU,zA4,zA2,zA1,zA5,frzL,slot,lay,icyL,zA6,zA0,kR,reduceIte,Nat.reduceEqDiff,Nat.reduceBEq,Nat.reduceLT,Nat.reduceAdd,Nat.reduceLeDiff,Nat.reduceSub,Nat.reduceMul,Int.reduceLT,Int.reduceLE,Int.reduceEq,Int.reduceAdd,Int.reduceSub,Int.reduceMul,g3,g10,g11,g12,q1,wN,wK]
end Go.Proofs.Ytakaojjlfcmphaa
namespace Go.Proofs.Ytakaojjlfcmphaa
open Go Go.Ax
variable {fuel : Nat} {M : Mem} {Q : AV → Mem → Prop} {d : Nat}
def Rn.els (r : Rn) : List (Eid × Eid):=(List.range r.sp.n.toNat).map fun (i : Nat)=>(r.sp.at i,r.afAt i)
def elsL (l : List Rn) : List (Eid × Eid):=l.flatMap Rn.els
theorem zSS (l : List Rn) (r : Rn) : elsL (l ++ [r]) = elsL l ++ r.els:=by simp [elsL]
theorem zPP {l : List Rn} {i k : Nat} (hi : i < l.length) (hk : k < l[i].sp.n.toNat) : ∃ post,elsL l = (elsL (l.take i) ++ l[i].els.take k) ++ (l[i].sp.at k,l[i].afAt k) :: post:=by
 refine ⟨l[i].els.drop (k + 1) ++ elsL (l.drop (i + 1)), ?_⟩
 have h1 : l = l.take i ++ l[i] :: l.drop (i + 1):=by rw [← List.drop_eq_getElem_cons hi,List.take_append_drop]
 have hkl : k < l[i].els.length:=by unfold Rn.els; simpa using hk
 have h2 : l[i].els = l[i].els.take k ++ l[i].els[k] :: l[i].els.drop (k + 1):=by rw [← List.drop_eq_getElem_cons hkl,List.take_append_drop]
 have h3 : l[i].els[k] = (l[i].sp.at k,l[i].afAt k):=by simp [Rn.els]
 rw [h3] at h2
 refine (congrArg elsL h1).trans ?_
 have h4 : elsL (l.take i ++ l[i] :: l.drop (i + 1)) = elsL (l.take i) ++ (l[i].els ++ elsL (l.drop (i + 1))):=by
  unfold elsL
  rw [List.flatMap_append,List.flatMap_cons]
 rw [h4,List.append_assoc,← List.cons_append,← List.append_assoc (l[i].els.take k),← h2]
theorem zPN (r : Rn) : r.els.length = r.sp.n.toNat:=by simp [Rn.els]
theorem zPO (r : Rn) (k : Nat) (hk : k < r.sp.n.toNat) : r.els.take (k + 1) = r.els.take k ++ [(r.sp.at k,r.afAt k)]:=by
 rw [zBJ _ _ (by rw [zPN]; exact hk)]
 simp [Rn.els]
structure Yl (J : List (Eid × Eid) → (Nat → Prop) → Mem → Prop) (pre : List (Eid × Eid)) (O : Nat → Prop) (B : Nat) (N N' : Mem) : Prop where
 ok : ∃ O',J pre O' N' ∧ (∀ j,O' j → O j ∨ N.size ≤ j)
 wf : Wf N'
 le : N.size ≤ N'.size
 kp : ∀ j,j < N.size → ¬O j → N'.get j = N.get j
set_option maxHeartbeats 16000000 in
theorem zSQ {J : List (Eid × Eid) → (Nat → Prop) → Mem → Prop} {S : Mem → Prop} {O : Nat → Prop} {a : AV} {l : List Rn} {p id : Nat} (hS : Sl 10 isRn a l) (hl : l.length ≤ 100000) (hm : ∀ r ∈ l,r.may = true) (hf : l.length + 100 < fuel) (wf : Wf M) (hg : M.get p = some (.row false [a]))
  (hJ0 : J [] O M)
  (hJ : ∀ pre O N N',J pre O N → Wf N' → N.size ≤ N'.size → (∀ j,j < N.size → N'.get j = N.get j) → J pre O N')
  (hJl : ∀ pre O N,J pre O N → ∀ j,O j → j < N.size)
  (hy : ∀ pre x post O N,elsL l = pre ++ x :: post → J pre O N → Wf N → M.size ≤ N.size → W3 (zAF Try.prog (fsT tbl) fuel (d + 7) (.yl id) [idA x.1,idA x.2] N) (fun v N'=>(v = BL true ∧ Yl J (pre ++ [x]) O M.size N N') ∨ (v = BL false ∧ S N')))
  (kk : ∀ u N O,J (elsL l) O N → Wf N → M.size ≤ N.size → Q u N) (ks : ∀ u N,S N → Q u N) :
  W3 (zAF Try.prog (fsT tbl) fuel (d + 8) (.fn 63) [.yl id,.ptr p 0] M) Q:=by
 have ll:=hS.len
 have lp:=Mem.get_lt hg
 refine zCS tf63 rfl (by simp [a63]) fun b' ht hx=>?_
 have h0:=hx 0 _ rfl
 have h1:=hx 1 _ rfl
 clear hx
 simp only [a63,c63,zz0,zz2,zzm] at ht ⊢
 simp (maxSteps:=2000000) (disch:=first | omega | assumption | (simp only [DS,Nat.reduceAdd, *]; done) | (simp only [DZ]; omega)) only [RUN,RU,zA4,zA2,zA1,zA5,frzL,slot,lay,icyL,zA6,zA0,kR,reduceIte,Nat.reduceEqDiff,Nat.reduceBEq,Nat.reduceLT,Nat.reduceAdd,Nat.reduceLeDiff,Nat.reduceSub,Nat.reduceMul,Int.reduceLT,Int.reduceLE,Int.reduceEq,Int.reduceAdd,Int.reduceSub,Int.reduceMul,h0,h1,ll,hS.fz.rows,hS.fz.one,hS.fz.cells,hS.fz.icy,hS.fz.frz,hg]
 refine zCH (I:=fun n t N => ∃ (i : Nat) (O' : Nat → Prop),n = l.length - i ∧ i ≤ l.length ∧ nth zAC t 0 = .yl id ∧ nth zAC t 10 = a ∧ nth zAC t 11 = I64 l.length ∧ nth zAC t 12 = I64 i ∧ Wf N ∧ M.size ≤ N.size ∧ J (elsL (l.take i)) O' N) (n:=l.length) (by omega) ?_ ?_
 ·refine ⟨0,O,rfl,Nat.zero_le _, ?_, ?_, ?_, ?_,wf,Nat.le_refl _,hJ0⟩ <;> simp (maxSteps:=2000000) (disch:=first | omega | assumption | (simp only [DS,Nat.reduceAdd, *]; done) | (simp only [DZ]; omega)) only [RUN,RU,zA4,zA2,zA1,zA5,frzL,slot,lay,icyL,zA6,zA0,kR,reduceIte,Nat.reduceEqDiff,Nat.reduceBEq,Nat.reduceLT,Nat.reduceAdd,Nat.reduceLeDiff,Nat.reduceSub,Nat.reduceMul,Int.reduceLT,Int.reduceLE,Int.reduceEq,Int.reduceAdd,Int.reduceSub,Int.reduceMul,h0,h1,ll]
  all_goals first | rfl | assumption | done
 ·rintro n t N hlt ⟨i,O',rfl,hi,g0,g10,g11,g12,w,le,hj⟩
  simp only [ht] at hlt ⊢
  by_cases hc : i < l.length
  ·have q1 : decide ((i : Int) < l.length) = true:=decide_eq_true (by omega)
   have w1 : IntKind.i64.wrap ((i : Int) + 1) = ((i + 1 : Nat) : Int):=by rw [wrap_i64] <;> omega
   obtain ⟨r,hiad,hr,hrl⟩:=hS.iad i hc
   have hts:=zSS (l.take i) l[i]
   rw [← zBJ l i hc] at hts
   have hsp:=fun k=>@zPP l i k hc
   have hme:=hm l[i] (List.getElem_mem hc)
   generalize l[i] = e at *
   obtain ⟨ra,rfl,hra,hok⟩:=hr
   have ora:=hra.one
   have hb:=Spn.may_le (Rn.may_sp hme)
   obtain ⟨m,hmn⟩ : ∃ m : Nat,e.sp.n = m:=⟨e.sp.n.toNat,by omega⟩
   have hmt : e.sp.n.toNat = m:=by omega
   have hes:=zPO e
   have hel:=zPN e
   have wX : Wf ((N.add (.row false (rnR Rn.z NIL))).upd N.size (.row false (rnR e ra))):=(w.add _).upd _ _
   have jX:=hJ _ _ _ _ hj wX (by rw [zAE,zAD]; omega) (fun j hj'=>by rw [zA7 (w.add _) _ _ _ (by omega),zAP w _ _ hj'])
   have gX : ((N.add (.row false (rnR Rn.z NIL))).upd N.size (.row false (rnR e ra))).get N.size = some (.row false (rnR e ra)):=zAG (w.add _) _ _ (by rw [zAD]; omega)
   have nX : N.size < ((N.add (.row false (rnR Rn.z NIL))).upd N.size (.row false (rnR e ra))).size:=by rw [zAE,zAD]; omega
   have nO : ¬O' N.size:=fun h=>by have:=hJl _ _ _ hj _ h; omega
   simp (maxSteps:=2000000) (disch:=first | omega | assumption | (simp only [DS,Nat.reduceAdd, *]; done) | (simp only [DZ]; omega)) only [RUN,RU,zA4,zA2,zA1,zA5,frzL,slot,lay,icyL,zA6,zA0,kR,reduceIte,Nat.reduceEqDiff,Nat.reduceBEq,Nat.reduceLT,Nat.reduceAdd,Nat.reduceLeDiff,Nat.reduceSub,Nat.reduceMul,Int.reduceLT,Int.reduceLE,Int.reduceEq,Int.reduceAdd,Int.reduceSub,Int.reduceMul,g0,g10,g11,g12,hS.fz.rows,hS.fz.one,hS.fz.cells,hS.fz.icy,hS.fz.frz,q1,hiad,hra.fz.rows,hra.fz.one,hra.fz.cells,hra.fz.icy,hra.fz.frz,w]
   refine zCH (I:=fun nk tk Nk => ∃ (ik : Nat) (O2 : Nat → Prop),nk = m - ik ∧ ik ≤ m ∧ nth zAC tk 0 = .yl id ∧ nth zAC tk 4 = .ptr N.size 0 ∧ nth zAC tk 10 = a ∧ nth zAC tk 11 = I64 l.length ∧ nth zAC tk 12 = I64 i ∧ nth zAC tk 18 = I64 e.sp.n ∧ nth zAC tk 19 = I64 ik ∧ Wf Nk ∧ N.size < Nk.size ∧ J (elsL (l.take i) ++ e.els.take ik) O2 Nk ∧ Nk.get N.size = some (.row false (rnR e ra)) ∧ ¬O2 N.size) (n:=m) (by omega) ?_ ?_
   ·refine ⟨0,O',rfl,Nat.zero_le _, ?_, ?_, ?_, ?_, ?_, ?_, ?_,wX,nX,(by rw [List.take_zero,List.append_nil]; exact jX),gX,nO⟩ <;> simp (maxSteps:=2000000) (disch:=first | omega | assumption | (simp only [DS,Nat.reduceAdd, *]; done) | (simp only [DZ]; omega)) only [RUN,RU,zA4,zA2,zA1,zA5,frzL,slot,lay,icyL,zA6,zA0,kR,reduceIte,Nat.reduceEqDiff,Nat.reduceBEq,Nat.reduceLT,Nat.reduceAdd,Nat.reduceLeDiff,Nat.reduceSub,Nat.reduceMul,Int.reduceLT,Int.reduceLE,Int.reduceEq,Int.reduceAdd,Int.reduceSub,Int.reduceMul,g0,g10,g11,g12]
    all_goals first | rfl | assumption | done
   ·rintro nk tk Nk hltk ⟨ik,O2,rfl,hik,gk0,gk4,gk10,gk11,gk12,gk18,gk19,wk,lk,jk,gk,nk⟩
    simp only [hlt] at hltk ⊢
    have kX : ∀ p q,Wf ((((Nk.add p).add q).upd Nk.size (.row false (idR (e.sp.at ik)))).upd (Nk.size + 1) (.row false (idR (e.afAt ik)))):=fun p q=>(((wk.add _).add _).upd _ _).upd _ _
    by_cases hck : ik < m
    ·have q2 : decide ((ik : Int) < e.sp.n) = true:=decide_eq_true (by omega)
     have w2 : IntKind.i64.wrap ((ik : Int) + 1) = ((ik + 1 : Nat) : Int):=by rw [wrap_i64] <;> omega
     have hatE : atE e ik = 0:=by
      unfold atE
      rw [if_pos hme,if_neg (by omega)]
     have hat:=fun M=>@zRB fuel d e ra (ik : Int) hra (by omega) M
     simp only [hatE,if_true] at hat
     obtain ⟨post,hsp⟩:=hsp ik (by omega)
     have hes:=hes ik (by omega)
     rw [hmt] at hel
     simp (maxSteps:=2000000) (disch:=first | omega | assumption | (simp only [DS,Nat.reduceAdd, *]; done) | (simp only [DZ]; omega)) only [RUN,RU,zA4,zA2,zA1,zA5,frzL,slot,lay,icyL,zA6,zA0,kR,reduceIte,Nat.reduceEqDiff,Nat.reduceBEq,Nat.reduceLT,Nat.reduceAdd,Nat.reduceLeDiff,Nat.reduceSub,Nat.reduceMul,Int.reduceLT,Int.reduceLE,Int.reduceEq,Int.reduceAdd,Int.reduceSub,Int.reduceMul,gk0,gk4,gk10,gk11,gk12,gk18,gk19,hS.fz.rows,hS.fz.one,hS.fz.cells,hS.fz.icy,hS.fz.frz,q2,gk,hra.fz.rows,hra.fz.one,hra.fz.cells,hra.fz.icy,hra.fz.frz,wk,hat]
     have jY:=hJ _ _ _ _ jk (kX (.row false (idR Eid.z)) (.row false (idR Eid.z))) (by simp only [zAE,zAD]; omega) (fun j hj'=>by
      rw [zA7 (((wk.add _).add _).upd _ _) _ _ _ (by omega),zA7 ((wk.add _).add _) _ _ _ (by omega),zAP (wk.add _) _ _ (by rw [zAD]; omega),zAP wk _ _ hj'])
     obtain ⟨v,N',hcall,hv⟩:=hy _ _ _ _ _ hsp jY (kX _ _) (by simp only [zAE,zAD]; omega)
     refine ⟨v,N',hcall, ?_⟩
     rcases hv with ⟨rfl,⟨O3,jO,hO3⟩,wY,lY,kY⟩ | ⟨rfl,hst⟩
     ·simp only [zAE,zAD] at lY kY hO3
      have g3 : N'.get N.size = some (.row false (rnR e ra)):=by
       rw [kY _ (by omega) nk,zA7 (((wk.add _).add _).upd _ _) _ _ _ (by omega),zA7 ((wk.add _).add _) _ _ _ (by omega),zAP (wk.add _) _ _ (by rw [zAD]; omega),zAP wk _ _ (by omega)]
       exact gk
      rw [List.append_assoc,← hes] at jO
      simp (maxSteps:=2000000) (disch:=first | omega | assumption | (simp only [DS,Nat.reduceAdd, *]; done) | (simp only [DZ]; omega)) only [RUN,RU,zA4,zA2,zA1,zA5,frzL,slot,lay,icyL,zA6,zA0,kR,reduceIte,Nat.reduceEqDiff,Nat.reduceBEq,Nat.reduceLT,Nat.reduceAdd,Nat.reduceLeDiff,Nat.reduceSub,Nat.reduceMul,Int.reduceLT,Int.reduceLE,Int.reduceEq,Int.reduceAdd,Int.reduceSub,Int.reduceMul,gk0,gk4,gk10,gk11,gk12,gk18,gk19,w2]
      exact ⟨hltk,m - (ik + 1),by omega,ik + 1,O3,rfl,by omega,rfl,wY,by omega,jO,g3,fun h=>(hO3 _ h).elim nk (fun h=>by omega)⟩
     ·simp (maxSteps:=2000000) (disch:=first | omega | assumption | (simp only [DS,Nat.reduceAdd, *]; done) | (simp only [DZ]; omega)) only [RUN,RU,zA4,zA2,zA1,zA5,frzL,slot,lay,icyL,zA6,zA0,kR,reduceIte,Nat.reduceEqDiff,Nat.reduceBEq,Nat.reduceLT,Nat.reduceAdd,Nat.reduceLeDiff,Nat.reduceSub,Nat.reduceMul,Int.reduceLT,Int.reduceLE,Int.reduceEq,Int.reduceAdd,Int.reduceSub,Int.reduceMul,gk0,gk4,gk10,gk11,gk12,gk18,gk19]
      exact ks _ _ hst
    ·obtain rfl : ik = m:=by omega
     have q2 : decide ((ik : Int) < e.sp.n) = false:=decide_eq_false (by omega)
     rw [List.take_of_length_le (l:=e.els) (by omega)] at jk
     simp (maxSteps:=2000000) (disch:=first | omega | assumption | (simp only [DS,Nat.reduceAdd, *]; done) | (simp only [DZ]; omega)) only [RUN,RU,zA4,zA2,zA1,zA5,frzL,slot,lay,icyL,zA6,zA0,kR,reduceIte,Nat.reduceEqDiff,Nat.reduceBEq,Nat.reduceLT,Nat.reduceAdd,Nat.reduceLeDiff,Nat.reduceSub,Nat.reduceMul,Int.reduceLT,Int.reduceLE,Int.reduceEq,Int.reduceAdd,Int.reduceSub,Int.reduceMul,gk0,gk4,gk10,gk11,gk12,gk18,gk19,q2,w1]
     exact ⟨hltk,l.length - (i + 1),by omega,i + 1,O2,rfl,by omega,rfl,wk,by omega,by rw [hts]; exact jk⟩
  ·obtain rfl : i = l.length:=by omega
   have q1 : decide ((l.length : Int) < l.length) = false:=decide_eq_false (by omega)
   rw [List.take_length] at hj
   simp (maxSteps:=2000000) (disch:=first | omega | assumption | (simp only [DS,Nat.reduceAdd, *]; done) | (simp only [DZ]; omega)) only [RUN,RU,zA4,zA2,zA1,zA5,frzL,slot,lay,icyL,zA6,zA0,kR,reduceIte,Nat.reduceEqDiff,Nat.reduceBEq,Nat.reduceLT,Nat.reduceAdd,Nat.reduceLeDiff,Nat.reduceSub,Nat.reduceMul,Int.reduceLT,Int.reduceLE,Int.reduceEq,Int.reduceAdd,Int.reduceSub,Int.reduceMul,g0,g10,g11,g12,q1]
   exact kk _ _ _ hj w le
end Go.Proofs.Ytakaojjlfcmphaa
namespace Go.Proofs.Ytakaojjlfcmphaa
open Go Go.Ax
structure El where
 id : Eid
 af : Eid
 ch : Int
 deriving DecidableEq
end Go.Proofs.Ytakaojjlfcmphaa
namespace Go.Proofs.Ytakaojjlfcmphaa
open Go Go.Ax
/-! ### The order of ids -/
theorem zE1 (x y : Eid) : x.less y = true ↔ x.c < y.c ∨ (x.c = y.c ∧ (x.hd.lb.lv < y.hd.lb.lv ∨ (x.hd.lb.lv = y.hd.lb.lv ∧ (x.hd.lb.cats < y.hd.lb.cats ∨ (x.hd.lb.cats = y.hd.lb.cats ∧ x.hd.num < y.hd.num))))):=by
 obtain ⟨⟨⟨a,b⟩,c⟩,e⟩:=x
 obtain ⟨⟨⟨a',b'⟩,c'⟩,e'⟩:=y
 unfold Eid.less Lb.ahead
 by_cases h1 : e = e'
 ·subst h1
  by_cases h2 : (⟨a,b⟩ : Lb) = ⟨a',b'⟩
  ·injection h2 with h2 h3
   subst h2; subst h3
   simp
  ·have h3 : ¬(a = a' ∧ b = b'):=fun h=>h2 (by rw [h.1,h.2])
   simp only [h2,if_true,if_false,Bool.or_eq_true,Bool.and_eq_true,decide_eq_true_eq,Int.lt_irrefl,true_and,false_or]
   omega
 ·simp only [h1,if_false,decide_eq_true_eq,false_and,or_false]
theorem zJ6 (x : Eid) : x.less x = false:=by
 rw [← Bool.not_eq_true,zE1]; omega
theorem zIB {x y z : Eid} (h1 : x.less y = true) (h2 : y.less z = true) : x.less z = true:=by
 rw [zE1] at *; omega
theorem zQF {x y : Eid} (h1 : x.less y = true) : y.less x = false:=by
 rw [← Bool.not_eq_true]; rw [zE1] at *; omega
theorem zTH {x y : Eid} (h : x ≠ y) : x.less y = true ∨ y.less x = true:=by
 rw [zE1,zE1]
 obtain ⟨⟨⟨a,b⟩,c⟩,e⟩:=x
 obtain ⟨⟨⟨a',b'⟩,c'⟩,e'⟩:=y
 simp only
 have : ¬(a = a' ∧ b = b' ∧ c = c' ∧ e = e'):=fun k=>h (by rw [k.1,k.2.1,k.2.2.1,k.2.2.2])
 omega
theorem zQG {x y : Eid} (h : x.less y = true) : x.c ≤ y.c:=by
 rw [zE1] at h; omega
theorem zKB {x y : Eid} (h : x.c < y.c) : x.less y = true:=by
 rw [zE1]; omega
/-! ### Paths -/
def ahd : List Eid → List Eid → Prop
 | [],[]=>False
 | [],_ :: _=>True
 | _ :: _,[]=>False
 | a :: p,b :: q=>b.less a = true ∨ (a = b ∧ ahd p q)
theorem zFS : ∀ p : List Eid,¬ahd p p
 | []=>fun h=>h
 | a :: p=>fun h=>by
  rcases h with h | ⟨_,h⟩
  ·rw [zJ6] at h; cases h
  ·exact zFS p h
theorem zE7 : ∀ {p q r : List Eid},ahd p q → ahd q r → ahd p r
 | [],[],_=>fun h _=>h.elim
 | [],_ :: _,[]=>fun _ h=>h.elim
 | [],_ :: _,_ :: _=>fun _ _=>trivial
 | _ :: _,[],_=>fun h _=>h.elim
 | _ :: _,_ :: _,[]=>fun _ h=>h.elim
 | a :: p,b :: q,c :: r=>fun h1 h2=>by
  rcases h1 with h1 | ⟨rfl,h1⟩ <;> rcases h2 with h2 | ⟨rfl,h2⟩
  ·exact .inl (zIB h2 h1)
  ·exact .inl h1
  ·exact .inl h2
  ·exact .inr ⟨rfl,zE7 h1 h2⟩
theorem zE6 (p : List Eid) (x : Eid) (q : List Eid) : ahd p (p ++ x :: q):=by
 induction p with
 | nil=>trivial
 | cons a p ih=>exact .inr ⟨rfl,ih⟩
theorem zJR (p : List Eid) {a b : Eid} (q r : List Eid) (h : b.less a = true) : ahd (p ++ a :: q) (p ++ b :: r):=by
 induction p with
 | nil=>exact .inl h
 | cons a p ih=>exact .inr ⟨rfl,ih⟩
theorem zIN : ∀ {p q : List Eid},ahd p q → (∃ x r,q = p ++ x :: r) ∨ ∃ c a b s t,p = c ++ a :: s ∧ q = c ++ b :: t ∧ b.less a = true
 | [],[]=>fun h=>h.elim
 | [],x :: r=>fun _ => .inl ⟨x,r,rfl⟩
 | _ :: _,[]=>fun h=>h.elim
 | a :: p,b :: q=>fun h=>by
  rcases h with h | ⟨rfl,h⟩
  ·exact .inr ⟨[],a,b,p,q,rfl,rfl,h⟩
  ·rcases zIN h with ⟨x,r,rfl⟩ | ⟨c,x,y,s,t,rfl,rfl,k⟩
   ·exact .inl ⟨x,r,rfl⟩
   ·exact .inr ⟨a :: c,x,y,s,t,rfl,rfl,k⟩
inductive Pth (E : List El) : Eid → List Eid → Prop
 | root {x : El} : x ∈ E → x.af = Eid.z → Pth E x.id [x.id]
 | step {x : El} {p : List Eid} : x ∈ E → Pth E x.af p → Pth E x.id (p ++ [x.id])
theorem Pth.mono {E F : List El} (h : ∀ x ∈ E,x ∈ F) {x : Eid} {p : List Eid} (k : Pth E x p) : Pth F x p:=by
 induction k with
 | root m e=>exact .root (h _ m) e
 | step m _ ih=>exact .step (h _ m) ih
theorem Pth.mem {E : List El} {x : Eid} {p : List Eid} (k : Pth E x p) : ∃ e ∈ E,e.id = x:=by
 cases k with
 | root m _=>exact ⟨_,m,rfl⟩
 | step m _=>exact ⟨_,m,rfl⟩
theorem Pth.last {E : List El} {x : Eid} {p : List Eid} (k : Pth E x p) : ∃ q,p = q ++ [x]:=by
 cases k with
 | root m _=>exact ⟨[],rfl⟩
 | step m _=>exact ⟨_,rfl⟩
theorem Pth.pre {E : List El} {x : Eid} {p : List Eid} (k : Pth E x p) : ∀ {q y r},p = q ++ y :: r → Pth E y (q ++ [y]):=by
 induction k with
 | root m e =>
  intro q y r h
  cases q with
  | nil=>cases h; exact .root m e
  | cons a q=>simp at h
 | @step x p m kp ih =>
  intro q y r h
  rcases List.eq_nil_or_concat r with rfl | ⟨r',b,rfl⟩
  ·have h2:=List.append_inj' h rfl
   rw [← h2.1]
   injection h2.2 with h3
   rw [← h3]
   exact .step m kp
  ·have h' : p ++ [x.id] = (q ++ y :: r') ++ [b]:=by rw [h]; simp
   exact ih (List.append_inj' h' rfl).1
structure Set1 (E : List El) : Prop where
 nd : (E.map (·.id)).Nodup
 ct : ∀ x ∈ E,x.af.c < x.id.c ∧ 0 < x.id.c
 rt : ∀ x ∈ E,x.af = Eid.z ∨ ∃ y ∈ E,y.id = x.af
theorem zQM {E : List El} (h : (E.map (·.id)).Nodup) {x y : El} (hx : x ∈ E) (hy : y ∈ E) (e : x.id = y.id) : x = y:=by
 induction E with
 | nil=>cases hx
 | cons a E ih =>
  rw [List.map_cons,List.nodup_cons] at h
  rcases List.mem_cons.1 hx with rfl | hx' <;> rcases List.mem_cons.1 hy with rfl | hy'
  ·rfl
  ·exact absurd (List.mem_map.2 ⟨y,hy',e.symm⟩) h.1
  ·exact absurd (List.mem_map.2 ⟨x,hx',e⟩) h.1
  ·exact ih h.2 hx' hy'
theorem Pth.nz {E : List El} (h : ∀ x ∈ E,0 < x.id.c) {x : Eid} {p : List Eid} (k : Pth E x p) : x ≠ Eid.z:=by
 obtain ⟨e,he,rfl⟩:=k.mem
 intro hz
 have:=h e he
 rw [hz] at this
 exact absurd this (by decide)
theorem Pth.fn {E : List El} (h : Set1 E) {x : Eid} {p : List Eid} (k : Pth E x p) : ∀ {q},Pth E x q → p = q:=by
 have hz:=fun x hx=>(h.ct x hx).2
 induction k with
 | @root x m e =>
  intro q k'
  generalize hx : x.id = i at k'
  cases k' with
  | root m' e'=>rfl
  | @step x' p' m' kp' =>
   have:=zQM h.nd m m' hx
   subst this
   exact absurd e (kp'.nz hz)
 | @step x p m kp ih =>
  intro q k'
  generalize hx : x.id = i at k'
  cases k' with
  | @root x' m' e' =>
   have:=zQM h.nd m m' hx
   subst this
   exact absurd e' (kp.nz hz)
  | @step x' p' m' kp' =>
   have:=zQM h.nd m m' hx
   subst this
   rw [ih kp']
theorem Pth.ex {E : List El} (h : Set1 E) : ∀ (n : Nat) (x : El),x ∈ E → x.id.c ≤ n → ∃ p,Pth E x.id p
 | 0,x,hx,hn=>absurd (h.ct x hx).2 (by omega)
 | n + 1,x,hx,hn=>by
  rcases h.rt x hx with e | ⟨y,hy,e⟩
  ·exact ⟨_,.root hx e⟩
  ·have hc:=h.ct x hx
   obtain ⟨p,hp⟩:=Pth.ex h n y hy (by rw [e]; omega)
   rw [e] at hp
   exact ⟨_,.step hx hp⟩
theorem Set1.path {E : List El} (h : Set1 E) {x : El} (hx : x ∈ E) : ∃ p,Pth E x.id p:=Pth.ex h x.id.c.toNat x hx (by have:=h.ct x hx; omega)
theorem Pth.grow {E : List El} (h : ∀ x ∈ E,x.af.c < x.id.c) {x : Eid} {p : List Eid} (k : Pth E x p) : ∀ y ∈ p,y.c ≤ x.c:=by
 induction k with
 | root m e=>intro y hy; rw [List.mem_singleton] at hy; subst hy; exact Int.le_refl _
 | @step x p m kp ih =>
  intro y hy
  rcases List.mem_append.1 hy with hy | hy
  ·have:=ih y hy
   have:=h _ m
   omega
  ·rw [List.mem_singleton] at hy; subst hy; exact Int.le_refl _
def Ah (E : List El) (x y : El) : Prop:=∃ p q,Pth E x.id p ∧ Pth E y.id q ∧ ahd p q
theorem Ah.irr {E : List El} (h : Set1 E) (x : El) : ¬Ah E x x:=fun ⟨p,q,hp,hq,k⟩=>by
 rw [hp.fn h hq] at k
 exact zFS _ k
theorem Ah.trans {E : List El} (h : Set1 E) {x y z : El} (h1 : Ah E x y) (h2 : Ah E y z) : Ah E x z:=by
 obtain ⟨p,q,hp,hq,k⟩:=h1
 obtain ⟨q',r,hq',hr,k'⟩:=h2
 rw [hq'.fn h hq] at k'
 exact ⟨p,r,hp,hr,zE7 k k'⟩
theorem Ah.mono {E F : List El} (h : ∀ x ∈ E,x ∈ F) {x y : El} (k : Ah E x y) : Ah F x y:=by
 obtain ⟨p,q,hp,hq,k⟩:=k
 exact ⟨p,q,hp.mono h,hq.mono h,k⟩
structure Txt (E : List El) : Prop where
 s1 : Set1 E
 pw : E.Pairwise (Ah E)
theorem zaH {α : Type} {R : α → α → Prop} : ∀ {l m : List α},(∀ x y,R x y → ¬R y x) → l.Pairwise R → m.Pairwise R → (∀ x,x ∈ l ↔ x ∈ m) → l = m
 | [],[],_,_,_,_=>rfl
 | [],b :: m,_,_,_,h=>absurd ((h b).2 List.mem_cons_self) (by simp)
 | a :: l,[],_,_,_,h=>absurd ((h a).1 List.mem_cons_self) (by simp)
 | a :: l,b :: m,hR,hl,hm,h=>by
  have hl':=List.pairwise_cons.1 hl
  have hm':=List.pairwise_cons.1 hm
  have e : a = b:=by
   rcases List.mem_cons.1 ((h a).1 List.mem_cons_self) with e | ha
   ·exact e
   ·rcases List.mem_cons.1 ((h b).2 List.mem_cons_self) with e | hb
    ·exact e.symm
    ·exact absurd (hm'.1 a ha) (hR _ _ (hl'.1 b hb))
  subst e
  rw [zaH hR hl'.2 hm'.2 fun x=>?_]
  have na : a ∉ l:=fun k=>(hR _ _ (hl'.1 a k)) (hl'.1 a k)
  have nb : a ∉ m:=fun k=>(hR _ _ (hm'.1 a k)) (hm'.1 a k)
  have hx:=h x
  simp only [List.mem_cons] at hx
  by_cases k : x = a
  ·subst k; exact ⟨fun k=>absurd k na,fun k=>absurd k nb⟩
  ·simpa [k] using hx
theorem Txt.eq {E F : List El} (hE : Txt E) (hF : Txt F) (h : ∀ x,x ∈ E ↔ x ∈ F) : E = F:=by
 refine zaH (R:=Ah E) (fun x y h1 h2=>Ah.irr hE.s1 x (Ah.trans hE.s1 h1 h2)) hE.pw (hF.pw.imp fun k=>k.mono fun x=>(h x).2) h
theorem Txt.nil : Txt []:=⟨⟨List.nodup_nil,fun _ h=>absurd h (by simp),fun _ h=>absurd h (by simp)⟩,.nil⟩
theorem Txt.filter {E : List El} (hE : Txt E) (f : El → Bool) (hf : ∀ x ∈ E,∀ y ∈ E,f x = true → y.id = x.af → f y = true) : Txt (E.filter f):=by
 have hs : Set1 (E.filter f):=by
  refine ⟨?_,fun x hx=>hE.s1.ct x (List.mem_filter.1 hx).1,fun x hx=>?_⟩
  ·exact (hE.s1.nd.sublist (List.Sublist.map _ List.filter_sublist))
  ·obtain ⟨h1,h2⟩:=List.mem_filter.1 hx
   rcases hE.s1.rt x h1 with e | ⟨y,hy,e⟩
   ·exact .inl e
   ·exact .inr ⟨y,List.mem_filter.2 ⟨hy,hf x h1 y hy h2 e⟩,e⟩
 refine ⟨hs, ?_⟩
 have h1:=hE.pw.sublist (List.filter_sublist (p:=f))
 refine List.Pairwise.imp_of_mem (fun {a b} ha hb k=>?_) h1
 obtain ⟨p,q,hp,hq,k⟩:=k
 obtain ⟨p',hp'⟩:=hs.path ha
 obtain ⟨q',hq'⟩:=hs.path hb
 rw [(hp'.mono fun x hx=>(List.mem_filter.1 hx).1).fn hE.s1 hp] at hp'
 rw [(hq'.mono fun x hx=>(List.mem_filter.1 hx).1).fn hE.s1 hq] at hq'
 exact ⟨p,q,hp',hq',k⟩
end Go.Proofs.Ytakaojjlfcmphaa
namespace Go.Proofs.Ytakaojjlfcmphaa
open Go Go.Ax
theorem zOX (p : List Eid) : ¬ahd p []:=by
 cases p <;> exact fun h=>h
theorem zDD {α : Type} (l : List α) : l = [] ∨ ∃ q b,l = q ++ [b]:=by
 rcases List.eq_nil_or_concat l with h | ⟨q,b,h⟩
 ·exact .inl h
 ·exact .inr ⟨q,b,by rw [h,List.concat_eq_append]⟩
def popT (af : Eid) : List Eid → Eid → Eid × List Eid
 | [],el=>(el,[])
 | t :: s,el=>if t = af then (el,t :: s) else popT af s t
def ordS (x : Eid × Eid) (s seen : List Eid) : Bool:=!((decide ((popT x.2 s Eid.z).2 = []) && !decide (x.2 = Eid.z)) || (!decide ((popT x.2 s Eid.z).1 = Eid.z) && !x.1.less (popT x.2 s Eid.z).1) || decide (x.1 ∈ seen))
def stk (l : List (Eid × Eid)) : List Eid:=l.foldl (fun s x=>x.1 :: (popT x.2 s Eid.z).2) []
theorem zE4 (l : List (Eid × Eid)) (x : Eid × Eid) : stk (l ++ [x]) = x.1 :: (popT x.2 (stk l) Eid.z).2:=by simp [stk]
def Ord (l : List (Eid × Eid)) : Prop:=∀ pre x post,l = pre ++ x :: post → ordS x (stk pre) (pre.map (·.1)) = true
theorem Ord.nil : Ord []:=fun pre x post h=>absurd h (by simp)
theorem Ord.pre {l m : List (Eid × Eid)} (h : Ord (l ++ m)) : Ord l:=fun pre x post e=>h pre x (post ++ m) (by rw [e]; simp)
theorem Ord.snoc {l : List (Eid × Eid)} {x : Eid × Eid} (h : Ord l) (k : ordS x (stk l) (l.map (·.1)) = true) : Ord (l ++ [x]):=by
 intro pre y post e
 rcases zDD post with rfl | ⟨q,b,rfl⟩
 ·have:=List.append_inj' e rfl
  obtain ⟨rfl,h2⟩:=this
  injection h2 with h2
  subst h2
  exact k
 ·have e' : l ++ [x] = (pre ++ y :: q) ++ [b]:=by rw [e]; simp
  exact h pre y q (List.append_inj' e' rfl).1
theorem zHH {af : Eid} : ∀ {m : List Eid} {q : List Eid} {el : Eid},(∀ t ∈ m,t ≠ af) → (q = [] ∨ ∃ t,q = af :: t) → popT af (m ++ q) el = (m.getLast?.getD el,q)
 | [],q,el,_,hq=>by
  rcases hq with rfl | ⟨t,rfl⟩
  ·rfl
  ·show popT af (af :: t) el = _
   rw [popT,if_pos rfl]; rfl
 | a :: m,q,el,hm,hq=>by
  rw [List.cons_append,popT,if_neg (hm a List.mem_cons_self),zHH (fun t ht=>hm t (List.mem_cons_of_mem _ ht)) hq]
  cases m with
  | nil=>rfl
  | cons b m=>simp [List.getLast?_cons]
theorem zVM (af : Eid) : ∀ s : List Eid,∃ m q,s = m ++ q ∧ (∀ t ∈ m,t ≠ af) ∧ (q = [] ∨ ∃ t,q = af :: t)
 | []=>⟨[],[],rfl,(fun _ h=>absurd h (by simp)),.inl rfl⟩
 | a :: s=>by
  by_cases h : a = af
  ·subst h
   exact ⟨[],a :: s,rfl,(fun _ h=>absurd h (by simp)),.inr ⟨s,rfl⟩⟩
  ·obtain ⟨m,q,rfl,hm,hq⟩:=zVM af s
   exact ⟨a :: m,q,rfl,fun t ht=>(List.mem_cons.1 ht).elim (fun e=>e ▸ h) (hm t),hq⟩
def prs (E : List El) : List (Eid × Eid):=E.map fun x=>(x.id,x.af)
theorem zR1 (E : List El) : (prs E).map (·.1) = E.map (·.id):=by simp [prs]
theorem Txt.ins {A R B : List El} (h : Txt (A ++ B)) (hs : Set1 (A ++ R ++ B)) (h1 : ∀ a ∈ A,∀ r ∈ R,Ah (A ++ R ++ B) a r) (h2 : R.Pairwise (Ah (A ++ R ++ B))) (h3 : ∀ r ∈ R,∀ b ∈ B,Ah (A ++ R ++ B) r b) : Txt (A ++ R ++ B):=by
 refine ⟨hs, ?_⟩
 have hm : ∀ x ∈ A ++ B,x ∈ A ++ R ++ B:=fun x hx=>by
  rcases List.mem_append.1 hx with h | h
  ·exact List.mem_append.2 (.inl (List.mem_append.2 (.inl h)))
  ·exact List.mem_append.2 (.inr h)
 have hp:=h.pw.imp (fun k=>Ah.mono hm k)
 obtain ⟨pA,pB,pAB⟩:=List.pairwise_append.1 hp
 refine List.pairwise_append.2 ⟨List.pairwise_append.2 ⟨pA,h2,h1⟩,pB,fun a ha b hb=>?_⟩
 rcases List.mem_append.1 ha with ha | ha
 ·exact pAB a ha b hb
 ·exact h3 a ha b hb
def Stk (E : List El) (s : List Eid) : Prop:=(E = [] ∧ s = []) ∨ ∃ E' y,E = E' ++ [y] ∧ Pth E y.id s.reverse
theorem zE3 {α : Type} {P : List α → Prop} (h0 : P []) (h1 : ∀ l x,P l → P (l ++ [x])) (l : List α) : P l:=by
 suffices h : ∀ n (l : List α),l.length = n → P l from h _ l rfl
 intro n
 induction n with
 | zero=>intro l hl; rw [List.eq_nil_of_length_eq_zero hl]; exact h0
 | succ n ih =>
  intro l hl
  rcases zDD l with rfl | ⟨q,b,rfl⟩
  ·exact h0
  ·exact h1 q b (ih q (by simpa using hl))
theorem Stk.pos {E : List El} {s : List Eid} (hs : Set1 E) (h : Stk E s) : ∀ t ∈ s,t ≠ Eid.z:=by
 rcases h with ⟨_,rfl⟩ | ⟨E',y,rfl,hp⟩
 ·exact fun _ h=>absurd h (by simp)
 ·intro t ht
  obtain ⟨q,r,e⟩:=List.append_of_mem (List.mem_reverse.2 ht)
  exact (hp.pre e).nz fun x hx=>(hs.ct x hx).2
theorem zXD (E : List El) : (∀ x ∈ E,x.af.c < x.id.c ∧ 0 < x.id.c) → Ord (prs E) → Txt E ∧ Stk E (stk (prs E)):=by
 refine zE3 (P:=fun E=>(∀ x ∈ E,x.af.c < x.id.c ∧ 0 < x.id.c) → Ord (prs E) → Txt E ∧ Stk E (stk (prs E))) (fun _ _=>⟨Txt.nil,.inl ⟨rfl,rfl⟩⟩) (fun E x ih hc ho=>?_) E
 have he : prs (E ++ [x]) = prs E ++ [(x.id,x.af)]:=by simp [prs]
 rw [he] at ho ⊢
 obtain ⟨hT,hS⟩:=ih (fun y hy=>hc y (List.mem_append_left _ hy)) ho.pre
 have hx:=hc x (List.mem_append_right _ List.mem_cons_self)
 have hst:=ho (prs E) (x.id,x.af) [] rfl
 obtain ⟨m,q,hmq,hm,hq⟩:=zVM x.af (stk (prs E))
 have hpe:=zHH (el:=Eid.z) hm hq
 rw [← hmq] at hpe
 unfold ordS at hst
 rw [hpe,zR1] at hst
 simp only [Bool.not_eq_true',Bool.or_eq_false_iff,Bool.and_eq_false_iff,Bool.not_eq_false',decide_eq_false_iff_not,decide_eq_true_eq] at hst
 obtain ⟨⟨h1,h2⟩,h3⟩:=hst
 rw [zE4,hpe]
 have hmem : ∀ y ∈ E,y ∈ E ++ [x]:=fun y hy=>List.mem_append_left _ hy
 have hxm : x ∈ E ++ [x]:=List.mem_append_right _ List.mem_cons_self
 have hpos:=hS.pos hT.s1
 -- the path of the new one
 have hrt : x.af = Eid.z ∨ ∃ y ∈ E,y.id = x.af:=by
  rcases hq with rfl | ⟨t,rfl⟩
  ·rcases h1 with h1 | h1
   ·exact absurd rfl h1
   ·exact .inl h1
  ·rcases hS with ⟨_,h⟩ | ⟨E',y,rfl,hp⟩
   ·rw [h] at hmq
    exact absurd hmq.symm (by simp)
   ·rw [hmq] at hp
    exact .inr (hp.pre (q:=t.reverse) (y:=x.af) (r:=m.reverse) (by simp)).mem
 have hs1 : Set1 (E ++ [x]):=by
  refine ⟨?_,hc,fun y hy=>?_⟩
  ·rw [List.map_append,List.nodup_append]
   refine ⟨hT.s1.nd,by simp,fun a ha b hb e=>?_⟩
   simp at hb
   subst hb
   subst e
   exact h3 ha
  ·rcases List.mem_append.1 hy with hy | hy
   ·rcases hT.s1.rt y hy with e | ⟨w,hw,e⟩
    ·exact .inl e
    ·exact .inr ⟨w,hmem w hw,e⟩
   ·rw [List.mem_singleton] at hy; subst hy
    rcases hrt with e | ⟨w,hw,e⟩
    ·exact .inl e
    ·exact .inr ⟨w,hmem w hw,e⟩
 have hpx : Pth (E ++ [x]) x.id (x.id :: q).reverse:=by
  rcases hq with rfl | ⟨t,rfl⟩
  ·rcases h1 with h1 | h1
   ·exact absurd rfl h1
   ·exact .root hxm h1
  ·rcases hS with ⟨_,h⟩ | ⟨E',y,rfl,hp⟩
   ·rw [h] at hmq
    exact absurd hmq.symm (by simp)
   ·rw [hmq] at hp
    have:=hp.pre (q:=t.reverse) (y:=x.af) (r:=m.reverse) (by simp)
    have:=Pth.step hxm (this.mono hmem)
    simpa using this
 refine ⟨?_,.inr ⟨E,x,rfl,hpx⟩⟩
 have hT' : Txt (E ++ []):=by rw [List.append_nil]; exact hT
 have:=hT'.ins (R:=[x]) (by rw [List.append_nil]; exact hs1) (fun a ha r hr=>?_) (List.pairwise_singleton _ _) (fun r hr b hb=>absurd hb (by simp))
 ·rwa [List.append_nil] at this
 ·rw [List.mem_singleton] at hr; subst hr
  rw [List.append_nil]
  rcases hS with ⟨rfl,h⟩ | ⟨E',y,rfl,hp⟩
  ·exact absurd ha (by simp)
  ·have hyx : Ah (E' ++ [y] ++ [r]) y r:=by
    refine ⟨_,_,hp.mono hmem,hpx, ?_⟩
    rw [hmq,List.reverse_append,List.reverse_cons]
    rcases zDD m with rfl | ⟨m',e,rfl⟩
    ·rw [List.reverse_nil,List.append_nil]; exact zE6 _ _ _
    ·rw [List.reverse_append]
     have hle : (m' ++ [e]).getLast?.getD Eid.z = e:=by simp
     rw [hle] at h2
     have hez : e ≠ Eid.z:=hpos e (by rw [hmq]; simp)
     rcases h2 with h2 | h2
     ·exact absurd h2 hez
     ·exact zJR _ _ _ h2
   rcases List.mem_append.1 ha with ha | ha
   ·have:=(List.pairwise_append.1 hT.pw).2.2 a ha y List.mem_cons_self
    exact (this.mono hmem).trans hs1 hyx
   ·rw [List.mem_singleton] at ha; subst ha; exact hyx
theorem zGU : ∀ {c p q : List Eid},ahd (c ++ p) (c ++ q) → ahd p q
 | [],_,_,h=>h
 | a :: c,p,q,h=>by
  rcases h with h | ⟨_,h⟩
  ·rw [zJ6] at h; cases h
  ·exact zGU h
theorem Txt.pre {E : List El} {x : El} (h : Txt (E ++ [x])) : Txt E:=by
 have hmem : ∀ y ∈ E,y ∈ E ++ [x]:=fun y hy=>List.mem_append_left _ hy
 have hxm : x ∈ E ++ [x]:=List.mem_append_right _ List.mem_cons_self
 have hp:=List.pairwise_append.1 h.pw
 have hcl : ∀ y ∈ E,y.af ≠ x.id:=fun y hy e=>by
  have h1:=hp.2.2 y hy x List.mem_cons_self
  obtain ⟨p,hpx⟩:=h.s1.path hxm
  have hpx':=hpx
  rw [← e] at hpx'
  have h2 : Ah (E ++ [x]) x y:=⟨_,_,hpx,.step (hmem y hy) hpx',zE6 _ _ _⟩
  exact Ah.irr h.s1 x (h2.trans h.s1 h1)
 have hs : Set1 E:=by
  refine ⟨?_,fun y hy=>h.s1.ct y (hmem y hy),fun y hy=>?_⟩
  ·have:=h.s1.nd
   rw [List.map_append,List.nodup_append] at this
   exact this.1
  ·rcases h.s1.rt y (hmem y hy) with e | ⟨w,hw,e⟩
   ·exact .inl e
   ·rcases List.mem_append.1 hw with hw | hw
    ·exact .inr ⟨w,hw,e⟩
    ·rw [List.mem_singleton] at hw; subst hw
     exact absurd e.symm (hcl y hy)
 refine ⟨hs,List.Pairwise.imp_of_mem (fun {a b} ha hb k=>?_) hp.1⟩
 obtain ⟨p,q,k1,k2,k⟩:=k
 obtain ⟨p',hp'⟩:=hs.path ha
 obtain ⟨q',hq'⟩:=hs.path hb
 rw [(hp'.mono hmem).fn h.s1 k1] at hp'
 rw [(hq'.mono hmem).fn h.s1 k2] at hq'
 exact ⟨p,q,hp',hq',k⟩
theorem zXZ (E : List El) : Txt E → Ord (prs E) ∧ Stk E (stk (prs E)):=by
 refine zE3 (P:=fun E=>Txt E → Ord (prs E) ∧ Stk E (stk (prs E))) (fun _=>⟨Ord.nil,.inl ⟨rfl,rfl⟩⟩) (fun E x ih hT=>?_) E
 have he : prs (E ++ [x]) = prs E ++ [(x.id,x.af)]:=by simp [prs]
 rw [he]
 have hE:=hT.pre
 obtain ⟨hO,hS⟩:=ih hE
 have hmem : ∀ y ∈ E,y ∈ E ++ [x]:=fun y hy=>List.mem_append_left _ hy
 have hxm : x ∈ E ++ [x]:=List.mem_append_right _ List.mem_cons_self
 have hpos:=hS.pos hE.s1
 have hps:=List.pairwise_append.1 hT.pw
 have hnx : x.id ∉ E.map (·.id):=by
  have:=hT.s1.nd
  rw [List.map_append,List.nodup_append] at this
  exact fun k=>this.2.2 _ k x.id (by simp) rfl
 have key : ∃ m q,stk (prs E) = m ++ q ∧ (∀ t ∈ m,t ≠ x.af) ∧ ((q = [] ∧ x.af = Eid.z) ∨ ∃ t,q = x.af :: t) ∧ (m = [] ∨ x.id.less (m.getLast?.getD Eid.z) = true) ∧ Pth (E ++ [x]) x.id (q.reverse ++ [x.id]):=by
  rcases hT.s1.rt x hxm with e | ⟨w,hw,e⟩
  ·refine ⟨stk (prs E),[],by simp,fun t ht=>e ▸ hpos t ht,.inl ⟨rfl,e⟩, ?_,.root hxm e⟩
   rcases hS with ⟨rfl,h⟩ | ⟨E',y,rfl,hp⟩
   ·exact .inl h
   ·right
    obtain ⟨p,q,k1,k2,k⟩:=hps.2.2 y (List.mem_append_right _ List.mem_cons_self) x List.mem_cons_self
    rw [(hp.mono hmem).fn hT.s1 k1 |>.symm,k2.fn hT.s1 (.root hxm e)] at k
    generalize stk (prs (E' ++ [y])) = s at *
    rcases zDD s with rfl | ⟨s',a,rfl⟩
    ·obtain ⟨z,hz⟩:=hp.last
     exact absurd hz (by simp)
    ·rw [List.reverse_append] at k
     simp only [List.reverse_cons,List.reverse_nil,List.nil_append,List.singleton_append] at k
     rcases k with k | ⟨_,k⟩
     ·simpa using k
     ·exact absurd k (zOX _)
  ·have hwE : w ∈ E:=by
    rcases List.mem_append.1 hw with h | h
    ·exact h
    ·rw [List.mem_singleton] at h; subst h
     have:=hT.s1.ct w hxm
     rw [e] at this
     omega
   obtain ⟨pw,hpw⟩:=hT.s1.path hw
   have hpx : Pth (E ++ [x]) x.id (pw ++ [x.id]):=.step hxm (e ▸ hpw)
   rcases hS with ⟨rfl,h⟩ | ⟨E',y,rfl,hp⟩
   ·exact absurd hwE (by simp)
   ·have hyx:=hps.2.2 y (List.mem_append_right _ List.mem_cons_self) x List.mem_cons_self
    obtain ⟨p,q,k1,k2,k⟩:=hyx
    rw [(hp.mono hmem).fn hT.s1 k1 |>.symm,k2.fn hT.s1 hpx] at k
    have hpm:=hp.mono hmem
    generalize hsp : stk (prs (E' ++ [y])) = s at *
    have hpre : ∃ r,s.reverse = pw ++ r:=by
     rcases List.mem_append.1 hwE with h | h
     ·obtain ⟨p',q',j1,j2,j⟩:=(List.pairwise_append.1 hE.pw).2.2 w h y List.mem_cons_self
      rw [(j1.mono hmem).fn hT.s1 hpw,(j2.mono hmem).fn hT.s1 hpm] at j
      rcases zIN j with ⟨b,r,e2⟩ | ⟨c,a,b,s1,t1,e1,e2,hl⟩
      ·exact ⟨_,e2⟩
      ·rw [e1,e2,List.append_assoc] at k
       have k:=zGU k
       rcases k with k | ⟨k,_⟩
       ·rw [zQF hl] at k; cases k
       ·rw [k,zJ6] at hl; cases hl
     ·rw [List.mem_singleton] at h; subst h
      exact ⟨[],by rw [hpm.fn hT.s1 hpw]; simp⟩
    obtain ⟨r,hr⟩:=hpre
    obtain ⟨p0,hp0⟩:=hpw.last
    rw [e] at hp0
    have hs : s = r.reverse ++ pw.reverse:=by rw [← List.reverse_append,← hr,List.reverse_reverse]
    refine ⟨r.reverse,pw.reverse,hs,fun t ht et=>?_,.inr ⟨p0.reverse,by rw [hp0]; simp⟩, ?_,by rw [List.reverse_reverse]; exact hpx⟩
    ·subst et
     obtain ⟨a1,b1,e1⟩:=List.append_of_mem (List.mem_reverse.1 ht)
     have g1:=hpm.pre (q:=p0) (y:=x.af) (r:=r) (by rw [hr,hp0]; simp)
     have g2:=hpm.pre (q:=pw ++ a1) (y:=x.af) (r:=b1) (by rw [hr,e1]; simp)
     have g3:=congrArg List.length (g1.fn hT.s1 g2)
     rw [hp0] at g3
     simp at g3
    ·rw [hr] at k
     cases r with
     | nil=>exact .inl rfl
     | cons a r =>
      right
      have k:=zGU k
      rcases k with k | ⟨_,k⟩
      ·simpa using k
      ·exact absurd k (zOX _)
 obtain ⟨m,q,hmq,hm,hq,hl,hp⟩:=key
 have hpe:=zHH (el:=Eid.z) (q:=q) hm (hq.elim (fun h => .inl h.1) .inr)
 rw [← hmq] at hpe
 refine ⟨hO.snoc ?_, ?_⟩
 ·unfold ordS
  rw [hpe,zR1]
  simp only [Bool.not_eq_true',Bool.or_eq_false_iff,Bool.and_eq_false_iff,Bool.not_eq_false',decide_eq_false_iff_not,decide_eq_true_eq]
  refine ⟨⟨?_, ?_⟩,hnx⟩
  ·rcases hq with ⟨_,h⟩ | ⟨t,rfl⟩
   ·exact .inr h
   ·exact .inl (by simp)
  ·rcases hl with rfl | h
   ·exact .inl rfl
   ·exact .inr h
 ·rw [zE4,hpe]
  exact .inr ⟨E,x,rfl,by simpa using hp⟩
theorem zQY {E : List El} (h : ∀ x ∈ E,x.af.c < x.id.c ∧ 0 < x.id.c) : Ord (prs E) ↔ Txt E:=⟨fun k=>(zXD E h k).1,fun k=>(zXZ E k).1⟩
end Go.Proofs.Ytakaojjlfcmphaa
namespace Go.Proofs.Ytakaojjlfcmphaa
open Go Go.Ax
def Chn : Eid → List El → Prop
 | _,[]=>True
 | a,x :: R=>x.af = a ∧ a.c < x.id.c ∧ Chn x.id R
theorem Chn.path {F : List El} : ∀ {R : List El} {a : Eid} {p : List Eid},Chn a R → (∀ x ∈ R,x ∈ F) → ((a = Eid.z ∧ p = []) ∨ Pth F a p) → ∀ x ∈ R,∃ q,Pth F x.id (p ++ q) ∧ ∀ y R',R = y :: R' → ∃ q',q = y.id :: q'
 | [],_,_,_,_,_=>fun x hx=>absurd hx (by simp)
 | y :: R,a,p,hC,hm,ha=>by
  intro x hx
  obtain ⟨h1,h2,h3⟩:=hC
  have hy : Pth F y.id (p ++ [y.id]):=by
   have hym:=hm y List.mem_cons_self
   rcases ha with ⟨rfl,rfl⟩ | ha
   ·exact .root hym h1
   ·exact .step hym (h1 ▸ ha)
  rcases List.mem_cons.1 hx with rfl | hx
  ·exact ⟨[x.id],hy,fun y' R' e=>by injection e with e1 e2; subst e1; exact ⟨[],rfl⟩⟩
  ·obtain ⟨q,hq,_⟩:=Chn.path h3 (fun x hx=>hm x (List.mem_cons_of_mem _ hx)) (.inr hy) x hx
   rw [List.append_assoc] at hq
   exact ⟨_,hq,fun y' R' e=>by injection e with e1 e2; subst e1; exact ⟨q,rfl⟩⟩
theorem Chn.pw {F : List El} : ∀ {R : List El} {a : Eid} {p : List Eid},Chn a R → (∀ x ∈ R,x ∈ F) → ((a = Eid.z ∧ p = []) ∨ Pth F a p) → R.Pairwise (Ah F)
 | [],_,_,_,_,_ => .nil
 | y :: R,a,p,hC,hm,ha=>by
  obtain ⟨h1,h2,h3⟩:=hC
  have hy : Pth F y.id (p ++ [y.id]):=by
   have hym:=hm y List.mem_cons_self
   rcases ha with ⟨rfl,rfl⟩ | ha
   ·exact .root hym h1
   ·exact .step hym (h1 ▸ ha)
  refine List.pairwise_cons.2 ⟨fun x hx=>?_,Chn.pw h3 (fun x hx=>hm x (List.mem_cons_of_mem _ hx)) (.inr hy)⟩
  obtain ⟨q,hq,hh⟩:=Chn.path h3 (fun x hx=>hm x (List.mem_cons_of_mem _ hx)) (.inr hy) x hx
  cases R with
  | nil=>exact absurd hx (by simp)
  | cons w R =>
   obtain ⟨q',rfl⟩:=hh w R rfl
   exact ⟨_,_,hy,hq,zE6 _ _ _⟩
theorem Chn.grow : ∀ {R : List El} {a : Eid},Chn a R → ∀ x ∈ R,a.c < x.id.c
 | [],_,_=>fun x hx=>absurd hx (by simp)
 | y :: R,a,hC=>fun x hx=>by
  obtain ⟨h1,h2,h3⟩:=hC
  rcases List.mem_cons.1 hx with rfl | hx
  ·exact h2
  ·have:=h3.grow x hx
   omega
theorem Chn.ct : ∀ {R : List El} {a : Eid},Chn a R → 0 ≤ a.c → ∀ x ∈ R,x.af.c < x.id.c ∧ 0 < x.id.c
 | [],_,_,_=>fun x hx=>absurd hx (by simp)
 | y :: R,a,hC,ha=>fun x hx=>by
  obtain ⟨h1,h2,h3⟩:=hC
  rcases List.mem_cons.1 hx with rfl | hx
  ·rw [h1]; omega
  ·exact h3.ct (by omega) x hx
theorem Chn.rt : ∀ {R : List El} {a : Eid},Chn a R → ∀ x ∈ R,x.af = a ∨ ∃ y ∈ R,y.id = x.af
 | [],_,_=>fun x hx=>absurd hx (by simp)
 | y :: R,a,hC=>fun x hx=>by
  obtain ⟨h1,h2,h3⟩:=hC
  rcases List.mem_cons.1 hx with rfl | hx
  ·exact .inl h1
  ·rcases h3.rt x hx with e | ⟨w,hw,e⟩
   ·exact .inr ⟨y,List.mem_cons_self,e.symm⟩
   ·exact .inr ⟨w,List.mem_cons_of_mem _ hw,e⟩
theorem Chn.nd : ∀ {R : List El} {a : Eid},Chn a R → (R.map (·.id)).Nodup
 | [],_,_=>List.nodup_nil
 | y :: R,a,hC=>by
  obtain ⟨h1,h2,h3⟩:=hC
  rw [List.map_cons,List.nodup_cons]
  refine ⟨fun h=>?_,h3.nd⟩
  obtain ⟨x,hx,e⟩:=List.mem_map.1 h
  have:=h3.grow x hx
  rw [e] at this
  omega
theorem Txt.put {A0 A1 B R : List El} {r : El} {R' : List El} (hT : Txt (A0 ++ A1 ++ B)) (hR : R = r :: R') (hC : Chn r.af R)
  (ha : (r.af = Eid.z ∧ A0 = []) ∨ ∃ A00 w,A0 = A00 ++ [w] ∧ w.id = r.af)
  (hf : ∀ x ∈ R,∀ y ∈ A0 ++ A1 ++ B,x.id ≠ y.id)
  (h1 : ∀ x ∈ A1,r.id.less x.id = true)
  (h2 : ∀ b B',B = b :: B' → r.id.less b.id = false) : Txt (A0 ++ A1 ++ R ++ B):=by
 have hrc : 0 ≤ r.af.c:=by
  rcases ha with ⟨h,_⟩ | ⟨A00,w,rfl,h⟩
  ·rw [h]; decide
  ·have:=(hT.s1.ct w (by simp)).2
   rw [h] at this
   omega
 have hrm : r ∈ R:=by rw [hR]; exact List.mem_cons_self
 have hm : ∀ x ∈ A0 ++ A1 ++ B,x ∈ A0 ++ A1 ++ R ++ B:=fun x hx=>by
  rcases List.mem_append.1 hx with h | h
  ·exact List.mem_append_left _ (List.mem_append_left _ h)
  ·exact List.mem_append_right _ h
 have hmR : ∀ x ∈ R,x ∈ A0 ++ A1 ++ R ++ B:=fun x hx=>List.mem_append_left _ (List.mem_append_right _ hx)
 have hs : Set1 (A0 ++ A1 ++ R ++ B):=by
  refine ⟨?_,fun x hx=>?_,fun x hx=>?_⟩
  ·have hn:=hT.s1.nd
   have hd : ∀ x ∈ R,x.id ∉ (A0 ++ A1 ++ B).map (·.id):=fun x hx k=>by
    obtain ⟨y,hy,e⟩:=List.mem_map.1 k
    exact hf x hx y hy e.symm
   rw [List.map_append,List.nodup_append] at hn
   rw [List.map_append,List.map_append,List.nodup_append,List.nodup_append]
   refine ⟨⟨hn.1,hC.nd,fun a ha b hb e=>?_⟩,hn.2.1,fun a ha b hb e=>?_⟩
   ·obtain ⟨x,hx,rfl⟩:=List.mem_map.1 hb
    subst e
    exact hd x hx (by rw [List.map_append]; exact List.mem_append_left _ ha)
   ·rcases List.mem_append.1 ha with ha | ha
    ·exact hn.2.2 a ha b hb e
    ·obtain ⟨x,hx,rfl⟩:=List.mem_map.1 ha
     subst e
     exact hd x hx (by rw [List.map_append]; exact List.mem_append_right _ hb)
  ·rcases List.mem_append.1 hx with h | h
   ·rcases List.mem_append.1 h with h | h
    ·exact hT.s1.ct x (List.mem_append_left _ h)
    ·exact hC.ct hrc x h
   ·exact hT.s1.ct x (List.mem_append_right _ h)
  ·have old : x ∈ A0 ++ A1 ++ B → x.af = Eid.z ∨ ∃ y ∈ A0 ++ A1 ++ R ++ B,y.id = x.af:=fun h=>by
    rcases hT.s1.rt x h with e | ⟨y,hy,e⟩
    ·exact .inl e
    ·exact .inr ⟨y,hm y hy,e⟩
   rcases List.mem_append.1 hx with h | h
   ·rcases List.mem_append.1 h with h | h
    ·exact old (List.mem_append_left _ h)
    ·rcases hC.rt x h with e | ⟨y,hy,e⟩
     ·rcases ha with ⟨h7,_⟩ | ⟨A00,w,rfl,h7⟩
      ·exact .inl (e.trans h7)
      ·exact .inr ⟨w,by simp,h7.trans e.symm⟩
     ·exact .inr ⟨y,hmR y hy,e⟩
   ·exact old (List.mem_append_right _ h)
 -- the path of the one that it names
 have hpa : ∃ p,((r.af = Eid.z ∧ p = []) ∨ Pth (A0 ++ A1 ++ R ++ B) r.af p) ∧ (∀ u ∈ p,u.c ≤ r.af.c) ∧ (∀ x ∈ A0,∀ q,Pth (A0 ++ A1 ++ R ++ B) x.id q → q = p ∨ ahd q p) ∧ (∀ x ∈ A1 ++ B,∀ q,Pth (A0 ++ A1 ++ R ++ B) x.id q → ahd p q):=by
  rcases ha with ⟨h,rfl⟩ | ⟨A00,w,rfl,h⟩
  ·refine ⟨[],.inl ⟨h,rfl⟩,(fun _ h=>absurd h (by simp)),(fun _ h=>absurd h (by simp)),fun x hx q hq=>?_⟩
   obtain ⟨q0,rfl⟩:=hq.last
   cases q0 <;> trivial
  ·have hw : w ∈ A00 ++ [w] ++ A1 ++ B:=by simp
   obtain ⟨p,hp⟩:=hT.s1.path hw
   have hpF:=hp.mono hm
   have hpw:=hT.pw
   have hpw' : (A00 ++ ([w] ++ (A1 ++ B))).Pairwise (Ah (A00 ++ [w] ++ A1 ++ B)):=by simpa using hpw
   have q1:=List.pairwise_append.1 hpw'
   have q2:=List.pairwise_append.1 q1.2.1
   refine ⟨p,.inr (h ▸ hpF),fun u hu=>?_,fun x hx q hq=>?_,fun x hx q hq=>?_⟩
   ·have:=hp.grow (fun x hx=>(hT.s1.ct x hx).1) u hu
    rw [h] at this
    exact this
   ·rcases List.mem_append.1 hx with hx | hx
    ·obtain ⟨p1,p2,k1,k2,k⟩:=q1.2.2 x hx w (by simp)
     rw [(k1.mono hm).fn hs hq,(k2.mono hm).fn hs hpF] at k
     exact .inr k
    ·rw [List.mem_singleton] at hx; subst hx
     exact .inl (hq.fn hs hpF)
   ·obtain ⟨p1,p2,k1,k2,k⟩:=q2.2.2 w (by simp) x hx
    rw [(k1.mono hm).fn hs hpF,(k2.mono hm).fn hs hq] at k
    exact k
 obtain ⟨p,hp,hpc,hA0,hAB⟩:=hpa
 have hCp:=hC.path hmR hp
 have hpr : ∀ x ∈ R,∃ q',Pth (A0 ++ A1 ++ R ++ B) x.id (p ++ r.id :: q'):=fun x hx=>by
  obtain ⟨q,hq,hh⟩:=hCp x hx
  obtain ⟨q',rfl⟩:=hh r R' hR
  exact ⟨q',hq⟩
 have hrl : r.af.c < r.id.c:=hC.grow r hrm
 refine hT.ins hs (fun a ha x hx=>?_) (hC.pw hmR hp) (fun x hx b hb=>?_)
 ·-- what stands ahead
  obtain ⟨q',hq'⟩:=hpr x hx
  have haE : a ∈ A0 ++ A1 ++ B:=List.mem_append_left _ ha
  obtain ⟨pa,hpa⟩:=hs.path (hm a haE)
  refine ⟨_,_,hpa,hq', ?_⟩
  rcases List.mem_append.1 ha with ha | ha
  ·rcases hA0 a ha pa hpa with rfl | k
   ·exact zE6 _ _ _
   ·exact zE7 k (zE6 _ _ _)
  ·-- those behind it that are greater
   have mid : ∀ e : Eid,∀ pe,Pth (A0 ++ A1 ++ R ++ B) e pe → ahd p pe → (pe = pa ∨ ahd pe pa) → (∃ y ∈ A0 ++ A1 ++ B,y.id = e) → r.id.less e = true:=by
    rintro e pe hpe k1 k2 ⟨y,hy,rfl⟩
    rcases List.mem_append.1 hy with hy | hy
    ·rcases List.mem_append.1 hy with hy | hy
     ·rcases hA0 y hy pe hpe with rfl | k
      ·exact absurd k1 (zFS _)
      ·exact absurd (zE7 k k1) (zFS _)
     ·exact h1 y hy
    ·have hAh:=(List.pairwise_append.1 hT.pw).2.2 a (List.mem_append_right _ ha) y hy
     obtain ⟨p1,p2,j1,j2,j⟩:=hAh
     rw [(j1.mono hm).fn hs hpa,(j2.mono hm).fn hs hpe] at j
     rcases k2 with rfl | k2
     ·exact absurd j (zFS _)
     ·exact absurd (zE7 j k2) (zFS _)
   -- a path of a: over elements of the old ones
   obtain ⟨pa',hpa'⟩:=hT.s1.path haE
   have hpaE : pa' = pa:=(hpa'.mono hm).fn hs hpa
   subst hpaE
   have k:=hAB a (List.mem_append_left _ ha) _ hpa
   rcases zIN k with ⟨e,t,he⟩ | ⟨c,u,w,s,t,e1,e2,hl⟩
   ·have hpe:=hpa'.pre he
    have hle : r.id.less e = true:=mid e _ (hpe.mono hm) (zE6 _ _ _) (by
     cases t with
     | nil=>exact .inl he.symm
     | cons b t=>rw [he]; exact .inr (by have:=zE6 (p ++ [e]) b t; simpa using this)) hpe.mem
    rw [he]
    exact zJR _ _ _ hle
   ·have hpe:=hpa'.pre e2
    have hle : r.id.less w = true:=mid w _ (hpe.mono hm) (by rw [e1]; exact zJR _ _ _ hl) (by
     cases t with
     | nil=>exact .inl e2.symm
     | cons b t=>rw [e2]; exact .inr (by have:=zE6 (c ++ [w]) b t; simpa using this)) hpe.mem
    have:=zQG hle
    have:=zQG hl
    have:=hpc u (by rw [e1]; simp)
    omega
 ·-- what stands behind
  obtain ⟨q',hq'⟩:=hpr x hx
  cases B with
  | nil=>exact absurd hb (by simp)
  | cons b0 B' =>
   have hb0 : Ah (A0 ++ A1 ++ R ++ b0 :: B') x b0:=by
    have hbm : b0 ∈ A0 ++ A1 ++ b0 :: B':=by simp
    obtain ⟨pb,hpb⟩:=hT.s1.path hbm
    refine ⟨_,_,hq',hpb.mono hm, ?_⟩
    have k:=hAB b0 (by simp) _ (hpb.mono hm)
    have hlt : b0.id.less r.id = true:=by
     rcases zTH (hf r hrm b0 hbm) with h | h
     ·rw [h2 b0 B' rfl] at h; cases h
     ·exact h
    rcases zIN k with ⟨e,t,he⟩ | ⟨c,u,w,s,t,e1,e2,hl⟩
    ·rw [he]
     refine zJR _ _ _ ?_
     rcases zDD t with rfl | ⟨t',z,rfl⟩
     ·obtain ⟨q0,e0⟩:=hpb.last
      rw [he] at e0
      have:=(List.append_inj' e0 rfl).2
      injection this with this
      rw [this]; exact hlt
     ·have hpe:=hpb.pre he
      obtain ⟨q0,e0⟩:=hpb.last
      have he2 : pb = (p ++ e :: t') ++ [z]:=by rw [he]; simp
      rw [he2] at e0
      have e3:=(List.append_inj' e0 rfl).2
      injection e3 with e3
      subst e3
      -- the one ahead of the last one of a path is lesser
      have hlast : e.c < b0.id.c:=by
       rw [he2] at hpb
       generalize hbi : b0.id = i at hpb
       generalize hpp : (p ++ e :: t') ++ [i] = pp at hpb
       cases hpb with
       | root m e4=>exact absurd (congrArg List.length hpp) (by simp; omega)
       | @step x0 p0 m kp =>
        have e5:=(List.append_inj' hpp rfl).1
        have g:=kp.grow (fun x hx=>(hT.s1.ct x hx).1) e (by rw [← e5]; simp)
        have:=(hT.s1.ct x0 m).1
        omega
      have:=zQG hlt
      exact zKB (by omega)
    ·rw [e1,e2,List.append_assoc,List.cons_append]
     exact zJR _ _ _ hl
   rcases List.mem_cons.1 hb with rfl | hb
   ·exact hb0
   ·have:=List.pairwise_cons.1 (List.pairwise_append.1 hT.pw).2.1
    exact hb0.trans hs ((this.1 b hb).mono hm)
end Go.Proofs.Ytakaojjlfcmphaa
