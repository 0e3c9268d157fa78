/-
  Texts joined: Tc SaA SaB SbD SaD SaC RfA RnMay RfB SaE SaF SbG SaG SaH SaI TpZ RgC SaJ SaK SaL SaM SaN SaO SbO RgD SbP SaQ SaR.
-/
import Derived.Test.YtkfdflajadkfkaaGreatTb
import Derived.Test.YtkfdflajadkfkaaGreatEf
set_option linter.unusedSimpArgs false
set_option linter.unusedVariables false
set_option maxRecDepth 100000
namespace Go.Proofs.YtkfdflajadkfkaaGreat
open Go Go.Ax
theorem zY4 : (tbl.map noX).map clr = msk (tbl.map noX) (zEH Tryz.prog 110 0):=by kernel_rfl
theorem tabOK : zM9 Glob.any Tryz.prog (fsT tbl):=zS9 zY4 (by kernel_rfl)
end Go.Proofs.YtkfdflajadkfkaaGreat
namespace Go.Proofs.YtkfdflajadkfkaaGreat
open Go Go.Ax
abbrev U32 (n : Int) : AV:=.sc (.int .u32 n)
structure Lb where
 lv : Int
 cats : Int
 deriving DecidableEq
structure Hd where
 lb : Lb
 num : Int
 deriving DecidableEq
structure Eid where
 hd : Hd
 c : Int
 deriving DecidableEq
structure Spn where
 f : Eid
 n : Int
 deriving DecidableEq
structure Op where
 kd : Int
 hd : Hd
 sr : Int
 sp : Spn
 af : Eid
 to : Lb
 rs : List Int
 deriving DecidableEq
structure Rn where
 sp : Spn
 af : Eid
 rs : List Int
 deriving DecidableEq
abbrev Lb.z : Lb:=⟨0,0⟩
abbrev Hd.z : Hd:=⟨⟨0,0⟩,0⟩
abbrev Eid.z : Eid:=⟨⟨⟨0,0⟩,0⟩,0⟩
def i64R (x : Int) : Prop:=-9223372036854775808 ≤ x ∧ x ≤ 9223372036854775807
def Lb.ok (x : Lb) : Prop:=0 ≤ x.lv ∧ x.lv ≤ 255 ∧ 0 ≤ x.cats ∧ x.cats < 4294967296
def Hd.ok (x : Hd) : Prop:=x.lb.ok ∧ 0 ≤ x.num ∧ x.num ≤ 255
def Eid.ok (x : Eid) : Prop:=x.hd.ok ∧ i64R x.c
def Spn.ok (x : Spn) : Prop:=x.f.ok ∧ i64R x.n
def i32s (l : List Int) : Prop:=∀ x ∈ l, -2147483648 ≤ x ∧ x ≤ 2147483647
def Op.ok (o : Op) : Prop:=(0 ≤ o.kd ∧ o.kd ≤ 255) ∧ o.hd.ok ∧ i64R o.sr ∧ o.sp.ok ∧ o.af.ok ∧ o.to.ok ∧ i32s o.rs
def Rn.ok (o : Rn) : Prop:=o.sp.ok ∧ o.af.ok ∧ i32s o.rs
abbrev lbR (x : Lb) : List AV:=[U8 x.lv,U32 x.cats]
abbrev hdR (x : Hd) : List AV:=[U8 x.lb.lv,U32 x.lb.cats,U8 x.num]
abbrev idR (x : Eid) : List AV:=[U8 x.hd.lb.lv,U32 x.hd.lb.cats,U8 x.hd.num,I64 x.c]
abbrev spR (x : Spn) : List AV:=[U8 x.f.hd.lb.lv,U32 x.f.hd.lb.cats,U8 x.f.hd.num,I64 x.f.c,I64 x.n]
abbrev opR (o : Op) (ra : AV) : List AV:=[U8 o.kd,U8 o.hd.lb.lv,U32 o.hd.lb.cats,U8 o.hd.num,I64 o.sr,U8 o.sp.f.hd.lb.lv,U32 o.sp.f.hd.lb.cats,U8 o.sp.f.hd.num,I64 o.sp.f.c,I64 o.sp.n,U8 o.af.hd.lb.lv,U32 o.af.hd.lb.cats,U8 o.af.hd.num,I64 o.af.c,U8 o.to.lv,U32 o.to.cats,ra]
abbrev rnR (o : Rn) (ra : AV) : List AV:=[U8 o.sp.f.hd.lb.lv,U32 o.sp.f.hd.lb.cats,U8 o.sp.f.hd.num,I64 o.sp.f.c,I64 o.sp.n,U8 o.af.hd.lb.lv,U32 o.af.hd.lb.cats,U8 o.af.hd.num,I64 o.af.c,ra]
abbrev lbA (x : Lb) : AV:=.agg (lbR x)
abbrev hdA (x : Hd) : AV:=.agg (hdR x)
abbrev idA (x : Eid) : AV:=.agg (idR x)
abbrev spA (x : Spn) : AV:=.agg (spR x)
def zAS (r : List AV) (x : Int) : Prop:=r = [I32 x]
def isLb (r : List AV) (x : Lb) : Prop:=r = lbR x ∧ x.ok
def zO4 (r : List AV) (x : Eid) : Prop:=r = idR x ∧ x.ok
def isOp (r : List AV) (x : Op) : Prop:=∃ ra,r = opR x ra ∧ Sl 1 zAS ra x.rs ∧ x.ok
def isRn (r : List AV) (x : Rn) : Prop:=∃ ra,r = rnR x ra ∧ Sl 1 zAS ra x.rs ∧ x.ok
theorem zE1 : FzT zAS:=fun r x h y hy=>by
 rw [h,List.mem_singleton] at hy; subst hy; exact zC4 _ _
theorem zBA (x : Lb) : ∀ y ∈ lbR x,Fz y:=fun y hy=>by
 simp only [lbR,List.mem_cons,List.not_mem_nil,or_false] at hy
 rcases hy with rfl | rfl <;> exact zC4 _ _
theorem zCW (x : Eid) : ∀ y ∈ idR x,Fz y:=fun y hy=>by
 simp only [idR,List.mem_cons,List.not_mem_nil,or_false] at hy
 rcases hy with rfl | rfl | rfl | rfl <;> exact zC4 _ _
theorem zIW (x : Spn) : ∀ y ∈ spR x,Fz y:=fun y hy=>by
 simp only [spR,List.mem_cons,List.not_mem_nil,or_false] at hy
 rcases hy with rfl | rfl | rfl | rfl | rfl <;> exact zC4 _ _
theorem zSL {o : Op} {ra : AV} (h : Fz ra) : ∀ y ∈ opR o ra,Fz y:=fun y hy=>by
 simp only [opR,List.mem_cons,List.not_mem_nil,or_false] at hy
 rcases hy with rfl | rfl | rfl | rfl | rfl | rfl | rfl | rfl | rfl | rfl | rfl | rfl | rfl | rfl | rfl | rfl | rfl
 all_goals first | exact zC4 _ _ | exact h
theorem zSM {o : Rn} {ra : AV} (h : Fz ra) : ∀ y ∈ rnR o ra,Fz y:=fun y hy=>by
 simp only [rnR,List.mem_cons,List.not_mem_nil,or_false] at hy
 rcases hy with rfl | rfl | rfl | rfl | rfl | rfl | rfl | rfl | rfl | rfl
 all_goals first | exact zC4 _ _ | exact h
theorem zH3 : FzT isLb:=fun r x h=>by rw [h.1]; exact zBA x
theorem zG9 : FzT zO4:=fun r x h=>by rw [h.1]; exact zCW x
theorem zDH : FzT isOp:=fun r x h=>by
 obtain ⟨ra,rfl,hr,_⟩:=h
 exact zSL hr.fz
theorem fz_Rn : FzT isRn:=fun r x h=>by
 obtain ⟨ra,rfl,hr,_⟩:=h
 exact zSM hr.fz
theorem Lb.eta (x : Lb) : Lb.mk x.lv x.cats = x:=rfl
theorem Hd.eta (x : Hd) : Hd.mk x.lb x.num = x:=rfl
theorem Eid.eta (x : Eid) : Eid.mk x.hd x.c = x:=rfl
theorem Spn.eta (x : Spn) : Spn.mk x.f x.n = x:=rfl
theorem ETA : type_of% (And.intro @Lb.eta (And.intro @Hd.eta (And.intro @Eid.eta @Spn.eta))):=And.intro @Lb.eta (And.intro @Hd.eta (And.intro @Eid.eta @Spn.eta))
theorem zSW (a0 : Int) (a1 : Int) : PT.iss [.int .u8,.int .u32] [.int .u8 a0,.int .u32 a1]:=by
 simp only [PT.iss,PT.is]
 exact ⟨[.int .u8 a0],[.int .u32 a1],rfl,⟨_,rfl⟩,⟨[.int .u32 a1],[],rfl,⟨_,rfl⟩,rfl⟩⟩
def zRS (d : Option AV) (u v : AV) : Option AV:=match u,v with
 | .agg [.sc (.int .u8 a0),.sc (.int .u32 a1)],.agg [.sc (.int .u8 b0),.sc (.int .u32 b1)]=>some (BL (decide (a0 = b0) && decide (a1 = b1)))
 | _,_=>d
theorem pLbE {t : List AV} (i j : Nat) : zB8 Tryz.prog t (mkO (.binOp .eql 25 (.tmp i) (.tmp j) 25) 4) = zRS (zDP Tryz.prog t (mkO (.binOp .eql 25 (.tmp i) (.tmp j) 25) 4)) (zA7 t (.tmp i)) (zA7 t (.tmp j)):=by
 unfold zRS
 split
 ·rename_i a0 a1 b0 b1 h1 h2
  obtain ⟨r,hr,he⟩:=pEqS (P:=Tryz.prog) [.int .u8,.int .u32] false 25 25 4 i j (by kernel_rfl) (by decide) (by kernel_rfl) h1 h2 rfl rfl (zSW _ _) (zSW _ _)
  have e : r = (decide (a0 = b0) && decide (a1 = b1)):=by
   rw [Bool.eq_iff_iff,he]
   simp []
  rw [← e]
  exact hr
 ·rfl
theorem zAV (d : Option AV) (a0 a1 : Int) (b0 b1 : Int) : zRS d (.agg [.sc (.int .u8 a0),.sc (.int .u32 a1)]) (.agg [.sc (.int .u8 b0),.sc (.int .u32 b1)]) = some (BL (decide ((⟨a0,a1⟩ : Lb) = ⟨b0,b1⟩))):=by
 simp only [zRS]
 congr 4
 rw [Bool.eq_iff_iff]
 simp []
theorem zSX (a0 : Int) (a1 : Int) : PT.iss [.int .u8,.int .u32] [.int .u8 a0,.int .u32 a1]:=by
 simp only [PT.iss,PT.is]
 exact ⟨[.int .u8 a0],[.int .u32 a1],rfl,⟨_,rfl⟩,⟨[.int .u32 a1],[],rfl,⟨_,rfl⟩,rfl⟩⟩
def zRT (d : Option AV) (u v : AV) : Option AV:=match u,v with
 | .agg [.sc (.int .u8 a0),.sc (.int .u32 a1)],.agg [.sc (.int .u8 b0),.sc (.int .u32 b1)]=>some (BL (!(decide (a0 = b0) && decide (a1 = b1))))
 | _,_=>d
theorem pLbN {t : List AV} (i j : Nat) : zB8 Tryz.prog t (mkO (.binOp .neq 25 (.tmp i) (.tmp j) 25) 4) = zRT (zDP Tryz.prog t (mkO (.binOp .neq 25 (.tmp i) (.tmp j) 25) 4)) (zA7 t (.tmp i)) (zA7 t (.tmp j)):=by
 unfold zRT
 split
 ·rename_i a0 a1 b0 b1 h1 h2
  obtain ⟨r,hr,he⟩:=pEqS (P:=Tryz.prog) [.int .u8,.int .u32] true 25 25 4 i j (by kernel_rfl) (by decide) (by kernel_rfl) h1 h2 rfl rfl (zSX _ _) (zSX _ _)
  have e : r = (decide (a0 = b0) && decide (a1 = b1)):=by
   rw [Bool.eq_iff_iff,he]
   simp []
  rw [← e]
  exact hr
 ·rfl
theorem zD1 (d : Option AV) (a0 a1 : Int) (b0 b1 : Int) : zRT d (.agg [.sc (.int .u8 a0),.sc (.int .u32 a1)]) (.agg [.sc (.int .u8 b0),.sc (.int .u32 b1)]) = some (BL (!decide ((⟨a0,a1⟩ : Lb) = ⟨b0,b1⟩))):=by
 simp only [zRT]
 congr 4
 rw [Bool.eq_iff_iff]
 simp []
theorem zST (a0 : Int) (a1 : Int) (a2 : Int) : PT.iss [.st [.int .u8,.int .u32],.int .u8] [.int .u8 a0,.int .u32 a1,.int .u8 a2]:=by
 simp only [PT.iss,PT.is]
 exact ⟨[.int .u8 a0,.int .u32 a1],[.int .u8 a2],rfl,⟨[.int .u8 a0],[.int .u32 a1],rfl,⟨_,rfl⟩,⟨[.int .u32 a1],[],rfl,⟨_,rfl⟩,rfl⟩⟩,⟨[.int .u8 a2],[],rfl,⟨_,rfl⟩,rfl⟩⟩
def zRP (d : Option AV) (u v : AV) : Option AV:=match u,v with
 | .agg [.sc (.int .u8 a0),.sc (.int .u32 a1),.sc (.int .u8 a2)],.agg [.sc (.int .u8 b0),.sc (.int .u32 b1),.sc (.int .u8 b2)]=>some (BL (decide (a0 = b0) && decide (a1 = b1) && decide (a2 = b2)))
 | _,_=>d
theorem pHdE {t : List AV} (i j : Nat) : zB8 Tryz.prog t (mkO (.binOp .eql 27 (.tmp i) (.tmp j) 27) 4) = zRP (zDP Tryz.prog t (mkO (.binOp .eql 27 (.tmp i) (.tmp j) 27) 4)) (zA7 t (.tmp i)) (zA7 t (.tmp j)):=by
 unfold zRP
 split
 ·rename_i a0 a1 a2 b0 b1 b2 h1 h2
  obtain ⟨r,hr,he⟩:=pEqS (P:=Tryz.prog) [.st [.int .u8,.int .u32],.int .u8] false 27 27 4 i j (by kernel_rfl) (by decide) (by kernel_rfl) h1 h2 rfl rfl (zST _ _ _) (zST _ _ _)
  have e : r = (decide (a0 = b0) && decide (a1 = b1) && decide (a2 = b2)):=by
   rw [Bool.eq_iff_iff,he]
   simp [and_assoc]
  rw [← e]
  exact hr
 ·rfl
theorem zB7 (d : Option AV) (a0 a1 a2 : Int) (b0 b1 b2 : Int) : zRP d (.agg [.sc (.int .u8 a0),.sc (.int .u32 a1),.sc (.int .u8 a2)]) (.agg [.sc (.int .u8 b0),.sc (.int .u32 b1),.sc (.int .u8 b2)]) = some (BL (decide ((⟨⟨a0,a1⟩,a2⟩ : Hd) = ⟨⟨b0,b1⟩,b2⟩))):=by
 simp only [zRP]
 congr 4
 rw [Bool.eq_iff_iff]
 simp [and_assoc]
theorem zSU (a0 : Int) (a1 : Int) (a2 : Int) (a3 : Int) : PT.iss [.st [.st [.int .u8,.int .u32],.int .u8],.int .i64] [.int .u8 a0,.int .u32 a1,.int .u8 a2,.int .i64 a3]:=by
 simp only [PT.iss,PT.is]
 exact ⟨[.int .u8 a0,.int .u32 a1,.int .u8 a2],[.int .i64 a3],rfl,⟨[.int .u8 a0,.int .u32 a1],[.int .u8 a2],rfl,⟨[.int .u8 a0],[.int .u32 a1],rfl,⟨_,rfl⟩,⟨[.int .u32 a1],[],rfl,⟨_,rfl⟩,rfl⟩⟩,⟨[.int .u8 a2],[],rfl,⟨_,rfl⟩,rfl⟩⟩,⟨[.int .i64 a3],[],rfl,⟨_,rfl⟩,rfl⟩⟩
def zRQ (d : Option AV) (u v : AV) : Option AV:=match u,v with
 | .agg [.sc (.int .u8 a0),.sc (.int .u32 a1),.sc (.int .u8 a2),.sc (.int .i64 a3)],.agg [.sc (.int .u8 b0),.sc (.int .u32 b1),.sc (.int .u8 b2),.sc (.int .i64 b3)]=>some (BL (decide (a0 = b0) && decide (a1 = b1) && decide (a2 = b2) && decide (a3 = b3)))
 | _,_=>d
theorem pIdE {t : List AV} (i j : Nat) : zB8 Tryz.prog t (mkO (.binOp .eql 29 (.tmp i) (.tmp j) 29) 4) = zRQ (zDP Tryz.prog t (mkO (.binOp .eql 29 (.tmp i) (.tmp j) 29) 4)) (zA7 t (.tmp i)) (zA7 t (.tmp j)):=by
 unfold zRQ
 split
 ·rename_i a0 a1 a2 a3 b0 b1 b2 b3 h1 h2
  obtain ⟨r,hr,he⟩:=pEqS (P:=Tryz.prog) [.st [.st [.int .u8,.int .u32],.int .u8],.int .i64] false 29 29 4 i j (by kernel_rfl) (by decide) (by kernel_rfl) h1 h2 rfl rfl (zSU _ _ _ _) (zSU _ _ _ _)
  have e : r = (decide (a0 = b0) && decide (a1 = b1) && decide (a2 = b2) && decide (a3 = b3)):=by
   rw [Bool.eq_iff_iff,he]
   simp [and_assoc]
  rw [← e]
  exact hr
 ·rfl
theorem zB3 (d : Option AV) (a0 a1 a2 a3 : Int) (b0 b1 b2 b3 : Int) : zRQ d (.agg [.sc (.int .u8 a0),.sc (.int .u32 a1),.sc (.int .u8 a2),.sc (.int .i64 a3)]) (.agg [.sc (.int .u8 b0),.sc (.int .u32 b1),.sc (.int .u8 b2),.sc (.int .i64 b3)]) = some (BL (decide ((⟨⟨⟨a0,a1⟩,a2⟩,a3⟩ : Eid) = ⟨⟨⟨b0,b1⟩,b2⟩,b3⟩))):=by
 simp only [zRQ]
 congr 4
 rw [Bool.eq_iff_iff]
 simp [and_assoc]
theorem zSV (a0 : Int) (a1 : Int) (a2 : Int) (a3 : Int) : PT.iss [.st [.st [.int .u8,.int .u32],.int .u8],.int .i64] [.int .u8 a0,.int .u32 a1,.int .u8 a2,.int .i64 a3]:=by
 simp only [PT.iss,PT.is]
 exact ⟨[.int .u8 a0,.int .u32 a1,.int .u8 a2],[.int .i64 a3],rfl,⟨[.int .u8 a0,.int .u32 a1],[.int .u8 a2],rfl,⟨[.int .u8 a0],[.int .u32 a1],rfl,⟨_,rfl⟩,⟨[.int .u32 a1],[],rfl,⟨_,rfl⟩,rfl⟩⟩,⟨[.int .u8 a2],[],rfl,⟨_,rfl⟩,rfl⟩⟩,⟨[.int .i64 a3],[],rfl,⟨_,rfl⟩,rfl⟩⟩
def zRR (d : Option AV) (u v : AV) : Option AV:=match u,v with
 | .agg [.sc (.int .u8 a0),.sc (.int .u32 a1),.sc (.int .u8 a2),.sc (.int .i64 a3)],.agg [.sc (.int .u8 b0),.sc (.int .u32 b1),.sc (.int .u8 b2),.sc (.int .i64 b3)]=>some (BL (!(decide (a0 = b0) && decide (a1 = b1) && decide (a2 = b2) && decide (a3 = b3))))
 | _,_=>d
theorem pIdN {t : List AV} (i j : Nat) : zB8 Tryz.prog t (mkO (.binOp .neq 29 (.tmp i) (.tmp j) 29) 4) = zRR (zDP Tryz.prog t (mkO (.binOp .neq 29 (.tmp i) (.tmp j) 29) 4)) (zA7 t (.tmp i)) (zA7 t (.tmp j)):=by
 unfold zRR
 split
 ·rename_i a0 a1 a2 a3 b0 b1 b2 b3 h1 h2
  obtain ⟨r,hr,he⟩:=pEqS (P:=Tryz.prog) [.st [.st [.int .u8,.int .u32],.int .u8],.int .i64] true 29 29 4 i j (by kernel_rfl) (by decide) (by kernel_rfl) h1 h2 rfl rfl (zSV _ _ _ _) (zSV _ _ _ _)
  have e : r = (decide (a0 = b0) && decide (a1 = b1) && decide (a2 = b2) && decide (a3 = b3)):=by
   rw [Bool.eq_iff_iff,he]
   simp [and_assoc]
  rw [← e]
  exact hr
 ·rfl
theorem zCL (d : Option AV) (a0 a1 a2 a3 : Int) (b0 b1 b2 b3 : Int) : zRR d (.agg [.sc (.int .u8 a0),.sc (.int .u32 a1),.sc (.int .u8 a2),.sc (.int .i64 a3)]) (.agg [.sc (.int .u8 b0),.sc (.int .u32 b1),.sc (.int .u8 b2),.sc (.int .i64 b3)]) = some (BL (!decide ((⟨⟨⟨a0,a1⟩,a2⟩,a3⟩ : Eid) = ⟨⟨⟨b0,b1⟩,b2⟩,b3⟩))):=by
 simp only [zRR]
 congr 4
 rw [Bool.eq_iff_iff]
 simp [and_assoc]
theorem zSY (a0 : Int) (a1 : Int) (a2 : Int) (a3 : Int) (a4 : Int) : PT.iss [.st [.st [.st [.int .u8,.int .u32],.int .u8],.int .i64],.int .i64] [.int .u8 a0,.int .u32 a1,.int .u8 a2,.int .i64 a3,.int .i64 a4]:=by
 simp only [PT.iss,PT.is]
 exact ⟨[.int .u8 a0,.int .u32 a1,.int .u8 a2,.int .i64 a3],[.int .i64 a4],rfl,⟨[.int .u8 a0,.int .u32 a1,.int .u8 a2],[.int .i64 a3],rfl,⟨[.int .u8 a0,.int .u32 a1],[.int .u8 a2],rfl,⟨[.int .u8 a0],[.int .u32 a1],rfl,⟨_,rfl⟩,⟨[.int .u32 a1],[],rfl,⟨_,rfl⟩,rfl⟩⟩,⟨[.int .u8 a2],[],rfl,⟨_,rfl⟩,rfl⟩⟩,⟨[.int .i64 a3],[],rfl,⟨_,rfl⟩,rfl⟩⟩,⟨[.int .i64 a4],[],rfl,⟨_,rfl⟩,rfl⟩⟩
def zRU (d : Option AV) (u v : AV) : Option AV:=match u,v with
 | .agg [.sc (.int .u8 a0),.sc (.int .u32 a1),.sc (.int .u8 a2),.sc (.int .i64 a3),.sc (.int .i64 a4)],.agg [.sc (.int .u8 b0),.sc (.int .u32 b1),.sc (.int .u8 b2),.sc (.int .i64 b3),.sc (.int .i64 b4)]=>some (BL (decide (a0 = b0) && decide (a1 = b1) && decide (a2 = b2) && decide (a3 = b3) && decide (a4 = b4)))
 | _,_=>d
theorem pSpE {t : List AV} (i j : Nat) : zB8 Tryz.prog t (mkO (.binOp .eql 31 (.tmp i) (.tmp j) 31) 4) = zRU (zDP Tryz.prog t (mkO (.binOp .eql 31 (.tmp i) (.tmp j) 31) 4)) (zA7 t (.tmp i)) (zA7 t (.tmp j)):=by
 unfold zRU
 split
 ·rename_i a0 a1 a2 a3 a4 b0 b1 b2 b3 b4 h1 h2
  obtain ⟨r,hr,he⟩:=pEqS (P:=Tryz.prog) [.st [.st [.st [.int .u8,.int .u32],.int .u8],.int .i64],.int .i64] false 31 31 4 i j (by kernel_rfl) (by decide) (by kernel_rfl) h1 h2 rfl rfl (zSY _ _ _ _ _) (zSY _ _ _ _ _)
  have e : r = (decide (a0 = b0) && decide (a1 = b1) && decide (a2 = b2) && decide (a3 = b3) && decide (a4 = b4)):=by
   rw [Bool.eq_iff_iff,he]
   simp [and_assoc]
  rw [← e]
  exact hr
 ·rfl
theorem zEU (d : Option AV) (a0 a1 a2 a3 a4 : Int) (b0 b1 b2 b3 b4 : Int) : zRU d (.agg [.sc (.int .u8 a0),.sc (.int .u32 a1),.sc (.int .u8 a2),.sc (.int .i64 a3),.sc (.int .i64 a4)]) (.agg [.sc (.int .u8 b0),.sc (.int .u32 b1),.sc (.int .u8 b2),.sc (.int .i64 b3),.sc (.int .i64 b4)]) = some (BL (decide ((⟨⟨⟨⟨a0,a1⟩,a2⟩,a3⟩,a4⟩ : Spn) = ⟨⟨⟨⟨b0,b1⟩,b2⟩,b3⟩,b4⟩))):=by
 simp only [zRU]
 congr 4
 rw [Bool.eq_iff_iff]
 simp [and_assoc]
end Go.Proofs.YtkfdflajadkfkaaGreat
namespace Go.Proofs.YtkfdflajadkfkaaGreat
open Go Go.Ax
variable {fuel : Nat} {M : Mem} {Q : AV → Mem → Prop} {d : Nat}
def zMK (a b : Int) : Int:=IntKind.u32.wrap ((BitVec.ofInt 32 a &&& ~~~ BitVec.ofInt 32 b).toNat : Nat)
def Lb.leq (a b : Lb) : Bool:=decide (a.lv ≤ b.lv) && decide (zMK a.cats b.cats = 0)
def Lb.may (a : Lb) : Bool:=!decide (15 < a.lv)
def Hd.may (h : Hd) : Bool:=h.lb.may && decide (h.num < 8)
def Eid.may (x : Eid) : Bool:=x.hd.may && decide (1 ≤ x.c) && decide (x.c ≤ 1099511627776)
def Spn.may (s : Spn) : Bool:=s.f.may && decide (1 ≤ s.n) && decide (s.n ≤ 64) && decide (s.f.c + s.n ≤ 1099511627777)
def err (b : Bool) : Int:=if b then 0 else 8
theorem zB5 : err true = 0:=rfl
theorem zBG : err false = 8:=rfl
theorem zPR (P : Program) (ty : TypeId) (a b : Int) : binV P .andNot ty .u32 a .u32 b = some (.int .u32 (zMK a b)):=by
 simp only [binV,binOp,ne_eq,not_true_eq_false,if_false,Op.intBits]
 rfl
theorem zFA (a b : Lb) (M : Mem) : zAC Tryz.prog (fsT tbl) fuel (d + 1) (.fn 28) [lbA a,lbA b] M = some (BL (a.leq b),M):=by
 apply zB6
 refine zAH tf28 rfl (by simp (maxSteps:=2000000) (disch:=first | omega | assumption | (simp only [DS,Nat.reduceAdd, *]; done) | (simp only [DZ]; omega)) only [RUN,icyL,Nat.reduceSub]) (by simp [a28]) fun b' ht hx=>?_
 have h0:=hx 0 _ rfl
 have h1:=hx 1 _ rfl
 clear hx
 simp only [a28,c28,zzm] at ht ⊢
 unfold Lb.leq
 by_cases q : a.lv ≤ b.lv
 ·have q1 : decide (a.lv ≤ b.lv) = true:=decide_eq_true q
  simp (maxSteps:=2000000) (disch:=first | omega | assumption | (simp only [DS,Nat.reduceAdd, *]; done) | (simp only [DZ]; omega)) only [RUN,RU,zA2,zA1,zA0,zA5,frzL,reduceIte,Nat.reduceEqDiff,Nat.reduceAdd,h0,h1,q1,zPR]
 ·have q1 : decide (a.lv ≤ b.lv) = false:=decide_eq_false q
  simp (maxSteps:=2000000) (disch:=first | omega | assumption | (simp only [DS,Nat.reduceAdd, *]; done) | (simp only [DZ]; omega)) only [RUN,RU,zA2,zA1,zA0,zA5,frzL,reduceIte,Nat.reduceEqDiff,Nat.reduceAdd,h0,h1,q1,Bool.false_and]
theorem zCD (a : Lb) (M : Mem) : zAC Tryz.prog (fsT tbl) fuel (d + 1) (.fn 18) [lbA a] M = some (I64 (err a.may),M):=by
 apply zB6
 refine zAH tf18 rfl (by simp (maxSteps:=2000000) (disch:=first | omega | assumption | (simp only [DS,Nat.reduceAdd, *]; done) | (simp only [DZ]; omega)) only [RUN,icyL,Nat.reduceSub]) (by simp [a18]) fun b' ht hx=>?_
 have h0:=hx 0 _ rfl
 clear hx
 simp only [a18,c18] at ht ⊢
 unfold Lb.may
 cases q : decide (15 < a.lv) <;> simp (maxSteps:=2000000) (disch:=first | omega | assumption | (simp only [DS,Nat.reduceAdd, *]; done) | (simp only [DZ]; omega)) only [RUN,RU,zA2,zA1,zA0,zA5,frzL,reduceIte,Nat.reduceEqDiff,h0,q,zB5,zBG]
theorem zGU (b : Bool) (M : Mem) : zAC Tryz.prog (fsT tbl) fuel (d + 1) (.fn 52) [BL b] M = some (I64 (err b),M):=by
 apply zB6
 refine zAH tf52 rfl (by simp (maxSteps:=2000000) (disch:=first | omega | assumption | (simp only [DS,Nat.reduceAdd, *]; done) | (simp only [DZ]; omega)) only [RUN,icyL]) (by simp [a52]) fun b' ht hx=>?_
 have h0:=hx 0 _ rfl
 clear hx
 simp only [a52,c52,zzm] at ht ⊢
 cases b <;> simp (maxSteps:=2000000) (disch:=first | omega | assumption | (simp only [DS,Nat.reduceAdd, *]; done) | (simp only [DZ]; omega)) only [RUN,RU,zA2,zA1,zA0,zA5,frzL,reduceIte,Nat.reduceEqDiff,h0,zB5,zBG]
theorem zG4 (h : Hd) (M : Mem) : zAC Tryz.prog (fsT tbl) fuel (d + 2) (.fn 34) [hdA h] M = some (I64 (err h.may),M):=by
 have hl:=fun M=>@zCD fuel d h.lb M
 have hr:=fun b M=>@zGU fuel d b M
 apply zB6
 refine zAH tf34 rfl (by simp (maxSteps:=2000000) (disch:=first | omega | assumption | (simp only [DS,Nat.reduceAdd, *]; done) | (simp only [DZ]; omega)) only [RUN,icyL,Nat.reduceSub]) (by simp [a34]) fun b' ht hx=>?_
 have h0:=hx 0 _ rfl
 clear hx
 simp only [a34,c34,zzm] at ht ⊢
 unfold Hd.may
 cases hm : h.lb.may <;> rw [hm] at hl
 ·simp (maxSteps:=2000000) (disch:=first | omega | assumption | (simp only [DS,Nat.reduceAdd, *]; done) | (simp only [DZ]; omega)) only [RUN,RU,zA2,zA1,zA0,zA5,frzL,slot,reduceIte,Nat.reduceEqDiff,Int.reduceEq,h0,hl,hr,zBG,Bool.false_and]
 ·simp (maxSteps:=2000000) (disch:=first | omega | assumption | (simp only [DS,Nat.reduceAdd, *]; done) | (simp only [DZ]; omega)) only [RUN,RU,zA2,zA1,zA0,zA5,frzL,slot,reduceIte,Nat.reduceEqDiff,h0,hl,hr,zB5]
theorem zHX (x : Eid) (M : Mem) : zAC Tryz.prog (fsT tbl) fuel (d + 3) (.fn 53) [idA x] M = some (I64 (err x.may),M):=by
 have hl:=fun M=>@zG4 fuel d x.hd M
 have hr:=fun b M=>@zGU fuel (d + 1) b M
 apply zB6
 refine zAH tf53 rfl (by simp (maxSteps:=2000000) (disch:=first | omega | assumption | (simp only [DS,Nat.reduceAdd, *]; done) | (simp only [DZ]; omega)) only [RUN,icyL,Nat.reduceSub]) (by simp [a53]) fun b' ht hx=>?_
 have h0:=hx 0 _ rfl
 clear hx
 simp only [a53,c53,zzm] at ht ⊢
 unfold Eid.may
 cases hm : x.hd.may <;> rw [hm] at hl
 ·simp (maxSteps:=2000000) (disch:=first | omega | assumption | (simp only [DS,Nat.reduceAdd, *]; done) | (simp only [DZ]; omega)) only [RUN,RU,zA2,zA1,zA0,zA5,frzL,slot,reduceIte,Nat.reduceEqDiff,Int.reduceEq,h0,hl,hr,zBG,Bool.false_and]
 ·cases q : decide (1 ≤ x.c)
  ·simp (maxSteps:=2000000) (disch:=first | omega | assumption | (simp only [DS,Nat.reduceAdd, *]; done) | (simp only [DZ]; omega)) only [RUN,RU,zA2,zA1,zA0,zA5,frzL,slot,reduceIte,Nat.reduceEqDiff,h0,hl,hr,zB5,q,Bool.false_and]
  ·simp (maxSteps:=2000000) (disch:=first | omega | assumption | (simp only [DS,Nat.reduceAdd, *]; done) | (simp only [DZ]; omega)) only [RUN,RU,zA2,zA1,zA0,zA5,frzL,slot,reduceIte,Nat.reduceEqDiff,h0,hl,hr,zB5,q]
theorem zEM (s : Spn) (M : Mem) : zAC Tryz.prog (fsT tbl) fuel (d + 4) (.fn 35) [spA s] M = some (I64 (err s.may),M):=by
 have hl:=fun M=>@zHX fuel d s.f M
 have hr:=fun b M=>@zGU fuel (d + 2) b M
 apply zB6
 refine zAH tf35 rfl (by simp (maxSteps:=2000000) (disch:=first | omega | assumption | (simp only [DS,Nat.reduceAdd, *]; done) | (simp only [DZ]; omega)) only [RUN,icyL,Nat.reduceSub]) (by simp [a35]) fun b' ht hx=>?_
 have h0:=hx 0 _ rfl
 clear hx
 simp only [a35,c35,zzm] at ht ⊢
 unfold Spn.may
 cases hm : s.f.may <;> rw [hm] at hl
 ·simp (maxSteps:=2000000) (disch:=first | omega | assumption | (simp only [DS,Nat.reduceAdd, *]; done) | (simp only [DZ]; omega)) only [RUN,RU,zA2,zA1,zA0,zA5,frzL,slot,reduceIte,Nat.reduceEqDiff,Int.reduceEq,h0,hl,hr,zBG,Bool.false_and]
 ·cases q1 : decide (1 ≤ s.n)
  ·simp (maxSteps:=2000000) (disch:=first | omega | assumption | (simp only [DS,Nat.reduceAdd, *]; done) | (simp only [DZ]; omega)) only [RUN,RU,zA2,zA1,zA0,zA5,frzL,slot,reduceIte,Nat.reduceEqDiff,h0,hl,hr,zB5,q1,Bool.false_and]
  ·cases q2 : decide (s.n ≤ 64)
   ·simp (maxSteps:=2000000) (disch:=first | omega | assumption | (simp only [DS,Nat.reduceAdd, *]; done) | (simp only [DZ]; omega)) only [RUN,RU,zA2,zA1,zA0,zA5,frzL,slot,reduceIte,Nat.reduceEqDiff,h0,hl,hr,zB5,q1,q2,Bool.false_and]
   ·have w : IntKind.i64.wrap (IntKind.i64.wrap (s.f.c + s.n) - 1) = s.f.c + s.n - 1:=by
     unfold Eid.may at hm
     simp only [Bool.and_eq_true,decide_eq_true_eq] at hm q1 q2
     rw [wrap_i64 (n:=s.f.c + s.n) (by omega) (by omega),wrap_i64 (by omega) (by omega)]
    have q3 : decide (s.f.c + s.n - 1 ≤ 1099511627776) = decide (s.f.c + s.n ≤ 1099511627777):=by
     rw [Bool.eq_iff_iff,decide_eq_true_iff,decide_eq_true_iff]; omega
    simp (maxSteps:=2000000) (disch:=first | omega | assumption | (simp only [DS,Nat.reduceAdd, *]; done) | (simp only [DZ]; omega)) only [RUN,RU,zA2,zA1,zA0,zA5,frzL,slot,reduceIte,Nat.reduceEqDiff,h0,hl,hr,zB5,q1,q2,w,q3]
end Go.Proofs.YtkfdflajadkfkaaGreat
namespace Go.Proofs.YtkfdflajadkfkaaGreat
open Go Go.Ax
variable {fuel : Nat} {M : Mem} {Q : AV → Mem → Prop} {d : Nat}
def zH0 (x : Int) : Bool:=(decide (0 ≤ x) && decide (x < 55296)) || (decide (57343 < x) && decide (x ≤ 1114111))
def okR (x : Int) : Bool:=decide (x = -1) || zH0 x
def chkR (l : List Int) : Int:=if 64 < l.length then 4 else err (l.all okR)
theorem zPH (x : Int) (M : Mem) : zAC Tryz.prog (fsT tbl) fuel (d + 1) (.fn 82) [I32 x] M = some (BL (zH0 x),M):=by
 apply zB6
 refine zAH tf82 rfl (by simp (maxSteps:=2000000) (disch:=first | omega | assumption | (simp only [DS,Nat.reduceAdd, *]; done) | (simp only [DZ]; omega)) only [RUN,icyL]) (by simp [a82]) fun b' ht hx=>?_
 have h0:=hx 0 _ rfl
 clear hx
 simp only [a82,c82,zzm,zzg] at ht ⊢
 unfold zH0
 cases q1 : decide (0 ≤ x) <;> cases q2 : decide (x < 55296) <;> cases q3 : decide (57343 < x) <;> cases q4 : decide (x ≤ 1114111)
 all_goals simp (maxSteps:=2000000) (disch:=first | omega | assumption | (simp only [DS,Nat.reduceAdd, *]; done) | (simp only [DZ]; omega)) only [RUN,RU,zA2,zA1,zA0,zA5,frzL,reduceIte,Nat.reduceEqDiff,h0,q1,q2,q3,q4]
theorem zPN (x : Int) (M : Mem) : zAC Tryz.prog (fsT tbl) fuel (d + 2) (.fn 81) [I32 x] M = some (BL (!okR x),M):=by
 have hv:=fun M=>@zPH fuel d x M
 apply zB6
 refine zAH tf81 rfl (by simp (maxSteps:=2000000) (disch:=first | omega | assumption | (simp only [DS,Nat.reduceAdd, *]; done) | (simp only [DZ]; omega)) only [RUN,icyL]) (by simp [a81]) fun b' ht hx=>?_
 have h0:=hx 0 _ rfl
 clear hx
 simp only [a81,c81,zzm,zzg] at ht ⊢
 unfold okR
 cases q : decide (x = -1) <;> simp (maxSteps:=2000000) (disch:=first | omega | assumption | (simp only [DS,Nat.reduceAdd, *]; done) | (simp only [DZ]; omega)) only [RUN,RU,zA2,zA1,zA0,zA5,frzL,reduceIte,Nat.reduceEqDiff,h0,q,hv]
theorem zTC {α : Type} (p : α → Bool) (l : List α) : (l.any fun x => !p x) = !l.all p:=by
 induction l with
 | nil=>rfl
 | cons x l ih=>simp only [List.any_cons,List.all_cons,ih,Bool.not_and]
theorem zHO {a : AV} {l : List Int} (hS : Sl 1 zAS a l) (hf : 100 < fuel) (M : Mem) : zAC Tryz.prog (fsT tbl) fuel (d + 5) (.fn 58) [a] M = some (I64 (chkR l),M):=by
 have ll:=hS.len
 apply zB6
 refine zAH tf58 rfl (by simp (maxSteps:=2000000) (disch:=first | omega | assumption | (simp only [DS,Nat.reduceAdd, *]; done) | (simp only [DZ]; omega)) only [icyL,hS.fz.icy]) (by simp [a58]) fun b' ht hx=>?_
 have h0:=hx 0 _ rfl
 clear hx
 simp only [a58,c58,zzm] at ht ⊢
 unfold chkR
 by_cases q : 64 < l.length
 ·have q1 : decide ((64 : Int) < l.length) = true:=decide_eq_true (by omega)
  simp (maxSteps:=2000000) (disch:=first | omega | assumption | (simp only [DS,Nat.reduceAdd, *]; done) | (simp only [DZ]; omega)) only [RUN,RU,zA2,zA1,zA0,zA5,frzL,reduceIte,Nat.reduceEqDiff,h0,ll,q1,q,if_true]
 ·have q1 : decide ((64 : Int) < l.length) = false:=decide_eq_false (by omega)
  have hh:=fun M=>zWL (P:=Tryz.prog) (fs:=fsT tbl) (fuel:=fuel) (l:=l) (ag:=false) (n:=d + 2) tf83 tf100 (fun _=>rfl) zE1 hS (by omega) (by omega) (zWB 81) (p:=fun x => !okR x) (fun r x hr _ M=>by
   obtain rfl:=hr
   exact @zPN fuel d x M) M
  rw [zTC] at hh
  cases hb : l.all okR <;> rw [hb] at hh <;> simp (maxSteps:=2000000) (disch:=first | omega | assumption | (simp only [DS,Nat.reduceAdd, *]; done) | (simp only [DZ]; omega)) only [RUN,RU,zA2,zA1,zA0,zA5,frzL,reduceIte,Nat.reduceEqDiff,h0,ll,q1,q,hh,if_false,zB5,zBG]
theorem zP1 {a : AV} {l : List Int} (hS : Sl 1 zAS a l) (hl : l.length ≤ 1000000000) (wf : Wf M)
  (k : ∀ a' M',Wf M' → M.size ≤ M'.size → (∀ j,j < M.size → M'.get j = M.get j) → SlM M' 1 zAS a' l → (∀ id,rowOf a' = some id → M.size ≤ id) → M'.wm = M.wm → M'.dirty = M.dirty → Q a' M') : W3 (zAC Tryz.prog (fsT tbl) fuel (d + 1) (.fn 48) [a] M) Q :=
 zTL zE1.cel tf48 Tryz.underlying32 hS (by omega) (by omega) wf k
end Go.Proofs.YtkfdflajadkfkaaGreat
namespace Go.Proofs.YtkfdflajadkfkaaGreat
open Go Go.Ax
variable {fuel : Nat} {M : Mem} {Q : AV → Mem → Prop} {d : Nat}
theorem zOA (M : Mem) : zAC Tryz.prog (fsT tbl) fuel (d + 1) (.fn 56) [] M = some (lbA Lb.z,M):=by
 apply zB6
 refine zAH tf56 rfl (by simp (maxSteps:=2000000) (disch:=first | omega | assumption | (simp only [DS,Nat.reduceAdd, *]; done) | (simp only [DZ]; omega)) only [icyL]) (by simp [a56]) fun b' ht hx=>?_
 clear hx
 simp only [a56,c56,zz3] at ht ⊢
 simp (maxSteps:=2000000) (disch:=first | omega | assumption | (simp only [DS,Nat.reduceAdd, *]; done) | (simp only [DZ]; omega)) only [RUN,RU,zA2,zA1,zA0,zA5,frzL,slot,lay,zAJ,reduceIte,Nat.reduceEqDiff,Nat.reduceAdd,Nat.reduceSub]
theorem zBW {o : Op} {ra : AV} (h : Fz ra) (M : Mem) : icy 12 M (.agg (opR o ra)) = some (.agg (opR o ra),M):=zAK (zSL h) (by omega) M
def Op.bare (o : Op) : Bool:=decide (o.af = Eid.z) && decide ((o.rs.length : Int) = 0)
def Op.part (o : Op) : Bool :=
 if o.kd = 1 then decide (o.to = Lb.z) && (decide (o.af = Eid.z) || o.af.may) && decide (o.sp.f.hd = o.hd) && decide ((o.rs.length : Int) = o.sp.n) && decide (chkR o.rs = 0)
 else if o.kd = 2 then decide (o.to = Lb.z) && o.bare
 else o.bare && o.to.may
def Op.may (o : Op) : Bool:=!decide (o.kd = 0) && !decide (4 ≤ o.kd) && o.hd.may && !decide (o.sr < 1) && !decide (16777216 ≤ o.sr) && o.sp.may && o.part
theorem zSG {o : Op} {ra : AV} (hS : Sl 1 zAS ra o.rs) (wf : Wf M) (k : ∀ N,Kept M N → Q (BL o.bare) N) : W3 (zAC Tryz.prog (fsT tbl) fuel (d + 1) (.fn 54) [.agg (opR o ra)] M) Q:=by
 have pIdE:=@pIdE
 have ll:=hS.len
 unfold Op.bare at k
 refine zAY tf54 rfl (by simp [a54]) fun b' ht hx=>?_
 have h0:=hx 0 _ rfl
 clear hx
 simp only [a54,c54,zz2,zzm] at ht ⊢
 cases q : decide (o.af = Eid.z) <;> rw [q] at k <;> simp only [Bool.false_and,Bool.true_and] at k <;> simp (maxSteps:=2000000) (disch:=first | omega | assumption | (simp only [DS,Nat.reduceAdd, *]; done) | (simp only [DZ]; omega)) only [RUN,RU,zA2,zA1,zA0,zA5,slot,zAJ,reduceIte,Nat.reduceEqDiff,h0,↓pIdE,zB3,ETA,q,ll]
 all_goals exact k _ ((Kept.refl wf).add _)
theorem zLF {o : Op} {ra : AV} (hS : Sl 1 zAS ra o.rs) (wf : Wf M) (k : ∀ N,Kept M N → Q (BL (decide (o.to = Lb.z))) N) : W3 (zAC Tryz.prog (fsT tbl) fuel (d + 2) (.fn 55) [.agg (opR o ra)] M) Q:=by
 have pLbE:=@pLbE
 have hl:=fun M=>@zOA fuel d M
 refine zAY tf55 rfl (by simp [a55]) fun b' ht hx=>?_
 have h0:=hx 0 _ rfl
 clear hx
 simp only [a55,c55,zzm] at ht ⊢
 simp (maxSteps:=2000000) (disch:=first | omega | assumption | (simp only [DS,Nat.reduceAdd, *]; done) | (simp only [DZ]; omega)) only [RUN,RU,zA2,zA1,zA0,zA5,slot,reduceIte,Nat.reduceEqDiff,Nat.reduceBEq,Nat.reduceAdd,h0,↓pLbE,zAV,ETA,hl]
 exact k _ ((Kept.refl wf).add _)
end Go.Proofs.YtkfdflajadkfkaaGreat
namespace Go.Proofs.YtkfdflajadkfkaaGreat
open Go Go.Ax
variable {fuel : Nat} {M : Mem} {Q : AV → Mem → Prop} {d : Nat}
def Spn.at (s : Spn) (n : Int) : Eid:=⟨s.f.hd,s.f.c + n⟩
theorem zLK (x : Eid) (n : Int) (M : Mem) : zAC Tryz.prog (fsT tbl) fuel (d + 1) (.fn 99) [idA x,I64 n] M = some (idA ⟨x.hd,IntKind.i64.wrap (x.c + n)⟩,M):=by
 apply zB6
 refine zAH tf99 rfl (by simp (maxSteps:=2000000) (disch:=first | omega | assumption | (simp only [DS,Nat.reduceAdd, *]; done) | (simp only [DZ]; omega)) only [RUN,icyL,Nat.reduceSub]) (by simp [a99]) fun b' ht hx=>?_
 have h0:=hx 0 _ rfl
 have h1:=hx 1 _ rfl
 clear hx
 simp only [a99,c99,zz2] at ht ⊢
 simp (maxSteps:=2000000) (disch:=first | omega | assumption | (simp only [DS,Nat.reduceAdd, *]; done) | (simp only [DZ]; omega)) only [RUN,RU,zA2,zA1,zA0,zA5,frzL,slot,lay,reduceIte,Nat.reduceEqDiff,Nat.reduceAdd,Nat.reduceSub,h0,h1]
def Spn.has (s : Spn) (x : Eid) : Option Int:=if s.may = true ∧ x.hd = s.f.hd ∧ s.f.c ≤ x.c ∧ x.c < s.f.c + s.n then some (x.c - s.f.c) else none
theorem Spn.may_le {s : Spn} (h : s.may = true) : 1 ≤ s.f.c ∧ s.f.c ≤ 1099511627776 ∧ 1 ≤ s.n ∧ s.n ≤ 64 ∧ s.f.c + s.n ≤ 1099511627777:=by
 unfold Spn.may Eid.may at h
 simp only [Bool.and_eq_true,decide_eq_true_eq] at h
 omega
theorem zU8 (s : Spn) (x : Eid) (M : Mem) : zAC Tryz.prog (fsT tbl) fuel (d + 5) (.fn 103) [spA s,idA x] M = some (.tup [I64 ((s.has x).getD 0),BL (s.has x).isSome],M):=by
 have hc:=fun M=>@zEM fuel d s M
 have hn:=fun x n M=>@zLK fuel (d + 3) x n M
 have pIdN:=@pIdN
 apply zB6
 refine zAH tf103 rfl (by simp (maxSteps:=2000000) (disch:=first | omega | assumption | (simp only [DS,Nat.reduceAdd, *]; done) | (simp only [DZ]; omega)) only [RUN,icyL,Nat.reduceSub]) (by simp [a103]) fun b' ht hx=>?_
 have h0:=hx 0 _ rfl
 have h1:=hx 1 _ rfl
 clear hx
 simp only [a103,c103,zzm,zzg] at ht ⊢
 cases hm : s.may with
 | false =>
  rw [hm] at hc
  have e : s.has x = none:=by unfold Spn.has; rw [if_neg (by simp [hm])]
  simp (maxSteps:=2000000) (disch:=first | omega | assumption | (simp only [DS,Nat.reduceAdd, *]; done) | (simp only [DZ]; omega)) only [RUN,RU,zA2,zA1,zA0,zA5,frzL,slot,reduceIte,Nat.reduceEqDiff,Nat.reduceAdd,Int.reduceEq,h0,h1,hc,zBG,e,Option.getD_none,Option.isSome_none]
 | true =>
  rw [hm] at hc
  have hb:=Spn.may_le hm
  generalize hw : IntKind.i64.wrap (x.c - s.f.c) = n at *
  by_cases q1 : n < 0
  ·have e : s.has x = none:=by
    unfold Spn.has
    rw [if_neg]
    rintro ⟨_,_,h1,h2⟩
    rw [wrap_i64 (by omega) (by omega)] at hw
    omega
   have q : decide (n < 0) = true:=decide_eq_true q1
   simp (maxSteps:=2000000) (disch:=first | omega | assumption | (simp only [DS,Nat.reduceAdd, *]; done) | (simp only [DZ]; omega)) only [RUN,RU,zA2,zA1,zA0,zA5,frzL,slot,reduceIte,Nat.reduceEqDiff,Nat.reduceAdd,h0,h1,hc,zB5,hw,q,e,Option.getD_none,Option.isSome_none]
  ·by_cases q2 : s.n ≤ n
   ·have e : s.has x = none:=by
     unfold Spn.has
     rw [if_neg]
     rintro ⟨_,_,h1,h2⟩
     rw [wrap_i64 (by omega) (by omega)] at hw
     omega
    have q : decide (n < 0) = false:=decide_eq_false q1
    have q' : decide (s.n ≤ n) = true:=decide_eq_true q2
    simp (maxSteps:=2000000) (disch:=first | omega | assumption | (simp only [DS,Nat.reduceAdd, *]; done) | (simp only [DZ]; omega)) only [RUN,RU,zA2,zA1,zA0,zA5,frzL,slot,reduceIte,Nat.reduceEqDiff,Nat.reduceBEq,Nat.reduceAdd,h0,h1,hc,zB5,hw,q,q',e,Option.getD_none,Option.isSome_none]
   ·have q : decide (n < 0) = false:=decide_eq_false q1
    have q' : decide (s.n ≤ n) = false:=decide_eq_false q2
    have w2 : IntKind.i64.wrap (s.f.c + n) = s.f.c + n:=wrap_i64 (by omega) (by omega)
    by_cases q3 : x = ⟨s.f.hd,s.f.c + n⟩
    ·have e : s.has x = some n:=by
      unfold Spn.has
      rw [if_pos ⟨hm,by rw [q3],by rw [q3]; show s.f.c ≤ s.f.c + n; omega,by rw [q3]; show s.f.c + n < _; omega⟩,q3]
      congr 1
      show s.f.c + n - s.f.c = n
      omega
     have q4 : decide (x = ⟨s.f.hd,s.f.c + n⟩) = true:=decide_eq_true q3
     simp (maxSteps:=2000000) (disch:=first | omega | assumption | (simp only [DS,Nat.reduceAdd, *]; done) | (simp only [DZ]; omega)) only [RUN,RU,zA2,zA1,zA0,zA5,frzL,slot,reduceIte,Nat.reduceEqDiff,Nat.reduceBEq,Nat.reduceAdd,h0,h1,hc,zB5,hw,q,q',hn,w2,↓pIdN,zCL,ETA,q4,e,Option.getD_some,Option.isSome_some]
    ·have e : s.has x = none:=by
      unfold Spn.has
      rw [if_neg]
      rintro ⟨_,h0,h1,h2⟩
      rw [wrap_i64 (by omega) (by omega)] at hw
      apply q3
      obtain ⟨xh,xc⟩:=x
      simp only at h0 hw ⊢
      rw [h0,← hw]
      congr 1
      omega
     have q4 : decide (x = ⟨s.f.hd,s.f.c + n⟩) = false:=decide_eq_false q3
     simp (maxSteps:=2000000) (disch:=first | omega | assumption | (simp only [DS,Nat.reduceAdd, *]; done) | (simp only [DZ]; omega)) only [RUN,RU,zA2,zA1,zA0,zA5,frzL,slot,reduceIte,Nat.reduceEqDiff,Nat.reduceBEq,Nat.reduceAdd,h0,h1,hc,zB5,hw,q,q',hn,w2,↓pIdN,zCL,ETA,q4,e,Option.getD_none,Option.isSome_none]
theorem zSR (s : Spn) (n : Int) (M : Mem) : zAC Tryz.prog (fsT tbl) fuel (d + 5) (.fn 80) [spA s,I64 n] M = some (if s.may then (if n < 0 ∨ s.n ≤ n then .tup [idA Eid.z,I64 2] else .tup [idA (s.at n),I64 0]) else .tup [idA Eid.z,I64 8],M):=by
 have hc:=fun M=>@zEM fuel d s M
 have hn:=fun x n M=>@zLK fuel (d + 3) x n M
 apply zB6
 refine zAH tf80 rfl (by simp (maxSteps:=2000000) (disch:=first | omega | assumption | (simp only [DS,Nat.reduceAdd, *]; done) | (simp only [DZ]; omega)) only [RUN,icyL,Nat.reduceSub]) (by simp [a80]) fun b' ht hx=>?_
 have h0:=hx 0 _ rfl
 have h1:=hx 1 _ rfl
 clear hx
 simp only [a80,c80,zz2,zzm] at ht ⊢
 cases hm : s.may with
 | false =>
  rw [hm] at hc
  simp (maxSteps:=2000000) (disch:=first | omega | assumption | (simp only [DS,Nat.reduceAdd, *]; done) | (simp only [DZ]; omega)) only [RUN,RU,zA2,zA1,zA0,zA5,frzL,slot,lay,zAJ,reduceIte,Nat.reduceEqDiff,Nat.reduceAdd,Nat.reduceSub,Int.reduceEq,h0,hc,zBG,Bool.false_eq_true,if_false]
 | true =>
  rw [hm] at hc
  have hb:=Spn.may_le hm
  by_cases q1 : n < 0
  ·have q : decide (n < 0) = true:=decide_eq_true q1
   simp (maxSteps:=2000000) (disch:=first | omega | assumption | (simp only [DS,Nat.reduceAdd, *]; done) | (simp only [DZ]; omega)) only [RUN,RU,zA2,zA1,zA0,zA5,frzL,slot,lay,zAJ,reduceIte,Nat.reduceEqDiff,Nat.reduceAdd,Nat.reduceSub,h0,h1,hc,zB5,q1,true_or,if_true]
  ·have q : decide (n < 0) = false:=decide_eq_false q1
   by_cases q2 : s.n ≤ n
   ·have q' : decide (s.n ≤ n) = true:=decide_eq_true q2
    simp (maxSteps:=2000000) (disch:=first | omega | assumption | (simp only [DS,Nat.reduceAdd, *]; done) | (simp only [DZ]; omega)) only [RUN,RU,zA2,zA1,zA0,zA5,frzL,slot,lay,zAJ,reduceIte,Nat.reduceEqDiff,Nat.reduceAdd,Nat.reduceSub,h0,h1,hc,zB5,q1,q2,or_true,if_true]
   ·have q' : decide (s.n ≤ n) = false:=decide_eq_false q2
    have w2 : IntKind.i64.wrap (s.f.c + n) = s.f.c + n:=wrap_i64 (by omega) (by omega)
    unfold Spn.at
    simp (maxSteps:=2000000) (disch:=first | omega | assumption | (simp only [DS,Nat.reduceAdd, *]; done) | (simp only [DZ]; omega)) only [RUN,RU,zA2,zA1,zA0,zA5,frzL,slot,lay,Nat.reduceEqDiff,Nat.reduceAdd,Nat.reduceSub,h0,h1,hc,zB5,q1,q2,or_self,if_true,if_false,hn,w2]
end Go.Proofs.YtkfdflajadkfkaaGreat
namespace Go.Proofs.YtkfdflajadkfkaaGreat
open Go Go.Ax
variable {fuel : Nat} {M : Mem} {Q : AV → Mem → Prop} {d : Nat}
def bitI (c : Int) (i : Nat) : Bool:=decide ((c.toNat / 2 ^ i) % 2 = 1)
theorem zO9 {a b : Int} (ha : 0 ≤ a ∧ a < 4294967296) (hb : 0 ≤ b ∧ b < 4294967296) : zMK a b = 0 ↔ ∀ i,i < 32 → bitI a i = true → bitI b i = true:=by
 obtain ⟨n,rfl⟩ : ∃ n : Nat,a = n:=⟨a.toNat,by omega⟩
 obtain ⟨m,rfl⟩ : ∃ m : Nat,b = m:=⟨b.toNat,by omega⟩
 have e1 : ∀ (n i : Nat),i < 32 → bitI (n : Int) i = (BitVec.ofInt 32 (n : Int)).getLsbD i:=fun n i hi=>by
  rw [BitVec.ofInt_natCast,BitVec.getLsbD_ofNat,decide_eq_true hi,Bool.true_and,Nat.testBit_eq_decide_div_mod_eq]
  rfl
 have e2 : zMK n m = ((BitVec.ofInt 32 (n : Int) &&& ~~~ BitVec.ofInt 32 (m : Int)).toNat : Int):=by
  have:=(BitVec.ofInt 32 (n : Int) &&& ~~~ BitVec.ofInt 32 (m : Int)).isLt
  unfold zMK
  generalize (BitVec.ofInt 32 (n : Int) &&& ~~~ BitVec.ofInt 32 (m : Int)).toNat = z at *
  simp [IntKind.wrap,IntKind.bits,IntKind.signed]
  omega
 rw [e2]
 have e3 : ((BitVec.ofInt 32 (n : Int) &&& ~~~ BitVec.ofInt 32 (m : Int)).toNat : Int) = 0 ↔ (BitVec.ofInt 32 (n : Int) &&& ~~~ BitVec.ofInt 32 (m : Int)) = 0#32:=by
  rw [← BitVec.toNat_inj]; simp
 rw [e3]
 constructor
 ·intro h i hi h1
  rw [e1 _ _ hi] at h1 ⊢
  have:=congrArg (fun v=>BitVec.getLsbD v i) h
  simp only [BitVec.getLsbD_and,BitVec.getLsbD_not,h1,hi,BitVec.getLsbD_zero,decide_true,Bool.true_and,Bool.not_eq_false'] at this
  exact this
 ·intro h
  apply BitVec.eq_of_getLsbD_eq
  intro i hi
  have:=h i hi
  rw [e1 _ _ hi,e1 _ _ hi] at this
  simp only [BitVec.getLsbD_and,BitVec.getLsbD_not,hi,BitVec.getLsbD_zero,decide_true,Bool.true_and]
  cases h1 : (BitVec.ofInt 32 (n : Int)).getLsbD i with
  | false=>rfl
  | true=>rw [this h1]; rfl
theorem zDQ (v : Lb) (M : Mem) : zAC Tryz.prog (fsT tbl) fuel (d + 1) (.fn 22) [lbA v] M = some (BL v.may,M):=by
 apply zB6
 refine zAH tf22 rfl (by simp (maxSteps:=2000000) (disch:=first | omega | assumption | (simp only [DS,Nat.reduceAdd, *]; done) | (simp only [DZ]; omega)) only [RUN,icyL,Nat.reduceSub]) (by simp [a22]) fun b' ht hx=>?_
 have h0:=hx 0 _ rfl
 clear hx
 simp only [a22,c22,zzm] at ht ⊢
 unfold Lb.may
 by_cases q : 15 < v.lv
 ·have q1 : decide (v.lv ≤ 15) = false:=decide_eq_false (by omega)
  have q2 : decide (15 < v.lv) = true:=decide_eq_true q
  simp (maxSteps:=2000000) (disch:=first | omega | assumption | (simp only [DS,Nat.reduceAdd, *]; done) | (simp only [DZ]; omega)) only [RUN,RU,zA2,zA1,zA0,zA5,frzL,reduceIte,Nat.reduceEqDiff,h0,q1,q2]
 ·have q1 : decide (v.lv ≤ 15) = true:=decide_eq_true (by omega)
  have q2 : decide (15 < v.lv) = false:=decide_eq_false q
  simp (maxSteps:=2000000) (disch:=first | omega | assumption | (simp only [DS,Nat.reduceAdd, *]; done) | (simp only [DZ]; omega)) only [RUN,RU,zA2,zA1,zA0,zA5,frzL,reduceIte,Nat.reduceEqDiff,h0,q1,q2]
theorem zO0 (v : Lb) (hv : v.ok) (i : Nat) (hi : i < 32) (M : Mem) : zAC Tryz.prog (fsT tbl) fuel (d + 1) (.fn 76) [lbA v,I64 i] M = some (BL (bitI v.cats i),M):=by
 have cv:=fun t r x=>zT6 (P:=Tryz.prog) (t:=t) Tryz.underlying3 Tryz.underlying131 r x
 have w : IntKind.u64.wrap (i : Int) = i:=by simp [IntKind.wrap,IntKind.bits,IntKind.signed]; omega
 have sh : ∀ ty,binV Tryz.prog .shr ty .u32 v.cats .u64 (i : Int) = some (.int .u32 ((v.cats.toNat / 2 ^ i : Nat) : Int)):=fun ty=>by
  rw [vShr _ _ _ _ _ (by omega)]
  have : min (Int.toNat (i : Int)) (IntKind.u32).bits = i:=by simp [IntKind.bits]; omega
  rw [this]
  obtain ⟨n,hn⟩ : ∃ n : Nat,v.cats = n:=⟨v.cats.toNat,by have:=hv.2.2.1; omega⟩
  have h2 : (0 : Int) ≤ 2 ^ i:=by exact_mod_cast Nat.zero_le (2 ^ i)
  rw [hn,Int.fdiv_eq_ediv_of_nonneg _ h2,Int.toNat_natCast]
  simp
 have hr : ∀ (ty : TypeId) (n : Nat),binV Tryz.prog .rem ty .u32 (n : Int) .u32 2 = some (.int .u32 ((n % 2 : Nat) : Int)):=fun ty n=>by
  rw [vRem,if_neg (by omega)]
  simp [Int.tmod_eq_emod_of_nonneg]
 apply zB6
 refine zAH tf76 rfl (by simp (maxSteps:=2000000) (disch:=first | omega | assumption | (simp only [DS,Nat.reduceAdd, *]; done) | (simp only [DZ]; omega)) only [RUN,icyL,Nat.reduceSub]) (by simp [a76]) fun b' ht hx=>?_
 have h0:=hx 0 _ rfl
 have h1:=hx 1 _ rfl
 clear hx
 simp only [a76,c76,zzm] at ht ⊢
 unfold bitI
 have q : decide (((v.cats.toNat / 2 ^ i % 2 : Nat) : Int) = 1) = decide (v.cats.toNat / 2 ^ i % 2 = 1):=by
  rw [Bool.eq_iff_iff,decide_eq_true_iff,decide_eq_true_iff]; omega
 simp (maxSteps:=2000000) (disch:=first | omega | assumption | (simp only [DS,Nat.reduceAdd, *]; done) | (simp only [DZ]; omega)) only [RUN,RU,zA2,zA1,zA0,zA5,frzL,reduceIte,Nat.reduceEqDiff,h0,h1,cv,zKC,w,sh,hr,q]
theorem zD2 (a b : Lb) (ha : a.ok) (hb : b.ok) (hf : 40 < fuel) (M : Mem) : zAC Tryz.prog (fsT tbl) fuel (d + 2) (.fn 46) [lbA a,lbA b] M = some (BL (a.leq b),M):=by
 have hh:=fun i hi M=>@zO0 fuel d a ha i hi M
 have kh:=fun i hi M=>@zO0 fuel d b hb i hi M
 have key:=zO9 ha.2.2 hb.2.2
 apply zB6
 refine zAH tf46 rfl (by simp (maxSteps:=2000000) (disch:=first | omega | assumption | (simp only [DS,Nat.reduceAdd, *]; done) | (simp only [DZ]; omega)) only [RUN,icyL,Nat.reduceSub]) (by simp [a46]) fun b' ht hx=>?_
 have h0:=hx 0 _ rfl
 have h1:=hx 1 _ rfl
 clear hx
 simp only [a46,c46,zzm] at ht ⊢
 simp (maxSteps:=2000000) (disch:=first | omega | assumption | (simp only [DS,Nat.reduceAdd, *]; done) | (simp only [DZ]; omega)) only [RUN,RU,zA2,zA1,reduceIte,Nat.reduceEqDiff,Nat.reduceAdd,h0,h1]
 refine zB1 (I:=fun n t N => ∃ (i : Nat),n = 32 - i ∧ i ≤ 32 ∧ nth zA4 t 2 = .ptr 0 0 ∧ nth zA4 t 3 = .ptr 1 0 ∧ nth zA4 t 5 = I64 i ∧ N = (mem0.add (.row false [U8 a.lv,U32 a.cats])).add (.row false [U8 b.lv,U32 b.cats]) ∧ (∀ j,j < i → bitI a.cats j = true → bitI b.cats j = true)) (n:=32) (by omega) ?_ ?_
 ·refine ⟨0,rfl,Nat.zero_le _, ?_, ?_, ?_,rfl,(fun _ h=>absurd h (by omega))⟩ <;> simp (maxSteps:=2000000) (disch:=first | omega | assumption | (simp only [DS,Nat.reduceAdd, *]; done) | (simp only [DZ]; omega)) only [RUN,reduceIte,Nat.reduceEqDiff]
  all_goals first | rfl | assumption | done
 ·rintro n t N hlt ⟨i,rfl,hi,g2,g3,g5,hm,hj⟩
  simp only [ht] at hlt ⊢
  subst hm
  by_cases hc : i < 32
  ·have q1 : decide ((i : Int) < 32) = true:=decide_eq_true (by omega)
   have w1 : IntKind.i64.wrap ((i : Int) + 1) = ((i + 1 : Nat) : Int):=by rw [wrap_i64] <;> omega
   cases b1 : bitI a.cats i with
   | false =>
    simp (maxSteps:=2000000) (disch:=first | omega | assumption | (simp only [DS,Nat.reduceAdd, *]; done) | (simp only [DZ]; omega)) only [RUN,RU,zA2,zA1,slot,reduceIte,Nat.reduceEqDiff,Nat.reduceAdd,g2,g3,g5,q1,w1,hh,b1]
    exact ⟨hlt,32 - (i + 1),by omega,i + 1,rfl,by omega,rfl,fun j hj' hb'=>by
     rcases Nat.lt_succ_iff_lt_or_eq.1 hj' with h | rfl
     ·exact hj j h hb'
     ·rw [b1] at hb'; cases hb'⟩
   | true =>
    cases b2 : bitI b.cats i with
    | true =>
     simp (maxSteps:=2000000) (disch:=first | omega | assumption | (simp only [DS,Nat.reduceAdd, *]; done) | (simp only [DZ]; omega)) only [RUN,RU,zA2,zA1,slot,reduceIte,Nat.reduceEqDiff,Nat.reduceAdd,g2,g3,g5,q1,w1,hh,kh,b1,b2]
     exact ⟨hlt,32 - (i + 1),by omega,i + 1,rfl,by omega,rfl,fun j hj' hb'=>by
      rcases Nat.lt_succ_iff_lt_or_eq.1 hj' with h | rfl
      ·exact hj j h hb'
      ·exact b2⟩
    | false =>
     have e : a.leq b = false:=by
      unfold Lb.leq
      rw [Bool.and_eq_false_iff]
      right
      rw [decide_eq_false_iff_not,key]
      intro h
      have:=h i hc b1
      rw [b2] at this; cases this
     simp (maxSteps:=2000000) (disch:=first | omega | assumption | (simp only [DS,Nat.reduceAdd, *]; done) | (simp only [DZ]; omega)) only [RUN,RU,zA2,zA1,zA0,zA5,frzL,slot,reduceIte,Nat.reduceEqDiff,Nat.reduceAdd,g2,g3,g5,q1,hh,kh,b1,b2,e]
  ·obtain rfl : i = 32:=by omega
   have e : a.leq b = decide (a.lv ≤ b.lv):=by
    unfold Lb.leq
    rw [decide_eq_true (p:=zMK a.cats b.cats = 0) (key.2 hj),Bool.and_true]
   have q1 : decide (((32 : Nat) : Int) < 32) = false:=rfl
   simp (maxSteps:=2000000) (disch:=first | omega | assumption | (simp only [DS,Nat.reduceAdd, *]; done) | (simp only [DZ]; omega)) only [RUN,RU,zA2,zA1,zA0,zA5,frzL,reduceIte,Nat.reduceEqDiff,Nat.reduceAdd,Nat.reduceSub,g2,g3,g5,q1,e]
theorem zRY (x : Int) (M : Mem) : zAC Tryz.prog (fsT tbl) fuel (d + 1) (.fn 74) [I64 x] M = some (BL (zH0 x),M):=by
 apply zB6
 refine zAH tf74 rfl (by simp (maxSteps:=2000000) (disch:=first | omega | assumption | (simp only [DS,Nat.reduceAdd, *]; done) | (simp only [DZ]; omega)) only [RUN,icyL]) (by simp [a74]) fun b' ht hx=>?_
 have h0:=hx 0 _ rfl
 clear hx
 simp only [a74,c74,zzm,zzg] at ht ⊢
 have key : zH0 x = (decide (0 ≤ x) && decide (x ≤ 1114111) && (decide (x < 55296) || decide (57343 < x))):=by
  unfold zH0
  by_cases h1 : 0 ≤ x <;> by_cases h2 : x ≤ 1114111 <;> by_cases h3 : x < 55296 <;> by_cases h4 : 57343 < x <;> simp [h1,h2,h3,h4] <;> omega
 rw [key]
 cases q1 : decide (0 ≤ x) <;> cases q2 : decide (x ≤ 1114111) <;> cases q3 : decide (x < 55296) <;> cases q4 : decide (57343 < x)
 all_goals simp (maxSteps:=2000000) (disch:=first | omega | assumption | (simp only [DS,Nat.reduceAdd, *]; done) | (simp only [DZ]; omega)) only [RUN,RU,zA2,zA1,zA0,zA5,frzL,reduceIte,Nat.reduceEqDiff,h0,q1,q2,q3,q4]
theorem zHM (h : Hd) (M : Mem) : zAC Tryz.prog (fsT tbl) fuel (d + 2) (.fn 40) [hdA h] M = some (BL h.may,M):=by
 have hm:=fun M=>@zDQ fuel d h.lb M
 apply zB6
 refine zAH tf40 rfl (by simp (maxSteps:=2000000) (disch:=first | omega | assumption | (simp only [DS,Nat.reduceAdd, *]; done) | (simp only [DZ]; omega)) only [RUN,icyL,Nat.reduceSub]) (by simp [a40]) fun b' ht hx=>?_
 have h0:=hx 0 _ rfl
 clear hx
 simp only [a40,c40,zzm] at ht ⊢
 unfold Hd.may
 cases q : h.lb.may <;> rw [q] at hm <;> simp (maxSteps:=2000000) (disch:=first | omega | assumption | (simp only [DS,Nat.reduceAdd, *]; done) | (simp only [DZ]; omega)) only [RUN,RU,zA2,zA1,zA0,zA5,frzL,slot,reduceIte,Nat.reduceEqDiff,h0,hm,Bool.false_and]
theorem zGQ (x : Eid) (M : Mem) : zAC Tryz.prog (fsT tbl) fuel (d + 3) (.fn 43) [idA x] M = some (BL x.may,M):=by
 have hm:=fun M=>@zHM fuel d x.hd M
 apply zB6
 refine zAH tf43 rfl (by simp (maxSteps:=2000000) (disch:=first | omega | assumption | (simp only [DS,Nat.reduceAdd, *]; done) | (simp only [DZ]; omega)) only [RUN,icyL,Nat.reduceSub]) (by simp [a43]) fun b' ht hx=>?_
 have h0:=hx 0 _ rfl
 clear hx
 simp only [a43,c43,zzm] at ht ⊢
 unfold Eid.may
 cases q : x.hd.may <;> rw [q] at hm
 ·simp (maxSteps:=2000000) (disch:=first | omega | assumption | (simp only [DS,Nat.reduceAdd, *]; done) | (simp only [DZ]; omega)) only [RUN,RU,zA2,zA1,zA0,zA5,frzL,slot,reduceIte,Nat.reduceEqDiff,h0,hm,Bool.false_and]
 ·cases q1 : decide (1 ≤ x.c) <;> simp (maxSteps:=2000000) (disch:=first | omega | assumption | (simp only [DS,Nat.reduceAdd, *]; done) | (simp only [DZ]; omega)) only [RUN,RU,zA2,zA1,zA0,zA5,frzL,slot,reduceIte,Nat.reduceEqDiff,h0,hm,q1,Bool.false_and]
theorem zHN (s : Spn) (M : Mem) : zAC Tryz.prog (fsT tbl) fuel (d + 4) (.fn 41) [spA s] M = some (BL s.may,M):=by
 have hm:=fun M=>@zGQ fuel d s.f M
 apply zB6
 refine zAH tf41 rfl (by simp (maxSteps:=2000000) (disch:=first | omega | assumption | (simp only [DS,Nat.reduceAdd, *]; done) | (simp only [DZ]; omega)) only [RUN,icyL,Nat.reduceSub]) (by simp [a41]) fun b' ht hx=>?_
 have h0:=hx 0 _ rfl
 clear hx
 simp only [a41,c41,zzm] at ht ⊢
 unfold Spn.may
 cases q : s.f.may <;> rw [q] at hm
 ·simp (maxSteps:=2000000) (disch:=first | omega | assumption | (simp only [DS,Nat.reduceAdd, *]; done) | (simp only [DZ]; omega)) only [RUN,RU,zA2,zA1,zA0,zA5,frzL,slot,reduceIte,Nat.reduceEqDiff,h0,hm,Bool.false_and]
 ·cases q1 : decide (1 ≤ s.n)
  ·simp (maxSteps:=2000000) (disch:=first | omega | assumption | (simp only [DS,Nat.reduceAdd, *]; done) | (simp only [DZ]; omega)) only [RUN,RU,zA2,zA1,zA0,zA5,frzL,slot,reduceIte,Nat.reduceEqDiff,h0,hm,q1,Bool.false_and]
  ·cases q2 : decide (s.n ≤ 64)
   ·simp (maxSteps:=2000000) (disch:=first | omega | assumption | (simp only [DS,Nat.reduceAdd, *]; done) | (simp only [DZ]; omega)) only [RUN,RU,zA2,zA1,zA0,zA5,frzL,slot,reduceIte,Nat.reduceEqDiff,h0,hm,q1,q2,Bool.false_and]
   ·have w : IntKind.i64.wrap (1099511627777 - s.n) = 1099511627777 - s.n:=by
     rw [decide_eq_true_eq] at q1 q2
     exact wrap_i64 (by omega) (by omega)
    have q3 : decide (s.f.c ≤ 1099511627777 - s.n) = decide (s.f.c + s.n ≤ 1099511627777):=by
     rw [Bool.eq_iff_iff,decide_eq_true_iff,decide_eq_true_iff]; omega
    simp (maxSteps:=2000000) (disch:=first | omega | assumption | (simp only [DS,Nat.reduceAdd, *]; done) | (simp only [DZ]; omega)) only [RUN,RU,zA2,zA1,zA0,zA5,frzL,slot,reduceIte,Nat.reduceEqDiff,h0,hm,q1,q2,w,q3]
theorem zMR (x : Eid) (M : Mem) : zAC Tryz.prog (fsT tbl) fuel (d + 1) (.fn 42) [idA x] M = some (BL (decide (x = Eid.z)),M):=by
 apply zB6
 refine zAH tf42 rfl (by simp (maxSteps:=2000000) (disch:=first | omega | assumption | (simp only [DS,Nat.reduceAdd, *]; done) | (simp only [DZ]; omega)) only [RUN,icyL,Nat.reduceSub]) (by simp [a42]) fun b' ht hx=>?_
 have h0:=hx 0 _ rfl
 clear hx
 simp only [a42,c42,zz2,zzm] at ht ⊢
 simp (maxSteps:=2000000) (disch:=first | omega | assumption | (simp only [DS,Nat.reduceAdd, *]; done) | (simp only [DZ]; omega)) only [RUN,RU,zA2,zA1,zA0,zA5,frzL,slot,zAJ,reduceIte,Nat.reduceEqDiff,h0,↓pIdE,zB3,ETA]
theorem zKI (x : Eid) (M : Mem) : zAC Tryz.prog (fsT tbl) fuel (d + 1) (.fn 89) [idA x] M = some (BL (decide (x = Eid.z)),M):=by
 apply zB6
 refine zAH tf89 rfl (by simp (maxSteps:=2000000) (disch:=first | omega | assumption | (simp only [DS,Nat.reduceAdd, *]; done) | (simp only [DZ]; omega)) only [RUN,icyL,Nat.reduceSub]) (by simp [a89]) fun b' ht hx=>?_
 have h0:=hx 0 _ rfl
 clear hx
 simp only [a89,c89,zz2,zzm] at ht ⊢
 simp (maxSteps:=2000000) (disch:=first | omega | assumption | (simp only [DS,Nat.reduceAdd, *]; done) | (simp only [DZ]; omega)) only [RUN,RU,zA2,zA1,zA0,zA5,frzL,slot,zAJ,reduceIte,Nat.reduceEqDiff,h0,↓pIdE,zB3,ETA]
end Go.Proofs.YtkfdflajadkfkaaGreat
namespace Go.Proofs.YtkfdflajadkfkaaGreat
open Go Go.Ax
def Rn.may (r : Rn) : Bool:=r.sp.may && (decide (r.af = Eid.z) || (r.af.may && decide (r.af.c < r.sp.f.c))) && decide ((r.rs.length : Int) = r.sp.n) && decide (chkR r.rs = 0)
theorem zLW {o : Rn} {ra : AV} (h : Fz ra) (M : Mem) : icy 12 M (.agg (rnR o ra)) = some (.agg (rnR o ra),M):=zAK (zSM h) (by omega) M
end Go.Proofs.YtkfdflajadkfkaaGreat
namespace Go.Proofs.YtkfdflajadkfkaaGreat
open Go Go.Ax
variable {fuel : Nat} {M : Mem} {Q : AV → Mem → Prop} {d : Nat}
set_option maxHeartbeats 4000000 in
theorem zGP {a : AV} {l : List Int} (hS : Sl 1 zAS a l) (hi32 : i32s l) (hf : 100 < fuel) (M : Mem) : zAC Tryz.prog (fsT tbl) fuel (d + 2) (.fn 44) [a] M = some (I64 (chkR l),M):=by
 have ll:=hS.len
 have cv:=fun t r x=>zT6 (P:=Tryz.prog) (t:=t) Tryz.underlying21 Tryz.underlying3 r x
 apply zB6
 refine zAH tf44 rfl (by simp (maxSteps:=2000000) (disch:=first | omega | assumption | (simp only [DS,Nat.reduceAdd, *]; done) | (simp only [DZ]; omega)) only [icyL,hS.fz.icy]) (by simp [a44]) fun b' ht hx=>?_
 have h0:=hx 0 _ rfl
 clear hx
 simp only [a44,c44,zzm] at ht ⊢
 unfold chkR
 by_cases q : 64 < l.length
 ·have q1 : decide ((64 : Int) < l.length) = true:=decide_eq_true (by omega)
  simp (maxSteps:=2000000) (disch:=first | omega | assumption | (simp only [DS,Nat.reduceAdd, *]; done) | (simp only [DZ]; omega)) only [RUN,RU,zA2,zA1,zA0,zA5,frzL,reduceIte,Nat.reduceEqDiff,h0,ll,q1,q,if_true]
 ·have q1 : decide ((64 : Int) < l.length) = false:=decide_eq_false (by omega)
  rw [if_neg q]
  simp (maxSteps:=2000000) (disch:=first | omega | assumption | (simp only [DS,Nat.reduceAdd, *]; done) | (simp only [DZ]; omega)) only [RUN,RU,zA2,zA1,reduceIte,Nat.reduceEqDiff,h0,ll,q1]
  refine zB1 (I:=fun n t N => ∃ (i : Nat),n = l.length - i ∧ i ≤ l.length ∧ nth zA4 t 0 = a ∧ nth zA4 t 3 = I64 i ∧ N = mem0 ∧ (l.take i).all okR = true) (n:=l.length) (by omega) ?_ ?_
  ·refine ⟨0,rfl,Nat.zero_le _, ?_, ?_,rfl,rfl⟩ <;> simp (maxSteps:=2000000) (disch:=first | omega | assumption | (simp only [DS,Nat.reduceAdd, *]; done) | (simp only [DZ]; omega)) only [RUN,reduceIte,Nat.reduceEqDiff,h0]
   all_goals first | rfl | assumption | done
  ·rintro n t N hlt ⟨i,rfl,hi,g0,g3,hm,hj⟩
   simp only [ht] at hlt ⊢
   subst hm
   by_cases hc : i < l.length
   ·have q2 : decide ((i : Int) < l.length) = true:=decide_eq_true (by omega)
    have w1 : IntKind.i64.wrap ((i : Int) + 1) = ((i + 1 : Nat) : Int):=by rw [wrap_i64] <;> omega
    obtain ⟨r,hr,hrr,_⟩:=hS.iad i hc
    have hrr : r = [I32 l[i]]:=hrr
    subst hrr
    have hrg:=hi32 l[i] (List.getElem_mem hc)
    have hw : IntKind.i64.wrap l[i] = l[i]:=wrap_i64 (by omega) (by omega)
    have his:=fun M=>@zRY fuel d l[i] M
    have htk : (l.take (i + 1)).all okR = ((l.take i).all okR && okR l[i]):=by
     rw [List.take_add_one,List.getElem?_eq_getElem hc,List.all_append]
     simp
    have bad : okR l[i] = false → l.all okR = false:=fun h=>by
     rw [← Bool.not_eq_true,List.all_eq_true]
     intro h2
     rw [h2 _ (List.getElem_mem hc)] at h
     cases h
    cases q3 : decide (l[i] = -1) with
    | true =>
     have ok : okR l[i] = true:=by unfold okR; rw [q3]; rfl
     simp (maxSteps:=2000000) (disch:=first | omega | assumption | (simp only [DS,Nat.reduceAdd, *]; done) | (simp only [DZ]; omega)) only [RUN,RU,zA2,zA1,reduceIte,Nat.reduceEqDiff,g0,g3,ll,q2,w1,hr,q3]
     exact ⟨hlt,l.length - (i + 1),by omega,i + 1,rfl,by omega,rfl,by rw [htk,hj,ok]; rfl⟩
    | false =>
     cases q4 : zH0 l[i] with
     | true =>
      rw [q4] at his
      have ok : okR l[i] = true:=by unfold okR; rw [q3,q4]; rfl
      simp (maxSteps:=2000000) (disch:=first | omega | assumption | (simp only [DS,Nat.reduceAdd, *]; done) | (simp only [DZ]; omega)) only [RUN,RU,zA2,zA1,reduceIte,Nat.reduceEqDiff,g0,g3,ll,q2,w1,hr,q3,cv,zKC,hw,his]
      exact ⟨hlt,l.length - (i + 1),by omega,i + 1,rfl,by omega,rfl,by rw [htk,hj,ok]; rfl⟩
     | false =>
      rw [q4] at his
      have ok : okR l[i] = false:=by unfold okR; rw [q3,q4]; rfl
      rw [bad ok]
      simp (maxSteps:=2000000) (disch:=first | omega | assumption | (simp only [DS,Nat.reduceAdd, *]; done) | (simp only [DZ]; omega)) only [RUN,RU,zA2,zA1,zA0,zA5,frzL,reduceIte,Nat.reduceEqDiff,g0,g3,ll,q2,hr,q3,cv,zKC,hw,his,zBG]
   ·obtain rfl : i = l.length:=by omega
    have q2 : decide ((l.length : Int) < l.length) = false:=decide_eq_false (by omega)
    rw [List.take_length] at hj
    rw [hj]
    simp (maxSteps:=2000000) (disch:=first | omega | assumption | (simp only [DS,Nat.reduceAdd, *]; done) | (simp only [DZ]; omega)) only [RUN,RU,zA2,zA1,zA0,zA5,frzL,reduceIte,Nat.reduceEqDiff,g0,g3,ll,zB5]
set_option maxHeartbeats 8000000 in
theorem zJD {o : Op} {ra : AV} (hS : Sl 1 zAS ra o.rs) (ho : o.ok) (hf : 100 < fuel) (M : Mem) : zAC Tryz.prog (fsT tbl) fuel (d + 5) (.fn 21) [.agg (opR o ra)] M = some (BL o.may,M):=by
 have ora:=hS.one
 have ll:=hS.len
 have hh:=fun M=>@zHM fuel (d + 2) o.hd M
 have hs:=fun M=>@zHN fuel d o.sp M
 have hz:=fun M=>@zMR fuel (d + 3) o.af M
 have ha:=fun M=>@zGQ fuel (d + 1) o.af M
 have hto:=fun M=>@zDQ fuel (d + 3) o.to M
 have hc:=fun M=>zGP (fuel:=fuel) (d:=d + 2) hS ho.2.2.2.2.2.2 hf M
 apply zB6
 refine zAH tf21 rfl (by simp only [icyL,zBW hS.fz]) (by simp [a21]) fun b' ht hx=>?_
 have h0:=hx 0 _ rfl
 clear hx
 simp only [a21,c21,zz3,zzm,zzg] at ht ⊢
 unfold Op.may
 have k0:=ho.1
 cases q3 : o.hd.may <;> rw [q3] at hh
 ·simp (maxSteps:=2000000) (disch:=first | omega | assumption | (simp only [DS,Nat.reduceAdd, *]; done) | (simp only [DZ]; omega)) only [RUN,RU,zA2,zA1,zA0,zA5,frzL,slot,reduceIte,Nat.reduceEqDiff,h0,hh,Bool.false_and,Bool.and_false]
 cases q4 : decide (o.sr < 1)
 rotate_left
 ·simp (maxSteps:=2000000) (disch:=first | omega | assumption | (simp only [DS,Nat.reduceAdd, *]; done) | (simp only [DZ]; omega)) only [RUN,RU,zA2,zA1,zA0,zA5,frzL,slot,reduceIte,Nat.reduceEqDiff,h0,hh,q4,Bool.false_and,Bool.and_false]
 cases q5 : decide (16777216 ≤ o.sr)
 rotate_left
 ·simp (maxSteps:=2000000) (disch:=first | omega | assumption | (simp only [DS,Nat.reduceAdd, *]; done) | (simp only [DZ]; omega)) only [RUN,RU,zA2,zA1,zA0,zA5,frzL,slot,reduceIte,Nat.reduceEqDiff,h0,hh,q4,q5,Bool.false_and,Bool.and_false]
 cases q6 : o.sp.may <;> rw [q6] at hs
 ·simp (maxSteps:=2000000) (disch:=first | omega | assumption | (simp only [DS,Nat.reduceAdd, *]; done) | (simp only [DZ]; omega)) only [RUN,RU,zA2,zA1,zA0,zA5,frzL,slot,reduceIte,Nat.reduceEqDiff,h0,hh,q4,q5,hs,Bool.false_and,Bool.and_false]
 simp only [Bool.not_false,Bool.and_true]
 by_cases k1 : o.kd = 1
 ·have e0 : decide (o.kd = 0) = false:=decide_eq_false (by omega)
  have e4 : decide (4 ≤ o.kd) = false:=decide_eq_false (by omega)
  have e1 : decide (o.kd = 1) = true:=decide_eq_true k1
  have ep : o.part = (decide (o.to = Lb.z) && (decide (o.af = Eid.z) || o.af.may) && decide (o.sp.f.hd = o.hd) && decide ((o.rs.length : Int) = o.sp.n) && decide (chkR o.rs = 0)):=by unfold Op.part; rw [if_pos k1]
  rw [e0,e4,ep]
  simp only [Bool.not_false,Bool.true_and]
  cases b1 : decide (o.to = Lb.z)
  ·simp (maxSteps:=2000000) (disch:=first | omega | assumption | (simp only [DS,Nat.reduceAdd, *]; done) | (simp only [DZ]; omega)) only [RUN,RU,zA2,zA1,zA0,zA5,frzL,slot,zAJ,reduceIte,Nat.reduceEqDiff,h0,hh,q4,q5,hs,↓pLbE,zAV,ETA,e1,b1,Bool.false_and]
  cases b2 : decide (o.af = Eid.z) <;> rw [b2] at hz
  ·cases b3 : o.af.may <;> rw [b3] at ha
   ·simp (maxSteps:=2000000) (disch:=first | omega | assumption | (simp only [DS,Nat.reduceAdd, *]; done) | (simp only [DZ]; omega)) only [RUN,RU,zA2,zA1,zA0,zA5,frzL,slot,zAJ,reduceIte,Nat.reduceEqDiff,h0,hh,q4,q5,hs,↓pLbE,zAV,ETA,e1,b1,hz,ha,Bool.false_and]
   ·cases b4 : decide (o.sp.f.hd = o.hd)
    ·simp (maxSteps:=2000000) (disch:=first | omega | assumption | (simp only [DS,Nat.reduceAdd, *]; done) | (simp only [DZ]; omega)) only [RUN,RU,zA2,zA1,zA0,zA5,frzL,slot,zAJ,reduceIte,Nat.reduceEqDiff,h0,hh,q4,q5,hs,↓pHdE,zB7,↓pLbE,zAV,ETA,e1,b1,hz,ha,b4,Bool.false_and]
    ·cases b5 : decide ((o.rs.length : Int) = o.sp.n)
     ·simp (maxSteps:=2000000) (disch:=first | omega | assumption | (simp only [DS,Nat.reduceAdd, *]; done) | (simp only [DZ]; omega)) only [RUN,RU,zA2,zA1,zA0,zA5,frzL,slot,zAJ,reduceIte,Nat.reduceEqDiff,Nat.reduceAdd,h0,hh,q4,q5,hs,↓pHdE,zB7,↓pLbE,zAV,ETA,e1,b1,hz,ha,b4,ll,b5,Bool.false_and]
     ·simp (maxSteps:=2000000) (disch:=first | omega | assumption | (simp only [DS,Nat.reduceAdd, *]; done) | (simp only [DZ]; omega)) only [RUN,RU,zA2,zA1,zA0,zA5,frzL,slot,zAJ,reduceIte,Nat.reduceEqDiff,Nat.reduceAdd,h0,hh,q4,q5,hs,↓pHdE,zB7,↓pLbE,zAV,ETA,e1,b1,hz,ha,b4,ll,b5,hc]
  ·cases b4 : decide (o.sp.f.hd = o.hd)
   ·simp (maxSteps:=2000000) (disch:=first | omega | assumption | (simp only [DS,Nat.reduceAdd, *]; done) | (simp only [DZ]; omega)) only [RUN,RU,zA2,zA1,zA0,zA5,frzL,slot,zAJ,reduceIte,Nat.reduceEqDiff,h0,hh,q4,q5,hs,↓pHdE,zB7,↓pLbE,zAV,ETA,e1,b1,hz,b4,Bool.false_and]
   ·cases b5 : decide ((o.rs.length : Int) = o.sp.n)
    ·simp (maxSteps:=2000000) (disch:=first | omega | assumption | (simp only [DS,Nat.reduceAdd, *]; done) | (simp only [DZ]; omega)) only [RUN,RU,zA2,zA1,zA0,zA5,frzL,slot,zAJ,reduceIte,Nat.reduceEqDiff,Nat.reduceAdd,h0,hh,q4,q5,hs,↓pHdE,zB7,↓pLbE,zAV,ETA,e1,b1,hz,b4,ll,b5,Bool.false_and]
    ·simp (maxSteps:=2000000) (disch:=first | omega | assumption | (simp only [DS,Nat.reduceAdd, *]; done) | (simp only [DZ]; omega)) only [RUN,RU,zA2,zA1,zA0,zA5,frzL,slot,zAJ,reduceIte,Nat.reduceEqDiff,Nat.reduceAdd,h0,hh,q4,q5,hs,↓pHdE,zB7,↓pLbE,zAV,ETA,e1,b1,hz,b4,ll,b5,hc]
 ·have e1 : decide (o.kd = 1) = false:=decide_eq_false k1
  cases b2 : decide (o.af = Eid.z) <;> rw [b2] at hz
  ·have ep : o.part = false:=by
    unfold Op.part Op.bare
    rw [if_neg k1,b2]
    split <;> simp
   rw [ep,Bool.and_false]
   simp (maxSteps:=2000000) (disch:=first | omega | assumption | (simp only [DS,Nat.reduceAdd, *]; done) | (simp only [DZ]; omega)) only [RUN,RU,zA2,zA1,zA0,zA5,frzL,slot,zAJ,reduceIte,Nat.reduceEqDiff,h0,hh,q4,q5,hs,↓pLbE,zAV,ETA,e1,hz]
  ·by_cases b3 : 0 < o.rs.length
   ·have b3' : decide ((0 : Int) < o.rs.length) = true:=decide_eq_true (by omega)
    have ep : o.part = false:=by
     unfold Op.part Op.bare
     rw [if_neg k1,decide_eq_false (show ¬((o.rs.length : Int) = 0) by omega)]
     split <;> simp
    rw [ep,Bool.and_false]
    simp (maxSteps:=2000000) (disch:=first | omega | assumption | (simp only [DS,Nat.reduceAdd, *]; done) | (simp only [DZ]; omega)) only [RUN,RU,zA2,zA1,zA0,zA5,frzL,slot,zAJ,reduceIte,Nat.reduceEqDiff,h0,hh,q4,q5,hs,↓pLbE,zAV,ETA,e1,hz,ll,b3']
   ·have b3' : decide ((0 : Int) < o.rs.length) = false:=decide_eq_false (by omega)
    have eb : o.bare = true:=by
     unfold Op.bare
     rw [b2,decide_eq_true (show (o.rs.length : Int) = 0 by omega)]
     rfl
    by_cases k2 : o.kd = 2
    ·have e2 : decide (o.kd = 2) = true:=decide_eq_true k2
     have e3 : decide (o.kd = 3) = false:=decide_eq_false (by omega)
     have ep : o.part = decide (o.to = Lb.z):=by unfold Op.part; rw [if_neg k1,if_pos k2,eb,Bool.and_true]
     rw [ep,decide_eq_false (show ¬(o.kd = 0) by omega),decide_eq_false (show ¬(4 ≤ o.kd) by omega)]
     simp only [Bool.not_false,Bool.true_and]
     cases b1 : decide (o.to = Lb.z)
     all_goals simp (maxSteps:=2000000) (disch:=first | omega | assumption | (simp only [DS,Nat.reduceAdd, *]; done) | (simp only [DZ]; omega)) only [RUN,RU,zA2,zA1,zA0,zA5,frzL,slot,zAJ,reduceIte,Nat.reduceEqDiff,h0,hh,q4,q5,hs,↓pLbE,zAV,ETA,e1,hz,ll,b3',e2,e3,b1]
    ·have e2 : decide (o.kd = 2) = false:=decide_eq_false k2
     have ep : o.part = o.to.may:=by unfold Op.part; rw [if_neg k1,if_neg k2,eb,Bool.true_and]
     by_cases k3 : o.kd = 3
     ·have e3 : decide (o.kd = 3) = true:=decide_eq_true k3
      rw [ep,decide_eq_false (show ¬(o.kd = 0) by omega),decide_eq_false (show ¬(4 ≤ o.kd) by omega)]
      simp only [Bool.not_false,Bool.true_and]
      simp (maxSteps:=2000000) (disch:=first | omega | assumption | (simp only [DS,Nat.reduceAdd, *]; done) | (simp only [DZ]; omega)) only [RUN,RU,zA2,zA1,zA0,zA5,frzL,slot,zAJ,reduceIte,Nat.reduceEqDiff,h0,hh,q4,q5,hs,↓pLbE,zAV,ETA,e1,hz,ll,b3',e2,e3,hto]
     ·have e3 : decide (o.kd = 3) = false:=decide_eq_false k3
      have ek : (!decide (o.kd = 0) && !decide (4 ≤ o.kd)) = false:=by
       by_cases h : o.kd = 0
       ·rw [decide_eq_true h]; rfl
       ·rw [decide_eq_true (show 4 ≤ o.kd by omega)]; simp
      rw [ek,Bool.false_and]
      simp (maxSteps:=2000000) (disch:=first | omega | assumption | (simp only [DS,Nat.reduceAdd, *]; done) | (simp only [DZ]; omega)) only [RUN,RU,zA2,zA1,zA0,zA5,frzL,slot,zAJ,reduceIte,Nat.reduceEqDiff,h0,hh,q4,q5,hs,↓pLbE,zAV,ETA,e1,hz,ll,b3',e2,e3]
set_option maxHeartbeats 4000000 in
theorem zMO {o : Rn} {ra : AV} (hS : Sl 1 zAS ra o.rs) (ho : i32s o.rs) (hf : 100 < fuel) (M : Mem) : zAC Tryz.prog (fsT tbl) fuel (d + 5) (.fn 71) [.agg (rnR o ra)] M = some (BL o.may,M):=by
 have ora:=hS.one
 have ll:=hS.len
 have hs:=fun M=>@zHN fuel d o.sp M
 have hz:=fun M=>@zKI fuel (d + 3) o.af M
 have ha:=fun M=>@zGQ fuel (d + 1) o.af M
 have hc:=fun M=>zGP (fuel:=fuel) (d:=d + 2) hS ho hf M
 apply zB6
 refine zAH tf71 rfl (by simp only [icyL,zLW hS.fz]) (by simp [a71]) fun b' ht hx=>?_
 have h0:=hx 0 _ rfl
 clear hx
 simp only [a71,c71,zzm,zzg] at ht ⊢
 unfold Rn.may
 cases q6 : o.sp.may <;> rw [q6] at hs
 ·simp (maxSteps:=2000000) (disch:=first | omega | assumption | (simp only [DS,Nat.reduceAdd, *]; done) | (simp only [DZ]; omega)) only [RUN,RU,zA2,zA1,zA0,zA5,frzL,slot,reduceIte,Nat.reduceEqDiff,h0,hs,Bool.false_and]
 simp only [Bool.true_and]
 cases b5 : decide ((o.rs.length : Int) = o.sp.n)
 ·simp (maxSteps:=2000000) (disch:=first | omega | assumption | (simp only [DS,Nat.reduceAdd, *]; done) | (simp only [DZ]; omega)) only [RUN,RU,zA2,zA1,zA0,zA5,frzL,slot,reduceIte,Nat.reduceEqDiff,h0,hs,ll,b5,Bool.false_and,Bool.and_false]
 cases b6 : decide (chkR o.rs = 0)
 ·simp (maxSteps:=2000000) (disch:=first | omega | assumption | (simp only [DS,Nat.reduceAdd, *]; done) | (simp only [DZ]; omega)) only [RUN,RU,zA2,zA1,zA0,zA5,frzL,slot,reduceIte,Nat.reduceEqDiff,h0,hs,ll,b5,hc,b6,Bool.and_false]
 simp only [Bool.and_true]
 cases b2 : decide (o.af = Eid.z) <;> rw [b2] at hz
 ·cases b3 : o.af.may <;> rw [b3] at ha
  ·simp (maxSteps:=2000000) (disch:=first | omega | assumption | (simp only [DS,Nat.reduceAdd, *]; done) | (simp only [DZ]; omega)) only [RUN,RU,zA2,zA1,zA0,zA5,frzL,slot,reduceIte,Nat.reduceEqDiff,h0,hs,ll,b5,hc,b6,hz,ha,Bool.false_and]
  ·cases b4 : decide (o.af.c < o.sp.f.c)
   all_goals simp (maxSteps:=2000000) (disch:=first | omega | assumption | (simp only [DS,Nat.reduceAdd, *]; done) | (simp only [DZ]; omega)) only [RUN,RU,zA2,zA1,zA0,zA5,frzL,slot,reduceIte,Nat.reduceEqDiff,Nat.reduceAdd,h0,hs,ll,b5,hc,b6,hz,ha,b4,Bool.and_false]
 ·simp (maxSteps:=2000000) (disch:=first | omega | assumption | (simp only [DS,Nat.reduceAdd, *]; done) | (simp only [DZ]; omega)) only [RUN,RU,zA2,zA1,zA0,zA5,frzL,slot,reduceIte,Nat.reduceEqDiff,h0,hs,ll,b5,hc,b6,hz]
end Go.Proofs.YtkfdflajadkfkaaGreat
namespace Go.Proofs.YtkfdflajadkfkaaGreat
open Go Go.Ax
variable {fuel : Nat} {M : Mem} {Q : AV → Mem → Prop} {d : Nat}
set_option maxHeartbeats 4000000 in
theorem zXW {o : Op} {ra : AV} {x : Nat} (hS : Sl 1 zAS ra o.rs) (hk1 : o.kd = 1) (hf : 100 < fuel) (wf : Wf M) (hx1 : M.get x = some (.row false [.fn 55 [] []])) (k : ∀ N,Kept M N → Q (BL o.part) N) :
  W3 (zAC Tryz.prog (fsT tbl) fuel (d + 6) (.fn 57) [.agg (opR o ra),.ptr x 0] M) Q:=by
 have ll:=hS.len
 have lx:=Mem.get_lt hx1
 have hc:=fun M=>@zHX fuel (d + 2) o.af M
 have hr:=fun M=>zHO (fuel:=fuel) (d:=d) hS hf M
 have z4 : decide ((4 : Int) = 0) = false:=rfl
 unfold Op.part at k
 rw [if_pos hk1] at k
 have kept:=fun cs=>(Kept.refl wf).add (.row false cs)
 have key : ∀ b : Bool,((decide (o.af = Eid.z) || o.af.may) = b) → True:=fun _ _=>trivial
 refine zAY tf57 rfl (by simp [a57]) fun b' ht hx=>?_
 have h0:=hx 0 _ rfl
 have h1:=hx 1 _ rfl
 clear hx
 simp only [a57,c57,zz2,zzm,zzg] at ht ⊢
 have tail : ∀ b : Bool,(decide (o.af = Eid.z) || o.af.may) = b → ∀ t : List AV,t.length = b'.length → True:=fun _ _ _ _=>trivial
 clear tail key
 cases q : decide (o.af = Eid.z) <;> cases q' : o.af.may <;> rw [q'] at hc <;> simp only [q,q',Bool.or_false,Bool.or_true,Bool.false_and,Bool.and_false,Bool.and_true] at k
 all_goals
  (simp (maxSteps:=2000000) (disch:=first | omega | assumption | (simp only [DS,Nat.reduceAdd, *]; done) | (simp only [DZ]; omega)) only [RUN,RU,zA2,zA1,slot,zAJ,reduceIte,Nat.reduceEqDiff,Int.reduceEq,h0,h1,↓pIdE,zB3,ETA,q,hc,zB5,zBG,hx1])
  refine zLF hS (by simp (maxSteps:=2000000) (disch:=first | omega | assumption | (simp only [DS,Nat.reduceAdd, *]; done) | (simp only [DZ]; omega)) only [RUN,wf]) fun N hN=>?_
  have hg:=hN.get M.size (by rw [zA8]; omega)
  rw [zAG wf _ _ (Nat.le_refl _) (Nat.lt_succ_self _)] at hg
  have lg:=Mem.get_lt hg
  have kN:=((Kept.refl wf).add _).trans hN
  cases q1 : decide (o.to = Lb.z) <;> (try simp only [q1,Bool.false_and,Bool.true_and] at k)
  all_goals (simp (maxSteps:=2000000) (disch:=first | omega | assumption | (simp only [DS,Nat.reduceAdd, *]; done) | (simp only [DZ]; omega)) only [RUN,RU,zA2,zA1,zA0,zA5,slot,reduceIte,Nat.reduceEqDiff,hg,↓pHdE,zB7,ETA])
  all_goals first | exact k _ kN | skip
 all_goals
  cases q2 : decide (o.sp.f.hd = o.hd) <;> (try simp only [q2,Bool.false_and,Bool.true_and] at k)
  all_goals (simp (maxSteps:=2000000) (disch:=first | omega | assumption | (simp only [DS,Nat.reduceAdd, *]; done) | (simp only [DZ]; omega)) only [RUN,RU,zA2,zA1,zA0,zA5,reduceIte,Nat.reduceEqDiff,hg])
  all_goals first | exact k _ kN | skip
 all_goals
  cases q3 : decide ((o.rs.length : Int) = o.sp.n) <;> (try simp only [q3,Bool.false_and,Bool.true_and] at k)
  all_goals (simp (maxSteps:=2000000) (disch:=first | omega | assumption | (simp only [DS,Nat.reduceAdd, *]; done) | (simp only [DZ]; omega)) only [RUN,RU,zA2,zA1,zA0,zA5,reduceIte,Nat.reduceEqDiff,Nat.reduceAdd,hg,ll,q3,hr])
  all_goals exact k _ kN
end Go.Proofs.YtkfdflajadkfkaaGreat
namespace Go.Proofs.YtkfdflajadkfkaaGreat
open Go Go.Ax
variable {fuel : Nat} {M : Mem} {Q : AV → Mem → Prop} {d : Nat}
theorem zXT {o : Op} {ra : AV} {x y : Nat} (hS : Sl 1 zAS ra o.rs) (wf : Wf M) (hx1 : M.get x = some (.row false [.fn 55 [] []])) (hy1 : M.get y = some (.row false [.fn 54 [] []])) (k : ∀ N,Kept M N → Q (BL (decide (o.to = Lb.z) && o.bare)) N) :
  W3 (zAC Tryz.prog (fsT tbl) fuel (d + 3) (.fn 60) [.agg (opR o ra),.ptr x 0,.ptr y 0] M) Q:=by
 have lx:=Mem.get_lt hx1
 have ly:=Mem.get_lt hy1
 refine zAY tf60 rfl (by simp [a60]) fun b' ht hx=>?_
 have h0:=hx 0 _ rfl
 have h1:=hx 1 _ rfl
 have h2:=hx 2 _ rfl
 clear hx
 simp only [a60,c60,zzm] at ht ⊢
 simp (maxSteps:=2000000) (disch:=first | omega | assumption | (simp only [DS,Nat.reduceAdd, *]; done) | (simp only [DZ]; omega)) only [RUN,RU,zA2,zA1,slot,reduceIte,Nat.reduceEqDiff,h0,h1,hx1]
 refine zLF hS (by simp (maxSteps:=2000000) (disch:=first | omega | assumption | (simp only [DS,Nat.reduceAdd, *]; done) | (simp only [DZ]; omega)) only [RUN,wf]) fun N hN=>?_
 have hg:=hN.get M.size (by rw [zA8]; omega)
 rw [zAG wf _ _ (Nat.le_refl _) (Nat.lt_succ_self _)] at hg
 have lg:=Mem.get_lt hg
 have gy:=(hN.get y (by rw [zA8]; omega)).trans ((zAF wf _ _ ly).trans hy1)
 have lgy:=Mem.get_lt gy
 have kN:=((Kept.refl wf).add _).trans hN
 cases q1 : decide (o.to = Lb.z) <;> simp only [q1,Bool.false_and,Bool.true_and] at k <;> simp (maxSteps:=2000000) (disch:=first | omega | assumption | (simp only [DS,Nat.reduceAdd, *]; done) | (simp only [DZ]; omega)) only [RUN,RU,zA2,zA1,zA0,zA5,slot,reduceIte,Nat.reduceEqDiff,h2,hg,gy]
 ·exact k _ kN
 ·refine zSG hS hN.wf fun N' hN'=>?_
  simp (maxSteps:=2000000) (disch:=first | omega | assumption | (simp only [DS,Nat.reduceAdd, *]; done) | (simp only [DZ]; omega)) only [RUN,RU,zA2,zA1,zA0,zA5,reduceIte,Nat.reduceEqDiff]
  exact k _ (kN.trans hN')
theorem zRW {o : Op} {ra : AV} {y : Nat} (hS : Sl 1 zAS ra o.rs) (wf : Wf M) (hy1 : M.get y = some (.row false [.fn 54 [] []])) (k : ∀ N,Kept M N → Q (BL (o.bare && o.to.may)) N) :
  W3 (zAC Tryz.prog (fsT tbl) fuel (d + 2) (.fn 62) [.agg (opR o ra),.ptr y 0] M) Q:=by
 have ly:=Mem.get_lt hy1
 have hl:=fun M=>@zCD fuel d o.to M
 refine zAY tf62 rfl (by simp [a62]) fun b' ht hx=>?_
 have h0:=hx 0 _ rfl
 have h1:=hx 1 _ rfl
 clear hx
 simp only [a62,c62,zzm] at ht ⊢
 simp (maxSteps:=2000000) (disch:=first | omega | assumption | (simp only [DS,Nat.reduceAdd, *]; done) | (simp only [DZ]; omega)) only [RUN,RU,zA2,zA1,slot,reduceIte,Nat.reduceEqDiff,h0,h1,hy1]
 refine zSG hS (by simp (maxSteps:=2000000) (disch:=first | omega | assumption | (simp only [DS,Nat.reduceAdd, *]; done) | (simp only [DZ]; omega)) only [RUN,wf]) fun N hN=>?_
 have hg:=hN.get M.size (by rw [zA8]; omega)
 rw [zAG wf _ _ (Nat.le_refl _) (Nat.lt_succ_self _)] at hg
 have lg:=Mem.get_lt hg
 have kN:=((Kept.refl wf).add _).trans hN
 cases q1 : o.bare <;> simp only [q1,Bool.false_and,Bool.true_and] at k
 ·simp (maxSteps:=2000000) (disch:=first | omega | assumption | (simp only [DS,Nat.reduceAdd, *]; done) | (simp only [DZ]; omega)) only [RUN,RU,zA2,zA1,zA0,zA5,reduceIte,Nat.reduceEqDiff]
  exact k _ kN
 ·cases q2 : o.to.may <;> rw [q2] at hl k <;> simp (maxSteps:=2000000) (disch:=first | omega | assumption | (simp only [DS,Nat.reduceAdd, *]; done) | (simp only [DZ]; omega)) only [RUN,RU,zA2,zA1,zA0,zA5,slot,reduceIte,Nat.reduceEqDiff,Int.reduceEq,hg,hl,zB5,zBG] <;> exact k _ kN
theorem zUV (wf : Wf M) (hw : M.wm ≤ M.size) (k : ∀ N x y,Kept M N → N.get x = some (.row false [.fn 55 [] []]) → N.get y = some (.row false [.fn 54 [] []]) → M.size ≤ x → M.size ≤ y → Q (.agg [.sc .nilFunc,.sc .nilFunc,.fn 57 [] [.ptr x 0],.fn 59 [] [],.fn 60 [] [.ptr x 0,.ptr y 0],.fn 61 [] [],.fn 62 [] [.ptr y 0],.fn 63 [] []]) N) :
  W3 (zAC Tryz.prog (fsT tbl) fuel (d + 1) (.fn 36) [] M) Q:=by
 have onf : oneA (.sc .nilFunc) = true:=rfl
 have sn : scs Value.nilFunc = [.sc .nilFunc]:=rfl
 refine zAY tf36 rfl (by simp [a36]) fun b' ht hx=>?_
 clear hx
 simp only [a36,c36,zz5] at ht ⊢
 simp (maxSteps:=2000000) (disch:=first | omega | assumption | (simp only [DS,Nat.reduceAdd, *]; done) | (simp only [DZ]; omega)) only [RUN,RU,zA2,zA1,zA0,zA5,slot,lay,zAJ,reduceIte,Nat.reduceEqDiff,Nat.reduceBEq,Nat.reduceAdd,sn]
 refine k _ (M.size + 1 + 1) (M.size + 1) ((((((Kept.refl wf).add _).add _).upd hw (by omega) _).add _).upd hw (by omega) _ |>.upd hw (by omega) _) ?_ ?_ (by omega) (by omega)
 ·simp (maxSteps:=2000000) (disch:=first | omega | assumption | (simp only [DS,Nat.reduceAdd, *]; done) | (simp only [DZ]; omega)) only [RUN]
 ·simp (maxSteps:=2000000) (disch:=first | omega | assumption | (simp only [DS,Nat.reduceAdd, *]; done) | (simp only [DZ]; omega)) only [RUN]
set_option maxHeartbeats 4000000 in
theorem zCK {o : Op} {ra : AV} (hS : Sl 1 zAS ra o.rs) (ho : o.ok) (hf : 100 < fuel) (M : Mem) : zAC Tryz.prog (fsT tbl) fuel (d + 7) (.fn 17) [.agg (opR o ra)] M = some (I64 (err o.may),M):=by
 have hh:=fun M=>@zG4 fuel (d + 4) o.hd M
 have hs:=fun M=>@zEM fuel (d + 2) o.sp M
 apply zB6
 refine zDL tf17 rfl (by simp only [icyL,zBW hS.fz]) (by simp [a17]) fun b' ht hx=>?_
 have h0:=hx 0 _ rfl
 clear hx
 simp only [a17,c17,zzm] at ht ⊢
 unfold Op.may
 cases q1 : decide (o.kd = 0)
 ·cases q2 : decide (4 ≤ o.kd)
  ·cases q3 : o.hd.may <;> rw [q3] at hh
   ·simp (maxSteps:=2000000) (disch:=first | omega | assumption | (simp only [DS,Nat.reduceAdd, *]; done) | (simp only [DZ]; omega)) only [RUN,RU,zA2,zA1,zA0,zA5,frzL,slot,reduceIte,Nat.reduceEqDiff,Nat.reduceAdd,Int.reduceEq,h0,q1,q2,hh,zBG,Bool.false_and,Bool.and_false,zBR]
   ·cases q4 : decide (o.sr < 1)
    ·cases q5 : decide (16777216 ≤ o.sr)
     ·cases q6 : o.sp.may <;> rw [q6] at hs
      ·simp (maxSteps:=2000000) (disch:=first | omega | assumption | (simp only [DS,Nat.reduceAdd, *]; done) | (simp only [DZ]; omega)) only [RUN,RU,zA2,zA1,zA0,zA5,frzL,slot,reduceIte,Nat.reduceEqDiff,Nat.reduceAdd,Int.reduceEq,h0,q1,q2,q4,q5,hh,hs,zB5,zBG,Bool.false_and,Bool.and_false,zBR]
      ·simp (maxSteps:=2000000) (disch:=first | omega | assumption | (simp only [DS,Nat.reduceAdd, *]; done) | (simp only [DZ]; omega)) only [RUN,RU,zA2,zA1,slot,reduceIte,Nat.reduceEqDiff,Nat.reduceAdd,h0,q1,q2,q4,q5,hh,hs,zB5]
       refine zUV (by simp (maxSteps:=2000000) (disch:=first | omega | assumption | (simp only [DS,Nat.reduceAdd, *]; done) | (simp only [DZ]; omega)) only [RUN]) (by simp only [zCI]; exact Nat.le_refl _) fun N x y hN gx gy lx ly=>?_
       have hd : N.dirty = false:=hN.di
       have hsz : 1 ≤ N.size:=hN.le
       have g0 : N.get 0 = some (.row false (opR o ra)):=hN.get 0 (by show 0 < 1; omega)
       have wN:=hN.wf
       have hk : o.kd = 1 ∨ o.kd = 2 ∨ o.kd = 3:=by
        have:=ho.1
        simp only [decide_eq_false_iff_not] at q1 q2
        omega
       rcases hk with hk | hk | hk
       ·have n1 : zCT (U8 o.kd) = some 1:=by rw [hk]; rfl
        have ep : o.part = o.part:=rfl
        rw [ep]
        simp (maxSteps:=2000000) (disch:=first | omega | assumption | (simp only [DS,Nat.reduceAdd, *]; done) | (simp only [DZ]; omega)) only [RUN,RU,zA2,slot,reduceIte,Nat.reduceEqDiff,Nat.reduceBEq,Nat.reduceAdd,Nat.reduceMul,hd,g0,n1,zMZ,zF9]
        refine ⟨rfl,rfl,rfl, ?_⟩
        refine zXW hS hk hf (by simp (maxSteps:=2000000) (disch:=first | omega | assumption | (simp only [DS,Nat.reduceAdd, *]; done) | (simp only [DZ]; omega)) only [RUN]; exact wN) (by simp (maxSteps:=2000000) (disch:=first | omega | assumption | (simp only [DS,Nat.reduceAdd, *]; done) | (simp only [DZ]; omega)) only [RUN,gx])  fun N' hN'=>?_
        have hd' : N'.dirty = false:=hN'.di
        cases qp : o.part <;> simp (maxSteps:=2000000) (disch:=first | omega | assumption | (simp only [DS,Nat.reduceAdd, *]; done) | (simp only [DZ]; omega)) only [RUN,RU,zA2,zA1,zA0,zA5,frzL,reduceIte,Nat.reduceEqDiff,Nat.reduceAdd,hd',zB5,zBG,zBR]
       ·have n1 : zCT (U8 o.kd) = some 2:=by rw [hk]; rfl
        have ep : o.part = (decide (o.to = Lb.z) && o.bare):=by unfold Op.part; rw [if_neg (by omega),if_pos hk]
        rw [ep]
        simp (maxSteps:=2000000) (disch:=first | omega | assumption | (simp only [DS,Nat.reduceAdd, *]; done) | (simp only [DZ]; omega)) only [RUN,RU,zA2,slot,reduceIte,Nat.reduceEqDiff,Nat.reduceBEq,Nat.reduceAdd,Nat.reduceMul,hd,g0,n1,zMZ,zF9]
        refine ⟨rfl,rfl,rfl, ?_⟩
        refine zXT hS (by simp (maxSteps:=2000000) (disch:=first | omega | assumption | (simp only [DS,Nat.reduceAdd, *]; done) | (simp only [DZ]; omega)) only [RUN]; exact wN) (by simp (maxSteps:=2000000) (disch:=first | omega | assumption | (simp only [DS,Nat.reduceAdd, *]; done) | (simp only [DZ]; omega)) only [RUN,gx]) (by simp (maxSteps:=2000000) (disch:=first | omega | assumption | (simp only [DS,Nat.reduceAdd, *]; done) | (simp only [DZ]; omega)) only [RUN,gy])  fun N' hN'=>?_
        have hd' : N'.dirty = false:=hN'.di
        cases qp : (decide (o.to = Lb.z) && o.bare) <;> simp (maxSteps:=2000000) (disch:=first | omega | assumption | (simp only [DS,Nat.reduceAdd, *]; done) | (simp only [DZ]; omega)) only [RUN,RU,zA2,zA1,zA0,zA5,frzL,reduceIte,Nat.reduceEqDiff,Nat.reduceAdd,hd',zB5,zBG,zBR]
       ·have n1 : zCT (U8 o.kd) = some 3:=by rw [hk]; rfl
        have ep : o.part = (o.bare && o.to.may):=by unfold Op.part; rw [if_neg (by omega),if_neg (by omega)]
        rw [ep]
        simp (maxSteps:=2000000) (disch:=first | omega | assumption | (simp only [DS,Nat.reduceAdd, *]; done) | (simp only [DZ]; omega)) only [RUN,RU,zA2,slot,reduceIte,Nat.reduceEqDiff,Nat.reduceBEq,Nat.reduceAdd,Nat.reduceMul,hd,g0,n1,zMZ,zF9]
        refine ⟨rfl,rfl,rfl, ?_⟩
        refine zRW hS (by simp (maxSteps:=2000000) (disch:=first | omega | assumption | (simp only [DS,Nat.reduceAdd, *]; done) | (simp only [DZ]; omega)) only [RUN]; exact wN) (by simp (maxSteps:=2000000) (disch:=first | omega | assumption | (simp only [DS,Nat.reduceAdd, *]; done) | (simp only [DZ]; omega)) only [RUN,gy])  fun N' hN'=>?_
        have hd' : N'.dirty = false:=hN'.di
        cases qp : (o.bare && o.to.may) <;> simp (maxSteps:=2000000) (disch:=first | omega | assumption | (simp only [DS,Nat.reduceAdd, *]; done) | (simp only [DZ]; omega)) only [RUN,RU,zA2,zA1,zA0,zA5,frzL,reduceIte,Nat.reduceEqDiff,Nat.reduceAdd,hd',zB5,zBG,zBR]
     ·simp (maxSteps:=2000000) (disch:=first | omega | assumption | (simp only [DS,Nat.reduceAdd, *]; done) | (simp only [DZ]; omega)) only [RUN,RU,zA2,zA1,zA0,zA5,frzL,slot,reduceIte,Nat.reduceEqDiff,Nat.reduceAdd,h0,q1,q2,q4,q5,hh,zB5,zBG,Bool.false_and,Bool.and_false,zBR]
    ·simp (maxSteps:=2000000) (disch:=first | omega | assumption | (simp only [DS,Nat.reduceAdd, *]; done) | (simp only [DZ]; omega)) only [RUN,RU,zA2,zA1,zA0,zA5,frzL,slot,reduceIte,Nat.reduceEqDiff,Nat.reduceAdd,h0,q1,q2,q4,hh,zB5,zBG,Bool.false_and,Bool.and_false,zBR]
  ·simp (maxSteps:=2000000) (disch:=first | omega | assumption | (simp only [DS,Nat.reduceAdd, *]; done) | (simp only [DZ]; omega)) only [RUN,RU,zA2,zA1,zA0,zA5,frzL,reduceIte,Nat.reduceEqDiff,Nat.reduceAdd,h0,q1,q2,zBG,Bool.false_and,Bool.and_false,zBR]
 ·simp (maxSteps:=2000000) (disch:=first | omega | assumption | (simp only [DS,Nat.reduceAdd, *]; done) | (simp only [DZ]; omega)) only [RUN,RU,zA2,zA1,zA0,zA5,frzL,reduceIte,Nat.reduceEqDiff,Nat.reduceAdd,h0,q1,zBG,Bool.false_and,zBR]
end Go.Proofs.YtkfdflajadkfkaaGreat
namespace Go.Proofs.YtkfdflajadkfkaaGreat
open Go Go.Ax
variable {fuel : Nat} {M : Mem} {Q : AV → Mem → Prop} {d : Nat}
set_option maxHeartbeats 4000000 in
theorem zJK {o : Rn} {ra : AV} (hS : Sl 1 zAS ra o.rs) (hf : 100 < fuel) (M : Mem) : zAC Tryz.prog (fsT tbl) fuel (d + 6) (.fn 107) [.agg (rnR o ra)] M = some (I64 (err o.may),M):=by
 have ll:=hS.len
 have hc:=fun M=>@zHX fuel (d + 2) o.af M
 have hs:=fun M=>@zEM fuel (d + 1) o.sp M
 have hr:=fun M=>zHO (fuel:=fuel) (d:=d) hS hf M
 apply zB6
 refine zAH tf107 rfl (by simp only [icyL,zLW hS.fz]) (by simp [a107]) fun b' ht hx=>?_
 have h0:=hx 0 _ rfl
 clear hx
 simp only [a107,c107,zz2,zzm,zzg] at ht ⊢
 unfold Rn.may
 cases q0 : o.sp.may <;> rw [q0] at hs <;> simp only [Bool.false_and,Bool.true_and]
 all_goals
  cases q1 : decide (o.af = Eid.z)
  ·cases q2 : o.af.may <;> rw [q2] at hc
   ·simp (maxSteps:=2000000) (disch:=first | omega | assumption | (simp only [DS,Nat.reduceAdd, *]; done) | (simp only [DZ]; omega)) only [RUN,RU,zA2,zA1,zA0,zA5,frzL,slot,zAJ,reduceIte,Nat.reduceEqDiff,Int.reduceEq,h0,↓pIdE,zB3,ETA,q1,hc,hs,zB5,zBG,Bool.false_and]
   ·cases q3 : decide (o.af.c < o.sp.f.c)
    ·simp (maxSteps:=2000000) (disch:=first | omega | assumption | (simp only [DS,Nat.reduceAdd, *]; done) | (simp only [DZ]; omega)) only [RUN,RU,zA2,zA1,zA0,zA5,frzL,slot,zAJ,reduceIte,Nat.reduceEqDiff,Nat.reduceAdd,Int.reduceEq,h0,↓pIdE,zB3,ETA,q1,hc,hs,q3,zB5,zBG,Bool.false_and]
    ·cases q4 : decide ((o.rs.length : Int) = o.sp.n)
     ·simp (maxSteps:=2000000) (disch:=first | omega | assumption | (simp only [DS,Nat.reduceAdd, *]; done) | (simp only [DZ]; omega)) only [RUN,RU,zA2,zA1,zA0,zA5,frzL,slot,zAJ,reduceIte,Nat.reduceEqDiff,Nat.reduceAdd,Int.reduceEq,h0,↓pIdE,zB3,ETA,q1,hc,hs,q3,q4,ll,zB5,zBG,Bool.false_and]
     ·cases q5 : decide (chkR o.rs = 0)
      ·simp (maxSteps:=2000000) (disch:=first | omega | assumption | (simp only [DS,Nat.reduceAdd, *]; done) | (simp only [DZ]; omega)) only [RUN,RU,zA2,zA1,zA0,zA5,frzL,slot,zAJ,reduceIte,Nat.reduceEqDiff,Nat.reduceAdd,Int.reduceEq,h0,↓pIdE,zB3,ETA,q1,hc,hs,q3,q4,q5,ll,hr,zB5,zBG]
      ·simp (maxSteps:=2000000) (disch:=first | omega | assumption | (simp only [DS,Nat.reduceAdd, *]; done) | (simp only [DZ]; omega)) only [RUN,RU,zA2,zA1,zA0,zA5,frzL,slot,zAJ,reduceIte,Nat.reduceEqDiff,Nat.reduceAdd,Int.reduceEq,h0,↓pIdE,zB3,ETA,q1,hc,hs,q3,q4,q5,ll,hr,zB5,zBG]
  ·cases q4 : decide ((o.rs.length : Int) = o.sp.n)
   ·simp (maxSteps:=2000000) (disch:=first | omega | assumption | (simp only [DS,Nat.reduceAdd, *]; done) | (simp only [DZ]; omega)) only [RUN,RU,zA2,zA1,zA0,zA5,frzL,slot,zAJ,reduceIte,Nat.reduceEqDiff,Int.reduceEq,h0,↓pIdE,zB3,ETA,q1,hs,q4,ll,zB5,zBG,Bool.false_and]
   ·cases q5 : decide (chkR o.rs = 0)
    ·simp (maxSteps:=2000000) (disch:=first | omega | assumption | (simp only [DS,Nat.reduceAdd, *]; done) | (simp only [DZ]; omega)) only [RUN,RU,zA2,zA1,zA0,zA5,frzL,slot,zAJ,reduceIte,Nat.reduceEqDiff,Int.reduceEq,h0,↓pIdE,zB3,ETA,q1,hs,q4,q5,ll,hr,zB5,zBG]
    ·simp (maxSteps:=2000000) (disch:=first | omega | assumption | (simp only [DS,Nat.reduceAdd, *]; done) | (simp only [DZ]; omega)) only [RUN,RU,zA2,zA1,zA0,zA5,frzL,slot,zAJ,reduceIte,Nat.reduceEqDiff,Int.reduceEq,h0,↓pIdE,zB3,ETA,q1,hs,q4,q5,ll,hr,zB5,zBG]
end Go.Proofs.YtkfdflajadkfkaaGreat
namespace Go.Proofs.YtkfdflajadkfkaaGreat
open Go Go.Ax
variable {fuel : Nat} {M : Mem} {Q : AV → Mem → Prop} {d : Nat}
def Op.rn (o : Op) : Rn:=⟨o.sp,o.af,o.rs⟩
def rnZ : AV:=.agg (rnR ⟨⟨Eid.z,0⟩,Eid.z,[]⟩ NIL)
def rofE (o : Op) : Int:=if o.may = true then (if o.kd = 1 ∧ o.rn.may = true then 0 else 2) else 8
def rofK (o : Op) (r : AV) : Prop:=if rofE o = 0 then ∃ ra,r = .tup [.agg (rnR o.rn ra),I64 0] ∧ Sl 1 zAS ra o.rs else r = .tup [rnZ,I64 (rofE o)]
theorem zTK {l : List Int} (h : chkR l = 0) : l.length ≤ 64:=by
 unfold chkR at h
 by_cases hc : 64 < l.length
 ·rw [if_pos hc] at h
  cases h
 ·omega
theorem zK8 {o : Op} (h : o.may = true) : o.rs.length ≤ 64:=by
 unfold Op.may Op.part Op.bare at h
 simp only [Bool.and_eq_true] at h
 have h:=h.2
 split at h
 ·simp only [Bool.and_eq_true,decide_eq_true_eq] at h
  exact zTK h.2
 ·split at h <;> simp only [Bool.and_eq_true,decide_eq_true_eq] at h <;> omega
end Go.Proofs.YtkfdflajadkfkaaGreat
namespace Go.Proofs.YtkfdflajadkfkaaGreat
open Go Go.Ax
variable {fuel : Nat} {M : Mem} {Q : AV → Mem → Prop} {d : Nat}
set_option maxHeartbeats 4000000 in
theorem zPB {o : Op} {ra : AV} (hS : Sl 1 zAS ra o.rs) (ho : o.ok) (hf : 100 < fuel) : ∃ r,rofK o r ∧ ∀ M,zAC Tryz.prog (fsT tbl) fuel (d + 8) (.fn 94) [.agg (opR o ra)] M = some (r,M):=by
 have hc:=fun M=>@zCK fuel d o ra hS ho hf M
 refine zDI tf94 rfl (fun M=>by simp only [icyL,zBW hS.fz]) ?_
 refine zAH tf94 rfl (by simp only [icyL,zBW hS.fz]) (by simp [a94]) fun b' ht hx=>?_
 have h0:=hx 0 _ rfl
 clear hx
 simp only [a94,c94,zz0,zzm] at ht ⊢
 unfold rofK rofE
 cases q1 : o.may with
 | false =>
  rw [q1] at hc
  simp (maxSteps:=2000000) (disch:=first | omega | assumption | (simp only [DS,Nat.reduceAdd, *]; done) | (simp only [DZ]; omega)) only [RUN,RU,zA2,zA1,zA0,zA5,frzL,slot,lay,zAJ,reduceIte,Nat.reduceEqDiff,Nat.reduceAdd,Nat.reduceSub,Int.reduceEq,h0,hc,zBG,Bool.false_eq_true,if_false]
  exact ⟨_,rfl,rfl⟩
 | true =>
  rw [q1] at hc
  have hl:=zK8 q1
  simp (maxSteps:=2000000) (disch:=first | omega | assumption | (simp only [DS,Nat.reduceAdd, *]; done) | (simp only [DZ]; omega)) only [RUN,RU,zA2,zA1,slot,reduceIte,Nat.reduceEqDiff,Nat.reduceBEq,Nat.reduceAdd,h0,hc,zB5,if_true]
  refine zP1 hS (by omega) (by simp (maxSteps:=2000000) (disch:=first | omega | assumption | (simp only [DS,Nat.reduceAdd, *]; done) | (simp only [DZ]; omega)) only [RUN]) fun a' M' wf' le' kp' sm' new' wm' di'=>?_
  have hd : M'.dirty = false:=di'
  have hsz : 2 ≤ M'.size:=le'
  have g0 : M'.get 0 = some (.row false (opR o ra)):=by rw [kp' 0 (by show 0 < 2; omega)]; simp (maxSteps:=2000000) (disch:=first | omega | assumption | (simp only [DS,Nat.reduceAdd, *]; done) | (simp only [DZ]; omega)) only [RUN]
  have g1 : M'.get 1 = some (.row false (rnR ⟨⟨Eid.z,0⟩,Eid.z,[]⟩ NIL)):=by rw [kp' 1 (by show 1 < 2; omega)]; simp (maxSteps:=2000000) (disch:=first | omega | assumption | (simp only [DS,Nat.reduceAdd, *]; done) | (simp only [DZ]; omega)) only [RUN]
  have oa:=sm'.one
  have ca:=sm'.cells
  have rl : ∀ j,rowOf a' = some j → 2 ≤ j:=new'
  have hz : ∀ y ∈ spR o.sp ++ idR o.af,Fz y:=fun y hy=>(List.mem_append.1 hy).elim (zIW o.sp y) (zCW o.af y)
  have rr:=fun a2 b2 M=>@zJK fuel (d + 1) o.rn a2 b2 hf M
  simp (maxSteps:=2000000) (disch:=first | omega | assumption | (simp only [DS,Nat.reduceAdd, *]; done) | (simp only [DZ]; omega)) only [RUN,RU,zA2,zA1,lay,zAJ,reduceIte,Nat.reduceEqDiff,Nat.reduceBEq,Nat.reduceAdd,hd,g0,ca]
  refine ⟨rfl, ?_⟩
  cases q2 : decide (o.kd = 1) with
  | false =>
   have q2':=of_decide_eq_false q2
   simp (maxSteps:=2000000) (disch:=first | omega | assumption | (simp only [DS,Nat.reduceAdd, *]; done) | (simp only [DZ]; omega)) only [RUN,RU,zA2,zA1,zA0,zA5,frzL,slot,lay,zAJ,reduceIte,Nat.reduceEqDiff,Nat.reduceAdd,Nat.reduceSub,g1]
   rw [if_neg (fun h=>q2' h.1)]
   simp only [show ((2 : Int) = 0) = False by decide,if_false]
   exact ⟨_,rfl,rfl⟩
  | true =>
   have q2':=of_decide_eq_true q2
   simp (maxSteps:=2000000) (disch:=first | omega | assumption | (simp only [DS,Nat.reduceAdd, *]; done) | (simp only [DZ]; omega)) only [RUN,RU,zA2,zA1,slot,reduceIte,Nat.reduceEqDiff]
   refine zMX (spR o.sp ++ idR o.af) a' (n:=d + 6) tf107 rfl hz (sm'.keep fun j hj=>?_) (by simp (maxSteps:=2000000) (disch:=first | omega | assumption | (simp only [DS,Nat.reduceAdd, *]; done) | (simp only [DZ]; omega)) only [RUN,wf']) zE1 (fun a2 b2 M=>rr a2 b2 M) fun a2 N2 b2 w2 s2 k2 r2 f2=>?_
   ·have:=sm'.lt j hj
    simp (maxSteps:=2000000) (disch:=first | omega | assumption | (simp only [DS,Nat.reduceAdd, *]; done) | (simp only [DZ]; omega)) only [RUN]
   have z1 : N2.get 1 = some (.row false (rnR ⟨⟨Eid.z,0⟩,Eid.z,[]⟩ NIL)):=by
    rw [k2 1 (fun e=>by have:=rl 1 e; omega)]
    simp (maxSteps:=2000000) (disch:=first | omega | assumption | (simp only [DS,Nat.reduceAdd, *]; done) | (simp only [DZ]; omega)) only [RUN,g1]
   have z5 : N2.get M'.size = some (.row false (rnR o.rn a')):=by
    rw [k2 _ (fun e=>by have:=sm'.lt _ e; omega)]
    simp (maxSteps:=2000000) (disch:=first | omega | assumption | (simp only [DS,Nat.reduceAdd, *]; done) | (simp only [DZ]; omega)) only [RUN]
    rfl
   have hs2 : M'.size < N2.size:=by rw [s2]; simp (maxSteps:=2000000) (disch:=first | omega | assumption | (simp only [DS,Nat.reduceAdd, *]; done) | (simp only [DZ]; omega)) only [RUN]; omega
   have e2:=f2 (N2.upd 1 (.row false (rnR o.rn a'))) 11 (by omega) (fun j hj=>zAA w2 _ _ _ (fun e=>by have:=rl j hj; omega))
   cases q3 : o.rn.may with
   | false =>
    simp (maxSteps:=2000000) (disch:=first | omega | assumption | (simp only [DS,Nat.reduceAdd, *]; done) | (simp only [DZ]; omega)) only [RUN,RU,zA2,zA1,zA0,zA5,frzL,slot,lay,zAJ,reduceIte,Nat.reduceEqDiff,Nat.reduceAdd,Nat.reduceSub,Int.reduceEq,z1,zBG,Bool.false_eq_true,and_false,if_false]
    exact ⟨_,rfl,rfl⟩
   | true =>
    simp (maxSteps:=2000000) (disch:=first | omega | assumption | (simp only [DS,Nat.reduceAdd, *]; done) | (simp only [DZ]; omega)) only [RUN,RU,zA2,zA1,zA0,zA5,frzL,slot,lay,reduceIte,Nat.reduceEqDiff,Nat.reduceAdd,Nat.reduceSub,z1,z5,zB5,q2',if_true,e2]
    exact ⟨_,⟨a2,rfl,b2⟩,rfl⟩
end Go.Proofs.YtkfdflajadkfkaaGreat
namespace Go.Proofs.YtkfdflajadkfkaaGreat
open Go Go.Ax
variable {fuel : Nat} {M : Mem} {Q : AV → Mem → Prop} {d : Nat}
theorem zID {o : Op} {ra : AV} (hS : Sl 1 zAS ra o.rs) (hl : o.rs.length ≤ 1000000000) (wf : Wf M) (hw : M.wm ≤ M.size) (k : ∀ a' N,Kept M N → SlM N 1 zAS a' o.rs → (∀ id,rowOf a' = some id → M.size ≤ id) → Q (.agg (opR o a')) N) :
  W3 (zAC Tryz.prog (fsT tbl) fuel (d + 2) (.fn 30) [.agg (opR o ra)] M) Q:=by
 refine zAY tf30 rfl (by simp [a30]) fun b' ht hx=>?_
 have h0:=hx 0 _ rfl
 clear hx
 simp only [a30,c30,zz4] at ht ⊢
 simp (maxSteps:=2000000) (disch:=first | omega | assumption | (simp only [DS,Nat.reduceAdd, *]; done) | (simp only [DZ]; omega)) only [RUN,RU,zA2,zA1,reduceIte,Nat.reduceEqDiff,h0]
 refine zP1 hS hl (by simp (maxSteps:=2000000) (disch:=first | omega | assumption | (simp only [DS,Nat.reduceAdd, *]; done) | (simp only [DZ]; omega)) only [RUN,wf]) fun a' M' wf' le' kp' sm' new' wm' di'=>?_
 simp only [zA8] at le' kp' new'
 have g0 : M'.get M.size = some (.row false (opR o ra)):=by rw [kp' _ (by omega)]; simp (maxSteps:=2000000) (disch:=first | omega | assumption | (simp only [DS,Nat.reduceAdd, *]; done) | (simp only [DZ]; omega)) only [RUN]
 have g1 : M'.get (M.size + 1) = some (.row false (opR ⟨0,Hd.z,0,⟨Eid.z,0⟩,Eid.z,Lb.z,[]⟩ NIL)):=by rw [kp' _ (by omega)]; simp (maxSteps:=2000000) (disch:=first | omega | assumption | (simp only [DS,Nat.reduceAdd, *]; done) | (simp only [DZ]; omega)) only [RUN]
 have oa:=sm'.one
 have ca:=sm'.cells
 have rl:=zBE sm'.rl (Nat.le_refl M'.size)
 have z0 : M.size < M'.size:=by omega
 have z1 : M.size + 1 < M'.size:=by omega
 simp (maxSteps:=2000000) (disch:=first | omega | assumption | (simp only [DS,Nat.reduceAdd, *]; done) | (simp only [DZ]; omega)) only [RUN,RU,zA2,zA1,zA0,zA5,slot,lay,reduceIte,Nat.reduceEqDiff,Nat.reduceAdd,g0,g1,ca]
 have kM' : Kept M M':=⟨wf',by omega,fun j hj=>by rw [kp' j (by omega),zAF (wf.add _) _ _ (by rw [zA8]; omega),zAF wf _ _ hj],wm',di'⟩
 refine k a' _ ((kM'.upd hw (Nat.le_refl _) _).upd hw (by omega) _) (sm'.keep fun j hj=>?_) (fun id h=>by have:=new' id h; omega)
 have:=new' j hj
 simp (maxSteps:=2000000) (disch:=first | omega | assumption | (simp only [DS,Nat.reduceAdd, *]; done) | (simp only [DZ]; omega)) only [RUN]
def Spn.ids (s : Spn) : List Eid:=(List.range s.n.toNat).map fun (i : Nat)=>s.at i
theorem zIY {s : Spn} (hs : s.ok) (hm : s.may = true) (i : Nat) (hi : i < s.n.toNat) : (s.at i).ok:=by
 have:=Spn.may_le hm
 exact ⟨hs.1.1,by show -9223372036854775808 ≤ s.f.c + i; omega,by show s.f.c + i ≤ _; omega⟩
set_option maxHeartbeats 4000000 in
theorem zGD {s : Spn} (hs : s.ok) (hm : s.may = true) (hf : 100 < fuel) : ∃ r,Sl 4 zO4 r s.ids ∧ ∀ M,zAC Tryz.prog (fsT tbl) fuel (d + 6) (.fn 51) [spA s] M = some (r,M):=by
 have hb:=Spn.may_le hm
 obtain ⟨m,hmn⟩ : ∃ m : Nat,s.n = m:=⟨s.n.toNat,by omega⟩
 have ei : s.ids = (List.range m).map fun (i : Nat)=>s.at i:=by unfold Spn.ids; rw [hmn]; rfl
 have hat:=fun n M=>@zSR fuel d s n M
 simp only [hm,if_true] at hat
 rw [ei]
 refine zDI tf51 rfl (fun M=>by simp only [icyL,zAK (zIW s) (show 1 < 12 by omega)]) ?_
 refine zAH tf51 rfl (by simp only [icyL,zAK (zIW s) (show 1 < 12 by omega)]) (by simp [a51]) fun b' ht hx=>?_
 have h0:=hx 0 _ rfl
 clear hx
 simp only [a51,c51,zz2,zzm] at ht ⊢
 simp (maxSteps:=2000000) (disch:=first | omega | assumption | (simp only [DS,Nat.reduceAdd, *]; done) | (simp only [DZ]; omega)) only [RUN,RU,zA2,zA1,reduceIte,Nat.reduceEqDiff,h0,hmn]
 refine zB1 (I:=fun n t N => ∃ (i : Nat) (o : AV),n = m - i ∧ i ≤ m ∧ nth zA4 t 1 = .ptr 0 0 ∧ nth zA4 t 2 = o ∧ nth zA4 t 7 = I64 m ∧ nth zA4 t 8 = I64 i ∧ Wf N ∧ N.get 0 = some (.row false (spR s)) ∧ SlM N 4 zO4 o ((List.range i).map fun (j : Nat)=>s.at j) ∧ (∀ j,rowOf o = some j → 0 < j)) (n:=m) (by omega) ?_ ?_
 ·refine ⟨0,NIL,rfl,Nat.zero_le _, ?_, ?_, ?_, ?_,Wf.mem0.add _,by simp (maxSteps:=2000000) (disch:=first | omega | assumption | (simp only [DS,Nat.reduceAdd, *]; done) | (simp only [DZ]; omega)) only [RUN],SlM.nil,(fun _ h=>by cases h)⟩ <;> simp (maxSteps:=2000000) (disch:=first | omega | assumption | (simp only [DS,Nat.reduceAdd, *]; done) | (simp only [DZ]; omega)) only [RUN,reduceIte,Nat.reduceEqDiff]
  all_goals first | rfl | assumption | done
 ·rintro n t N hlt ⟨i,o,rfl,hi,g1,g2,g7,g8,w,g,sm,ro⟩
  simp only [ht] at hlt ⊢
  by_cases hc : i < m
  ·have q1 : decide ((i : Int) < m) = true:=decide_eq_true (by omega)
   have hi' : ¬((i : Int) < 0 ∨ s.n ≤ i):=by omega
   have hat:=fun M=>hat i M
   simp only [hi',if_false] at hat
   have ok:=zIY hs hm i (by omega)
   have lN:=Mem.get_lt g
   have w1 : IntKind.i64.wrap ((i : Int) + 1) = ((i + 1 : Nat) : Int):=by rw [wrap_i64] <;> omega
   have oo:=sm.one
   have co:=sm.cells
   simp (maxSteps:=2000000) (disch:=first | omega | assumption | (simp only [DS,Nat.reduceAdd, *]; done) | (simp only [DZ]; omega)) only [RUN,RU,zA2,zA1,slot,lay,zAJ,zAD,reduceIte,Nat.reduceEqDiff,Nat.reduceBEq,Nat.reduceAdd,g1,g2,g7,g8,q1,g,hat]
   refine ⟨zBE sm.rl (by omega), ?_⟩
   refine app1 ((w.add _).upd _ _) (sm.keep fun j hj=>?_) zG9 (x:=s.at i) ⟨rfl,ok⟩ rfl (by omega) (by simp; omega) (by simp; omega) fun o' M' m' w' le' kp' nw' wm' rl' on' oc'=>?_
   ·have:=sm.lt j hj
    simp (maxSteps:=2000000) (disch:=first | omega | assumption | (simp only [DS,Nat.reduceAdd, *]; done) | (simp only [DZ]; omega)) only [RUN]
   simp only [zAE,zA8] at le' kp' nw'
   simp (maxSteps:=2000000) (disch:=first | omega | assumption | (simp only [DS,Nat.reduceAdd, *]; done) | (simp only [DZ]; omega)) only [RUN,RU,zA2,zA1,reduceIte,Nat.reduceEqDiff,g1,g2,g7,g8,w1]
   refine ⟨hlt,m - (i + 1),by omega,i + 1,o',rfl,by omega,rfl,rfl,w', ?_, ?_,fun j hj=>?_⟩
   ·rw [kp' 0 (by omega) (fun e=>by have:=ro 0 e; omega)]
    simp (maxSteps:=2000000) (disch:=first | omega | assumption | (simp only [DS,Nat.reduceAdd, *]; done) | (simp only [DZ]; omega)) only [RUN,g]
   ·rw [List.range_succ,List.map_append]; exact m'
   ·rcases nw' j hj with h | h
    ·exact ro j h
    ·omega
  ·obtain rfl : i = m:=by omega
   have q1 : decide ((i : Int) < i) = false:=decide_eq_false (by omega)
   obtain ⟨rr,hz,hr⟩:=sm.frz zG9.cel (k:=12) (by omega)
   simp (maxSteps:=2000000) (disch:=first | omega | assumption | (simp only [DS,Nat.reduceAdd, *]; done) | (simp only [DZ]; omega)) only [RUN,RU,zA2,zA1,zA0,zA5,frzL,reduceIte,Nat.reduceEqDiff,g2,g7,g8,hz]
   exact ⟨rr,hr,rfl⟩
end Go.Proofs.YtkfdflajadkfkaaGreat
namespace Go.Proofs.YtkfdflajadkfkaaGreat
open Go Go.Ax
structure El where
 id : Eid
 af : Eid
 ch : Int
 deriving DecidableEq
end Go.Proofs.YtkfdflajadkfkaaGreat
namespace Go.Proofs.YtkfdflajadkfkaaGreat
open Go Go.Ax
variable {fuel : Nat} {M : Mem} {Q : AV → Mem → Prop} {d : Nat}
set_option maxHeartbeats 4000000 in
theorem zJC {s : Spn} (hs : s.ok) (hm : s.may = true) (hf : 100 < fuel) : ∃ r,Sl 4 zO4 r s.ids ∧ ∀ M,zAC Tryz.prog (fsT tbl) fuel (d + 1) (.fn 69) [spA s] M = some (r,M):=by
 have hb:=Spn.may_le hm
 obtain ⟨m,hmn⟩ : ∃ m : Nat,s.n = m:=⟨s.n.toNat,by omega⟩
 have ei : s.ids = (List.range m).map fun (i : Nat)=>s.at i:=by unfold Spn.ids; rw [hmn]; rfl
 rw [ei]
 refine zDI tf69 rfl (fun M=>by simp only [icyL,zAK (zIW s) (show 1 < 12 by omega)]) ?_
 refine zAH tf69 rfl (by simp only [icyL,zAK (zIW s) (show 1 < 12 by omega)]) (by simp [a69]) fun b' ht hx=>?_
 have h0:=hx 0 _ rfl
 clear hx
 simp only [a69,c69,zz2,zzm] at ht ⊢
 simp (maxSteps:=2000000) (disch:=first | omega | assumption | (simp only [DS,Nat.reduceAdd, *]; done) | (simp only [DZ]; omega)) only [RUN,RU,zA2,zA1,h0]
 refine zB1 (I:=fun n t N => ∃ (i : Nat) (o : AV),n = m - i ∧ i ≤ m ∧ nth zA4 t 1 = .ptr 0 0 ∧ nth zA4 t 3 = o ∧ nth zA4 t 4 = I64 i ∧ Wf N ∧ N.get 0 = some (.row false (spR s)) ∧ SlM N 4 zO4 o ((List.range i).map fun (j : Nat)=>s.at j) ∧ (∀ j,rowOf o = some j → 0 < j)) (n:=m) (by omega) ?_ ?_
 ·refine ⟨0,NIL,rfl,Nat.zero_le _, ?_, ?_, ?_,Wf.mem0.add _,by simp (maxSteps:=2000000) (disch:=first | omega | assumption | (simp only [DS,Nat.reduceAdd, *]; done) | (simp only [DZ]; omega)) only [RUN],SlM.nil,(fun _ h=>by cases h)⟩ <;> simp (maxSteps:=2000000) (disch:=first | omega | assumption | (simp only [DS,Nat.reduceAdd, *]; done) | (simp only [DZ]; omega)) only [RUN,reduceIte,Nat.reduceEqDiff]
  all_goals first | rfl | assumption | done
 ·rintro n t N hlt ⟨i,o,rfl,hi,g1,g3,g4,w,g,sm,ro⟩
  simp only [ht] at hlt ⊢
  have lN:=Mem.get_lt g
  have oo:=sm.one
  have co:=sm.cells
  by_cases hc : i < m
  ·have q1 : decide ((i : Int) < s.n) = true:=decide_eq_true (by omega)
   have ok:=zIY hs hm i (by omega)
   have w1 : IntKind.i64.wrap ((i : Int) + 1) = ((i + 1 : Nat) : Int):=by rw [wrap_i64] <;> omega
   have w2 : IntKind.i64.wrap (s.f.c + i) = s.f.c + i:=wrap_i64 (by omega) (by omega)
   simp (maxSteps:=2000000) (disch:=first | omega | assumption | (simp only [DS,Nat.reduceAdd, *]; done) | (simp only [DZ]; omega)) only [RUN,RU,zA2,zA1,slot,lay,zAJ,zAD,reduceIte,Nat.reduceEqDiff,Nat.reduceBEq,Nat.reduceAdd,g1,g3,g4,q1,g,w2]
   refine ⟨zBE sm.rl (by omega), ?_⟩
   refine app1 (bytes:=24) w sm zG9 (x:=s.at i) ⟨rfl,ok⟩ rfl (by omega) (by simp; omega) (by simp; omega) fun o' M' m' w' le' kp' nw' wm' rl' on' oc'=>?_
   simp (maxSteps:=2000000) (disch:=first | omega | assumption | (simp only [DS,Nat.reduceAdd, *]; done) | (simp only [DZ]; omega)) only [RUN,RU,zA2,zA1,reduceIte,Nat.reduceEqDiff,g1,g3,g4,w',w1]
   refine ⟨hlt,m - (i + 1),by omega,i + 1,o',rfl,by omega,rfl,rfl, ?_,by rw [List.range_succ,List.map_append]; exact m',fun j hj=>?_⟩
   ·rw [kp' 0 lN (fun h=>by have:=ro 0 h; omega)]; exact g
   ·rcases nw' j hj with h | h
    ·exact ro j h
    ·omega
  ·obtain rfl : i = m:=by omega
   have q1 : decide ((i : Int) < s.n) = false:=decide_eq_false (by omega)
   obtain ⟨r,hz,hsr⟩:=sm.frz zG9.cel (k:=12) (by omega)
   simp (maxSteps:=2000000) (disch:=first | omega | assumption | (simp only [DS,Nat.reduceAdd, *]; done) | (simp only [DZ]; omega)) only [RUN,RU,zA2,zA1,zA0,zA5,frzL,reduceIte,Nat.reduceEqDiff,g1,g3,g4,q1,g,hz]
   exact ⟨r,hsr,rfl⟩
theorem Rn.spB {r : Rn} (h : r.may = true) : r.sp.may = true:=by
 unfold Rn.may at h
 simp only [Bool.and_eq_true] at h
 exact h.1.1.1
theorem Rn.may_iffB {r : Rn} (h : r.may = true) : (r.rs.length : Int) = r.sp.n ∧ r.rs.length ≤ 64:=by
 unfold Rn.may at h
 simp only [Bool.and_eq_true,decide_eq_true_eq] at h
 have hb:=Spn.may_le h.1.1.1
 have:=h.1.2
 omega
def Rn.bh (r : Rn) (n : Int) : Eid:=if 0 < n then r.sp.at (n - 1) else r.af
def Rn.elB (r : Rn) : List El:=(List.range r.sp.n.toNat).map fun (i : Nat)=>⟨r.sp.at i,r.bh i,r.rs.getD i 0⟩
def elsB (l : List Rn) : List El:=l.flatMap Rn.elB
abbrev elR9 (x : El) : List AV:=[U8 x.id.hd.lb.lv,U32 x.id.hd.lb.cats,U8 x.id.hd.num,I64 x.id.c,U8 x.af.hd.lb.lv,U32 x.af.hd.lb.cats,U8 x.af.hd.num,I64 x.af.c,I32 x.ch]
def isEl (r : List AV) (x : El) : Prop:=r = elR9 x ∧ x.id.ok ∧ x.af.ok
theorem zU1 (x : El) : ∀ y ∈ elR9 x,Fz y:=fun y hy=>by
 simp only [elR9,List.mem_cons,List.not_mem_nil,or_false] at hy
 rcases hy with rfl | rfl | rfl | rfl | rfl | rfl | rfl | rfl | rfl <;> exact zC4 _ _
theorem zQV : FzT isEl:=fun r x h=>by rw [h.1]; exact zU1 x
theorem zJ9 {o : Rn} {ra : AV} (hS : Sl 1 zAS ra o.rs) (n : Int) (M : Mem) : zAC Tryz.prog (fsT tbl) fuel (d + 1) (.fn 105) [.agg (rnR o ra),I64 n] M = some (idA ⟨o.sp.f.hd,IntKind.i64.wrap (o.sp.f.c + n)⟩,M):=by
 have ora:=hS.one
 apply zB6
 refine zAH tf105 rfl (by simp only [icyL,zLW hS.fz,zH4]) (by simp [a105]) fun b' ht hx=>?_
 have h0:=hx 0 _ rfl
 have h1:=hx 1 _ rfl
 clear hx
 simp only [a105,c105,zz2] at ht ⊢
 simp (maxSteps:=2000000) (disch:=first | omega | assumption | (simp only [DS,Nat.reduceAdd, *]; done) | (simp only [DZ]; omega)) only [RUN,RU,zA2,zA1,zA0,zA5,frzL,slot,lay,zAJ,reduceIte,Nat.reduceEqDiff,Nat.reduceBEq,Nat.reduceAdd,Nat.reduceSub,h0,h1]
theorem zOW {o : Rn} {ra : AV} (hS : Sl 1 zAS ra o.rs) (hm : o.may = true) (n : Nat) (hn : n < 64) (M : Mem) : zAC Tryz.prog (fsT tbl) fuel (d + 2) (.fn 106) [.agg (rnR o ra),I64 n] M = some (idA (o.bh n),M):=by
 have ora:=hS.one
 have hb:=Spn.may_le (Rn.spB hm)
 have hi:=fun n M=>zJ9 (fuel:=fuel) (d:=d) hS n M
 apply zB6
 refine zAH tf106 rfl (by simp only [icyL,zLW hS.fz,zH4]) (by simp [a106]) fun b' ht hx=>?_
 have h0:=hx 0 _ rfl
 have h1:=hx 1 _ rfl
 clear hx
 simp only [a106,c106,zz2,zzm] at ht ⊢
 unfold Rn.bh
 by_cases q : n = 0
 ·subst q
  have q1 : decide (((0 : Nat) : Int) = 0) = true:=rfl
  simp (maxSteps:=2000000) (disch:=first | omega | assumption | (simp only [DS,Nat.reduceAdd, *]; done) | (simp only [DZ]; omega)) only [RUN,RU,zA2,zA1,zA0,zA5,frzL,slot,lay,reduceIte,Nat.reduceEqDiff,Nat.reduceAdd,Nat.reduceSub,h0,h1,q1]
  rfl
 ·have q1 : decide ((n : Int) = 0) = false:=decide_eq_false (by omega)
  have q2 : (0 : Int) < n:=by omega
  have w1 : IntKind.i64.wrap ((n : Int) - 1) = (n : Int) - 1:=wrap_i64 (by omega) (by omega)
  have w2 : IntKind.i64.wrap (o.sp.f.c + ((n : Int) - 1)) = o.sp.f.c + ((n : Int) - 1):=wrap_i64 (by omega) (by omega)
  simp (maxSteps:=2000000) (disch:=first | omega | assumption | (simp only [DS,Nat.reduceAdd, *]; done) | (simp only [DZ]; omega)) only [RUN,RU,zA2,zA1,zA0,zA5,frzL,slot,lay,reduceIte,Nat.reduceEqDiff,Nat.reduceAdd,Nat.reduceSub,h0,h1,q1,w1,hi,w2]
  rw [if_pos q2]
  rfl
theorem zE9 (r : Rn) : r.elB.length = r.sp.n.toNat:=by simp [Rn.elB]
theorem zQI (r : Rn) (i : Nat) (h : i < r.sp.n.toNat) : r.elB.take (i + 1) = r.elB.take i ++ [⟨r.sp.at i,r.bh i,r.rs.getD i 0⟩]:=by
 rw [List.take_add_one,List.getElem?_eq_getElem (by rw [zE9]; exact h)]
 simp [Rn.elB]
theorem zNN (l : List Rn) (i : Nat) (h : i < l.length) : elsB (l.take (i + 1)) = elsB (l.take i) ++ l[i].elB:=by
 have e : l.take (i + 1) = l.take i ++ [l[i]]:=by rw [List.take_add_one,List.getElem?_eq_getElem h]; rfl
 rw [e]
 unfold elsB
 rw [List.flatMap_append]
 simp
theorem zQJ {l : List Rn} (h : ∀ r ∈ l,r.may = true) : (elsB l).length ≤ 64 * l.length:=by
 induction l with
 | nil=>simp [elsB]
 | cons r l ih =>
  have hb:=Spn.may_le (Rn.spB (h r List.mem_cons_self))
  have:=ih fun x hx=>h x (List.mem_cons_of_mem _ hx)
  have e : elsB (r :: l) = r.elB ++ elsB l:=by simp [elsB]
  rw [e,List.length_append,zE9,List.length_cons]
  omega
set_option maxHeartbeats 16000000 in
theorem zMP {a : AV} {l : List Rn} (hS : Sl 10 isRn a l) (hm : ∀ r ∈ l,r.may = true) (hl : l.length ≤ 10000) (hf : l.length + 200 < fuel) : ∃ r,Sl 9 isEl r (elsB l) ∧ ∀ M,zAC Tryz.prog (fsT tbl) fuel (d + 3) (.fn 88) [a] M = some (r,M):=by
 have ll:=hS.len
 refine zDI tf88 rfl (fun M=>by simp only [icyL,fun M=>hS.icy M 12 (by omega)]) ?_
 refine zAH tf88 rfl (by simp only [icyL,fun M=>hS.icy M 12 (by omega)]) (by simp [a88]) fun b' ht hx=>?_
 have h0:=hx 0 _ rfl
 clear hx
 simp only [a88,c88,zz1,zzm] at ht ⊢
 simp (maxSteps:=2000000) (disch:=first | omega | assumption | (simp only [DS,Nat.reduceAdd, *]; done) | (simp only [DZ]; omega)) only [RUN,RU,zA2,zA1]
 refine zB1 (I:=fun nq tq Nq => ∃ (iq : Nat) (o : AV),nq = l.length - iq ∧ iq ≤ l.length ∧ nth zA4 tq 0 = a ∧ nth zA4 tq 3 = o ∧ nth zA4 tq 4 = I64 iq ∧ Wf Nq ∧ SlM Nq 9 isEl o (elsB (l.take iq))) (n:=l.length) (by omega) ?_ ?_
 ·refine ⟨0,NIL,rfl,Nat.zero_le _, ?_, ?_, ?_,Wf.mem0,SlM.nil⟩ <;> simp (maxSteps:=2000000) (disch:=first | omega | assumption | (simp only [DS,Nat.reduceAdd, *]; done) | (simp only [DZ]; omega)) only [RUN,reduceIte,Nat.reduceEqDiff,h0]
  all_goals first | rfl | assumption | done
 ·rintro nq tq Nq hltq ⟨iq,o,rfl,hiq,gq0,gq3,gq4,wq,sq⟩
  simp only [ht] at hltq ⊢
  by_cases hc : iq < l.length
  ·have c1 : decide ((iq : Int) < l.length) = true:=decide_eq_true (by omega)
   have w1 : IntKind.i64.wrap ((iq : Int) + 1) = ((iq + 1 : Nat) : Int):=by rw [wrap_i64] <;> omega
   obtain ⟨rr,hiad,hri,_⟩:=hS.iad iq hc
   have hmr:=hm l[iq] (List.getElem_mem hc)
   have hsn:=zNN l iq hc
   have htl:=zQJ (l:=l.take iq) fun r hr=>hm r (List.mem_of_mem_take hr)
   have htk : (l.take iq).length ≤ 10000:=by rw [List.length_take]; omega
   generalize l[iq] = x at *
   obtain ⟨ra,rfl,hra,hok⟩:=hri
   have hb:=Spn.may_le (Rn.spB hmr)
   have hlen:=(Rn.may_iffB hmr).1
   obtain ⟨m,hmn⟩ : ∃ m : Nat,x.sp.n = m:=⟨x.sp.n.toNat,by omega⟩
   have hid:=fun n M=>zJ9 (fuel:=fuel) (d:=d + 1) hra n M
   have hbh:=fun n hn M=>zOW (fuel:=fuel) (d:=d) hra hmr n hn M
   generalize elsB (l.take iq) = E at *
   simp (maxSteps:=2000000) (disch:=first | omega | assumption | (simp only [DS,Nat.reduceAdd, *]; done) | (simp only [DZ]; omega)) only [RUN,RU,zA2,zA1,reduceIte,Nat.reduceEqDiff,gq0,gq4,ll,c1]
   refine zB1 (I:=fun nk tk Nk => ∃ (ik : Nat) (o2 : AV),nk = m - ik ∧ ik ≤ m ∧ nth zA4 tk 0 = a ∧ nth zA4 tk 3 = o2 ∧ nth zA4 tk 4 = I64 iq ∧ nth zA4 tk 5 = I64 ik ∧ Wf Nk ∧ SlM Nk 9 isEl o2 (E ++ x.elB.take ik)) (n:=m) (by omega) ?_ ?_
   ·refine ⟨0,o,rfl,Nat.zero_le _, ?_, ?_, ?_, ?_,wq,(by simpa using sq)⟩ <;> simp (maxSteps:=2000000) (disch:=first | omega | assumption | (simp only [DS,Nat.reduceAdd, *]; done) | (simp only [DZ]; omega)) only [RUN,reduceIte,Nat.reduceEqDiff,gq0,gq3,gq4]
    all_goals first | rfl | assumption | done
   ·rintro nk tk Nk hltk ⟨ik,o2,rfl,hik,gk0,gk3,gk4,gk5,wk,sk⟩
    simp only [hltq] at hltk ⊢
    have ok2:=sk.one
    have ck2:=sk.cells
    have hEl : (E ++ x.elB.take ik).length ≤ 640064:=by rw [List.length_append,List.length_take,zE9]; omega
    by_cases hc2 : ik < m
    ·have c2 : decide ((ik : Int) < x.sp.n) = true:=decide_eq_true (by omega)
     have w2 : IntKind.i64.wrap ((ik : Int) + 1) = ((ik + 1 : Nat) : Int):=by rw [wrap_i64] <;> omega
     have w3 : IntKind.i64.wrap (x.sp.f.c + ik) = x.sp.f.c + ik:=wrap_i64 (by omega) (by omega)
     have hxl : ik < x.rs.length:=by omega
     obtain ⟨rc,hia,rfl,_⟩:=hra.iad ik hxl
     have hbh1:=fun M=>hbh ik (by omega) M
     have hok1 : (x.sp.at ik).ok:=⟨hok.1.1.1,by show -9223372036854775808 ≤ x.sp.f.c + ik; omega,by show x.sp.f.c + ik ≤ _; omega⟩
     have hok2 : (x.bh ik).ok:=by
      unfold Rn.bh
      split
      ·exact ⟨hok.1.1.1,by show -9223372036854775808 ≤ x.sp.f.c + ((ik : Int) - 1); omega,by show x.sp.f.c + ((ik : Int) - 1) ≤ _; omega⟩
      ·exact hok.2.1
     have hgd : x.rs.getD ik 0 = x.rs[ik]:=by rw [List.getD_eq_getElem?_getD,List.getElem?_eq_getElem hxl]; rfl
     have htke:=zQI x ik (by omega)
     rw [hgd] at htke
     simp (maxSteps:=2000000) (disch:=first | omega | assumption | (simp only [DS,Nat.reduceAdd, *]; done) | (simp only [DZ]; omega)) only [RUN,RU,zA2,zA1,slot,lay,zAJ,zAD,reduceIte,Nat.reduceEqDiff,Nat.reduceBEq,Nat.reduceAdd,gk0,gk3,gk4,gk5,c2,hiad,hid,w3,hbh1,hia]
     refine ⟨zBE sk.rl (by omega), ?_⟩
     refine app1 (bytes:=56) wk sk zQV (x:=⟨x.sp.at ik,x.bh ik,x.rs[ik]⟩) ⟨rfl,hok1,hok2⟩ rfl (by omega) (by omega) (by omega) fun o' M' m' w' le' kp' nw' wm' rl' on' oc'=>?_
     simp (maxSteps:=2000000) (disch:=first | omega | assumption | (simp only [DS,Nat.reduceAdd, *]; done) | (simp only [DZ]; omega)) only [RUN,RU,zA2,zA1,reduceIte,Nat.reduceEqDiff,Nat.reduceAdd,gk0,gk3,gk4,gk5,w',w2]
     exact ⟨hltk,m - (ik + 1),by omega,ik + 1,o',rfl,by omega,rfl,rfl,by rw [htke,← List.append_assoc]; exact m'⟩
    ·obtain rfl : ik = m:=by omega
     have c2 : decide ((ik : Int) < x.sp.n) = false:=decide_eq_false (by omega)
     rw [List.take_of_length_le (by rw [zE9]; omega),← hsn] at sk
     simp (maxSteps:=2000000) (disch:=first | omega | assumption | (simp only [DS,Nat.reduceAdd, *]; done) | (simp only [DZ]; omega)) only [RUN,RU,zA2,zA1,reduceIte,Nat.reduceEqDiff,gk0,gk3,gk4,gk5,c2,hiad,w1]
     exact ⟨hltk,l.length - (iq + 1),by omega,iq + 1,o2,rfl,by omega,rfl,rfl,wk,sk⟩
  ·obtain rfl : iq = l.length:=by omega
   have c1 : decide ((l.length : Int) < l.length) = false:=decide_eq_false (by omega)
   rw [List.take_length] at sq
   obtain ⟨r,hz,hsr⟩:=sq.frz zQV.cel (k:=12) (by omega)
   have oo:=sq.one
   simp (maxSteps:=2000000) (disch:=first | omega | assumption | (simp only [DS,Nat.reduceAdd, *]; done) | (simp only [DZ]; omega)) only [RUN,RU,zA2,zA1,zA0,zA5,frzL,reduceIte,Nat.reduceEqDiff,gq0,gq3,gq4,ll,hz]
   exact ⟨r,hsr,rfl⟩
def whI (l : List El) (x : Eid) : Int:=posF (fun e=>decide (e.id = x)) l
theorem zVL (l : List El) (x : Eid) : decide (0 ≤ whI l x) = l.any fun e=>decide (e.id = x):=zFX _ _
set_option maxHeartbeats 8000000 in
theorem zFQ {a : AV} {l : List El} (hS : Sl 9 isEl a l) (x : Eid) (hl : l.length ≤ 1000000000) (hf : l.length < fuel) (M : Mem) : zAC Tryz.prog (fsT tbl) fuel (d + 1) (.fn 72) [a,idA x] M = some (I64 (whI l x),M):=by
 have ll:=hS.len
 apply zB6
 refine zAH tf72 rfl (by simp only [icyL,fun M=>hS.icy M 12 (by omega),zAK (zCW x) (show 1 < 12 by omega)]) (by simp [a72]) fun b' ht hx=>?_
 have h0:=hx 0 _ rfl
 have h1:=hx 1 _ rfl
 clear hx
 simp only [a72,c72,zzm] at ht ⊢
 unfold whI
 simp (maxSteps:=2000000) (disch:=first | omega | assumption | (simp only [DS,Nat.reduceAdd, *]; done) | (simp only [DZ]; omega)) only [RUN,RU,zA2,zA1,h1]
 refine zB1 (I:=fun n t N => ∃ (i : Nat),n = l.length - i ∧ i ≤ l.length ∧ nth zA4 t 0 = a ∧ nth zA4 t 3 = .ptr 0 0 ∧ nth zA4 t 5 = I64 i ∧ Wf N ∧ N.get 0 = some (.row false (idR x)) ∧ (∀ j (x1 : j < l.length),j < i → decide (l[j].id = x) = false)) (n:=l.length) (by omega) ?_ ?_
 ·refine ⟨0,rfl,Nat.zero_le _, ?_, ?_, ?_,Wf.mem0.add _,by simp (maxSteps:=2000000) (disch:=first | omega | assumption | (simp only [DS,Nat.reduceAdd, *]; done) | (simp only [DZ]; omega)) only [RUN],(fun _ _ h=>absurd h (by omega))⟩ <;> simp (maxSteps:=2000000) (disch:=first | omega | assumption | (simp only [DS,Nat.reduceAdd, *]; done) | (simp only [DZ]; omega)) only [RUN,reduceIte,Nat.reduceEqDiff,h0]
  all_goals first | rfl | assumption | done
 ·rintro n t N hlt ⟨i,rfl,hi,g0,g3,g5,w,g,hj⟩
  simp only [ht] at hlt ⊢
  have lg:=Mem.get_lt g
  by_cases hc : i < l.length
  ·have q1 : decide ((i : Int) < l.length) = true:=decide_eq_true (by omega)
   have w1 : IntKind.i64.wrap ((i : Int) + 1) = ((i + 1 : Nat) : Int):=by rw [wrap_i64] <;> omega
   obtain ⟨r,hiad,⟨rfl,_⟩,_⟩:=hS.iad i hc
   cases q2 : decide (l[i].id = x) with
   | true =>
    have e:=zIF (p:=fun e : El=>decide (e.id = x)) hc q2 (fun j hj'=>hj j (by omega) hj')
    simp (maxSteps:=2000000) (disch:=first | omega | assumption | (simp only [DS,Nat.reduceAdd, *]; done) | (simp only [DZ]; omega)) only [RUN,RU,zA2,zA1,zA0,zA5,frzL,slot,reduceIte,Nat.reduceEqDiff,Nat.reduceBEq,Nat.reduceAdd,g0,g3,g5,ll,q1,hiad,g,↓pIdE,zB3,ETA,q2]
    rw [e]
   | false =>
    simp (maxSteps:=2000000) (disch:=first | omega | assumption | (simp only [DS,Nat.reduceAdd, *]; done) | (simp only [DZ]; omega)) only [RUN,RU,zA2,zA1,slot,reduceIte,Nat.reduceEqDiff,Nat.reduceBEq,Nat.reduceAdd,g0,g3,g5,ll,q1,hiad,g,↓pIdE,zB3,ETA,q2,w1]
    exact ⟨hlt,l.length - (i + 1),by omega,i + 1,rfl,by omega,rfl,w,fun j x1 hj'=>by
     rcases Nat.lt_succ_iff_lt_or_eq.1 hj' with h | rfl
     ·exact hj j x1 h
     ·exact q2⟩
  ·obtain rfl : i = l.length:=by omega
   have q1 : decide ((l.length : Int) < l.length) = false:=decide_eq_false (by omega)
   have e:=zIG (p:=fun e : El=>decide (e.id = x)) (l:=l) (fun j hj'=>hj j hj' hj')
   simp (maxSteps:=2000000) (disch:=first | omega | assumption | (simp only [DS,Nat.reduceAdd, *]; done) | (simp only [DZ]; omega)) only [RUN,RU,zA2,zA1,zA0,zA5,frzL,reduceIte,Nat.reduceEqDiff,g0,g5,ll]
   rw [e]
end Go.Proofs.YtkfdflajadkfkaaGreat
namespace Go.Proofs.YtkfdflajadkfkaaGreat
open Go Go.Ax
variable {fuel : Nat} {M : Mem} {Q : AV → Mem → Prop} {d : Nat}
def cM1 : ACode:=(.region [⟨some 8,.alloc 25 (.agg #[(.int .u8 0),(.int .u32 0)]),none,[]⟩,⟨none,.store 2 (.tmp 8) (.tmp 17),none,[]⟩] false)
def cM2 : ACode:=(.block 1 (.seq (.region [⟨some 18,.load 1 false (.tmp 7),none,[1]⟩,⟨some 19,.load 2 true (.tmp 8),none,[0]⟩,⟨some 20,.call (.func 87) [(.tmp 18),(.tmp 19)],none,[]⟩,⟨some 21,.pur (mkO (.unOp .not 4 (.tmp 20)) 4),none,[]⟩] false) (.cond (.tmp 21) (.region [⟨some 22,.load 1 false (.tmp 7),none,[1,2]⟩,⟨some 23,.load 2 true (.tmp 8),none,[0]⟩,⟨some 24,.bsl 25 2 (.agg #[(.int .u8 0),(.int .u32 0)]) 1 [(0,2,(.tmp 23))],none,[0]⟩,⟨some 25,.app 25 2 8 (.agg #[(.int .u8 0),(.int .u32 0)]) (.tmp 22) (.tmp 24),none,[]⟩,⟨none,.store 1 (.tmp 7) (.tmp 25),none,[]⟩] false) .skip)))
def addL (out : List Lb) (x : Lb) : List Lb:=if out.any (fun y=>decide (x = y)) then out else out ++ [x]
structure MI (M : Mem) (tm : List AV) (a : AV) (x : Eid) (v : Lb) (o : AV) (out : List Lb) : Prop where
 wf : Wf M
 sz : 9 ≤ M.size
 g3 : M.get 3 = some (.row false [o])
 g4 : M.get 4 = some (.row false [a])
 g5 : M.get 5 = some (.row false (idR x))
 g6 : M.get 6 = some (.row false (lbR v))
 g7 : M.get 7 = some (.dfr false)
 g8 : M.get 8 = some (.loop .ready none tm [17] cM1 cM2 7)
 sm : SlM M 2 isLb o out
 ro : ∀ j,rowOf o = some j → j = 2 ∨ 9 ≤ j
variable {tm : List AV} {a o : AV} {x : Eid} {v : Lb} {out : List Lb}
theorem MI.keep {N : Mem} (h : MI M tm a x v o out) (wf : Wf N) (hs : M.size ≤ N.size) (k : ∀ j,j < M.size → N.get j = M.get j) : MI N tm a x v o out:=by
 have:=h.sz
 exact ⟨wf,by omega,(k 3 (by omega)).trans h.g3,(k 4 (by omega)).trans h.g4,(k 5 (by omega)).trans h.g5,(k 6 (by omega)).trans h.g6,(k 7 (by omega)).trans h.g7,(k 8 (by omega)).trans h.g8,h.sm.keep fun j hj=>k j (h.sm.lt j hj),h.ro⟩
theorem MI.back {X : Mem} {o' : AV} {out' : List Lb} (h : MI M tm a x v o out) (wX : Wf X) (hs : M.size ≤ X.size) (x3 : X.get 3 = some (.row false [o'])) (gX : ∀ j,j < 9 → j ≠ 2 → j ≠ 3 → j ≠ 8 → X.get j = M.get j) (sm : SlM X 2 isLb o' out') (ro : ∀ j,rowOf o' = some j → j = 2 ∨ 9 ≤ j) : MI (X.upd 8 (.loop .ready none tm [17] cM1 cM2 7)) tm a x v o' out':=by
 have:=h.sz
 have u : ∀ j,j ≠ 8 → (X.upd 8 (.loop .ready none tm [17] cM1 cM2 7)).get j = X.get j:=fun j hj=>zAA wX _ _ _ (fun e=>hj e.symm)
 exact ⟨wX.upd _ _,by rw [zAE]; omega,(u 3 (by omega)).trans x3,((u 4 (by omega)).trans (gX 4 (by omega) (by omega) (by omega) (by omega))).trans h.g4,((u 5 (by omega)).trans (gX 5 (by omega) (by omega) (by omega) (by omega))).trans h.g5,((u 6 (by omega)).trans (gX 6 (by omega) (by omega) (by omega) (by omega))).trans h.g6,((u 7 (by omega)).trans (gX 7 (by omega) (by omega) (by omega) (by omega))).trans h.g7,zAP wX _ _ (by omega),sm.keep fun j hj=>u j (by have:=ro j hj; omega),ro⟩
set_option maxHeartbeats 8000000 in
theorem zX0 {to : Lb} (h : MI M tm a x v o out) (h7 : nth zA4 tm 7 = .ptr 3 0) (hlen : tm.length = 27) (ht : to.ok) (hn : out.length ≤ 100000) (hf : out.length < fuel)
  (k : ∀ o' N,MI N tm a x v o' (addL out to) → M.size ≤ N.size → Q (BL true) N) :
  W3 (zAC Tryz.prog (fsT tbl) fuel (d + 3) (.yl 8) [lbA to] M) Q:=by
 have l3:=Mem.get_lt h.g3
 have g3:=h.g3
 have g8:=h.g8
 have wf:=h.wf
 have sz:=h.sz
 have sm:=h.sm
 have ro:=h.ro
 have oo:=sm.one
 have oc:=sm.cells
 refine zTI h.g8 rfl ?_
 have e1 : zFT tm [17] [lbA to] = St tm [(17,lbA to)]:=rfl
 rw [e1]
 unfold cM1 cM2
 simp (maxSteps:=2000000) (disch:=first | omega | assumption | (simp only [DS,Nat.reduceAdd, *]; done) | (simp only [DZ]; omega)) only [RUN,RU,zA2,zA1,lay,reduceIte,Nat.reduceEqDiff,Nat.reduceAdd,h7,wf]
 refine ⟨tm,[17],_,_,7,g8, ?_⟩
 generalize hX : ((M.add _).upd M.size _).upd 8 _ = X
 have wX : Wf X:=by rw [← hX]; exact ((wf.add _).upd _ _).upd _ _
 have sX : X.size = M.size + 1:=by rw [← hX]; rfl
 have gX : ∀ j,j < M.size → j ≠ 8 → X.get j = M.get j:=fun j a b=>by
  rw [← hX,zAA ((wf.add _).upd _ _) _ _ _ (fun e=>b e.symm),zAA (wf.add _) _ _ _ (by omega),zAF wf _ _ a]
 have x8 : X.get 8 = some (.loop .busy none tm [17] cM1 cM2 7):=by
  rw [← hX,zAP ((wf.add _).upd _ _) _ _ (by rw [zAE,zA8]; omega)]
 have xM : X.get M.size = some (.row false (lbR to)):=by
  rw [← hX,zAA ((wf.add _).upd _ _) _ _ _ (by omega),zAP (wf.add _) _ _ (by rw [zA8]; omega)]
 have lM : M.size < X.size:=by omega
 have l3' : 3 < X.size:=by omega
 have x3 : X.get 3 = some (.row false [o]):=(gX 3 l3 (by omega)).trans g3
 have smX : SlM X 2 isLb o out:=sm.keep fun j hj=>gX j (sm.lt j hj) (by have:=ro j hj; omega)
 have hcn:=zQX (P:=Tryz.prog) (fs:=fsT tbl) (fuel:=fuel) (n:=d) (v:=lbR to) tf87 tf104 zH3 smX wX (by omega) (by omega) (by omega) (zBA to) rfl @pLbE (p:=fun y=>decide (to = y)) (fun dd r y hy _=>by rw [hy.1]; exact zAV dd to.lv to.cats y.lv y.cats)
 unfold addL at k
 cases hb : out.any (fun y=>decide (to = y)) with
 | true =>
  rw [hb] at hcn k
  simp (maxSteps:=2000000) (disch:=first | omega | assumption | (simp only [DS,Nat.reduceAdd, *]; done) | (simp only [DZ]; omega)) only [RUN,RU,zA2,zA1,slot,reduceIte,Nat.reduceEqDiff,g3,xM,hcn]
  rw [if_pos rfl] at k
  exact ⟨wX,_,_,_,_,_,_,_,x8,k o _ (h.back wX (by omega) x3 (fun j a b c e=>gX j (by omega) e) smX ro) (by rw [zAE]; omega)⟩
 | false =>
  rw [hb] at hcn k
  rw [if_neg (by decide)] at k
  simp (maxSteps:=2000000) (disch:=first | omega | assumption | (simp only [DS,Nat.reduceAdd, *]; done) | (simp only [DZ]; omega)) only [RUN,RU,zA2,zA1,slot,lay,zAJ,zAD,reduceIte,Nat.reduceEqDiff,Nat.reduceBEq,Nat.reduceAdd,h7,g3,x3,xM,hcn]
  refine ⟨zBE smX.rl (by omega), ?_⟩
  refine app1 wX smX zH3 (x:=to) ⟨rfl,ht⟩ rfl (by omega) (by omega) (by omega) fun o' M' m' w' le' kp' nw' wm' rl' on' oc'=>?_
  have ro' : ∀ j,rowOf o' = some j → j = 2 ∨ 9 ≤ j:=fun j hj=>by
   rcases nw' j hj with h | h
   ·exact ro j h
   ·omega
  have z3 : M'.get 3 = some (.row false [o]):=(kp' 3 (by omega) (fun e=>by have:=ro 3 e; omega)).trans x3
  have z8:=(kp' 8 (by omega) (fun e=>by have:=ro 8 e; omega)).trans x8
  have l3 : 3 < M'.size:=by omega
  simp (maxSteps:=2000000) (disch:=first | omega | assumption | (simp only [DS,Nat.reduceAdd, *]; done) | (simp only [DZ]; omega)) only [RUN,RU,zA2,zA1,lay,reduceIte,Nat.reduceEqDiff,h7,z3,z8,w',oc']
  refine ⟨_,_,_,_,_,_,_,rfl,k o' _ (h.back (w'.upd _ _) (by rw [zAE]; omega) (zAP w' _ _ (by omega)) (fun j a b c e=>?_) (m'.keep fun j hj=>zAA w' _ _ _ (by have:=ro' j hj; omega)) ro') (by simp only [zAE]; omega)⟩
  rw [zAA w' _ _ _ (fun e=>c e.symm),kp' j (by omega) (fun e=>by have:=ro j e; omega)]
  exact gX j (by omega) e
end Go.Proofs.YtkfdflajadkfkaaGreat
namespace Go.Proofs.YtkfdflajadkfkaaGreat
open Go Go.Ax
variable {fuel : Nat} {M : Mem} {Q : AV → Mem → Prop} {d : Nat} {tm : List AV} {a o : AV} {x : Eid} {v : Lb} {out : List Lb} {l : List Op}
def zDE (x : Eid) (v : Lb) (o : Op) : Bool:=decide (o.kd = 3) && (o.sp.has x).isSome && o.hd.lb.leq v
def zBI (l : List Op) (x : Eid) (v : Lb) : List Lb:=(l.filter (zDE x v)).map (·.to)
def made (l : List Op) (x : Eid) (v : Lb) : List Lb:=(zBI l x v).foldl addL [x.hd.lb]
theorem zPQ (out : List Lb) (x : Lb) : (addL out x).length ≤ out.length + 1:=by
 unfold addL
 split
 ·omega
 ·simp
theorem zFV : ∀ (r : List Lb) (out : List Lb),(r.foldl addL out).length ≤ out.length + r.length
 | [],out=>by simp
 | y :: r,out=>by
  have h1:=zFV r (addL out y)
  have h2:=zPQ out y
  simp only [List.foldl_cons,List.length_cons]
  omega
theorem zD3 (l : List Op) (x : Eid) (v : Lb) : (zBI l x v).length ≤ l.length:=by
 unfold zBI
 rw [List.length_map]
 exact List.length_filter_le _ _
theorem take_snoc {α : Type} (l : List α) (i : Nat) (h : i < l.length) : l.take (i + 1) = l.take i ++ [l[i]]:=by
 rw [List.take_add_one,List.getElem?_eq_getElem h]; rfl
theorem zGR (l : List Op) (o : Op) (x : Eid) (v : Lb) : zBI (l ++ [o]) x v = zBI l x v ++ (if zDE x v o then [o.to] else []):=by
 unfold zBI
 rw [List.filter_append,List.map_append]
 cases h : zDE x v o <;> simp [h]
set_option maxHeartbeats 8000000 in
theorem zOZ {o0 : AV} (hS : Sl 17 isOp a l) (hl : l.length ≤ 50000) (hn : out.length ≤ 50000) (hf : l.length + out.length < fuel) (h : MI M tm a x v o0 out) (h7 : nth zA4 tm 7 = .ptr 3 0) (hlen : tm.length = 27)
  (k : ∀ u o' N,MI N tm a x v o' ((zBI l x v).foldl addL out) → Q u N) :
  W3 (zAC Tryz.prog (fsT tbl) fuel (d + 6) (.fn 102) [.yl 8,.ptr 4 0,.ptr 5 0,.ptr 6 0] M) Q:=by
 have ll:=hS.len
 have g4':=h.g4
 have l4:=Mem.get_lt g4'
 refine zAY tf102 rfl (by simp [a102]) fun b' ht hx=>?_
 have h0:=hx 0 _ rfl
 have h1:=hx 1 _ rfl
 have h2:=hx 2 _ rfl
 have h3:=hx 3 _ rfl
 clear hx
 simp only [a102,c102,zz4,zzm,zzg] at ht ⊢
 simp (maxSteps:=2000000) (disch:=first | omega | assumption | (simp only [DS,Nat.reduceAdd, *]; done) | (simp only [DZ]; omega)) only [RUN,RU,zA2,zA1,reduceIte,h1,g4',ll]
 refine zB1 (I:=fun n t N => ∃ (i : Nat) (o : AV),n = l.length - i ∧ i ≤ l.length ∧ nth zA4 t 0 = .yl 8 ∧ nth zA4 t 1 = .ptr 4 0 ∧ nth zA4 t 2 = .ptr 5 0 ∧ nth zA4 t 3 = .ptr 6 0 ∧ nth zA4 t 9 = a ∧ nth zA4 t 10 = I64 l.length ∧ nth zA4 t 11 = I64 i ∧ MI N tm a x v o ((zBI (l.take i) x v).foldl addL out)) (n:=l.length) (by omega) ?_ ?_
 ·refine ⟨0,o0,rfl,Nat.zero_le _, ?_, ?_, ?_, ?_, ?_, ?_, ?_,h⟩ <;> simp (maxSteps:=2000000) (disch:=first | omega | assumption | (simp only [DS,Nat.reduceAdd, *]; done) | (simp only [DZ]; omega)) only [RUN,reduceIte,Nat.reduceEqDiff,h0,h1,h2,h3]
  all_goals first | rfl | assumption | done
 ·rintro n t N hlt ⟨i,o,rfl,hi,g0,g1,g2,g3,g9,g10,g11,m⟩
  simp only [ht] at hlt ⊢
  clear h0 h1 h2 h3 ht b'
  by_cases hc : i < l.length
  ·have q1 : decide ((i : Int) < l.length) = true:=decide_eq_true (by omega)
   have w1 : IntKind.i64.wrap ((i : Int) + 1) = ((i + 1 : Nat) : Int):=by rw [wrap_i64] <;> omega
   obtain ⟨r,hiad,hr,hrl⟩:=hS.iad i hc
   have hsn:=zGR (l.take i) l[i] x v
   rw [← take_snoc l i hc] at hsn
   have b1:=zFV (zBI (l.take i) x v) out
   have b2:=zD3 (l.take i) x v
   rw [List.length_take] at b2
   generalize l[i] = e at *
   obtain ⟨ra,rfl,hra,hok⟩:=hr
   have ora:=hra.one
   have wf:=m.wf
   have sz:=m.sz
   have m5:=m.g5
   have m6:=m.g6
   have l5:=Mem.get_lt m5
   have l6:=Mem.get_lt m6
   have hh:=fun M=>@zU8 fuel d e.sp x M
   have hle:=fun M=>@zFA fuel (d + 4) e.hd.lb v M
   have mA : MI ((N.add (.row false (opR ⟨0,Hd.z,0,⟨Eid.z,0⟩,Eid.z,Lb.z,[]⟩ NIL))).upd N.size (.row false (opR e ra))) tm a x v o ((zBI (l.take i) x v).foldl addL out):=m.keep ((wf.add _).upd _ _) (by rw [zAE,zA8]; omega) (fun j hj=>by rw [zAA (wf.add _) _ _ _ (by omega),zAF wf _ _ hj])
   cases c1 : decide (e.kd = 3) with
   | false =>
    have hcc : zDE x v e = false:=by unfold zDE; rw [c1]; rfl
    rw [hcc,if_neg (by decide),List.append_nil] at hsn
    cases c2 : (e.sp.has x).isSome <;> rw [c2] at hh
    all_goals
     simp (maxSteps:=2000000) (disch:=first | omega | assumption | (simp only [DS,Nat.reduceAdd, *]; done) | (simp only [DZ]; omega)) only [RUN,RU,zA2,zA1,slot,lay,reduceIte,Nat.reduceEqDiff,Nat.reduceAdd,g0,g1,g2,g3,g9,g10,g11,q1,hiad,m5,hh,c1,w1]
     exact ⟨hlt,l.length - (i + 1),by omega,i + 1,o,rfl,by omega,rfl,by rw [hsn]; exact mA⟩
   | true =>
    cases c2 : (e.sp.has x).isSome <;> rw [c2] at hh
    ·have hcc : zDE x v e = false:=by unfold zDE; rw [c1,c2]; rfl
     rw [hcc,if_neg (by decide),List.append_nil] at hsn
     simp (maxSteps:=2000000) (disch:=first | omega | assumption | (simp only [DS,Nat.reduceAdd, *]; done) | (simp only [DZ]; omega)) only [RUN,RU,zA2,zA1,slot,lay,reduceIte,Nat.reduceEqDiff,Nat.reduceAdd,g0,g1,g2,g3,g9,g10,g11,q1,hiad,m5,hh,c1,w1]
     exact ⟨hlt,l.length - (i + 1),by omega,i + 1,o,rfl,by omega,rfl,by rw [hsn]; exact mA⟩
    ·cases c3 : e.hd.lb.leq v <;> rw [c3] at hle
     ·have hcc : zDE x v e = false:=by unfold zDE; rw [c1,c2,c3]; rfl
      rw [hcc,if_neg (by decide),List.append_nil] at hsn
      simp (maxSteps:=2000000) (disch:=first | omega | assumption | (simp only [DS,Nat.reduceAdd, *]; done) | (simp only [DZ]; omega)) only [RUN,RU,zA2,zA1,slot,lay,reduceIte,Nat.reduceEqDiff,Nat.reduceAdd,g0,g1,g2,g3,g9,g10,g11,q1,hiad,m5,m6,hh,c1,hle,w1]
      exact ⟨hlt,l.length - (i + 1),by omega,i + 1,o,rfl,by omega,rfl,by rw [hsn]; exact mA⟩
     ·have hcc : zDE x v e = true:=by unfold zDE; rw [c1,c2,c3]; rfl
      rw [hcc,if_pos rfl] at hsn
      simp (maxSteps:=2000000) (disch:=first | omega | assumption | (simp only [DS,Nat.reduceAdd, *]; done) | (simp only [DZ]; omega)) only [RUN,RU,zA2,zA1,slot,lay,reduceIte,Nat.reduceEqDiff,Nat.reduceAdd,g0,g2,g3,g9,g10,g11,q1,hiad,m5,m6,hh,c1,hle]
      refine zX0 (d:=d + 2) mA h7 hlen hok.2.2.2.2.2.1 (by omega) (by omega) fun o' N' m' le'=>?_
      simp (maxSteps:=2000000) (disch:=first | omega | assumption | (simp only [DS,Nat.reduceAdd, *]; done) | (simp only [DZ]; omega)) only [RUN,RU,zA2,zA1,reduceIte,Nat.reduceEqDiff,g0,g1,g2,g3,g9,g10,g11,w1]
      exact ⟨hlt,l.length - (i + 1),by omega,i + 1,o',rfl,by omega,rfl,by rw [hsn,List.foldl_append]; exact m'⟩
  ·obtain rfl : i = l.length:=by omega
   have q1 : decide ((l.length : Int) < l.length) = false:=decide_eq_false (by omega)
   rw [List.take_length] at m
   simp (maxSteps:=2000000) (disch:=first | omega | assumption | (simp only [DS,Nat.reduceAdd, *]; done) | (simp only [DZ]; omega)) only [RUN,RU,zA2,zA1,zA0,zA5,reduceIte,g10,g11]
   exact k _ _ _ m
end Go.Proofs.YtkfdflajadkfkaaGreat
namespace Go.Proofs.YtkfdflajadkfkaaGreat
open Go Go.Ax
variable {fuel : Nat} {M : Mem} {Q : AV → Mem → Prop} {d : Nat} {a o : AV} {x : Eid} {v : Lb} {l : List Op}
theorem zRZ (hS : Sl 17 isOp a l) (wf : Wf M) (k : Q (.fn 102 [] [.ptr M.size 0,.ptr (M.size + 1) 0,.ptr (M.size + 1 + 1) 0]) (((M.add (.row false [a])).add (.row false (idR x))).add (.row false (lbR v)))) :
  W3 (zAC Tryz.prog (fsT tbl) fuel (d + 1) (.fn 86) [a,idA x,lbA v] M) Q:=by
 have oa:=hS.one
 refine zAY tf86 rfl (by simp [a86]) fun b' ht hx=>?_
 have h0:=hx 0 _ rfl
 have h1:=hx 1 _ rfl
 have h2:=hx 2 _ rfl
 clear hx
 simp only [a86,c86,zzm] at ht ⊢
 simp (maxSteps:=2000000) (disch:=first | omega | assumption | (simp only [DS,Nat.reduceAdd, *]; done) | (simp only [DZ]; omega)) only [RUN,RU,zA2,zA1,zA0,zA5,reduceIte,Nat.reduceEqDiff,h0,h1,h2,hS.fz.cells]
 exact k
theorem zMS {X : Mem} {tm : List AV} {o0 : AV} {out : List Lb} (hS : Sl 17 isOp a l) (hl : l.length ≤ 50000) (hn : out.length ≤ 50000) (hf : l.length + out.length < fuel) (w : Wf X) (h7 : nth zA4 tm 7 = .ptr 3 0) (hlen : tm.length = 27) (hX : X.size = 7) (g3 : X.get 3 = some (.row false [o0])) (g4 : X.get 4 = some (.row false [a])) (g5 : X.get 5 = some (.row false (idR x))) (g6 : X.get 6 = some (.row false (lbR v))) (sm : SlM X 2 isLb o0 out) (ro : ∀ j,rowOf o0 = some j → j = 2)
  (k : ∀ u o' N,MI N tm a x v o' ((zBI l x v).foldl addL out) → Q u N) :
  W3 (zAC Tryz.prog (fsT tbl) fuel (d + 6) (.fn 102) ([] ++ [.yl (X.size + 1)] ++ [.ptr 4 0,.ptr 5 0,.ptr 6 0]) ((X.add (.dfr false)).add (.loop .ready none tm [17] cM1 cM2 X.size))) Q:=by
 have w1:=w.add (.dfr false)
 have u : ∀ j,j < 7 → ((X.add (.dfr false)).add (.loop .ready none tm [17] cM1 cM2 X.size)).get j = X.get j:=fun j hj=>by
  rw [zAF w1 _ _ (by rw [zA8]; omega),zAF w _ _ (by omega)]
 have e : X.size + 1 = 8:=by omega
 have key:=zOZ (d:=d) (fuel:=fuel) (Q:=Q) (M:=(X.add (.dfr false)).add (.loop .ready none tm [17] cM1 cM2 X.size)) (x:=x) (v:=v) (o0:=o0) (out:=out) hS hl hn hf ⟨w1.add _,by simp only [zA8]; omega,(u 3 (by omega)).trans g3,(u 4 (by omega)).trans g4,(u 5 (by omega)).trans g5,(u 6 (by omega)).trans g6,by rw [zAF w1 _ _ (by rw [zA8]; omega),← hX]; exact zAG w _ _ (Nat.le_refl _) (Nat.lt_succ_self _),by
   have:=zAG w1 (.loop .ready none tm [17] cM1 cM2 X.size) 8 (by rw [zA8]; omega) (by rw [zA8]; omega)
   rw [hX] at this ⊢
   exact this,sm.keep fun j hj=>u j (by have:=ro j hj; omega),fun j hj => .inl (ro j hj)⟩ h7 hlen k
 rw [← e] at key
 exact key
set_option maxHeartbeats 8000000 in
theorem zLJ (hS : Sl 17 isOp a l) (hl : l.length ≤ 40000) (hf : l.length + 100 < fuel) (hx : x.ok) : ∃ r,Sl 2 isLb r (made l x v) ∧ ∀ M,zAC Tryz.prog (fsT tbl) fuel (d + 7) (.fn 67) [a,idA x,lbA v] M = some (r,M):=by
 have oa:=hS.one
 refine zDI tf67 rfl (fun M=>by simp only [icyL,fun M=>hS.icy M 12 (by omega),zAK (zCW x) (show 1 < 12 by omega),zAK (zBA v) (show 1 < 12 by omega)]) ?_
 refine zAH tf67 rfl (by simp only [icyL,fun M=>hS.icy M 12 (by omega),zAK (zCW x) (show 1 < 12 by omega),zAK (zBA v) (show 1 < 12 by omega)]) (by simp [a67]) fun b' ht hx=>?_
 have h0:=hx 0 _ rfl
 have h1:=hx 1 _ rfl
 have h2:=hx 2 _ rfl
 clear hx
 simp only [a67,c67,zz3,zzm] at ht ⊢
 simp (maxSteps:=2000000) (disch:=first | omega | assumption | (simp only [DS,Nat.reduceAdd, *]; done) | (simp only [DZ]; omega)) only [RUN,RU,zA2,zA1,slot,lay,zAJ,zAD,reduceIte,Nat.reduceEqDiff,Nat.reduceBEq,Nat.reduceAdd,h0,h1,h2]
 refine zRZ hS (by simp (maxSteps:=2000000) (disch:=first | omega | assumption | (simp only [DS,Nat.reduceAdd, *]; done) | (simp only [DZ]; omega)) only [RUN]) ?_
 simp (maxSteps:=2000000) (disch:=first | omega | assumption | (simp only [DS,Nat.reduceAdd, *]; done) | (simp only [DZ]; omega)) only [RUN,RU,Nat.reduceAdd]
 refine zVJ (g:=102) (first:=[]) (cap:=[.ptr 4 0,.ptr 5 0,.ptr 6 0]) (by simp (maxSteps:=2000000) (disch:=first | omega | assumption | (simp only [DS,Nat.reduceAdd, *]; done) | (simp only [DZ]; omega)) only [RUN]) (by simp (maxSteps:=2000000) (disch:=first | omega | assumption | (simp only [DS,Nat.reduceAdd, *]; done) | (simp only [DZ]; omega)) only [RUN,reduceIte,Nat.reduceEqDiff]) ?_
 refine zMS (x:=x) (v:=v) (out:=[x.hd.lb]) (o0:=.sl 2 0 1 (some 1) 2) (d:=d) hS (by omega) (by simp) (by simp; omega) ?_ ?_ ?_ ?_ ?_ ?_ ?_ ?_ ?_ ?_ fun u o N m=>?_
 ·simp (maxSteps:=2000000) (disch:=first | omega | assumption | (simp only [DS,Nat.reduceAdd, *]; done) | (simp only [DZ]; omega)) only [RUN]
 ·simp (maxSteps:=2000000) (disch:=first | omega | assumption | (simp only [DS,Nat.reduceAdd, *]; done) | (simp only [DZ]; omega)) only [RUN,reduceIte,Nat.reduceEqDiff]
 ·rw [zKY]; exact ht
 ·simp (maxSteps:=2000000) (disch:=first | omega | assumption | (simp only [DS,Nat.reduceAdd, *]; done) | (simp only [DZ]; omega)) only [RUN,RU,Nat.reduceAdd]
 ·simp (maxSteps:=2000000) (disch:=first | omega | assumption | (simp only [DS,Nat.reduceAdd, *]; done) | (simp only [DZ]; omega)) only [RUN]
 ·simp (maxSteps:=2000000) (disch:=first | omega | assumption | (simp only [DS,Nat.reduceAdd, *]; done) | (simp only [DZ]; omega)) only [RUN]
 ·simp (maxSteps:=2000000) (disch:=first | omega | assumption | (simp only [DS,Nat.reduceAdd, *]; done) | (simp only [DZ]; omega)) only [RUN]
 ·simp (maxSteps:=2000000) (disch:=first | omega | assumption | (simp only [DS,Nat.reduceAdd, *]; done) | (simp only [DZ]; omega)) only [RUN]
 ·refine .inr ⟨2,[lbR x.hd.lb],some 1,rfl,.inr rfl, ?_,.cons ⟨rfl,hx.1.1⟩ .nil,by simp⟩
  simp (maxSteps:=2000000) (disch:=first | omega | assumption | (simp only [DS,Nat.reduceAdd, *]; done) | (simp only [DZ]; omega)) only [RUN]
  rfl
 ·rintro j ⟨⟩
  rfl
 ·have g3:=m.g3
  have l3:=Mem.get_lt g3
  have g7:=m.g7
  have wf:=m.wf
  have sm:=m.sm
  have ro:=m.ro
  have oo:=sm.one
  have sz:=m.sz
  refine ⟨wf,by have:=m.sz; simp only [zA8,zAE,zBK]; omega,_,_,_,_,_,m.g8, ?_⟩
  generalize hX : N.upd _ _ = X
  have wX : Wf X:=by rw [← hX]; exact wf.upd _ _
  have gX : ∀ j,j ≠ 8 → X.get j = N.get j:=fun j hj=>by rw [← hX]; exact zAA wf _ _ _ (fun e=>hj e.symm)
  have x3:=(gX 3 (by omega)).trans g3
  have x7:=(gX 7 (by omega)).trans g7
  have l3':=Mem.get_lt x3
  have l7':=Mem.get_lt x7
  simp (maxSteps:=2000000) (disch:=first | omega | assumption | (simp only [DS,Nat.reduceAdd, *]; done) | (simp only [DZ]; omega)) only [RUN,RU,zA2,zA1,reduceIte,Nat.reduceEqDiff,Nat.reduceAdd,x3]
  refine zQQ wX x7 ?_
  obtain ⟨rr,hz,hr⟩:=(sm.keep fun j hj=>by rw [zAA wX _ _ _ (by have:=ro j hj; omega)]; exact gX j (by have:=ro j hj; omega) : SlM (X.upd 7 (.dfr true)) 2 isLb o _).frz zH3.cel (k:=12) (by omega)
  simp (maxSteps:=2000000) (disch:=first | omega | assumption | (simp only [DS,Nat.reduceAdd, *]; done) | (simp only [DZ]; omega)) only [RUN,zA0,zA5,frzL,reduceIte,Nat.reduceEqDiff,hz]
  exact ⟨rr,hr,rfl⟩
end Go.Proofs.YtkfdflajadkfkaaGreat
namespace Go.Proofs.YtkfdflajadkfkaaGreat
open Go Go.Ax
variable {fuel : Nat} {M : Mem} {Q : AV → Mem → Prop} {d : Nat} {a : AV} {x : Eid} {v : Lb} {l : List Op}
def zDG (ls : List Lb) (b : Lb) : Bool:=ls.any fun y=>decide (b = y)
def zBS (pre : List Op) (o : Op) : Bool:=if o.kd = 3 then o.hd.lb.leq o.to && (o.sp.ids.all fun id=>zDG (made pre id o.hd.lb) o.hd.lb) else true
theorem zCP {o : Op} (h : o.may = true) : o.sp.may = true:=by
 unfold Op.may at h
 simp only [Bool.and_eq_true] at h
 exact h.1.2
theorem zIA (l : List Op) (x : Eid) (v : Lb) : (made l x v).length ≤ l.length + 1:=by
 have h1:=zFV (zBI l x v) [x.hd.lb]
 have h2:=zD3 l x v
 unfold made
 simp only [List.length_singleton] at h1
 omega
theorem zI7 (s : Spn) : s.ids.length = s.n.toNat:=(List.length_map _).trans List.length_range
theorem zK5 (s : Spn) (i : Nat) (h : i < s.ids.length) : s.ids[i] = s.at i:=(List.getElem_map _).trans (by rw [List.getElem_range])
set_option maxHeartbeats 8000000 in
theorem zL6 {o : Op} {ra : AV} (hS : Sl 17 isOp a l) (hl : l.length ≤ 40000) (hf : l.length + 200 < fuel) (hR : Sl 1 zAS ra o.rs) (ho : o.ok) (hm : o.may = true) (M : Mem) : zAC Tryz.prog (fsT tbl) fuel (d + 8) (.fn 101) [a,.agg (opR o ra)] M = some (BL (zBS l o),M):=by
 have ora:=hR.one
 have hsm:=zCP hm
 have hb:=Spn.may_le hsm
 obtain ⟨m,hmn⟩ : ∃ m : Nat,o.sp.n = m:=⟨o.sp.n.toNat,by omega⟩
 have il : o.sp.ids.length = m:=by rw [zI7,hmn]; rfl
 have hat:=fun n M=>@zSR fuel (d + 2) o.sp n M
 simp only [hsm,if_true] at hat
 have hle:=fun M=>@zFA fuel (d + 6) o.hd.lb o.to M
 apply zB6
 refine zDL tf101 rfl (by simp only [icyL,fun M=>hS.icy M 12 (by omega),zBW hR.fz]) (by simp [a101]) fun b' ht hx=>?_
 have h0:=hx 0 _ rfl
 have h1:=hx 1 _ rfl
 clear hx
 simp only [a101,c101,zz2,zzm] at ht ⊢
 unfold zBS
 by_cases q3 : o.kd = 3
 ·have k3 : decide (o.kd = 3) = true:=decide_eq_true q3
  rw [if_pos q3]
  simp (maxSteps:=2000000) (disch:=first | omega | assumption | (simp only [DS,Nat.reduceAdd, *]; done) | (simp only [DZ]; omega)) only [RUN,RU,zA2,zA1,slot,reduceIte,Nat.reduceEqDiff,Nat.reduceAdd,h1,k3,hle,hmn]
  refine zB1 (I:=fun n t N => ∃ (i : Nat),n = m - i ∧ i ≤ m ∧ nth zA4 t 0 = a ∧ nth zA4 t 3 = .ptr 0 0 ∧ nth zA4 t 5 = BL (o.hd.lb.leq o.to && (o.sp.ids.take i).all fun id=>zDG (made l id o.hd.lb) o.hd.lb) ∧ nth zA4 t 20 = I64 m ∧ nth zA4 t 21 = I64 i ∧ Wf N ∧ N.get 0 = some (.row false (opR o ra))) (n:=m) (by omega) ?_ ?_
  ·refine ⟨0,rfl,Nat.zero_le _, ?_, ?_, ?_, ?_, ?_,Wf.mem0.add _,by simp (maxSteps:=2000000) (disch:=first | omega | assumption | (simp only [DS,Nat.reduceAdd, *]; done) | (simp only [DZ]; omega)) only [RUN]⟩ <;> simp (maxSteps:=2000000) (disch:=first | omega | assumption | (simp only [DS,Nat.reduceAdd, *]; done) | (simp only [DZ]; omega)) only [RUN,RU,reduceIte,Nat.reduceEqDiff,h0]
   all_goals first | rfl | assumption | done
  ·rintro n t N hlt ⟨i,rfl,hi,g0,g3,g5,g20,g21,w,g⟩
   simp only [ht] at hlt ⊢
   by_cases hc : i < m
   ·have q1 : decide ((i : Int) < m) = true:=decide_eq_true (by omega)
    have hi' : ¬((i : Int) < 0 ∨ o.sp.n ≤ i):=by omega
    have hat:=fun M=>hat i M
    simp only [hi',if_false] at hat
    have ok:=zIY ho.2.2.2.1 hsm i (by omega)
    have lN:=Mem.get_lt g
    have w1 : IntKind.i64.wrap ((i : Int) + 1) = ((i + 1 : Nat) : Int):=by rw [wrap_i64] <;> omega
    obtain ⟨r,hr,hmade⟩:=zLJ (fuel:=fuel) (d:=d) (x:=o.sp.at i) (v:=o.hd.lb) hS hl (by omega) ok
    have hml:=zIA l (o.sp.at i) o.hd.lb
    have hcn : ∀ M,zAC Tryz.prog (fsT tbl) fuel (d + 7) (.fn 87) [r,lbA o.hd.lb] M = some (BL (zDG (made l (o.sp.at i) o.hd.lb) o.hd.lb),M):=fun M=>zNY (P:=Tryz.prog) (fs:=fsT tbl) (fuel:=fuel) (n:=d + 5) (v:=lbR o.hd.lb) tf87 tf104 zH3 hr (by omega) (by omega) (by omega) (zBA o.hd.lb) rfl @pLbE (p:=fun y=>decide (o.hd.lb = y)) (fun dd r y hy _=>by rw [hy.1]; exact zAV dd o.hd.lb.lv o.hd.lb.cats y.lv y.cats) M
    have hsn : (o.sp.ids.take (i + 1)).all (fun id=>zDG (made l id o.hd.lb) o.hd.lb) = ((o.sp.ids.take i).all (fun id=>zDG (made l id o.hd.lb) o.hd.lb) && zDG (made l (o.sp.at i) o.hd.lb) o.hd.lb):=by
     rw [take_snoc _ i (by omega),List.all_append,zK5]; simp
    have hall : ∀ b,b = (o.hd.lb.leq o.to && (o.sp.ids.take (i + 1)).all fun id=>zDG (made l id o.hd.lb) o.hd.lb) → b = false → (o.hd.lb.leq o.to && o.sp.ids.all fun id=>zDG (made l id o.hd.lb) o.hd.lb) = false:=by
     intro b hb1 hb2
     rw [hb2] at hb1
     rw [← List.take_append_drop (i + 1) o.sp.ids,List.all_append,← Bool.and_assoc,← hb1,Bool.false_and]
    have orr:=hr.one
    cases hb : (o.hd.lb.leq o.to && (o.sp.ids.take i).all fun id=>zDG (made l id o.hd.lb) o.hd.lb) with
    | false =>
     rw [hb] at g5
     have hal:=hall _ rfl (by rw [hsn,← Bool.and_assoc,hb,Bool.false_and])
     simp (maxSteps:=2000000) (disch:=first | omega | assumption | (simp only [DS,Nat.reduceAdd, *]; done) | (simp only [DZ]; omega)) only [RUN,RU,zA2,zA1,zA0,zA5,frzL,slot,lay,reduceIte,Nat.reduceEqDiff,Nat.reduceAdd,g3,g5,g20,g21,q1,g,hat,zBR]
     rw [hal]
    | true =>
     rw [hb] at g5
     cases hcc : zDG (made l (o.sp.at i) o.hd.lb) o.hd.lb with
     | false =>
      rw [hcc] at hcn
      have hal:=hall _ rfl (by rw [hsn,hcc,Bool.and_false,Bool.and_false])
      simp (maxSteps:=2000000) (disch:=first | omega | assumption | (simp only [DS,Nat.reduceAdd, *]; done) | (simp only [DZ]; omega)) only [RUN,RU,zA2,zA1,zA0,zA5,frzL,slot,lay,reduceIte,Nat.reduceEqDiff,Nat.reduceBEq,Nat.reduceAdd,g0,g3,g5,g20,g21,q1,g,hat,hmade,hcn,zBR]
      rw [hal]
     | true =>
      rw [hcc] at hcn
      have hal : (o.hd.lb.leq o.to && (o.sp.ids.take (i + 1)).all fun id=>zDG (made l id o.hd.lb) o.hd.lb) = true:=by rw [hsn,hcc,Bool.and_true]; exact hb
      simp (maxSteps:=2000000) (disch:=first | omega | assumption | (simp only [DS,Nat.reduceAdd, *]; done) | (simp only [DZ]; omega)) only [RUN,RU,zA2,zA1,slot,lay,reduceIte,Nat.reduceEqDiff,Nat.reduceBEq,Nat.reduceAdd,g0,g3,g5,g20,g21,q1,w,g,hat,hmade,hcn,w1]
      exact ⟨hlt,m - (i + 1),by omega,i + 1,rfl,by omega,by rw [hal],rfl⟩
   ·obtain rfl : i = m:=by omega
    have q1 : decide ((i : Int) < i) = false:=decide_eq_false (by omega)
    have et : o.sp.ids.take i = o.sp.ids:=List.take_of_length_le (by omega)
    rw [et] at g5
    simp (maxSteps:=2000000) (disch:=first | omega | assumption | (simp only [DS,Nat.reduceAdd, *]; done) | (simp only [DZ]; omega)) only [RUN,RU,zA2,zA1,zA0,zA5,frzL,reduceIte,Nat.reduceEqDiff,g5,g20,g21,zBR]
 ·have k3 : decide (o.kd = 3) = false:=decide_eq_false q3
  rw [if_neg q3]
  simp (maxSteps:=2000000) (disch:=first | omega | assumption | (simp only [DS,Nat.reduceAdd, *]; done) | (simp only [DZ]; omega)) only [RUN,RU,zA2,zA1,zA0,zA5,frzL,reduceIte,Nat.reduceEqDiff,h1,k3,zBR]
end Go.Proofs.YtkfdflajadkfkaaGreat
namespace Go.Proofs.YtkfdflajadkfkaaGreat
open Go Go.Ax
variable {fuel : Nat} {M : Mem} {Q : AV → Mem → Prop} {d : Nat} {a : AV} {x : Eid} {v : Lb} {l : List Op}
def zFS : List Op → List Op → Bool
 | _,[]=>true
 | pre,o :: l=>o.may && zBS pre o && zFS (pre ++ [o]) l
def zDD (l : List Op) : Int:=if 2048 < l.length then 4 else err (zFS [] l)
theorem drop_step {α : Type} (l : List α) (i : Nat) (h : i < l.length) : l.drop i = l[i] :: l.drop (i + 1):=List.drop_eq_getElem_cons h
set_option maxHeartbeats 8000000 in
theorem zG5 (hS : Sl 17 isOp a l) (hl : l.length ≤ 40000) (hf : l.length + 200 < fuel) (M : Mem) : zAC Tryz.prog (fsT tbl) fuel (d + 9) (.fn 84) [a] M = some (I64 (zDD l),M):=by
 have ll:=hS.len
 apply zB6
 refine zDL tf84 rfl (by simp only [icyL,fun M=>hS.icy M 12 (by omega)]) (by simp [a84]) fun b' ht hx=>?_
 have h0:=hx 0 _ rfl
 clear hx
 simp only [a84,c84,zz4,zzm] at ht ⊢
 unfold zDD
 by_cases q0 : 2048 < l.length
 ·have q1 : decide ((2048 : Int) < l.length) = true:=decide_eq_true (by omega)
  simp (maxSteps:=2000000) (disch:=first | omega | assumption | (simp only [DS,Nat.reduceAdd, *]; done) | (simp only [DZ]; omega)) only [RUN,RU,zA2,zA1,zA0,zA5,frzL,reduceIte,Nat.reduceEqDiff,h0,ll,q1,q0,if_true,zBR]
 ·have q1 : decide ((2048 : Int) < l.length) = false:=decide_eq_false (by omega)
  simp (maxSteps:=2000000) (disch:=first | omega | assumption | (simp only [DS,Nat.reduceAdd, *]; done) | (simp only [DZ]; omega)) only [RUN,RU,zA2,zA1,reduceIte,Nat.reduceEqDiff,h0,ll,q1,q0,if_false]
  refine zB1 (I:=fun n t N => ∃ (i : Nat),n = l.length - i ∧ i ≤ l.length ∧ nth zA4 t 0 = a ∧ nth zA4 t 8 = a ∧ nth zA4 t 9 = I64 l.length ∧ nth zA4 t 10 = I64 i ∧ Wf N ∧ zFS [] l = zFS (l.take i) (l.drop i)) (n:=l.length) (by omega) ?_ ?_
  ·refine ⟨0,rfl,Nat.zero_le _, ?_, ?_, ?_, ?_,Wf.mem0,rfl⟩ <;> simp (maxSteps:=2000000) (disch:=first | omega | assumption | (simp only [DS,Nat.reduceAdd, *]; done) | (simp only [DZ]; omega)) only [RUN,reduceIte,Nat.reduceEqDiff,h0]
   all_goals first | rfl | assumption | done
  ·rintro n t N hlt ⟨i,rfl,hi,g0,g8,g9,g10,w,inv⟩
   simp only [ht] at hlt ⊢
   by_cases hc : i < l.length
   ·have q2 : decide ((i : Int) < l.length) = true:=decide_eq_true (by omega)
    have w1 : IntKind.i64.wrap ((i : Int) + 1) = ((i + 1 : Nat) : Int):=by rw [wrap_i64] <;> omega
    obtain ⟨r,hiad,hr,hrl⟩:=hS.iad i hc
    obtain ⟨p,hp1,hp2⟩:=zY3 hS (j:=i) (by omega)
    rw [drop_step l i hc,zFS,← take_snoc l i hc] at inv
    have hkeep : l.take i ++ l[i] :: l.drop (i + 1) = l:=by rw [← drop_step l i hc,List.take_append_drop]
    generalize l[i] = e at *
    obtain ⟨ra,rfl,hra,hok⟩:=hr
    have ora:=hra.one
    have hck:=fun M=>@zCK fuel (d + 1) e ra hra hok (by omega) M
    cases hm : e.may with
    | false =>
     rw [hm] at hck
     simp only [hm,Bool.false_and] at inv
     rw [inv]
     simp (maxSteps:=2000000) (disch:=first | omega | assumption | (simp only [DS,Nat.reduceAdd, *]; done) | (simp only [DZ]; omega)) only [RUN,RU,zA2,zA1,zA0,zA5,frzL,slot,lay,reduceIte,Nat.reduceEqDiff,Nat.reduceAdd,Int.reduceEq,g8,g9,g10,q2,hiad,hck,zBG,zBR]
    | true =>
     rw [hm] at hck
     have hfi:=fun M=>zL6 (fuel:=fuel) (d:=d) hp2 (by simp; omega) (by simp; omega) hra hok hm M
     cases hr' : zBS (l.take i) e with
     | false =>
      rw [hr'] at hfi
      simp only [hm,hr',Bool.false_and,Bool.and_false] at inv
      rw [inv]
      simp (maxSteps:=2000000) (disch:=first | omega | assumption | (simp only [DS,Nat.reduceAdd, *]; done) | (simp only [DZ]; omega)) only [RUN,RU,zA2,zA1,zA0,zA5,frzL,slot,lay,reduceIte,Nat.reduceEqDiff,Nat.reduceBEq,Nat.reduceAdd,g0,g8,g9,g10,hS.fz.rows,q2,hiad,hck,zB5,zBG,hp1,hfi,zBR]
     | true =>
      rw [hr'] at hfi
      simp only [hm,hr',Bool.true_and] at inv
      simp (maxSteps:=2000000) (disch:=first | omega | assumption | (simp only [DS,Nat.reduceAdd, *]; done) | (simp only [DZ]; omega)) only [RUN,RU,zA2,zA1,slot,lay,reduceIte,Nat.reduceEqDiff,Nat.reduceBEq,Nat.reduceAdd,g0,g8,g9,g10,hS.fz.rows,q2,hiad,w,hck,zB5,hp1,hfi,w1]
      exact ⟨hlt,l.length - (i + 1),by omega,i + 1,rfl,by omega,rfl,inv⟩
   ·obtain rfl : i = l.length:=by omega
    have q1 : decide ((l.length : Int) < l.length) = false:=decide_eq_false (by omega)
    rw [List.drop_length,zFS] at inv
    rw [inv]
    simp (maxSteps:=2000000) (disch:=first | omega | assumption | (simp only [DS,Nat.reduceAdd, *]; done) | (simp only [DZ]; omega)) only [RUN,RU,zA2,zA1,zA0,zA5,frzL,reduceIte,Nat.reduceEqDiff,g9,g10,zB5,zBR]
end Go.Proofs.YtkfdflajadkfkaaGreat
namespace Go.Proofs.YtkfdflajadkfkaaGreat
open Go Go.Ax
variable {fuel : Nat} {M : Mem} {Q : AV → Mem → Prop} {d : Nat} {a : AV} {x : Eid} {v : Lb} {l : List Op}
def chfE (l : List Op) (o : Op) : Int:=if zDD l = 0 then err o.may else zDD l
def chfB (l : List Op) (o : Op) : Bool:=decide (chfE l o = 0) && zBS l o
set_option maxHeartbeats 4000000 in
theorem zQD {o : Op} {ra : AV} (hS : Rd M 17 isOp a l) (hl : l.length ≤ 40000) (hf : l.length + 200 < fuel) (hR : Sl 1 zAS ra o.rs) (ho : o.ok) (wf : Wf M) (k : ∀ N,Kept M N → Q (.tup [BL (chfB l o),I64 (chfE l o)]) N) :
  W3 (zAC Tryz.prog (fsT tbl) fuel (d + 10) (.fn 98) [a,.agg (opR o ra)] M) Q:=by
 have ora:=hR.one
 have wA:=wf.add (.row false (opR o ra))
 have hS' : Rd (M.add (.row false (opR o ra))) 17 isOp a l:=hS.keep fun j hj=>zAF wf _ _ (by
  rcases hS with h | h
  ·rcases h with ⟨rfl,_⟩ | ⟨_,_,rfl,_⟩ <;> cases hj
  ·exact h.lt j hj)
 have hch:=zWV (P:=Tryz.prog) (fs:=fsT tbl) (fuel:=fuel) (n:=d + 8) (N:=M.add (.row false (opR o ra))) tf84 rfl zDH hS' wA (fun a' h M=>zG5 (d:=d) h hl hf M)
 have hck:=fun M=>@zCK fuel (d + 2) o ra hR ho (by omega) M
 unfold chfB at k
 unfold chfE at k
 refine zAY tf98 rfl (by simp [a98]) fun b' ht hx=>?_
 have h0:=hx 0 _ rfl
 have h1:=hx 1 _ rfl
 clear hx
 simp only [a98,c98,zzm] at ht ⊢
 by_cases q0 : zDD l = 0
 ·rw [q0] at hch
  simp only [q0,if_true] at k
  cases hm : o.may with
  | false =>
   rw [hm] at hck k
   simp (maxSteps:=2000000) (disch:=first | omega | assumption | (simp only [DS,Nat.reduceAdd, *]; done) | (simp only [DZ]; omega)) only [RUN,RU,zA2,zA1,zA0,zA5,slot,reduceIte,Nat.reduceEqDiff,Int.reduceEq,h0,h1,hch,hck,zBG]
   exact k _ ((Kept.refl wf).add _)
  | true =>
   have hfi:=zWW (P:=Tryz.prog) (fs:=fsT tbl) (fuel:=fuel) (n:=d + 8) (N:=M.add (.row false (opR o ra))) (y:=.agg (opR o ra)) tf101 rfl zDH hS' wA (zBW hR.fz) (fun a' h M=>zL6 (d:=d + 1) h hl hf hR ho hm M)
   rw [hm] at hck k
   simp (maxSteps:=2000000) (disch:=first | omega | assumption | (simp only [DS,Nat.reduceAdd, *]; done) | (simp only [DZ]; omega)) only [RUN,RU,zA2,zA1,zA0,zA5,slot,reduceIte,Nat.reduceEqDiff,h0,h1,hch,hck,zB5,hfi]
   exact k _ ((Kept.refl wf).add _)
 ·have q1 : decide (zDD l = 0) = false:=decide_eq_false q0
  simp only [q0,if_false,decide_false,Bool.false_and] at k
  simp (maxSteps:=2000000) (disch:=first | omega | assumption | (simp only [DS,Nat.reduceAdd, *]; done) | (simp only [DZ]; omega)) only [RUN,RU,zA2,zA1,zA0,zA5,reduceIte,Nat.reduceEqDiff,h0,h1,hch,q1]
  exact k _ ((Kept.refl wf).add _)
end Go.Proofs.YtkfdflajadkfkaaGreat
namespace Go.Proofs.YtkfdflajadkfkaaGreat
open Go Go.Ax
variable {fuel : Nat} {M : Mem} {Q : AV → Mem → Prop} {d : Nat} {a : AV} {x : Eid} {v : Lb} {l : List Op}
def askE (l : List Op) (x : Eid) (v : Lb) : Int:=if zDD l = 0 then err (x.may && v.may) else zDD l
theorem zN8 (hS : Sl 17 isOp a l) (hl : l.length ≤ 40000) (hf : l.length + 200 < fuel) (M : Mem) : zAC Tryz.prog (fsT tbl) fuel (d + 10) (.fn 64) [a,idA x,lbA v] M = some (I64 (askE l x v),M):=by
 have hch:=fun M=>zG5 (fuel:=fuel) (d:=d) hS hl hf M
 have hc:=fun M=>@zHX fuel (d + 6) x M
 have hv:=fun M=>@zCD fuel (d + 8) v M
 apply zB6
 refine zAH tf64 rfl (by simp only [icyL,fun M=>hS.icy M 12 (by omega),zAK (zCW x) (show 1 < 12 by omega),zAK (zBA v) (show 1 < 12 by omega)]) (by simp [a64]) fun b' ht hx=>?_
 have h0:=hx 0 _ rfl
 have h1:=hx 1 _ rfl
 have h2:=hx 2 _ rfl
 clear hx
 simp only [a64,c64,zzm] at ht ⊢
 unfold askE
 by_cases q0 : zDD l = 0
 ·rw [q0] at hch
  rw [if_pos q0]
  cases h5 : x.may <;> cases h6 : v.may <;> rw [h5] at hc <;> rw [h6] at hv
  all_goals simp (maxSteps:=2000000) (disch:=first | omega | assumption | (simp only [DS,Nat.reduceAdd, *]; done) | (simp only [DZ]; omega)) only [RUN,RU,zA2,zA1,zA0,zA5,frzL,slot,reduceIte,Nat.reduceEqDiff,Nat.reduceBEq,Nat.reduceAdd,h0,h1,h2,hch,hc,hv,zB5,zBG,zCU,BMM]
  all_goals rfl
 ·have q1 : decide (zDD l = 0) = false:=decide_eq_false q0
  rw [if_neg q0]
  simp (maxSteps:=2000000) (disch:=first | omega | assumption | (simp only [DS,Nat.reduceAdd, *]; done) | (simp only [DZ]; omega)) only [RUN,RU,zA2,zA1,zA0,zA5,frzL,reduceIte,Nat.reduceEqDiff,Nat.reduceAdd,h0,h1,h2,hch,q1]
def zF1 (l : List Op) (x : Eid) (v : Lb) : Bool:=decide (askE l x v = 0) && !((made l x v).any fun to => !to.leq v)
theorem zS4 {to : Lb} {y : Nat} (wf : Wf M) (hy : M.get y = some (.row false (lbR v))) (k : ∀ N,Kept M N → Q (BL (!to.leq v)) N) : W3 (zAC Tryz.prog (fsT tbl) fuel (d + 2) (.fn 65) [lbA to,.ptr y 0] M) Q:=by
 have ly:=Mem.get_lt hy
 have hl:=fun M=>@zFA fuel d to v M
 refine zAY tf65 rfl (by simp [a65]) fun b' ht hx=>?_
 have h0:=hx 0 _ rfl
 have h1:=hx 1 _ rfl
 clear hx
 simp only [a65,c65,zzm] at ht ⊢
 simp (maxSteps:=2000000) (disch:=first | omega | assumption | (simp only [DS,Nat.reduceAdd, *]; done) | (simp only [DZ]; omega)) only [RUN,RU,zA2,zA1,zA0,zA5,slot,reduceIte,Nat.reduceEqDiff,h0,h1,hy,hl]
 exact k _ ((Kept.refl wf).add _)
set_option maxHeartbeats 4000000 in
theorem zPE (hS : Sl 17 isOp a l) (hl : l.length ≤ 40000) (hf : l.length + 200 < fuel) (hx : x.ok) (M : Mem) : zAC Tryz.prog (fsT tbl) fuel (d + 11) (.fn 38) [a,idA x,lbA v] M = some (.tup [BL (zF1 l x v),I64 (askE l x v)],M):=by
 have has:=fun M=>zN8 (fuel:=fuel) (d:=d) (x:=x) (v:=v) hS hl hf M
 apply zB6
 refine zAH tf38 rfl (by simp only [icyL,fun M=>hS.icy M 12 (by omega),zAK (zCW x) (show 1 < 12 by omega),zAK (zBA v) (show 1 < 12 by omega)]) (by simp [a38]) fun b' ht hx=>?_
 have h0:=hx 0 _ rfl
 have h1:=hx 1 _ rfl
 have h2:=hx 2 _ rfl
 clear hx
 simp only [a38,c38,zzm] at ht ⊢
 unfold zF1
 by_cases q0 : askE l x v = 0
 ·rw [q0] at has
  obtain ⟨r,hr,hm⟩:=zLJ (fuel:=fuel) (d:=d + 3) (x:=x) (v:=v) hS hl (by omega) hx
  rw [q0]
  simp (maxSteps:=2000000) (disch:=first | omega | assumption | (simp only [DS,Nat.reduceAdd, *]; done) | (simp only [DZ]; omega)) only [RUN,RU,zA2,zA1,slot,reduceIte,Nat.reduceEqDiff,Nat.reduceAdd,h0,h1,h2,has,hm]
  have hml:=zIA l x v
  refine zNZ (st:=2) (ag:=true) (n:=d + 8) (first:=[]) (cap:=[.ptr 1 0]) tf66 tf85 (by simp) zH3 hr (by omega) (by omega) (p:=fun to => !to.leq v) (by simp (maxSteps:=2000000) (disch:=first | omega | assumption | (simp only [DS,Nat.reduceAdd, *]; done) | (simp only [DZ]; omega)) only [RUN]) (fun n hn=>by simp only [zA8,zBK] at hn; simp (maxSteps:=2000000) (disch:=first | omega | assumption | (simp only [DS,Nat.reduceAdd, *]; done) | (simp only [DZ]; omega)) only [RUN,RU]) (fun r to hr _ N Q' hk hQ=>?_) fun N hk=>?_
  ·obtain ⟨rfl,_⟩:=hr
   refine zS4 (d:=d + 6) hk.wf ?_ (fun N' hk'=>hQ N' (hk.trans hk'))
   rw [hk.get 1 (by simp (maxSteps:=2000000) (disch:=first | omega | assumption | (simp only [DS,Nat.reduceAdd, *]; done) | (simp only [DZ]; omega)) only [RUN,RU,Nat.reduceLT,Nat.reduceAdd])]
   simp (maxSteps:=2000000) (disch:=first | omega | assumption | (simp only [DS,Nat.reduceAdd, *]; done) | (simp only [DZ]; omega)) only [RUN]
  ·simp (maxSteps:=2000000) (disch:=first | omega | assumption | (simp only [DS,Nat.reduceAdd, *]; done) | (simp only [DZ]; omega)) only [RUN,RU,zA2,zA1,zA0,zA5,frzL,reduceIte,Nat.reduceEqDiff]
 ·have q1 : decide (askE l x v = 0) = false:=decide_eq_false q0
  simp (maxSteps:=2000000) (disch:=first | omega | assumption | (simp only [DS,Nat.reduceAdd, *]; done) | (simp only [DZ]; omega)) only [RUN,RU,zA2,zA1,zA0,zA5,frzL,slot,reduceIte,Nat.reduceEqDiff,Nat.reduceAdd,h0,h1,h2,has,q1,Bool.false_and]
end Go.Proofs.YtkfdflajadkfkaaGreat
namespace Go.Proofs.YtkfdflajadkfkaaGreat
open Go Go.Ax
variable {fuel : Nat} {M : Mem} {Q : AV → Mem → Prop} {d : Nat} {l : List Op} {a : AV} {x : Eid} {v : Lb}
theorem zQY {s : Spn} (hm : s.may = true) (x : Eid) : (s.has x).isSome = (decide (s.f.hd = x.hd) && decide (s.f.c ≤ x.c) && decide (x.c < s.f.c + s.n)):=by
 unfold Spn.has
 by_cases h1 : s.f.hd = x.hd
 ·by_cases h2 : s.f.c ≤ x.c
  ·by_cases h3 : x.c < s.f.c + s.n
   ·rw [if_pos ⟨hm,h1.symm,h2,h3⟩]; simp [h1,h2,h3]
   ·rw [if_neg (fun h=>h3 h.2.2.2)]; simp [h3]
  ·rw [if_neg (fun h=>h2 h.2.2.1)]; simp [h2]
 ·rw [if_neg (fun h=>h1 h.2.1.symm)]; simp [h1]
theorem zMQ {s : Spn} (hm : s.may = true) (x : Eid) (M : Mem) : zAC Tryz.prog (fsT tbl) fuel (d + 1) (.fn 92) [spA s,idA x] M = some (BL (s.has x).isSome,M):=by
 have hb:=Spn.may_le hm
 have w : IntKind.i64.wrap (s.f.c + s.n) = s.f.c + s.n:=wrap_i64 (by omega) (by omega)
 rw [zQY hm]
 apply zB6
 refine zAH tf92 rfl (by simp (maxSteps:=2000000) (disch:=first | omega | assumption | (simp only [DS,Nat.reduceAdd, *]; done) | (simp only [DZ]; omega)) only [RUN,icyL,Nat.reduceSub]) (by simp [a92]) fun b' ht hx=>?_
 have h0:=hx 0 _ rfl
 have h1:=hx 1 _ rfl
 clear hx
 simp only [a92,c92,zzm] at ht ⊢
 cases q1 : decide (s.f.hd = x.hd) with
 | false=>simp (maxSteps:=2000000) (disch:=first | omega | assumption | (simp only [DS,Nat.reduceAdd, *]; done) | (simp only [DZ]; omega)) only [RUN,RU,zA2,zA1,zA0,zA5,frzL,slot,reduceIte,Nat.reduceEqDiff,Nat.reduceAdd,h0,h1,↓pHdE,zB7,ETA,q1,Bool.false_and]
 | true =>
  cases q2 : decide (s.f.c ≤ x.c) with
  | false=>simp (maxSteps:=2000000) (disch:=first | omega | assumption | (simp only [DS,Nat.reduceAdd, *]; done) | (simp only [DZ]; omega)) only [RUN,RU,zA2,zA1,zA0,zA5,frzL,slot,reduceIte,Nat.reduceEqDiff,Nat.reduceAdd,h0,h1,↓pHdE,zB7,ETA,q1,q2,Bool.false_and]
  | true=>simp (maxSteps:=2000000) (disch:=first | omega | assumption | (simp only [DS,Nat.reduceAdd, *]; done) | (simp only [DZ]; omega)) only [RUN,RU,zA2,zA1,zA0,zA5,frzL,slot,reduceIte,Nat.reduceEqDiff,Nat.reduceAdd,h0,h1,↓pHdE,zB7,ETA,q1,q2,w]
set_option maxHeartbeats 8000000 in
theorem zEW (hS : Sl 17 isOp a l) (hm : ∀ o ∈ l,o.may = true) (hv : v.ok) (hl : l.length ≤ 40000) (hf : l.length + 200 < fuel) : ∃ r,Sl 2 isLb r (zBI l x v) ∧ ∀ M,zAC Tryz.prog (fsT tbl) fuel (d + 3) (.fn 75) [a,idA x,lbA v] M = some (r,M):=by
 have ll:=hS.len
 refine zDI tf75 rfl (fun M=>by simp only [icyL,fun M=>hS.icy M 12 (by omega),zAK (zCW x) (show 1 < 12 by omega),zAK (zBA v) (show 1 < 12 by omega)]) ?_
 refine zAH tf75 rfl (by simp only [icyL,fun M=>hS.icy M 12 (by omega),zAK (zCW x) (show 1 < 12 by omega),zAK (zBA v) (show 1 < 12 by omega)]) (by simp [a75]) fun b' ht hx=>?_
 have h0:=hx 0 _ rfl
 have h1:=hx 1 _ rfl
 have h2:=hx 2 _ rfl
 clear hx
 simp only [a75,c75,zz3,zzm] at ht ⊢
 simp (maxSteps:=2000000) (disch:=first | omega | assumption | (simp only [DS,Nat.reduceAdd, *]; done) | (simp only [DZ]; omega)) only [RUN,RU,zA2,zA1,reduceIte,Nat.reduceEqDiff,Nat.reduceAdd,h1,h2]
 refine zB1 (I:=fun n t N => ∃ (i : Nat) (o : AV),n = l.length - i ∧ i ≤ l.length ∧ nth zA4 t 0 = a ∧ nth zA4 t 4 = .ptr 0 0 ∧ nth zA4 t 5 = .ptr 1 0 ∧ nth zA4 t 7 = o ∧ nth zA4 t 8 = I64 i ∧ Wf N ∧ N.get 0 = some (.row false (idR x)) ∧ N.get 1 = some (.row false (lbR v)) ∧ SlM N 2 isLb o (zBI (l.take i) x v) ∧ (∀ j,rowOf o = some j → 2 ≤ j)) (n:=l.length) (by omega) ?_ ?_
 ·refine ⟨0,NIL,rfl,Nat.zero_le _, ?_, ?_, ?_, ?_, ?_,(Wf.mem0.add _).add _,by simp (maxSteps:=2000000) (disch:=first | omega | assumption | (simp only [DS,Nat.reduceAdd, *]; done) | (simp only [DZ]; omega)) only [RUN],by simp (maxSteps:=2000000) (disch:=first | omega | assumption | (simp only [DS,Nat.reduceAdd, *]; done) | (simp only [DZ]; omega)) only [RUN],SlM.nil,(fun _ h=>by cases h)⟩ <;> simp (maxSteps:=2000000) (disch:=first | omega | assumption | (simp only [DS,Nat.reduceAdd, *]; done) | (simp only [DZ]; omega)) only [RUN,reduceIte,Nat.reduceEqDiff,h0]
  all_goals first | rfl | assumption | done
 ·rintro n t N hlt ⟨i,o,rfl,hi,g0,g4,g5,g7,g8,w,m0,m1,sm,ro⟩
  simp only [ht] at hlt ⊢
  have l0:=Mem.get_lt m0
  have l1:=Mem.get_lt m1
  have oo:=sm.one
  have co:=sm.cells
  by_cases hc : i < l.length
  ·have q1 : decide ((i : Int) < l.length) = true:=decide_eq_true (by omega)
   have w1 : IntKind.i64.wrap ((i : Int) + 1) = ((i + 1 : Nat) : Int):=by rw [wrap_i64] <;> omega
   obtain ⟨r,hiad,hr,_⟩:=hS.iad i hc
   have hsn:=zGR (l.take i) l[i] x v
   rw [← take_snoc l i hc] at hsn
   have hmi:=hm l[i] (List.getElem_mem hc)
   have hrl:=zD3 (l.take i) x v
   rw [List.length_take] at hrl
   generalize l[i] = e at *
   obtain ⟨ra,rfl,hra,hok⟩:=hr
   have hh:=fun M=>zMQ (fuel:=fuel) (d:=d + 1) (zCP hmi) x M
   have hle:=fun M=>zD2 (fuel:=fuel) (d:=d) e.hd.lb v hok.2.1.1 hv (by omega) M
   unfold zDE at hsn
   cases q2 : decide (e.kd = 3) with
   | false =>
    simp only [q2,Bool.false_and,Bool.false_eq_true,if_false,List.append_nil] at hsn
    simp (maxSteps:=2000000) (disch:=first | omega | assumption | (simp only [DS,Nat.reduceAdd, *]; done) | (simp only [DZ]; omega)) only [RUN,RU,zA2,zA1,reduceIte,Nat.reduceEqDiff,Nat.reduceBEq,Nat.reduceAdd,g0,g4,g5,g7,g8,ll,q1,hiad,q2,m0,m1,w1]
    exact ⟨hlt,l.length - (i + 1),by omega,i + 1,o,rfl,by omega,rfl,rfl,w,by rw [hsn]; exact sm,ro⟩
   | true =>
    cases q3 : (e.sp.has x).isSome with
    | false =>
     rw [q3] at hh
     simp only [q2,q3,Bool.false_and,Bool.and_false,Bool.false_eq_true,if_false,List.append_nil] at hsn
     simp (maxSteps:=2000000) (disch:=first | omega | assumption | (simp only [DS,Nat.reduceAdd, *]; done) | (simp only [DZ]; omega)) only [RUN,RU,zA2,zA1,slot,reduceIte,Nat.reduceEqDiff,Nat.reduceBEq,Nat.reduceAdd,g0,g4,g5,g7,g8,ll,q1,hiad,q2,m0,m1,hh,w1]
     exact ⟨hlt,l.length - (i + 1),by omega,i + 1,o,rfl,by omega,rfl,rfl,w,by rw [hsn]; exact sm,ro⟩
    | true =>
     rw [q3] at hh
     cases q4 : e.hd.lb.leq v with
     | false =>
      rw [q4] at hle
      simp only [q2,q3,q4,Bool.and_false,Bool.false_eq_true,if_false,List.append_nil] at hsn
      simp (maxSteps:=2000000) (disch:=first | omega | assumption | (simp only [DS,Nat.reduceAdd, *]; done) | (simp only [DZ]; omega)) only [RUN,RU,zA2,zA1,slot,reduceIte,Nat.reduceEqDiff,Nat.reduceBEq,Nat.reduceAdd,g0,g4,g5,g7,g8,ll,q1,hiad,q2,m0,m1,hh,hle,w1]
      exact ⟨hlt,l.length - (i + 1),by omega,i + 1,o,rfl,by omega,rfl,rfl,w,by rw [hsn]; exact sm,ro⟩
     | true =>
      rw [q4] at hle
      simp only [q2,q3,q4,Bool.and_self,if_true] at hsn
      simp (maxSteps:=2000000) (disch:=first | omega | assumption | (simp only [DS,Nat.reduceAdd, *]; done) | (simp only [DZ]; omega)) only [RUN,RU,zA2,zA1,slot,lay,zAJ,zAD,reduceIte,Nat.reduceEqDiff,Nat.reduceBEq,Nat.reduceAdd,g0,g4,g5,g7,g8,ll,q1,hiad,q2,m0,m1,hh,hle]
      refine ⟨zBE sm.rl (by omega), ?_⟩
      refine app1 (bytes:=8) w sm zH3 (x:=e.to) ⟨rfl,hok.2.2.2.2.2.1⟩ rfl (by omega) (by omega) (by omega) fun o' M' m' w' le' kp' nw' wm' rl' on' oc'=>?_
      simp (maxSteps:=2000000) (disch:=first | omega | assumption | (simp only [DS,Nat.reduceAdd, *]; done) | (simp only [DZ]; omega)) only [RUN,RU,zA2,zA1,reduceIte,Nat.reduceEqDiff,g0,g4,g5,g7,g8,w',w1]
      refine ⟨hlt,l.length - (i + 1),by omega,i + 1,o',rfl,by omega,rfl,rfl, ?_, ?_,by rw [hsn]; exact m',fun j hj=>?_⟩
      ·rw [kp' 0 l0 (fun h=>by have:=ro 0 h; omega)]; exact m0
      ·rw [kp' 1 l1 (fun h=>by have:=ro 1 h; omega)]; exact m1
      ·rcases nw' j hj with h | h
       ·exact ro j h
       ·omega
  ·obtain rfl : i = l.length:=by omega
   have q1 : decide ((l.length : Int) < l.length) = false:=decide_eq_false (by omega)
   rw [List.take_length] at sm
   obtain ⟨r,hz,hsr⟩:=sm.frz zH3.cel (k:=12) (by omega)
   simp (maxSteps:=2000000) (disch:=first | omega | assumption | (simp only [DS,Nat.reduceAdd, *]; done) | (simp only [DZ]; omega)) only [RUN,RU,zA2,zA1,zA0,zA5,frzL,reduceIte,Nat.reduceEqDiff,g0,g7,g8,ll,hz]
   exact ⟨r,hsr,rfl⟩
set_option maxHeartbeats 4000000 in
theorem zFR {ls : List Lb} (hS : Sl 2 isLb a ls) (b : Lb) (hl : ls.length ≤ 1000000000) (hf : ls.length < fuel) (M : Mem) : zAC Tryz.prog (fsT tbl) fuel (d + 1) (.fn 90) [a,lbA b] M = some (BL (zDG ls b),M):=by
 have ll:=hS.len
 apply zB6
 refine zDL tf90 rfl (by simp only [icyL,fun M=>hS.icy M 12 (by omega),zAK (zBA b) (show 1 < 12 by omega)]) (by simp [a90]) fun b' ht hx=>?_
 have h0:=hx 0 _ rfl
 have h1:=hx 1 _ rfl
 clear hx
 simp only [a90,c90,zzm] at ht ⊢
 unfold zDG
 simp (maxSteps:=2000000) (disch:=first | omega | assumption | (simp only [DS,Nat.reduceAdd, *]; done) | (simp only [DZ]; omega)) only [RUN,RU,zA2,zA1,h1]
 refine zB1 (I:=fun n t N => ∃ (i : Nat),n = ls.length - i ∧ i ≤ ls.length ∧ nth zA4 t 0 = a ∧ nth zA4 t 3 = .ptr 0 0 ∧ nth zA4 t 5 = I64 i ∧ Wf N ∧ N.get 0 = some (.row false (lbR b)) ∧ (ls.take i).any (fun y=>decide (b = y)) = false) (n:=ls.length) (by omega) ?_ ?_
 ·refine ⟨0,rfl,Nat.zero_le _, ?_, ?_, ?_,Wf.mem0.add _,by simp (maxSteps:=2000000) (disch:=first | omega | assumption | (simp only [DS,Nat.reduceAdd, *]; done) | (simp only [DZ]; omega)) only [RUN],rfl⟩ <;> simp (maxSteps:=2000000) (disch:=first | omega | assumption | (simp only [DS,Nat.reduceAdd, *]; done) | (simp only [DZ]; omega)) only [RUN,reduceIte,Nat.reduceEqDiff,h0]
  all_goals first | rfl | assumption | done
 ·rintro n t N hlt ⟨i,rfl,hi,g0,g3,g5,w,g,hj⟩
  simp only [ht] at hlt ⊢
  have lg:=Mem.get_lt g
  by_cases hc : i < ls.length
  ·have q1 : decide ((i : Int) < ls.length) = true:=decide_eq_true (by omega)
   have w1 : IntKind.i64.wrap ((i : Int) + 1) = ((i + 1 : Nat) : Int):=by rw [wrap_i64] <;> omega
   obtain ⟨r,hiad,⟨rfl,_⟩,_⟩:=hS.iad i hc
   have hsn:=take_snoc ls i hc
   have hmem:=List.getElem_mem hc
   generalize ls[i] = y at *
   cases q2 : decide (y = b) with
   | true =>
    have e : ls.any (fun y=>decide (b = y)) = true:=List.any_eq_true.2 ⟨y,hmem,by rw [of_decide_eq_true q2]; exact decide_eq_true rfl⟩
    simp (maxSteps:=2000000) (disch:=first | omega | assumption | (simp only [DS,Nat.reduceAdd, *]; done) | (simp only [DZ]; omega)) only [RUN,RU,zA2,zA1,zA0,zA5,frzL,slot,reduceIte,Nat.reduceEqDiff,Nat.reduceBEq,Nat.reduceAdd,g0,g3,g5,ll,q1,hiad,g,↓pLbE,zAV,ETA,q2,zBR]
    rw [e]
   | false =>
    simp (maxSteps:=2000000) (disch:=first | omega | assumption | (simp only [DS,Nat.reduceAdd, *]; done) | (simp only [DZ]; omega)) only [RUN,RU,zA2,zA1,slot,reduceIte,Nat.reduceEqDiff,Nat.reduceBEq,Nat.reduceAdd,g0,g3,g5,ll,q1,hiad,g,↓pLbE,zAV,ETA,q2,w1]
    refine ⟨hlt,ls.length - (i + 1),by omega,i + 1,rfl,by omega,rfl,w, ?_⟩
    rw [hsn,List.any_append,hj]
    have : decide (b = y) = false:=decide_eq_false fun h=>of_decide_eq_false q2 h.symm
    simp [this]
  ·obtain rfl : i = ls.length:=by omega
   have q1 : decide ((ls.length : Int) < ls.length) = false:=decide_eq_false (by omega)
   rw [List.take_length] at hj
   simp (maxSteps:=2000000) (disch:=first | omega | assumption | (simp only [DS,Nat.reduceAdd, *]; done) | (simp only [DZ]; omega)) only [RUN,RU,zA2,zA1,zA0,zA5,frzL,reduceIte,Nat.reduceEqDiff,g0,g5,ll,hj,zBR]
set_option maxHeartbeats 8000000 in
theorem zOY (hS : Sl 17 isOp a l) (hm : ∀ o ∈ l,o.may = true) (hx : x.ok) (hv : v.ok) (hl : l.length ≤ 40000) (hf : l.length + 200 < fuel) : ∃ r,Sl 2 isLb r (made l x v) ∧ ∀ M,zAC Tryz.prog (fsT tbl) fuel (d + 4) (.fn 91) [a,idA x,lbA v] M = some (r,M):=by
 obtain ⟨rr,hrr,hra⟩:=zEW (fuel:=fuel) (d:=d) (x:=x) hS hm hv hl hf
 have lrr:=hrr.len
 have hrl:=zD3 l x v
 refine zDI tf91 rfl (fun M=>by simp only [icyL,fun M=>hS.icy M 12 (by omega),zAK (zCW x) (show 1 < 12 by omega),zAK (zBA v) (show 1 < 12 by omega)]) ?_
 refine zAH tf91 rfl (by simp only [icyL,fun M=>hS.icy M 12 (by omega),zAK (zCW x) (show 1 < 12 by omega),zAK (zBA v) (show 1 < 12 by omega)]) (by simp [a91]) fun b' ht hx=>?_
 have h0:=hx 0 _ rfl
 have h1:=hx 1 _ rfl
 have h2:=hx 2 _ rfl
 clear hx
 simp only [a91,c91,zz3,zzm] at ht ⊢
 unfold made
 generalize zBI l x v = R at *
 simp (maxSteps:=2000000) (disch:=first | omega | assumption | (simp only [DS,Nat.reduceAdd, *]; done) | (simp only [DZ]; omega)) only [RUN,RU,zA2,zA1,slot,lay,zAJ,zAD,reduceIte,Nat.reduceEqDiff,Nat.reduceBEq,Nat.reduceAdd,h0,h1,h2,hra]
 refine zB1 (I:=fun n t N => ∃ (i : Nat) (o : AV),n = R.length - i ∧ i ≤ R.length ∧ nth zA4 t 7 = o ∧ nth zA4 t 8 = rr ∧ nth zA4 t 9 = I64 i ∧ Wf N ∧ SlM N 2 isLb o ((R.take i).foldl addL [x.hd.lb])) (n:=R.length) (by omega) ?_ ?_
 ·refine ⟨0,.sl 2 0 1 (some 1) 2,rfl,Nat.zero_le _, ?_, ?_, ?_,((Wf.mem0.add _).add _).add _,zPF (rows:=[lbR x.hd.lb]) (.cons ⟨rfl,hx.1.1⟩ .nil) (by simp) rfl (.inr rfl) (by simp (maxSteps:=2000000) (disch:=first | omega | assumption | (simp only [DS,Nat.reduceAdd, *]; done) | (simp only [DZ]; omega)) only [RUN]; rfl)⟩ <;> simp (maxSteps:=2000000) (disch:=first | omega | assumption | (simp only [DS,Nat.reduceAdd, *]; done) | (simp only [DZ]; omega)) only [RUN,reduceIte,Nat.reduceEqDiff]
  all_goals first | rfl | assumption | done
 ·rintro n t N hlt ⟨i,o,rfl,hi,g7,g8,g9,w,sm⟩
  simp only [ht] at hlt ⊢
  have oo:=sm.one
  have co:=sm.cells
  have hfl:=zFV (R.take i) [x.hd.lb]
  rw [List.length_take,List.length_singleton] at hfl
  by_cases hc : i < R.length
  ·have q1 : decide ((i : Int) < R.length) = true:=decide_eq_true (by omega)
   have w1 : IntKind.i64.wrap ((i : Int) + 1) = ((i + 1 : Nat) : Int):=by rw [wrap_i64] <;> omega
   obtain ⟨r,hiad,⟨hr1,hr2⟩,_⟩:=hrr.iad i hc
   subst hr1
   have hsn : (R.take (i + 1)).foldl addL [x.hd.lb] = addL ((R.take i).foldl addL [x.hd.lb]) R[i]:=by rw [take_snoc R i hc,List.foldl_append]; rfl
   generalize R[i] = y at *
   generalize (R.take i).foldl addL [x.hd.lb] = E at *
   have ham:=zWT (P:=Tryz.prog) (fs:=fsT tbl) (fuel:=fuel) (n:=d + 2) (N:=N) (y:=lbA y) tf90 rfl zH3 sm w (fun M=>zAK (zBA y) (by omega) M) (fun a' h M=>zFR (fuel:=fuel) (d:=d + 2) h y (by omega) (by omega) M)
   have hadd : addL E y = if zDG E y then E else E ++ [y]:=rfl
   rw [hadd] at hsn
   have rlo:=zBE sm.rl (Nat.le_refl N.size)
   cases q2 : zDG E y with
   | true =>
    rw [q2] at ham
    rw [q2,if_pos rfl] at hsn
    simp (maxSteps:=2000000) (disch:=first | omega | assumption | (simp only [DS,Nat.reduceAdd, *]; done) | (simp only [DZ]; omega)) only [RUN,RU,zA2,zA1,slot,reduceIte,Nat.reduceEqDiff,g7,g8,g9,lrr,q1,hiad,ham,w1]
    exact ⟨hlt,R.length - (i + 1),by omega,i + 1,o,rfl,by omega,rfl,rfl,w,by rw [hsn]; exact sm⟩
   | false =>
    rw [q2] at ham
    rw [q2,if_neg (by decide)] at hsn
    simp (maxSteps:=2000000) (disch:=first | omega | assumption | (simp only [DS,Nat.reduceAdd, *]; done) | (simp only [DZ]; omega)) only [RUN,RU,zA2,zA1,slot,lay,zAJ,zAD,reduceIte,Nat.reduceEqDiff,Nat.reduceBEq,Nat.reduceAdd,g7,g8,g9,lrr,q1,hiad,ham]
    refine ⟨zBE sm.rl (by omega), ?_⟩
    refine app1 (bytes:=8) w sm zH3 (x:=y) ⟨rfl,hr2⟩ rfl (by omega) (by omega) (by omega) fun o' M' m' w' le' kp' nw' wm' rl' on' oc'=>?_
    simp (maxSteps:=2000000) (disch:=first | omega | assumption | (simp only [DS,Nat.reduceAdd, *]; done) | (simp only [DZ]; omega)) only [RUN,RU,zA2,zA1,reduceIte,Nat.reduceEqDiff,g7,g8,g9,w',w1]
    exact ⟨hlt,R.length - (i + 1),by omega,i + 1,o',rfl,by omega,rfl,rfl,by rw [hsn]; exact m'⟩
  ·obtain rfl : i = R.length:=by omega
   have q1 : decide ((R.length : Int) < R.length) = false:=decide_eq_false (by omega)
   rw [List.take_length] at sm
   obtain ⟨r,hz,hsr⟩:=sm.frz zH3.cel (k:=12) (by omega)
   simp (maxSteps:=2000000) (disch:=first | omega | assumption | (simp only [DS,Nat.reduceAdd, *]; done) | (simp only [DZ]; omega)) only [RUN,RU,zA2,zA1,zA0,zA5,frzL,reduceIte,Nat.reduceEqDiff,g7,g8,g9,lrr,hz]
   exact ⟨r,hsr,rfl⟩
end Go.Proofs.YtkfdflajadkfkaaGreat
namespace Go.Proofs.YtkfdflajadkfkaaGreat
open Go Go.Ax
variable {fuel : Nat} {M : Mem} {Q : AV → Mem → Prop} {d : Nat} {x : Eid} {l : List Op}
def idV (x : Eid) : List Value:=[.int .u8 x.hd.lb.lv,.int .u32 x.hd.lb.cats,.int .u8 x.hd.num,.int .i64 x.c]
theorem zSQ (x : Eid) : PT.iss [.st [.st [.int .u8,.int .u32],.int .u8],.int .i64] (idV x):=by
 simp only [PT.iss,PT.is]
 exact ⟨[.int .u8 x.hd.lb.lv,.int .u32 x.hd.lb.cats,.int .u8 x.hd.num],[.int .i64 x.c],rfl,⟨[.int .u8 x.hd.lb.lv,.int .u32 x.hd.lb.cats],[.int .u8 x.hd.num],rfl,⟨[.int .u8 x.hd.lb.lv],[.int .u32 x.hd.lb.cats],rfl,⟨_,rfl⟩,⟨[.int .u32 x.hd.lb.cats],[],rfl,⟨_,rfl⟩,rfl⟩⟩,⟨[.int .u8 x.hd.num],[],rfl,⟨_,rfl⟩,rfl⟩⟩,⟨[.int .i64 x.c],[],rfl,⟨_,rfl⟩,rfl⟩⟩
theorem zU7 (x y : Eid) : idV x = idV y ↔ x = y:=by
 obtain ⟨⟨⟨a,b⟩,c⟩,e⟩:=x
 obtain ⟨⟨⟨a',b'⟩,c'⟩,e'⟩:=y
 simp [idV,and_assoc]
theorem id_ck (b : Bool) (n1 n2 n3 n4 : Int) : (zAM Tryz.prog (Instr.checkKey b 10000 29 (.agg #[.int .u8 n1,.int .u32 n2,.int .u8 n3,.int .i64 n4]))).isSome = true:=by
 cases b <;> kernel_rfl
def zU6 : KeyT Tryz.prog 29 idA where
 val x:=.agg (idV x).toArray
 hval x:=rfl
 ck b x:=id_ck b _ _ _ _
 eq x y:=by
  obtain ⟨r,h1,h2⟩:=PT.eq (P:=Tryz.prog) (.st [.st [.st [.int .u8,.int .u32],.int .u8],.int .i64]) 29 10000 (by kernel_rfl) (by decide) (xs:=idV x) (ys:=idV y) (by simpa only [PT.is] using zSQ x) (by simpa only [PT.is] using zSQ y)
  have e : r = decide (x = y):=by
   rw [Bool.eq_iff_iff,h2,zU7]
   simp
  rw [← e]
  exact h1
 same x:=by simp [Instr.sameBits,idV]
end Go.Proofs.YtkfdflajadkfkaaGreat
namespace Go.Proofs.YtkfdflajadkfkaaGreat
open Go Go.Ax
variable {fuel : Nat} {M : Mem} {Q : AV → Mem → Prop} {d : Nat} {x : Eid} {l : List Op} {o : Op} {ra ops : AV} {B id m : Nat}
def zAT (l : List Op) : List Eid:=l.flatMap fun o=>if o.kd = 1 then o.sp.ids else []
structure IsHist (N : Mem) (B id m : Nat) (ops : AV) (l : List Op) : Prop where
 hg : N.get id = some (.row false [ops,.mp m])
 sm : SlM N 17 isOp ops l
 mg : ∃ obj,N.get m = some obj ∧ zHS idA (BL true) obj (zAT l)
 ib : B ≤ id
 mb : B ≤ m
 ob : ∀ j,rowOf ops = some j → B ≤ j
 ne : id ≠ m
 n1 : rowOf ops ≠ some id
 n2 : rowOf ops ≠ some m
theorem IsHist.keep {N : Mem} (h : IsHist M B id m ops l) (k : ∀ j,j < M.size → N.get j = M.get j) : IsHist N B id m ops l:=by
 obtain ⟨obj,h1,h2⟩:=h.mg
 exact ⟨(k _ (Mem.get_lt h.hg)).trans h.hg,h.sm.keep fun j hj=>k j (h.sm.lt j hj),⟨obj,(k _ (Mem.get_lt h1)).trans h1,h2⟩,h.ib,h.mb,h.ob,h.ne,h.n1,h.n2⟩
def zE0 (l : List Op) (o : Op) (x : Eid) : Bool:=decide (x ∈ zAT l) && x.hd.lb.leq o.hd.lb
theorem zSZ (p : Prop) [Decidable p] : (if p then BL true else .sc (.bool false)) = BL (decide p):=by
 by_cases h : p <;> simp [h]
theorem zT8 (hH : IsHist M B id m ops l) (hR : Sl 1 zAS ra o.rs) (wf : Wf M) (hw : M.wm ≤ M.size) (k : ∀ N,Kept M N → Q (BL (zE0 l o x)) N) :
  W3 (zAC Tryz.prog (fsT tbl) fuel (d + 2) (.fn 93) [.ptr id 0,.agg (opR o ra),idA x] M) Q:=by
 have ora:=hR.one
 have hg:=hH.hg
 obtain ⟨obj,mg,hset⟩:=hH.mg
 have li:=Mem.get_lt hg
 have lm:=Mem.get_lt mg
 have om:=hH.sm.one
 have mg2 : ((M.add (.row false (opR o ra))).add (.row false (idR x))).get m = some obj:=by
  rw [zAF (wf.add _) _ _ (by rw [zA8]; omega),zAF wf _ _ lm]; exact mg
 have hlk:=zT2 zU6 (z:=.bool false) mg2 hset x
 rw [zSZ] at hlk
 have hle:=fun M=>@zFA fuel d x.hd.lb o.hd.lb M
 have one_mp : oneA (.mp m) = true:=rfl
 have kk:=(((Kept.refl wf).add (.row false (opR o ra))).add (.row false (idR x)))
 unfold zE0 at k
 refine zAY tf93 rfl (by simp [a93]) fun b' ht hx=>?_
 have h0:=hx 0 _ rfl
 have h1:=hx 1 _ rfl
 have h2:=hx 2 _ rfl
 clear hx
 simp only [a93,c93,zzm] at ht ⊢
 cases q : decide (x ∈ zAT l) with
 | false =>
  rw [q] at hlk
  simp only [q,Bool.false_and] at k
  simp (maxSteps:=2000000) (disch:=first | omega | assumption | (simp only [DS,Nat.reduceAdd, *]; done) | (simp only [DZ]; omega)) only [RUN,RU,zA2,zA1,zA0,zA5,slot,reduceIte,Nat.reduceEqDiff,Nat.reduceBEq,Nat.reduceAdd,h0,h1,h2,hg,x_lk,hlk]
  exact k _ kk
 | true =>
  rw [q] at hlk
  simp only [q,Bool.true_and] at k
  simp (maxSteps:=2000000) (disch:=first | omega | assumption | (simp only [DS,Nat.reduceAdd, *]; done) | (simp only [DZ]; omega)) only [RUN,RU,zA2,zA1,zA0,zA5,slot,reduceIte,Nat.reduceEqDiff,Nat.reduceBEq,Nat.reduceAdd,h0,h1,h2,hg,x_lk,hlk,hle]
  exact k _ kk
theorem zVZ {bh bo : Nat} (hH : IsHist M B id m ops l) (hR : Sl 1 zAS ra o.rs) (wf : Wf M) (hw : M.wm ≤ M.size) (hb : M.get bh = some (.row false [.ptr id 0])) (hbo : M.get bo = some (.row false (opR o ra))) (k : ∀ N,Kept M N → Q (BL (!zE0 l o x)) N) :
  W3 (zAC Tryz.prog (fsT tbl) fuel (d + 3) (.fn 109) [idA x,.ptr bh 0,.ptr bo 0] M) Q:=by
 have ora:=hR.one
 have lb:=Mem.get_lt hb
 have lbo:=Mem.get_lt hbo
 have li:=Mem.get_lt hH.hg
 refine zAY tf109 rfl (by simp [a109]) fun b' ht hx=>?_
 have h0:=hx 0 _ rfl
 have h1:=hx 1 _ rfl
 have h2:=hx 2 _ rfl
 clear hx
 simp only [a109,c109,zzm] at ht ⊢
 simp (maxSteps:=2000000) (disch:=first | omega | assumption | (simp only [DS,Nat.reduceAdd, *]; done) | (simp only [DZ]; omega)) only [RUN,RU,zA2,zA1,slot,reduceIte,Nat.reduceEqDiff,h0,h1,h2,hb,hbo]
 refine zT8 (d:=d) (B:=B) (m:=m) (ops:=ops) (hH.keep fun j hj=>zAF wf _ _ hj) hR (wf.add _) (by rw [zA8]; show M.wm ≤ _; omega) fun N hN=>?_
 simp (maxSteps:=2000000) (disch:=first | omega | assumption | (simp only [DS,Nat.reduceAdd, *]; done) | (simp only [DZ]; omega)) only [RUN,RU,zA2,zA1,zA0,zA5,reduceIte,Nat.reduceEqDiff]
 exact k _ (((Kept.refl wf).add _).trans hN)
def allB (l : List Op) (o : Op) : Bool:=o.sp.ids.all fun x=>zE0 l o x
theorem zHT {α : Type} (p : α → Bool) (l : List α) : (l.any fun x => !p x) = !l.all p:=by
 induction l with
 | nil=>rfl
 | cons x l ih=>simp only [List.any_cons,List.all_cons,ih,Bool.not_and]
theorem zW0 (hH : IsHist M B id m ops l) (hR : Sl 1 zAS ra o.rs) (ho : o.ok) (hm : o.may = true) (hf : 300 < fuel) (wf : Wf M) (hw : M.wm ≤ M.size) (k : ∀ N,Kept M N → Q (BL (allB l o)) N) :
  W3 (zAC Tryz.prog (fsT tbl) fuel (d + 7) (.fn 97) [.ptr id 0,.agg (opR o ra)] M) Q:=by
 have ora:=hR.one
 have li:=Mem.get_lt hH.hg
 have hb:=Spn.may_le (zCP hm)
 obtain ⟨r,hr,hn⟩:=zGD (fuel:=fuel) (d:=d) ho.2.2.2.1 (zCP hm) (by omega)
 have il:=zI7 o.sp
 have ea : (o.sp.ids.any fun x => !zE0 l o x) = !allB l o:=zHT _ _
 refine zAY tf97 rfl (by simp [a97]) fun b' ht hx=>?_
 have h0:=hx 0 _ rfl
 have h1:=hx 1 _ rfl
 clear hx
 simp only [a97,c97,zzm] at ht ⊢
 simp (maxSteps:=2000000) (disch:=first | omega | assumption | (simp only [DS,Nat.reduceAdd, *]; done) | (simp only [DZ]; omega)) only [RUN,RU,zA2,zA1,slot,reduceIte,Nat.reduceEqDiff,h0,h1,hn]
 have kA:=((Kept.refl wf).add (.row false [.ptr id 0])).add (.row false (opR o ra))
 have wA:=kA.wf
 have gA : ((M.add (.row false [.ptr id 0])).add (.row false (opR o ra))).get M.size = some (.row false [.ptr id 0]):=by simp (maxSteps:=2000000) (disch:=first | omega | assumption | (simp only [DS,Nat.reduceAdd, *]; done) | (simp only [DZ]; omega)) only [RUN]
 have gB : ((M.add (.row false [.ptr id 0])).add (.row false (opR o ra))).get (M.size + 1) = some (.row false (opR o ra)):=by simp (maxSteps:=2000000) (disch:=first | omega | assumption | (simp only [DS,Nat.reduceAdd, *]; done) | (simp only [DZ]; omega)) only [RUN]
 have sA : ((M.add (.row false [.ptr id 0])).add (.row false (opR o ra))).size = M.size + 2:=rfl
 generalize (M.add (.row false [.ptr id 0])).add (.row false (opR o ra)) = X at *
 refine zNZ (st:=4) (ag:=true) (n:=d + 4) (first:=[]) (cap:=[.ptr M.size 0,.ptr (M.size + 1) 0]) tf95 tf108 (by simp) zG9 hr (by omega) (by omega) (p:=fun x => !zE0 l o x) wA (fun n hn=>by rw [sA] at hn; simp (maxSteps:=2000000) (disch:=first | omega | assumption | (simp only [DS,Nat.reduceAdd, *]; done) | (simp only [DZ]; omega)) only [RUN,RU]) (fun r x hr _ N Q' hk hQ=>?_) fun N hk=>?_
 ·obtain ⟨rfl,_⟩:=hr
  refine zVZ (d:=d + 1) (B:=B) (m:=m) (ops:=ops) (hH.keep fun j hj=>(hk.get j (by omega)).trans (kA.get j hj)) hR hk.wf (by rw [hk.wm,kA.wm]; have:=hk.le; omega) ((hk.get _ (by omega)).trans gA) ((hk.get _ (by omega)).trans gB) fun N' hk'=>hQ N' (hk.trans hk')
 ·rw [ea]
  simp (maxSteps:=2000000) (disch:=first | omega | assumption | (simp only [DS,Nat.reduceAdd, *]; done) | (simp only [DZ]; omega)) only [RUN,RU,zA2,zA1,zA0,zA5,reduceIte,Nat.reduceEqDiff]
  rw [Bool.not_not]
  exact k _ (kA.trans hk)
end Go.Proofs.YtkfdflajadkfkaaGreat
namespace Go.Proofs.YtkfdflajadkfkaaGreat
open Go Go.Ax
variable {fuel : Nat} {M : Mem} {Q : AV → Mem → Prop} {d : Nat} {x : Eid} {l : List Op} {o : Op} {ra ops : AV} {B id m : Nat}
def remE (l : List Op) (o : Op) : Int:=if allB l o then (if o.sp.f.hd.lb = o.hd.lb then 0 else 2) else 6
def raiE (l : List Op) (o : Op) : Int:=if allB l o then (if chfE l o = 0 ∧ chfB l o = true then 0 else 2) else 6
set_option maxHeartbeats 4000000 in
theorem zS0 (hH : IsHist M B id m ops l) (hR : Sl 1 zAS ra o.rs) (ho : o.ok) (hm : o.may = true) (hf : 300 < fuel) (wf : Wf M) (hw : M.wm ≤ M.size) (k : ∀ N,Kept M N → Q (I64 (remE l o)) N) :
  W3 (zAC Tryz.prog (fsT tbl) fuel (d + 8) (.fn 78) [.ptr id 0,.agg (opR o ra)] M) Q:=by
 have ora:=hR.one
 have li:=Mem.get_lt hH.hg
 unfold remE at k
 refine zAY tf78 rfl (by simp [a78]) fun b' ht hx=>?_
 have h0:=hx 0 _ rfl
 have h1:=hx 1 _ rfl
 clear hx
 simp only [a78,c78,zzm] at ht ⊢
 simp (maxSteps:=2000000) (disch:=first | omega | assumption | (simp only [DS,Nat.reduceAdd, *]; done) | (simp only [DZ]; omega)) only [RUN,RU,zA2,zA1,slot,reduceIte,Nat.reduceEqDiff,h0,h1]
 refine zW0 (d:=d) (B:=B) (m:=m) (ops:=ops) (hH.keep fun j hj=>zAF wf _ _ hj) hR ho hm hf (wf.add _) (by rw [zA8]; show M.wm ≤ _; omega) fun N hN=>?_
 have hg:=hN.get M.size (by rw [zA8]; omega)
 rw [zAG wf _ _ (Nat.le_refl _) (Nat.lt_succ_self _)] at hg
 have lg:=Mem.get_lt hg
 have kN:=((Kept.refl wf).add _).trans hN
 cases q1 : allB l o <;> simp only [q1,if_true,Bool.false_eq_true,if_false] at k
 ·simp (maxSteps:=2000000) (disch:=first | omega | assumption | (simp only [DS,Nat.reduceAdd, *]; done) | (simp only [DZ]; omega)) only [RUN,RU,zA2,zA1,zA0,zA5,reduceIte,Nat.reduceEqDiff]
  exact k _ kN
 ·cases q2 : decide (o.sp.f.hd.lb = o.hd.lb)
  ·rw [if_neg (of_decide_eq_false q2)] at k
   simp (maxSteps:=2000000) (disch:=first | omega | assumption | (simp only [DS,Nat.reduceAdd, *]; done) | (simp only [DZ]; omega)) only [RUN,RU,zA2,zA1,zA0,zA5,slot,reduceIte,Nat.reduceEqDiff,hg,↓pLbN,zD1,ETA,q2]
   exact k _ kN
  ·rw [if_pos (of_decide_eq_true q2)] at k
   simp (maxSteps:=2000000) (disch:=first | omega | assumption | (simp only [DS,Nat.reduceAdd, *]; done) | (simp only [DZ]; omega)) only [RUN,RU,zA2,zA1,zA0,zA5,slot,reduceIte,Nat.reduceEqDiff,hg,↓pLbN,zD1,ETA,q2]
   exact k _ kN
set_option maxHeartbeats 4000000 in
theorem zV2 (hH : IsHist M B id m ops l) (hl : l.length ≤ 40000) (hR : Sl 1 zAS ra o.rs) (ho : o.ok) (hm : o.may = true) (hf : l.length + 300 < fuel) (wf : Wf M) (hw : M.wm ≤ M.size) (k : ∀ N,Kept M N → Q (I64 (raiE l o)) N) :
  W3 (zAC Tryz.prog (fsT tbl) fuel (d + 11) (.fn 79) [.ptr id 0,.agg (opR o ra)] M) Q:=by
 have ora:=hR.one
 have li:=Mem.get_lt hH.hg
 unfold raiE at k
 refine zAY tf79 rfl (by simp [a79]) fun b' ht hx=>?_
 have h0:=hx 0 _ rfl
 have h1:=hx 1 _ rfl
 clear hx
 simp only [a79,c79,zzm,zzg] at ht ⊢
 simp (maxSteps:=2000000) (disch:=first | omega | assumption | (simp only [DS,Nat.reduceAdd, *]; done) | (simp only [DZ]; omega)) only [RUN,RU,zA2,zA1,slot,reduceIte,Nat.reduceEqDiff,h0,h1]
 refine zW0 (d:=d + 3) (B:=B) (m:=m) (ops:=ops) (hH.keep fun j hj=>zAF wf _ _ hj) hR ho hm (by omega) (wf.add _) (by rw [zA8]; show M.wm ≤ _; omega) fun N hN=>?_
 have hg:=hN.get M.size (by rw [zA8]; omega)
 rw [zAG wf _ _ (Nat.le_refl _) (Nat.lt_succ_self _)] at hg
 have lg:=Mem.get_lt hg
 have kN:=((Kept.refl wf).add _).trans hN
 have hH' : IsHist N B id m ops l:=hH.keep fun j hj=>kN.get j hj
 have hg2:=hH'.hg
 have li':=Mem.get_lt hg2
 cases q1 : allB l o <;> simp only [q1,if_true,Bool.false_eq_true,if_false] at k
 ·simp (maxSteps:=2000000) (disch:=first | omega | assumption | (simp only [DS,Nat.reduceAdd, *]; done) | (simp only [DZ]; omega)) only [RUN,RU,zA2,zA1,zA0,zA5,reduceIte,Nat.reduceEqDiff]
  exact k _ kN
 ·simp (maxSteps:=2000000) (disch:=first | omega | assumption | (simp only [DS,Nat.reduceAdd, *]; done) | (simp only [DZ]; omega)) only [RUN,RU,zA2,zA1,slot,reduceIte,Nat.reduceEqDiff,Nat.reduceBEq,Nat.reduceAdd,h0,hg,hg2]
  refine zQD (d:=d) (l:=l) (.inr (hH'.sm.keep fun j hj=>rfl)) hl (by omega) hR ho (by rw [zI9]; exact hN.wf) fun N2 hN2=>?_
  have k2:=kN.trans hN2.bk
  have hd : N2.dirty = false:=hN2.di
  by_cases q2 : chfE l o = 0
  ·cases q3 : chfB l o
   ·rw [if_neg (by simp [q2,q3])] at k
    simp (maxSteps:=2000000) (disch:=first | omega | assumption | (simp only [DS,Nat.reduceAdd, *]; done) | (simp only [DZ]; omega)) only [RUN,RU,zA2,zA1,zA0,zA5,reduceIte,Nat.reduceEqDiff,Nat.reduceBEq,Nat.reduceAdd,hd,q2]
    exact k _ k2
   ·rw [if_pos ⟨q2,q3⟩] at k
    simp (maxSteps:=2000000) (disch:=first | omega | assumption | (simp only [DS,Nat.reduceAdd, *]; done) | (simp only [DZ]; omega)) only [RUN,RU,zA2,zA1,zA0,zA5,reduceIte,Nat.reduceEqDiff,Nat.reduceBEq,Nat.reduceAdd,hd,q2]
    exact k _ k2
  ·rw [if_neg (by simp [q2])] at k
   have q2' : decide (chfE l o = 0) = false:=decide_eq_false q2
   simp (maxSteps:=2000000) (disch:=first | omega | assumption | (simp only [DS,Nat.reduceAdd, *]; done) | (simp only [DZ]; omega)) only [RUN,RU,zA2,zA1,zA0,zA5,reduceIte,Nat.reduceEqDiff,Nat.reduceBEq,Nat.reduceAdd,hd,q2']
   exact k _ k2
end Go.Proofs.YtkfdflajadkfkaaGreat
