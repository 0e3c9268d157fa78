/-
  Texts joined: SaD SaE SaF SaG SaH SaI SaJ SaK SaL SaM SaN SaO SbP SaQ SaR SaS SaT SaU SaV SaZ SwP SwQ TpH TrG TrH.
-/
import Derived.Test.YteognbdgdcjeeaaGreatEf
import Derived.Test.YteognbdgdcjeeaaGreatPa
set_option linter.unusedSimpArgs false
set_option linter.unusedVariables false
set_option maxRecDepth 100000
namespace Go.Proofs.YteognbdgdcjeeaaGreat
open Go Go.Ax
variable {fuel : Nat} {M : Mem} {Q : AV → Mem → Prop} {d : Nat}
theorem zS0 (M : Mem) : zAE Tryz.prog (fsT tbl) fuel (d + 1) (.fn 77) [] M = some (lbA Lb.z,M):=by
 apply zBN
 refine zAJ tf77 rfl (by simp (maxSteps:=2000000) (disch:=first | omega | assumption | (simp only [DS,Nat.reduceAdd, *]; done) | (simp only [DZ]; omega)) only [icyL]) (by simp [a77]) fun b' ht hx=>?_
 clear hx
 simp only [a77,c77] at ht ⊢
 simp (maxSteps:=2000000) (disch:=first | omega | assumption | (simp only [DS,Nat.reduceAdd, *]; done) | (simp only [DZ]; omega)) only [RUN,RU,zA2,zA1,zA0,zAB,frzL,slot,lay,zAI,reduceIte,Nat.reduceEqDiff,Nat.reduceAdd,Nat.reduceSub]
theorem zHW {o : Op} {ra : AV} (h : Fz ra) (M : Mem) : icy 12 M (.agg (opR o ra)) = some (.agg (opR o ra),M):=zBE (zX6 h) (by omega) M
def Op.bare (o : Op) : Bool:=decide (o.af = Eid.z) && decide ((o.rs.length : Int) = 0)
def Op.part (o : Op) : Bool :=
 if o.kd = 1 then decide (o.to = Lb.z) && (decide (o.af = Eid.z) || o.af.may) && decide (o.sp.f.hd = o.hd) && decide ((o.rs.length : Int) = o.sp.n) && decide (chkR o.rs = 0)
 else if o.kd = 2 then decide (o.to = Lb.z) && o.bare
 else o.bare && o.to.may
def Op.may (o : Op) : Bool:=!decide (o.kd = 0) && !decide (4 ≤ o.kd) && o.hd.may && !decide (o.sr < 1) && !decide (16777216 ≤ o.sr) && o.sp.may && o.part
theorem zWY {o : Op} {ra : AV} (hS : Sl 1 zB1 ra o.rs) (wf : Wf M) (k : ∀ N,Kept M N → Q (BL o.bare) N) : W3 (zAE Tryz.prog (fsT tbl) fuel (d + 1) (.fn 75) [.agg (opR o ra)] M) Q:=by
 have pIdE:=@pIdE
 have ll:=hS.len
 unfold Op.bare at k
 refine zB3 tf75 rfl (by simp [a75]) fun b' ht hx=>?_
 have h0:=hx 0 _ rfl
 clear hx
 simp only [a75,c75] at ht ⊢
 cases q : decide (o.af = Eid.z) <;> rw [q] at k <;> simp only [Bool.false_and,Bool.true_and] at k <;> simp (maxSteps:=2000000) (disch:=first | omega | assumption | (simp only [DS,Nat.reduceAdd, *]; done) | (simp only [DZ]; omega)) only [RUN,RU,zA2,zA1,zA0,zAB,slot,zAI,reduceIte,Nat.reduceEqDiff,h0,↓pIdE,zAU,ETA,q,ll]
 all_goals exact k _ ((Kept.refl wf).add _)
theorem zO9 {o : Op} {ra : AV} (hS : Sl 1 zB1 ra o.rs) (wf : Wf M) (k : ∀ N,Kept M N → Q (BL (decide (o.to = Lb.z))) N) : W3 (zAE Tryz.prog (fsT tbl) fuel (d + 2) (.fn 76) [.agg (opR o ra)] M) Q:=by
 have pLbE:=@pLbE
 have hl:=fun M=>@zS0 fuel d M
 refine zB3 tf76 rfl (by simp [a76]) fun b' ht hx=>?_
 have h0:=hx 0 _ rfl
 clear hx
 simp only [a76,c76] at ht ⊢
 simp (maxSteps:=2000000) (disch:=first | omega | assumption | (simp only [DS,Nat.reduceAdd, *]; done) | (simp only [DZ]; omega)) only [RUN,RU,zA2,zA1,zA0,zAB,slot,reduceIte,Nat.reduceEqDiff,Nat.reduceBEq,Nat.reduceAdd,h0,↓pLbE,zEE,ETA,hl]
 exact k _ ((Kept.refl wf).add _)
end Go.Proofs.YteognbdgdcjeeaaGreat
namespace Go.Proofs.YteognbdgdcjeeaaGreat
open Go Go.Ax
variable {fuel : Nat} {M : Mem} {Q : AV → Mem → Prop} {d : Nat}
set_option maxHeartbeats 4000000 in
theorem zcM {o : Op} {ra : AV} {x : Nat} (hS : Sl 1 zB1 ra o.rs) (hk1 : o.kd = 1) (hf : 100 < fuel) (wf : Wf M) (hx1 : M.get x = some (.row false [.fn 76 [] []])) (k : ∀ N,Kept M N → Q (BL o.part) N) :
  W3 (zAE Tryz.prog (fsT tbl) fuel (d + 6) (.fn 78) [.agg (opR o ra),.ptr x 0] M) Q:=by
 have ll:=hS.len
 have lx:=Mem.get_lt hx1
 have hc:=fun M=>@zMD fuel (d + 2) o.af M
 have hr:=fun M=>zJ4 (fuel:=fuel) (d:=d) hS hf M
 have z4 : decide ((4 : Int) = 0) = false:=rfl
 unfold Op.part at k
 rw [if_pos hk1] at k
 have kept:=fun cs=>(Kept.refl wf).add (.row false cs)
 have key : ∀ b : Bool,((decide (o.af = Eid.z) || o.af.may) = b) → True:=fun _ _=>trivial
 refine zB3 tf78 rfl (by simp [a78]) fun b' ht hx=>?_
 have h0:=hx 0 _ rfl
 have h1:=hx 1 _ rfl
 clear hx
 simp only [a78,c78] at ht ⊢
 have tail : ∀ b : Bool,(decide (o.af = Eid.z) || o.af.may) = b → ∀ t : List AV,t.length = b'.length → True:=fun _ _ _ _=>trivial
 clear tail key
 cases q : decide (o.af = Eid.z) <;> cases q' : o.af.may <;> rw [q'] at hc <;> simp only [q,q',Bool.or_false,Bool.or_true,Bool.false_and,Bool.and_false,Bool.and_true] at k
 all_goals
  (simp (maxSteps:=2000000) (disch:=first | omega | assumption | (simp only [DS,Nat.reduceAdd, *]; done) | (simp only [DZ]; omega)) only [RUN,RU,zA2,zA1,slot,zAI,reduceIte,Nat.reduceEqDiff,Int.reduceEq,h0,h1,↓pIdE,zAU,ETA,q,hc,zAX,zBF,hx1])
  refine zO9 hS (by simp (maxSteps:=2000000) (disch:=first | omega | assumption | (simp only [DS,Nat.reduceAdd, *]; done) | (simp only [DZ]; omega)) only [RUN,wf]) fun N hN=>?_
  have hg:=hN.get M.size (by rw [zA7]; omega)
  rw [zAH wf _ _ (Nat.le_refl _) (Nat.lt_succ_self _)] at hg
  have lg:=Mem.get_lt hg
  have kN:=((Kept.refl wf).add _).trans hN
  cases q1 : decide (o.to = Lb.z) <;> (try simp only [q1,Bool.false_and,Bool.true_and] at k)
  all_goals (simp (maxSteps:=2000000) (disch:=first | omega | assumption | (simp only [DS,Nat.reduceAdd, *]; done) | (simp only [DZ]; omega)) only [RUN,RU,zA2,zA1,zA0,zAB,slot,reduceIte,Nat.reduceEqDiff,hg,↓pHdE,zSL,ETA])
  all_goals first | exact k _ kN | skip
 all_goals
  cases q2 : decide (o.sp.f.hd = o.hd) <;> (try simp only [q2,Bool.false_and,Bool.true_and] at k)
  all_goals (simp (maxSteps:=2000000) (disch:=first | omega | assumption | (simp only [DS,Nat.reduceAdd, *]; done) | (simp only [DZ]; omega)) only [RUN,RU,zA2,zA1,zA0,zAB,reduceIte,Nat.reduceEqDiff,hg])
  all_goals first | exact k _ kN | skip
 all_goals
  cases q3 : decide ((o.rs.length : Int) = o.sp.n) <;> (try simp only [q3,Bool.false_and,Bool.true_and] at k)
  all_goals (simp (maxSteps:=2000000) (disch:=first | omega | assumption | (simp only [DS,Nat.reduceAdd, *]; done) | (simp only [DZ]; omega)) only [RUN,RU,zA2,zA1,zA0,zAB,reduceIte,Nat.reduceEqDiff,Nat.reduceAdd,hg,ll,q3,hr])
  all_goals exact k _ kN
end Go.Proofs.YteognbdgdcjeeaaGreat
namespace Go.Proofs.YteognbdgdcjeeaaGreat
open Go Go.Ax
variable {fuel : Nat} {M : Mem} {Q : AV → Mem → Prop} {d : Nat}
theorem zcJ {o : Op} {ra : AV} {x y : Nat} (hS : Sl 1 zB1 ra o.rs) (wf : Wf M) (hx1 : M.get x = some (.row false [.fn 76 [] []])) (hy1 : M.get y = some (.row false [.fn 75 [] []])) (k : ∀ N,Kept M N → Q (BL (decide (o.to = Lb.z) && o.bare)) N) :
  W3 (zAE Tryz.prog (fsT tbl) fuel (d + 3) (.fn 80) [.agg (opR o ra),.ptr x 0,.ptr y 0] M) Q:=by
 have lx:=Mem.get_lt hx1
 have ly:=Mem.get_lt hy1
 refine zB3 tf80 rfl (by simp [a80]) fun b' ht hx=>?_
 have h0:=hx 0 _ rfl
 have h1:=hx 1 _ rfl
 have h2:=hx 2 _ rfl
 clear hx
 simp only [a80,c80] at ht ⊢
 simp (maxSteps:=2000000) (disch:=first | omega | assumption | (simp only [DS,Nat.reduceAdd, *]; done) | (simp only [DZ]; omega)) only [RUN,RU,zA2,zA1,slot,reduceIte,Nat.reduceEqDiff,h0,h1,hx1]
 refine zO9 hS (by simp (maxSteps:=2000000) (disch:=first | omega | assumption | (simp only [DS,Nat.reduceAdd, *]; done) | (simp only [DZ]; omega)) only [RUN,wf]) fun N hN=>?_
 have hg:=hN.get M.size (by rw [zA7]; omega)
 rw [zAH wf _ _ (Nat.le_refl _) (Nat.lt_succ_self _)] at hg
 have lg:=Mem.get_lt hg
 have gy:=(hN.get y (by rw [zA7]; omega)).trans ((zAG wf _ _ ly).trans hy1)
 have lgy:=Mem.get_lt gy
 have kN:=((Kept.refl wf).add _).trans hN
 cases q1 : decide (o.to = Lb.z) <;> simp only [q1,Bool.false_and,Bool.true_and] at k <;> simp (maxSteps:=2000000) (disch:=first | omega | assumption | (simp only [DS,Nat.reduceAdd, *]; done) | (simp only [DZ]; omega)) only [RUN,RU,zA2,zA1,zA0,zAB,slot,reduceIte,Nat.reduceEqDiff,h2,hg,gy]
 ·exact k _ kN
 ·refine zWY hS hN.wf fun N' hN'=>?_
  simp (maxSteps:=2000000) (disch:=first | omega | assumption | (simp only [DS,Nat.reduceAdd, *]; done) | (simp only [DZ]; omega)) only [RUN,RU,zA2,zA1,zA0,zAB,reduceIte,Nat.reduceEqDiff]
  exact k _ (kN.trans hN')
theorem zWB {o : Op} {ra : AV} {y : Nat} (hS : Sl 1 zB1 ra o.rs) (wf : Wf M) (hy1 : M.get y = some (.row false [.fn 75 [] []])) (k : ∀ N,Kept M N → Q (BL (o.bare && o.to.may)) N) :
  W3 (zAE Tryz.prog (fsT tbl) fuel (d + 2) (.fn 82) [.agg (opR o ra),.ptr y 0] M) Q:=by
 have ly:=Mem.get_lt hy1
 have hl:=fun M=>@zEN fuel d o.to M
 refine zB3 tf82 rfl (by simp [a82]) fun b' ht hx=>?_
 have h0:=hx 0 _ rfl
 have h1:=hx 1 _ rfl
 clear hx
 simp only [a82,c82] at ht ⊢
 simp (maxSteps:=2000000) (disch:=first | omega | assumption | (simp only [DS,Nat.reduceAdd, *]; done) | (simp only [DZ]; omega)) only [RUN,RU,zA2,zA1,slot,reduceIte,Nat.reduceEqDiff,h0,h1,hy1]
 refine zWY hS (by simp (maxSteps:=2000000) (disch:=first | omega | assumption | (simp only [DS,Nat.reduceAdd, *]; done) | (simp only [DZ]; omega)) only [RUN,wf]) fun N hN=>?_
 have hg:=hN.get M.size (by rw [zA7]; omega)
 rw [zAH wf _ _ (Nat.le_refl _) (Nat.lt_succ_self _)] at hg
 have lg:=Mem.get_lt hg
 have kN:=((Kept.refl wf).add _).trans hN
 cases q1 : o.bare <;> simp only [q1,Bool.false_and,Bool.true_and] at k
 ·simp (maxSteps:=2000000) (disch:=first | omega | assumption | (simp only [DS,Nat.reduceAdd, *]; done) | (simp only [DZ]; omega)) only [RUN,RU,zA2,zA1,zA0,zAB,reduceIte,Nat.reduceEqDiff]
  exact k _ kN
 ·cases q2 : o.to.may <;> rw [q2] at hl k <;> simp (maxSteps:=2000000) (disch:=first | omega | assumption | (simp only [DS,Nat.reduceAdd, *]; done) | (simp only [DZ]; omega)) only [RUN,RU,zA2,zA1,zA0,zAB,slot,reduceIte,Nat.reduceEqDiff,Int.reduceEq,hg,hl,zAX,zBF] <;> exact k _ kN
theorem zZF (wf : Wf M) (hw : M.wm ≤ M.size) (k : ∀ N x y,Kept M N → N.get x = some (.row false [.fn 76 [] []]) → N.get y = some (.row false [.fn 75 [] []]) → M.size ≤ x → M.size ≤ y → Q (.agg [.sc .nilFunc,.sc .nilFunc,.fn 78 [] [.ptr x 0],.fn 79 [] [],.fn 80 [] [.ptr x 0,.ptr y 0],.fn 81 [] [],.fn 82 [] [.ptr y 0],.fn 83 [] []]) N) :
  W3 (zAE Tryz.prog (fsT tbl) fuel (d + 1) (.fn 57) [] M) Q:=by
 have onf : oneA (.sc .nilFunc) = true:=rfl
 have sn : scs Value.nilFunc = [.sc .nilFunc]:=rfl
 refine zB3 tf57 rfl (by simp [a57]) fun b' ht hx=>?_
 clear hx
 simp only [a57,c57] at ht ⊢
 simp (maxSteps:=2000000) (disch:=first | omega | assumption | (simp only [DS,Nat.reduceAdd, *]; done) | (simp only [DZ]; omega)) only [RUN,RU,zA2,zA1,zA0,zAB,slot,lay,zAI,reduceIte,Nat.reduceEqDiff,Nat.reduceBEq,Nat.reduceAdd,sn]
 refine k _ (M.size + 1 + 1) (M.size + 1) ((((((Kept.refl wf).add _).add _).upd hw (by omega) _).add _).upd hw (by omega) _ |>.upd hw (by omega) _) ?_ ?_ (by omega) (by omega)
 ·simp (maxSteps:=2000000) (disch:=first | omega | assumption | (simp only [DS,Nat.reduceAdd, *]; done) | (simp only [DZ]; omega)) only [RUN]
 ·simp (maxSteps:=2000000) (disch:=first | omega | assumption | (simp only [DS,Nat.reduceAdd, *]; done) | (simp only [DZ]; omega)) only [RUN]
set_option maxHeartbeats 4000000 in
theorem zD2 {o : Op} {ra : AV} (hS : Sl 1 zB1 ra o.rs) (ho : o.ok) (hf : 100 < fuel) (M : Mem) : zAE Tryz.prog (fsT tbl) fuel (d + 7) (.fn 32) [.agg (opR o ra)] M = some (I64 (err o.may),M):=by
 have hh:=fun M=>@zHD fuel (d + 4) o.hd M
 have hs:=fun M=>@zFE fuel (d + 2) o.sp M
 apply zBN
 refine zAJ tf32 rfl (by simp only [icyL,zHW hS.fz]) (by simp [a32]) fun b' ht hx=>?_
 have h0:=hx 0 _ rfl
 clear hx
 simp only [a32,c32] at ht ⊢
 unfold Op.may
 cases q1 : decide (o.kd = 0)
 ·cases q2 : decide (4 ≤ o.kd)
  ·cases q3 : o.hd.may <;> rw [q3] at hh
   ·simp (maxSteps:=2000000) (disch:=first | omega | assumption | (simp only [DS,Nat.reduceAdd, *]; done) | (simp only [DZ]; omega)) only [RUN,RU,zA2,zA1,zA0,zAB,frzL,slot,reduceIte,Nat.reduceEqDiff,Nat.reduceAdd,Int.reduceEq,h0,q1,q2,hh,zBF,Bool.false_and,Bool.and_false]
   ·cases q4 : decide (o.sr < 1)
    ·cases q5 : decide (16777216 ≤ o.sr)
     ·cases q6 : o.sp.may <;> rw [q6] at hs
      ·simp (maxSteps:=2000000) (disch:=first | omega | assumption | (simp only [DS,Nat.reduceAdd, *]; done) | (simp only [DZ]; omega)) only [RUN,RU,zA2,zA1,zA0,zAB,frzL,slot,reduceIte,Nat.reduceEqDiff,Nat.reduceAdd,Int.reduceEq,h0,q1,q2,q4,q5,hh,hs,zAX,zBF,Bool.false_and,Bool.and_false]
      ·simp (maxSteps:=2000000) (disch:=first | omega | assumption | (simp only [DS,Nat.reduceAdd, *]; done) | (simp only [DZ]; omega)) only [RUN,RU,zA2,zA1,slot,reduceIte,Nat.reduceEqDiff,Nat.reduceAdd,h0,q1,q2,q4,q5,hh,hs,zAX]
       refine zZF (by simp (maxSteps:=2000000) (disch:=first | omega | assumption | (simp only [DS,Nat.reduceAdd, *]; done) | (simp only [DZ]; omega)) only [RUN]) (by simp only [zCZ]; exact Nat.le_refl _) fun N x y hN gx gy lx ly=>?_
       have hd : N.dirty = false:=hN.di
       have hsz : 1 ≤ N.size:=hN.le
       have g0 : N.get 0 = some (.row false (opR o ra)):=hN.get 0 (by show 0 < 1; omega)
       have wN:=hN.wf
       have hk : o.kd = 1 ∨ o.kd = 2 ∨ o.kd = 3:=by
        have:=ho.1
        simp only [decide_eq_false_iff_not] at q1 q2
        omega
       rcases hk with hk | hk | hk
       ·have n1 : zD0 (U8 o.kd) = some 1:=by rw [hk]; rfl
        have ep : o.part = o.part:=rfl
        rw [ep]
        simp (maxSteps:=2000000) (disch:=first | omega | assumption | (simp only [DS,Nat.reduceAdd, *]; done) | (simp only [DZ]; omega)) only [RUN,RU,zA2,slot,reduceIte,Nat.reduceEqDiff,Nat.reduceBEq,Nat.reduceAdd,Nat.reduceMul,hd,g0,n1,zQ3,zG6]
        refine ⟨rfl,rfl,rfl, ?_⟩
        refine zcM hS hk hf (by simp (maxSteps:=2000000) (disch:=first | omega | assumption | (simp only [DS,Nat.reduceAdd, *]; done) | (simp only [DZ]; omega)) only [RUN]; exact wN) (by simp (maxSteps:=2000000) (disch:=first | omega | assumption | (simp only [DS,Nat.reduceAdd, *]; done) | (simp only [DZ]; omega)) only [RUN,gx])  fun N' hN'=>?_
        have hd' : N'.dirty = false:=hN'.di
        cases qp : o.part <;> simp (maxSteps:=2000000) (disch:=first | omega | assumption | (simp only [DS,Nat.reduceAdd, *]; done) | (simp only [DZ]; omega)) only [RUN,RU,zA2,zA1,zA0,zAB,frzL,reduceIte,Nat.reduceEqDiff,Nat.reduceAdd,hd',zAX,zBF]
       ·have n1 : zD0 (U8 o.kd) = some 2:=by rw [hk]; rfl
        have ep : o.part = (decide (o.to = Lb.z) && o.bare):=by unfold Op.part; rw [if_neg (by omega),if_pos hk]
        rw [ep]
        simp (maxSteps:=2000000) (disch:=first | omega | assumption | (simp only [DS,Nat.reduceAdd, *]; done) | (simp only [DZ]; omega)) only [RUN,RU,zA2,slot,reduceIte,Nat.reduceEqDiff,Nat.reduceBEq,Nat.reduceAdd,Nat.reduceMul,hd,g0,n1,zQ3,zG6]
        refine ⟨rfl,rfl,rfl, ?_⟩
        refine zcJ hS (by simp (maxSteps:=2000000) (disch:=first | omega | assumption | (simp only [DS,Nat.reduceAdd, *]; done) | (simp only [DZ]; omega)) only [RUN]; exact wN) (by simp (maxSteps:=2000000) (disch:=first | omega | assumption | (simp only [DS,Nat.reduceAdd, *]; done) | (simp only [DZ]; omega)) only [RUN,gx]) (by simp (maxSteps:=2000000) (disch:=first | omega | assumption | (simp only [DS,Nat.reduceAdd, *]; done) | (simp only [DZ]; omega)) only [RUN,gy])  fun N' hN'=>?_
        have hd' : N'.dirty = false:=hN'.di
        cases qp : (decide (o.to = Lb.z) && o.bare) <;> simp (maxSteps:=2000000) (disch:=first | omega | assumption | (simp only [DS,Nat.reduceAdd, *]; done) | (simp only [DZ]; omega)) only [RUN,RU,zA2,zA1,zA0,zAB,frzL,reduceIte,Nat.reduceEqDiff,Nat.reduceAdd,hd',zAX,zBF]
       ·have n1 : zD0 (U8 o.kd) = some 3:=by rw [hk]; rfl
        have ep : o.part = (o.bare && o.to.may):=by unfold Op.part; rw [if_neg (by omega),if_neg (by omega)]
        rw [ep]
        simp (maxSteps:=2000000) (disch:=first | omega | assumption | (simp only [DS,Nat.reduceAdd, *]; done) | (simp only [DZ]; omega)) only [RUN,RU,zA2,slot,reduceIte,Nat.reduceEqDiff,Nat.reduceBEq,Nat.reduceAdd,Nat.reduceMul,hd,g0,n1,zQ3,zG6]
        refine ⟨rfl,rfl,rfl, ?_⟩
        refine zWB hS (by simp (maxSteps:=2000000) (disch:=first | omega | assumption | (simp only [DS,Nat.reduceAdd, *]; done) | (simp only [DZ]; omega)) only [RUN]; exact wN) (by simp (maxSteps:=2000000) (disch:=first | omega | assumption | (simp only [DS,Nat.reduceAdd, *]; done) | (simp only [DZ]; omega)) only [RUN,gy])  fun N' hN'=>?_
        have hd' : N'.dirty = false:=hN'.di
        cases qp : (o.bare && o.to.may) <;> simp (maxSteps:=2000000) (disch:=first | omega | assumption | (simp only [DS,Nat.reduceAdd, *]; done) | (simp only [DZ]; omega)) only [RUN,RU,zA2,zA1,zA0,zAB,frzL,reduceIte,Nat.reduceEqDiff,Nat.reduceAdd,hd',zAX,zBF]
     ·simp (maxSteps:=2000000) (disch:=first | omega | assumption | (simp only [DS,Nat.reduceAdd, *]; done) | (simp only [DZ]; omega)) only [RUN,RU,zA2,zA1,zA0,zAB,frzL,slot,reduceIte,Nat.reduceEqDiff,Nat.reduceAdd,h0,q1,q2,q4,q5,hh,zAX,zBF,Bool.false_and,Bool.and_false]
    ·simp (maxSteps:=2000000) (disch:=first | omega | assumption | (simp only [DS,Nat.reduceAdd, *]; done) | (simp only [DZ]; omega)) only [RUN,RU,zA2,zA1,zA0,zAB,frzL,slot,reduceIte,Nat.reduceEqDiff,Nat.reduceAdd,h0,q1,q2,q4,hh,zAX,zBF,Bool.false_and,Bool.and_false]
  ·simp (maxSteps:=2000000) (disch:=first | omega | assumption | (simp only [DS,Nat.reduceAdd, *]; done) | (simp only [DZ]; omega)) only [RUN,RU,zA2,zA1,zA0,zAB,frzL,reduceIte,Nat.reduceEqDiff,Nat.reduceAdd,h0,q1,q2,zBF,Bool.false_and,Bool.and_false]
 ·simp (maxSteps:=2000000) (disch:=first | omega | assumption | (simp only [DS,Nat.reduceAdd, *]; done) | (simp only [DZ]; omega)) only [RUN,RU,zA2,zA1,zA0,zAB,frzL,reduceIte,Nat.reduceEqDiff,Nat.reduceAdd,h0,q1,zBF,Bool.false_and]
end Go.Proofs.YteognbdgdcjeeaaGreat
namespace Go.Proofs.YteognbdgdcjeeaaGreat
open Go Go.Ax
variable {fuel : Nat} {M : Mem} {Q : AV → Mem → Prop} {d : Nat}
def Op.rn (o : Op) : Rn:=⟨o.sp,o.af,o.rs⟩
def rnZ : AV:=.agg (rnR ⟨⟨Eid.z,0⟩,Eid.z,[]⟩ NIL)
def rofE (o : Op) : Int:=if o.may = true then (if o.kd = 1 ∧ o.rn.may = true then 0 else 2) else 8
def rofK (o : Op) (r : AV) : Prop:=if rofE o = 0 then ∃ ra,r = .tup [.agg (rnR o.rn ra),I64 0] ∧ Sl 1 zB1 ra o.rs else r = .tup [rnZ,I64 (rofE o)]
theorem zY9 {l : List Int} (h : chkR l = 0) : l.length ≤ 64:=by
 unfold chkR at h
 by_cases hc : 64 < l.length
 ·rw [if_pos hc] at h
  cases h
 ·omega
theorem may_len {o : Op} (h : o.may = true) : o.rs.length ≤ 64:=by
 unfold Op.may Op.part Op.bare at h
 simp only [Bool.and_eq_true] at h
 have h:=h.2
 split at h
 ·simp only [Bool.and_eq_true,decide_eq_true_eq] at h
  exact zY9 h.2
 ·split at h <;> simp only [Bool.and_eq_true,decide_eq_true_eq] at h <;> omega
end Go.Proofs.YteognbdgdcjeeaaGreat
namespace Go.Proofs.YteognbdgdcjeeaaGreat
open Go Go.Ax
variable {fuel : Nat} {M : Mem} {Q : AV → Mem → Prop} {d : Nat}
set_option maxHeartbeats 4000000 in
theorem zLU {o : Op} {ra : AV} (hS : Sl 1 zB1 ra o.rs) (ho : o.ok) (hf : 100 < fuel) : ∃ r,rofK o r ∧ ∀ M,zAE Tryz.prog (fsT tbl) fuel (d + 8) (.fn 21) [.agg (opR o ra)] M = some (r,M):=by
 have hc:=fun M=>@zD2 fuel d o ra hS ho hf M
 refine zG4 tf21 rfl (fun M=>by simp only [icyL,zHW hS.fz]) ?_
 refine zAJ tf21 rfl (by simp only [icyL,zHW hS.fz]) (by simp [a21]) fun b' ht hx=>?_
 have h0:=hx 0 _ rfl
 clear hx
 simp only [a21,c21] at ht ⊢
 unfold rofK rofE
 cases q1 : o.may with
 | false =>
  rw [q1] at hc
  simp (maxSteps:=2000000) (disch:=first | omega | assumption | (simp only [DS,Nat.reduceAdd, *]; done) | (simp only [DZ]; omega)) only [RUN,RU,zA2,zA1,zA0,zAB,frzL,slot,lay,zAI,reduceIte,Nat.reduceEqDiff,Nat.reduceAdd,Nat.reduceSub,Int.reduceEq,h0,hc,zBF,Bool.false_eq_true,if_false]
  exact ⟨_,rfl,rfl⟩
 | true =>
  rw [q1] at hc
  have hl:=may_len q1
  simp (maxSteps:=2000000) (disch:=first | omega | assumption | (simp only [DS,Nat.reduceAdd, *]; done) | (simp only [DZ]; omega)) only [RUN,RU,zA2,zA1,slot,reduceIte,Nat.reduceEqDiff,Nat.reduceBEq,Nat.reduceAdd,h0,hc,zAX,if_true]
  refine zK6 hS (by omega) (by simp (maxSteps:=2000000) (disch:=first | omega | assumption | (simp only [DS,Nat.reduceAdd, *]; done) | (simp only [DZ]; omega)) only [RUN]) fun a' M' wf' le' kp' sm' new' wm' di'=>?_
  have hd : M'.dirty = false:=di'
  have hsz : 2 ≤ M'.size:=le'
  have g0 : M'.get 0 = some (.row false (opR o ra)):=by rw [kp' 0 (by show 0 < 2; omega)]; simp (maxSteps:=2000000) (disch:=first | omega | assumption | (simp only [DS,Nat.reduceAdd, *]; done) | (simp only [DZ]; omega)) only [RUN]
  have g1 : M'.get 1 = some (.row false (rnR ⟨⟨Eid.z,0⟩,Eid.z,[]⟩ NIL)):=by rw [kp' 1 (by show 1 < 2; omega)]; simp (maxSteps:=2000000) (disch:=first | omega | assumption | (simp only [DS,Nat.reduceAdd, *]; done) | (simp only [DZ]; omega)) only [RUN]
  have oa:=sm'.one
  have ca:=sm'.cells
  have rl : ∀ j,rowOf a' = some j → 2 ≤ j:=new'
  have hz : ∀ y ∈ spR o.sp ++ idR o.af,Fz y:=fun y hy=>(List.mem_append.1 hy).elim (zO0 o.sp y) (zE0 o.af y)
  have rr:=fun a2 b2 M=>@zBY fuel (d + 1) o.rn a2 b2 hf M
  simp (maxSteps:=2000000) (disch:=first | omega | assumption | (simp only [DS,Nat.reduceAdd, *]; done) | (simp only [DZ]; omega)) only [RUN,RU,zA2,zA1,lay,zAI,reduceIte,Nat.reduceEqDiff,Nat.reduceBEq,Nat.reduceAdd,hd,g0,ca]
  refine ⟨rfl, ?_⟩
  cases q2 : decide (o.kd = 1) with
  | false =>
   have q2':=of_decide_eq_false q2
   simp (maxSteps:=2000000) (disch:=first | omega | assumption | (simp only [DS,Nat.reduceAdd, *]; done) | (simp only [DZ]; omega)) only [RUN,RU,zA2,zA1,zA0,zAB,frzL,slot,lay,zAI,reduceIte,Nat.reduceEqDiff,Nat.reduceAdd,Nat.reduceSub,g1]
   rw [if_neg (fun h=>q2' h.1)]
   simp only [show ((2 : Int) = 0) = False by decide,if_false]
   exact ⟨_,rfl,rfl⟩
  | true =>
   have q2':=of_decide_eq_true q2
   simp (maxSteps:=2000000) (disch:=first | omega | assumption | (simp only [DS,Nat.reduceAdd, *]; done) | (simp only [DZ]; omega)) only [RUN,RU,zA2,zA1,slot,reduceIte,Nat.reduceEqDiff]
   refine zQ0 (spR o.sp ++ idR o.af) a' (n:=d + 6) tf37 rfl hz (sm'.keep fun j hj=>?_) (by simp (maxSteps:=2000000) (disch:=first | omega | assumption | (simp only [DS,Nat.reduceAdd, *]; done) | (simp only [DZ]; omega)) only [RUN,wf']) zGP (fun a2 b2 M=>rr a2 b2 M) fun a2 N2 b2 w2 s2 k2 r2 f2=>?_
   ·have:=sm'.lt j hj
    simp (maxSteps:=2000000) (disch:=first | omega | assumption | (simp only [DS,Nat.reduceAdd, *]; done) | (simp only [DZ]; omega)) only [RUN]
   have z1 : N2.get 1 = some (.row false (rnR ⟨⟨Eid.z,0⟩,Eid.z,[]⟩ NIL)):=by
    rw [k2 1 (fun e=>by have:=rl 1 e; omega)]
    simp (maxSteps:=2000000) (disch:=first | omega | assumption | (simp only [DS,Nat.reduceAdd, *]; done) | (simp only [DZ]; omega)) only [RUN,g1]
   have z5 : N2.get M'.size = some (.row false (rnR o.rn a')):=by
    rw [k2 _ (fun e=>by have:=sm'.lt _ e; omega)]
    simp (maxSteps:=2000000) (disch:=first | omega | assumption | (simp only [DS,Nat.reduceAdd, *]; done) | (simp only [DZ]; omega)) only [RUN]
    rfl
   have hs2 : M'.size < N2.size:=by rw [s2]; simp (maxSteps:=2000000) (disch:=first | omega | assumption | (simp only [DS,Nat.reduceAdd, *]; done) | (simp only [DZ]; omega)) only [RUN]; omega
   have e2:=f2 (N2.upd 1 (.row false (rnR o.rn a'))) 11 (by omega) (fun j hj=>zA4 w2 _ _ _ (fun e=>by have:=rl j hj; omega))
   cases q3 : o.rn.may with
   | false =>
    simp (maxSteps:=2000000) (disch:=first | omega | assumption | (simp only [DS,Nat.reduceAdd, *]; done) | (simp only [DZ]; omega)) only [RUN,RU,zA2,zA1,zA0,zAB,frzL,slot,lay,zAI,reduceIte,Nat.reduceEqDiff,Nat.reduceAdd,Nat.reduceSub,Int.reduceEq,z1,zBF,Bool.false_eq_true,and_false,if_false]
    exact ⟨_,rfl,rfl⟩
   | true =>
    simp (maxSteps:=2000000) (disch:=first | omega | assumption | (simp only [DS,Nat.reduceAdd, *]; done) | (simp only [DZ]; omega)) only [RUN,RU,zA2,zA1,zA0,zAB,frzL,slot,lay,reduceIte,Nat.reduceEqDiff,Nat.reduceAdd,Nat.reduceSub,z1,z5,zAX,q2',if_true,e2]
    exact ⟨_,⟨a2,rfl,b2⟩,rfl⟩
end Go.Proofs.YteognbdgdcjeeaaGreat
namespace Go.Proofs.YteognbdgdcjeeaaGreat
open Go Go.Ax
variable {fuel : Nat} {M : Mem} {Q : AV → Mem → Prop} {d : Nat}
theorem zW0 {o : Op} {ra : AV} (hS : Sl 1 zB1 ra o.rs) (hl : o.rs.length ≤ 1000000000) (wf : Wf M) (hw : M.wm ≤ M.size) (k : ∀ a' N,Kept M N → SlM N 1 zB1 a' o.rs → (∀ id,rowOf a' = some id → M.size ≤ id) → Q (.agg (opR o a')) N) :
  W3 (zAE Tryz.prog (fsT tbl) fuel (d + 2) (.fn 20) [.agg (opR o ra)] M) Q:=by
 refine zB3 tf20 rfl (by simp [a20]) fun b' ht hx=>?_
 have h0:=hx 0 _ rfl
 clear hx
 simp only [a20,c20] at ht ⊢
 simp (maxSteps:=2000000) (disch:=first | omega | assumption | (simp only [DS,Nat.reduceAdd, *]; done) | (simp only [DZ]; omega)) only [RUN,RU,zA2,zA1,reduceIte,Nat.reduceEqDiff,h0]
 refine zK6 hS hl (by simp (maxSteps:=2000000) (disch:=first | omega | assumption | (simp only [DS,Nat.reduceAdd, *]; done) | (simp only [DZ]; omega)) only [RUN,wf]) fun a' M' wf' le' kp' sm' new' wm' di'=>?_
 simp only [zA7] at le' kp' new'
 have g0 : M'.get M.size = some (.row false (opR o ra)):=by rw [kp' _ (by omega)]; simp (maxSteps:=2000000) (disch:=first | omega | assumption | (simp only [DS,Nat.reduceAdd, *]; done) | (simp only [DZ]; omega)) only [RUN]
 have g1 : M'.get (M.size + 1) = some (.row false (opR ⟨0,Hd.z,0,⟨Eid.z,0⟩,Eid.z,Lb.z,[]⟩ NIL)):=by rw [kp' _ (by omega)]; simp (maxSteps:=2000000) (disch:=first | omega | assumption | (simp only [DS,Nat.reduceAdd, *]; done) | (simp only [DZ]; omega)) only [RUN]
 have oa:=sm'.one
 have ca:=sm'.cells
 have rl:=zAV sm'.rl (Nat.le_refl M'.size)
 have z0 : M.size < M'.size:=by omega
 have z1 : M.size + 1 < M'.size:=by omega
 simp (maxSteps:=2000000) (disch:=first | omega | assumption | (simp only [DS,Nat.reduceAdd, *]; done) | (simp only [DZ]; omega)) only [RUN,RU,zA2,zA1,zA0,zAB,slot,lay,reduceIte,Nat.reduceEqDiff,Nat.reduceAdd,g0,g1,ca]
 have kM' : Kept M M':=⟨wf',by omega,fun j hj=>by rw [kp' j (by omega),zAG (wf.add _) _ _ (by rw [zA7]; omega),zAG wf _ _ hj],wm',di'⟩
 refine k a' _ ((kM'.upd hw (Nat.le_refl _) _).upd hw (by omega) _) (sm'.keep fun j hj=>?_) (fun id h=>by have:=new' id h; omega)
 have:=new' j hj
 simp (maxSteps:=2000000) (disch:=first | omega | assumption | (simp only [DS,Nat.reduceAdd, *]; done) | (simp only [DZ]; omega)) only [RUN]
def Spn.ids (s : Spn) : List Eid:=(List.range s.n.toNat).map fun (i : Nat)=>s.at i
theorem zXB {s : Spn} (hs : s.ok) (hm : s.may = true) (i : Nat) (hi : i < s.n.toNat) : (s.at i).ok:=by
 have:=Spn.may_le hm
 exact ⟨hs.1.1,by show -9223372036854775808 ≤ s.f.c + i; omega,by show s.f.c + i ≤ _; omega⟩
set_option maxHeartbeats 4000000 in
theorem zHO {s : Spn} (hs : s.ok) (hm : s.may = true) (hf : 100 < fuel) : ∃ r,Sl 4 zJY r s.ids ∧ ∀ M,zAE Tryz.prog (fsT tbl) fuel (d + 6) (.fn 54) [spA s] M = some (r,M):=by
 have hb:=Spn.may_le hm
 obtain ⟨m,hmn⟩ : ∃ m : Nat,s.n = m:=⟨s.n.toNat,by omega⟩
 have ei : s.ids = (List.range m).map fun (i : Nat)=>s.at i:=by unfold Spn.ids; rw [hmn]; rfl
 have hat:=fun n M=>@zHL fuel d s n M
 simp only [hm,if_true] at hat
 rw [ei]
 refine zG4 tf54 rfl (fun M=>by simp only [icyL,zBE (zO0 s) (show 1 < 12 by omega)]) ?_
 refine zAJ tf54 rfl (by simp only [icyL,zBE (zO0 s) (show 1 < 12 by omega)]) (by simp [a54]) fun b' ht hx=>?_
 have h0:=hx 0 _ rfl
 clear hx
 simp only [a54,c54] at ht ⊢
 simp (maxSteps:=2000000) (disch:=first | omega | assumption | (simp only [DS,Nat.reduceAdd, *]; done) | (simp only [DZ]; omega)) only [RUN,RU,zA2,zA1,reduceIte,Nat.reduceEqDiff,h0,hmn]
 refine zBQ (I:=fun n t N => ∃ (i : Nat) (o : AV),n = m - i ∧ i ≤ m ∧ nth zA9 t 1 = .ptr 0 0 ∧ nth zA9 t 2 = o ∧ nth zA9 t 7 = I64 m ∧ nth zA9 t 8 = I64 i ∧ Wf N ∧ N.get 0 = some (.row false (spR s)) ∧ SlM N 4 zJY o ((List.range i).map fun (j : Nat)=>s.at j) ∧ (∀ j,rowOf o = some j → 0 < j)) (n:=m) (by omega) ?_ ?_
 ·refine ⟨0,NIL,rfl,Nat.zero_le _, ?_, ?_, ?_, ?_,Wf.mem0.add _,by simp (maxSteps:=2000000) (disch:=first | omega | assumption | (simp only [DS,Nat.reduceAdd, *]; done) | (simp only [DZ]; omega)) only [RUN],SlM.nil,(fun _ h=>by cases h)⟩ <;> simp (maxSteps:=2000000) (disch:=first | omega | assumption | (simp only [DS,Nat.reduceAdd, *]; done) | (simp only [DZ]; omega)) only [RUN,reduceIte,Nat.reduceEqDiff]
  all_goals first | rfl | assumption | done
 ·rintro n t N hlt ⟨i,o,rfl,hi,g1,g2,g7,g8,w,g,sm,ro⟩
  simp only [ht] at hlt ⊢
  by_cases hc : i < m
  ·have q1 : decide ((i : Int) < m) = true:=decide_eq_true (by omega)
   have hi' : ¬((i : Int) < 0 ∨ s.n ≤ i):=by omega
   have hat:=fun M=>hat i M
   simp only [hi',if_false] at hat
   have ok:=zXB hs hm i (by omega)
   have lN:=Mem.get_lt g
   have w1 : IntKind.i64.wrap ((i : Int) + 1) = ((i + 1 : Nat) : Int):=by rw [wrap_i64] <;> omega
   have oo:=sm.one
   have co:=sm.cells
   simp (maxSteps:=2000000) (disch:=first | omega | assumption | (simp only [DS,Nat.reduceAdd, *]; done) | (simp only [DZ]; omega)) only [RUN,RU,zA2,zA1,slot,lay,zAI,zA6,reduceIte,Nat.reduceEqDiff,Nat.reduceBEq,Nat.reduceAdd,g1,g2,g7,g8,q1,g,hat]
   refine ⟨zAV sm.rl (by omega), ?_⟩
   refine app1 ((w.add _).upd _ _) (sm.keep fun j hj=>?_) zKX (x:=s.at i) ⟨rfl,ok⟩ rfl (by omega) (by simp; omega) (by simp; omega) fun o' M' m' w' le' kp' nw' wm' rl' on' oc'=>?_
   ·have:=sm.lt j hj
    simp (maxSteps:=2000000) (disch:=first | omega | assumption | (simp only [DS,Nat.reduceAdd, *]; done) | (simp only [DZ]; omega)) only [RUN]
   simp only [zAD,zA7] at le' kp' nw'
   simp (maxSteps:=2000000) (disch:=first | omega | assumption | (simp only [DS,Nat.reduceAdd, *]; done) | (simp only [DZ]; omega)) only [RUN,RU,zA2,zA1,reduceIte,Nat.reduceEqDiff,g1,g2,g7,g8,w1]
   refine ⟨hlt,m - (i + 1),by omega,i + 1,o',rfl,by omega,rfl,rfl,w', ?_, ?_,fun j hj=>?_⟩
   ·rw [kp' 0 (by omega) (fun e=>by have:=ro 0 e; omega)]
    simp (maxSteps:=2000000) (disch:=first | omega | assumption | (simp only [DS,Nat.reduceAdd, *]; done) | (simp only [DZ]; omega)) only [RUN,g]
   ·rw [List.range_succ,List.map_append]; exact m'
   ·rcases nw' j hj with h | h
    ·exact ro j h
    ·omega
  ·obtain rfl : i = m:=by omega
   have q1 : decide ((i : Int) < i) = false:=decide_eq_false (by omega)
   obtain ⟨rr,hz,hr⟩:=sm.frz zKX.cel (k:=12) (by omega)
   simp (maxSteps:=2000000) (disch:=first | omega | assumption | (simp only [DS,Nat.reduceAdd, *]; done) | (simp only [DZ]; omega)) only [RUN,RU,zA2,zA1,zA0,zAB,frzL,reduceIte,Nat.reduceEqDiff,g2,g7,g8,hz]
   exact ⟨rr,hr,rfl⟩
end Go.Proofs.YteognbdgdcjeeaaGreat
namespace Go.Proofs.YteognbdgdcjeeaaGreat
open Go Go.Ax
variable {fuel : Nat} {M : Mem} {Q : AV → Mem → Prop} {d : Nat}
def cM1 : ACode:=(.region [⟨some 8,.alloc 25 (.agg #[(.int .u8 0),(.int .u32 0)]),none,[]⟩,⟨none,.store 2 (.tmp 8) (.tmp 17),none,[]⟩] false)
def cM2 : ACode:=(.block 1 (.seq (.region [⟨some 18,.load 1 false (.tmp 7),none,[1]⟩,⟨some 19,.load 2 true (.tmp 8),none,[0]⟩,⟨some 20,.call (.func 100) [(.tmp 18),(.tmp 19)],none,[]⟩,⟨some 21,.pur (mkO (.unOp .not 4 (.tmp 20)) 4),none,[]⟩] false) (.cond (.tmp 21) (.region [⟨some 22,.load 1 false (.tmp 7),none,[1,2]⟩,⟨some 23,.load 2 true (.tmp 8),none,[0]⟩,⟨some 24,.bsl 25 2 (.agg #[(.int .u8 0),(.int .u32 0)]) 1 [(0,2,(.tmp 23))],none,[0]⟩,⟨some 25,.app 25 2 8 (.agg #[(.int .u8 0),(.int .u32 0)]) (.tmp 22) (.tmp 24),none,[]⟩,⟨none,.store 1 (.tmp 7) (.tmp 25),none,[]⟩] false) .skip)))
def addL (out : List Lb) (x : Lb) : List Lb:=if out.any (fun y=>decide (x = y)) then out else out ++ [x]
structure MI (M : Mem) (tm : List AV) (a : AV) (x : Eid) (v : Lb) (o : AV) (out : List Lb) : Prop where
 wf : Wf M
 sz : 9 ≤ M.size
 g3 : M.get 3 = some (.row false [o])
 g4 : M.get 4 = some (.row false [a])
 g5 : M.get 5 = some (.row false (idR x))
 g6 : M.get 6 = some (.row false (lbR v))
 g7 : M.get 7 = some (.dfr false)
 g8 : M.get 8 = some (.loop .ready none tm [17] cM1 cM2 7)
 sm : SlM M 2 isLb o out
 ro : ∀ j,rowOf o = some j → j = 2 ∨ 9 ≤ j
variable {tm : List AV} {a o : AV} {x : Eid} {v : Lb} {out : List Lb}
theorem MI.keep {N : Mem} (h : MI M tm a x v o out) (wf : Wf N) (hs : M.size ≤ N.size) (k : ∀ j,j < M.size → N.get j = M.get j) : MI N tm a x v o out:=by
 have:=h.sz
 exact ⟨wf,by omega,(k 3 (by omega)).trans h.g3,(k 4 (by omega)).trans h.g4,(k 5 (by omega)).trans h.g5,(k 6 (by omega)).trans h.g6,(k 7 (by omega)).trans h.g7,(k 8 (by omega)).trans h.g8,h.sm.keep fun j hj=>k j (h.sm.lt j hj),h.ro⟩
theorem MI.back {X : Mem} {o' : AV} {out' : List Lb} (h : MI M tm a x v o out) (wX : Wf X) (hs : M.size ≤ X.size) (x3 : X.get 3 = some (.row false [o'])) (gX : ∀ j,j < 9 → j ≠ 2 → j ≠ 3 → j ≠ 8 → X.get j = M.get j) (sm : SlM X 2 isLb o' out') (ro : ∀ j,rowOf o' = some j → j = 2 ∨ 9 ≤ j) : MI (X.upd 8 (.loop .ready none tm [17] cM1 cM2 7)) tm a x v o' out':=by
 have:=h.sz
 have u : ∀ j,j ≠ 8 → (X.upd 8 (.loop .ready none tm [17] cM1 cM2 7)).get j = X.get j:=fun j hj=>zA4 wX _ _ _ (fun e=>hj e.symm)
 exact ⟨wX.upd _ _,by rw [zAD]; omega,(u 3 (by omega)).trans x3,((u 4 (by omega)).trans (gX 4 (by omega) (by omega) (by omega) (by omega))).trans h.g4,((u 5 (by omega)).trans (gX 5 (by omega) (by omega) (by omega) (by omega))).trans h.g5,((u 6 (by omega)).trans (gX 6 (by omega) (by omega) (by omega) (by omega))).trans h.g6,((u 7 (by omega)).trans (gX 7 (by omega) (by omega) (by omega) (by omega))).trans h.g7,zAF wX _ _ (by omega),sm.keep fun j hj=>u j (by have:=ro j hj; omega),ro⟩
set_option maxHeartbeats 8000000 in
theorem zbQ {to : Lb} (h : MI M tm a x v o out) (h7 : nth zA9 tm 7 = .ptr 3 0) (hlen : tm.length = 27) (ht : to.ok) (hn : out.length ≤ 100000) (hf : out.length < fuel)
  (k : ∀ o' N,MI N tm a x v o' (addL out to) → M.size ≤ N.size → Q (BL true) N) :
  W3 (zAE Tryz.prog (fsT tbl) fuel (d + 3) (.yl 8) [lbA to] M) Q:=by
 have l3:=Mem.get_lt h.g3
 have g3:=h.g3
 have g8:=h.g8
 have wf:=h.wf
 have sz:=h.sz
 have sm:=h.sm
 have ro:=h.ro
 have oo:=sm.one
 have oc:=sm.cells
 refine zY5 h.g8 rfl ?_
 have e1 : zEZ tm [17] [lbA to] = St tm [(17,lbA to)]:=rfl
 rw [e1]
 unfold cM1 cM2
 simp (maxSteps:=2000000) (disch:=first | omega | assumption | (simp only [DS,Nat.reduceAdd, *]; done) | (simp only [DZ]; omega)) only [RUN,RU,zA2,zA1,lay,reduceIte,Nat.reduceEqDiff,Nat.reduceAdd,h7,wf]
 refine ⟨tm,[17],_,_,7,g8, ?_⟩
 generalize hX : ((M.add _).upd M.size _).upd 8 _ = X
 have wX : Wf X:=by rw [← hX]; exact ((wf.add _).upd _ _).upd _ _
 have sX : X.size = M.size + 1:=by rw [← hX]; rfl
 have gX : ∀ j,j < M.size → j ≠ 8 → X.get j = M.get j:=fun j a b=>by
  rw [← hX,zA4 ((wf.add _).upd _ _) _ _ _ (fun e=>b e.symm),zA4 (wf.add _) _ _ _ (by omega),zAG wf _ _ a]
 have x8 : X.get 8 = some (.loop .busy none tm [17] cM1 cM2 7):=by
  rw [← hX,zAF ((wf.add _).upd _ _) _ _ (by rw [zAD,zA7]; omega)]
 have xM : X.get M.size = some (.row false (lbR to)):=by
  rw [← hX,zA4 ((wf.add _).upd _ _) _ _ _ (by omega),zAF (wf.add _) _ _ (by rw [zA7]; omega)]
 have lM : M.size < X.size:=by omega
 have l3' : 3 < X.size:=by omega
 have x3 : X.get 3 = some (.row false [o]):=(gX 3 l3 (by omega)).trans g3
 have smX : SlM X 2 isLb o out:=sm.keep fun j hj=>gX j (sm.lt j hj) (by have:=ro j hj; omega)
 have hcn:=zUZ (P:=Tryz.prog) (fs:=fsT tbl) (fuel:=fuel) (n:=d) (v:=lbR to) tf100 tf102 zUW smX wX (by omega) (by omega) (by omega) (zEU to) rfl @pLbE (p:=fun y=>decide (to = y)) (fun dd r y hy _=>by rw [hy.1]; exact zEE dd to.lv to.cats y.lv y.cats)
 unfold addL at k
 cases hb : out.any (fun y=>decide (to = y)) with
 | true =>
  rw [hb] at hcn k
  simp (maxSteps:=2000000) (disch:=first | omega | assumption | (simp only [DS,Nat.reduceAdd, *]; done) | (simp only [DZ]; omega)) only [RUN,RU,zA2,zA1,slot,reduceIte,Nat.reduceEqDiff,g3,xM,hcn]
  rw [if_pos rfl] at k
  exact ⟨wX,_,_,_,_,_,_,_,x8,k o _ (h.back wX (by omega) x3 (fun j a b c e=>gX j (by omega) e) smX ro) (by rw [zAD]; omega)⟩
 | false =>
  rw [hb] at hcn k
  rw [if_neg (by decide)] at k
  simp (maxSteps:=2000000) (disch:=first | omega | assumption | (simp only [DS,Nat.reduceAdd, *]; done) | (simp only [DZ]; omega)) only [RUN,RU,zA2,zA1,slot,lay,zAI,zA6,reduceIte,Nat.reduceEqDiff,Nat.reduceBEq,Nat.reduceAdd,h7,g3,x3,xM,hcn]
  refine ⟨zAV smX.rl (by omega), ?_⟩
  refine app1 wX smX zUW (x:=to) ⟨rfl,ht⟩ rfl (by omega) (by omega) (by omega) fun o' M' m' w' le' kp' nw' wm' rl' on' oc'=>?_
  have ro' : ∀ j,rowOf o' = some j → j = 2 ∨ 9 ≤ j:=fun j hj=>by
   rcases nw' j hj with h | h
   ·exact ro j h
   ·omega
  have z3 : M'.get 3 = some (.row false [o]):=(kp' 3 (by omega) (fun e=>by have:=ro 3 e; omega)).trans x3
  have z8:=(kp' 8 (by omega) (fun e=>by have:=ro 8 e; omega)).trans x8
  have l3 : 3 < M'.size:=by omega
  simp (maxSteps:=2000000) (disch:=first | omega | assumption | (simp only [DS,Nat.reduceAdd, *]; done) | (simp only [DZ]; omega)) only [RUN,RU,zA2,zA1,lay,reduceIte,Nat.reduceEqDiff,h7,z3,z8,w',oc']
  refine ⟨_,_,_,_,_,_,_,rfl,k o' _ (h.back (w'.upd _ _) (by rw [zAD]; omega) (zAF w' _ _ (by omega)) (fun j a b c e=>?_) (m'.keep fun j hj=>zA4 w' _ _ _ (by have:=ro' j hj; omega)) ro') (by simp only [zAD]; omega)⟩
  rw [zA4 w' _ _ _ (fun e=>c e.symm),kp' j (by omega) (fun e=>by have:=ro j e; omega)]
  exact gX j (by omega) e
end Go.Proofs.YteognbdgdcjeeaaGreat
namespace Go.Proofs.YteognbdgdcjeeaaGreat
open Go Go.Ax
variable {fuel : Nat} {M : Mem} {Q : AV → Mem → Prop} {d : Nat} {tm : List AV} {a o : AV} {x : Eid} {v : Lb} {out : List Lb} {l : List Op}
def zDQ (x : Eid) (v : Lb) (o : Op) : Bool:=decide (o.kd = 3) && (o.sp.has x).isSome && o.hd.lb.leq v
def zC3 (l : List Op) (x : Eid) (v : Lb) : List Lb:=(l.filter (zDQ x v)).map (·.to)
def made (l : List Op) (x : Eid) (v : Lb) : List Lb:=(zC3 l x v).foldl addL [x.hd.lb]
theorem zTL (out : List Lb) (x : Lb) : (addL out x).length ≤ out.length + 1:=by
 unfold addL
 split
 ·omega
 ·simp
theorem zJO : ∀ (r : List Lb) (out : List Lb),(r.foldl addL out).length ≤ out.length + r.length
 | [],out=>by simp
 | y :: r,out=>by
  have h1:=zJO r (addL out y)
  have h2:=zTL out y
  simp only [List.foldl_cons,List.length_cons]
  omega
theorem zJ3 (l : List Op) (x : Eid) (v : Lb) : (zC3 l x v).length ≤ l.length:=by
 unfold zC3
 rw [List.length_map]
 exact List.length_filter_le _ _
theorem take_snoc {α : Type} (l : List α) (i : Nat) (h : i < l.length) : l.take (i + 1) = l.take i ++ [l[i]]:=by
 rw [List.take_add_one,List.getElem?_eq_getElem h]; rfl
theorem zNB (l : List Op) (o : Op) (x : Eid) (v : Lb) : zC3 (l ++ [o]) x v = zC3 l x v ++ (if zDQ x v o then [o.to] else []):=by
 unfold zC3
 rw [List.filter_append,List.map_append]
 cases h : zDQ x v o <;> simp [h]
set_option maxHeartbeats 8000000 in
theorem zSO {o0 : AV} (hS : Sl 17 isOp a l) (hl : l.length ≤ 50000) (hn : out.length ≤ 50000) (hf : l.length + out.length < fuel) (h : MI M tm a x v o0 out) (h7 : nth zA9 tm 7 = .ptr 3 0) (hlen : tm.length = 27)
  (k : ∀ u o' N,MI N tm a x v o' ((zC3 l x v).foldl addL out) → Q u N) :
  W3 (zAE Tryz.prog (fsT tbl) fuel (d + 6) (.fn 104) [.yl 8,.ptr 4 0,.ptr 5 0,.ptr 6 0] M) Q:=by
 have ll:=hS.len
 have g4':=h.g4
 have l4:=Mem.get_lt g4'
 refine zB3 tf104 rfl (by simp [a104]) fun b' ht hx=>?_
 have h0:=hx 0 _ rfl
 have h1:=hx 1 _ rfl
 have h2:=hx 2 _ rfl
 have h3:=hx 3 _ rfl
 clear hx
 simp only [a104,c104] at ht ⊢
 simp (maxSteps:=2000000) (disch:=first | omega | assumption | (simp only [DS,Nat.reduceAdd, *]; done) | (simp only [DZ]; omega)) only [RUN,RU,zA2,zA1,reduceIte,h1,g4',ll]
 refine zBQ (I:=fun n t N => ∃ (i : Nat) (o : AV),n = l.length - i ∧ i ≤ l.length ∧ nth zA9 t 0 = .yl 8 ∧ nth zA9 t 1 = .ptr 4 0 ∧ nth zA9 t 2 = .ptr 5 0 ∧ nth zA9 t 3 = .ptr 6 0 ∧ nth zA9 t 9 = a ∧ nth zA9 t 10 = I64 l.length ∧ nth zA9 t 11 = I64 i ∧ MI N tm a x v o ((zC3 (l.take i) x v).foldl addL out)) (n:=l.length) (by omega) ?_ ?_
 ·refine ⟨0,o0,rfl,Nat.zero_le _, ?_, ?_, ?_, ?_, ?_, ?_, ?_,h⟩ <;> simp (maxSteps:=2000000) (disch:=first | omega | assumption | (simp only [DS,Nat.reduceAdd, *]; done) | (simp only [DZ]; omega)) only [RUN,reduceIte,Nat.reduceEqDiff,h0,h1,h2,h3]
  all_goals first | rfl | assumption | done
 ·rintro n t N hlt ⟨i,o,rfl,hi,g0,g1,g2,g3,g9,g10,g11,m⟩
  simp only [ht] at hlt ⊢
  clear h0 h1 h2 h3 ht b'
  by_cases hc : i < l.length
  ·have q1 : decide ((i : Int) < l.length) = true:=decide_eq_true (by omega)
   have w1 : IntKind.i64.wrap ((i : Int) + 1) = ((i + 1 : Nat) : Int):=by rw [wrap_i64] <;> omega
   obtain ⟨r,hiad,hr,hrl⟩:=hS.iad i hc
   have hsn:=zNB (l.take i) l[i] x v
   rw [← take_snoc l i hc] at hsn
   have b1:=zJO (zC3 (l.take i) x v) out
   have b2:=zJ3 (l.take i) x v
   rw [List.length_take] at b2
   generalize l[i] = e at *
   obtain ⟨ra,rfl,hra,hok⟩:=hr
   have ora:=hra.one
   have wf:=m.wf
   have sz:=m.sz
   have m5:=m.g5
   have m6:=m.g6
   have l5:=Mem.get_lt m5
   have l6:=Mem.get_lt m6
   have hh:=fun M=>@zMW fuel d e.sp x M
   have hle:=fun M=>@zG8 fuel (d + 4) e.hd.lb v M
   have mA : MI ((N.add (.row false (opR ⟨0,Hd.z,0,⟨Eid.z,0⟩,Eid.z,Lb.z,[]⟩ NIL))).upd N.size (.row false (opR e ra))) tm a x v o ((zC3 (l.take i) x v).foldl addL out):=m.keep ((wf.add _).upd _ _) (by rw [zAD,zA7]; omega) (fun j hj=>by rw [zA4 (wf.add _) _ _ _ (by omega),zAG wf _ _ hj])
   cases c1 : decide (e.kd = 3) with
   | false =>
    have hcc : zDQ x v e = false:=by unfold zDQ; rw [c1]; rfl
    rw [hcc,if_neg (by decide),List.append_nil] at hsn
    cases c2 : (e.sp.has x).isSome <;> rw [c2] at hh
    all_goals
     simp (maxSteps:=2000000) (disch:=first | omega | assumption | (simp only [DS,Nat.reduceAdd, *]; done) | (simp only [DZ]; omega)) only [RUN,RU,zA2,zA1,slot,lay,reduceIte,Nat.reduceEqDiff,Nat.reduceAdd,g0,g1,g2,g3,g9,g10,g11,q1,hiad,m5,hh,c1,w1]
     exact ⟨hlt,l.length - (i + 1),by omega,i + 1,o,rfl,by omega,rfl,by rw [hsn]; exact mA⟩
   | true =>
    cases c2 : (e.sp.has x).isSome <;> rw [c2] at hh
    ·have hcc : zDQ x v e = false:=by unfold zDQ; rw [c1,c2]; rfl
     rw [hcc,if_neg (by decide),List.append_nil] at hsn
     simp (maxSteps:=2000000) (disch:=first | omega | assumption | (simp only [DS,Nat.reduceAdd, *]; done) | (simp only [DZ]; omega)) only [RUN,RU,zA2,zA1,slot,lay,reduceIte,Nat.reduceEqDiff,Nat.reduceAdd,g0,g1,g2,g3,g9,g10,g11,q1,hiad,m5,hh,c1,w1]
     exact ⟨hlt,l.length - (i + 1),by omega,i + 1,o,rfl,by omega,rfl,by rw [hsn]; exact mA⟩
    ·cases c3 : e.hd.lb.leq v <;> rw [c3] at hle
     ·have hcc : zDQ x v e = false:=by unfold zDQ; rw [c1,c2,c3]; rfl
      rw [hcc,if_neg (by decide),List.append_nil] at hsn
      simp (maxSteps:=2000000) (disch:=first | omega | assumption | (simp only [DS,Nat.reduceAdd, *]; done) | (simp only [DZ]; omega)) only [RUN,RU,zA2,zA1,slot,lay,reduceIte,Nat.reduceEqDiff,Nat.reduceAdd,g0,g1,g2,g3,g9,g10,g11,q1,hiad,m5,m6,hh,c1,hle,w1]
      exact ⟨hlt,l.length - (i + 1),by omega,i + 1,o,rfl,by omega,rfl,by rw [hsn]; exact mA⟩
     ·have hcc : zDQ x v e = true:=by unfold zDQ; rw [c1,c2,c3]; rfl
      rw [hcc,if_pos rfl] at hsn
      simp (maxSteps:=2000000) (disch:=first | omega | assumption | (simp only [DS,Nat.reduceAdd, *]; done) | (simp only [DZ]; omega)) only [RUN,RU,zA2,zA1,slot,lay,reduceIte,Nat.reduceEqDiff,Nat.reduceAdd,g0,g2,g3,g9,g10,g11,q1,hiad,m5,m6,hh,c1,hle]
      refine zbQ (d:=d + 2) mA h7 hlen hok.2.2.2.2.2.1 (by omega) (by omega) fun o' N' m' le'=>?_
      simp (maxSteps:=2000000) (disch:=first | omega | assumption | (simp only [DS,Nat.reduceAdd, *]; done) | (simp only [DZ]; omega)) only [RUN,RU,zA2,zA1,reduceIte,Nat.reduceEqDiff,g0,g1,g2,g3,g9,g10,g11,w1]
      exact ⟨hlt,l.length - (i + 1),by omega,i + 1,o',rfl,by omega,rfl,by rw [hsn,List.foldl_append]; exact m'⟩
  ·obtain rfl : i = l.length:=by omega
   have q1 : decide ((l.length : Int) < l.length) = false:=decide_eq_false (by omega)
   rw [List.take_length] at m
   simp (maxSteps:=2000000) (disch:=first | omega | assumption | (simp only [DS,Nat.reduceAdd, *]; done) | (simp only [DZ]; omega)) only [RUN,RU,zA2,zA1,zA0,zAB,reduceIte,g10,g11]
   exact k _ _ _ m
end Go.Proofs.YteognbdgdcjeeaaGreat
namespace Go.Proofs.YteognbdgdcjeeaaGreat
open Go Go.Ax
variable {fuel : Nat} {M : Mem} {Q : AV → Mem → Prop} {d : Nat} {a o : AV} {x : Eid} {v : Lb} {l : List Op}
theorem zWD (hS : Sl 17 isOp a l) (wf : Wf M) (k : Q (.fn 104 [] [.ptr M.size 0,.ptr (M.size + 1) 0,.ptr (M.size + 1 + 1) 0]) (((M.add (.row false [a])).add (.row false (idR x))).add (.row false (lbR v)))) :
  W3 (zAE Tryz.prog (fsT tbl) fuel (d + 1) (.fn 103) [a,idA x,lbA v] M) Q:=by
 have oa:=hS.one
 refine zB3 tf103 rfl (by simp [a103]) fun b' ht hx=>?_
 have h0:=hx 0 _ rfl
 have h1:=hx 1 _ rfl
 have h2:=hx 2 _ rfl
 clear hx
 simp only [a103,c103] at ht ⊢
 simp (maxSteps:=2000000) (disch:=first | omega | assumption | (simp only [DS,Nat.reduceAdd, *]; done) | (simp only [DZ]; omega)) only [RUN,RU,zA2,zA1,zA0,zAB,reduceIte,Nat.reduceEqDiff,h0,h1,h2,hS.fz.cells]
 exact k
theorem zPU {X : Mem} {tm : List AV} {o0 : AV} {out : List Lb} (hS : Sl 17 isOp a l) (hl : l.length ≤ 50000) (hn : out.length ≤ 50000) (hf : l.length + out.length < fuel) (w : Wf X) (h7 : nth zA9 tm 7 = .ptr 3 0) (hlen : tm.length = 27) (hX : X.size = 7) (g3 : X.get 3 = some (.row false [o0])) (g4 : X.get 4 = some (.row false [a])) (g5 : X.get 5 = some (.row false (idR x))) (g6 : X.get 6 = some (.row false (lbR v))) (sm : SlM X 2 isLb o0 out) (ro : ∀ j,rowOf o0 = some j → j = 2)
  (k : ∀ u o' N,MI N tm a x v o' ((zC3 l x v).foldl addL out) → Q u N) :
  W3 (zAE Tryz.prog (fsT tbl) fuel (d + 6) (.fn 104) ([] ++ [.yl (X.size + 1)] ++ [.ptr 4 0,.ptr 5 0,.ptr 6 0]) ((X.add (.dfr false)).add (.loop .ready none tm [17] cM1 cM2 X.size))) Q:=by
 have w1:=w.add (.dfr false)
 have u : ∀ j,j < 7 → ((X.add (.dfr false)).add (.loop .ready none tm [17] cM1 cM2 X.size)).get j = X.get j:=fun j hj=>by
  rw [zAG w1 _ _ (by rw [zA7]; omega),zAG w _ _ (by omega)]
 have e : X.size + 1 = 8:=by omega
 have key:=zSO (d:=d) (fuel:=fuel) (Q:=Q) (M:=(X.add (.dfr false)).add (.loop .ready none tm [17] cM1 cM2 X.size)) (x:=x) (v:=v) (o0:=o0) (out:=out) hS hl hn hf ⟨w1.add _,by simp only [zA7]; omega,(u 3 (by omega)).trans g3,(u 4 (by omega)).trans g4,(u 5 (by omega)).trans g5,(u 6 (by omega)).trans g6,by rw [zAG w1 _ _ (by rw [zA7]; omega),← hX]; exact zAH w _ _ (Nat.le_refl _) (Nat.lt_succ_self _),by
   have:=zAH w1 (.loop .ready none tm [17] cM1 cM2 X.size) 8 (by rw [zA7]; omega) (by rw [zA7]; omega)
   rw [hX] at this ⊢
   exact this,sm.keep fun j hj=>u j (by have:=ro j hj; omega),fun j hj => .inl (ro j hj)⟩ h7 hlen k
 rw [← e] at key
 exact key
set_option maxHeartbeats 8000000 in
theorem zVK (hS : Sl 17 isOp a l) (hl : l.length ≤ 40000) (hf : l.length + 100 < fuel) (hx : x.ok) : ∃ r,Sl 2 isLb r (made l x v) ∧ ∀ M,zAE Tryz.prog (fsT tbl) fuel (d + 7) (.fn 101) [a,idA x,lbA v] M = some (r,M):=by
 have oa:=hS.one
 refine zG4 tf101 rfl (fun M=>by simp only [icyL,fun M=>hS.icy M 12 (by omega),zBE (zE0 x) (show 1 < 12 by omega),zBE (zEU v) (show 1 < 12 by omega)]) ?_
 refine zAJ tf101 rfl (by simp only [icyL,fun M=>hS.icy M 12 (by omega),zBE (zE0 x) (show 1 < 12 by omega),zBE (zEU v) (show 1 < 12 by omega)]) (by simp [a101]) fun b' ht hx=>?_
 have h0:=hx 0 _ rfl
 have h1:=hx 1 _ rfl
 have h2:=hx 2 _ rfl
 clear hx
 simp only [a101,c101] at ht ⊢
 simp (maxSteps:=2000000) (disch:=first | omega | assumption | (simp only [DS,Nat.reduceAdd, *]; done) | (simp only [DZ]; omega)) only [RUN,RU,zA2,zA1,slot,lay,zAI,zA6,reduceIte,Nat.reduceEqDiff,Nat.reduceBEq,Nat.reduceAdd,h0,h1,h2]
 refine zWD hS (by simp (maxSteps:=2000000) (disch:=first | omega | assumption | (simp only [DS,Nat.reduceAdd, *]; done) | (simp only [DZ]; omega)) only [RUN]) ?_
 simp (maxSteps:=2000000) (disch:=first | omega | assumption | (simp only [DS,Nat.reduceAdd, *]; done) | (simp only [DZ]; omega)) only [RUN,RU,Nat.reduceAdd]
 refine zaC (g:=104) (first:=[]) (cap:=[.ptr 4 0,.ptr 5 0,.ptr 6 0]) (by simp (maxSteps:=2000000) (disch:=first | omega | assumption | (simp only [DS,Nat.reduceAdd, *]; done) | (simp only [DZ]; omega)) only [RUN]) (by simp (maxSteps:=2000000) (disch:=first | omega | assumption | (simp only [DS,Nat.reduceAdd, *]; done) | (simp only [DZ]; omega)) only [RUN,reduceIte,Nat.reduceEqDiff]) ?_
 refine zPU (x:=x) (v:=v) (out:=[x.hd.lb]) (o0:=.sl 2 0 1 (some 1) 2) (d:=d) hS (by omega) (by simp) (by simp; omega) ?_ ?_ ?_ ?_ ?_ ?_ ?_ ?_ ?_ ?_ fun u o N m=>?_
 ·simp (maxSteps:=2000000) (disch:=first | omega | assumption | (simp only [DS,Nat.reduceAdd, *]; done) | (simp only [DZ]; omega)) only [RUN]
 ·simp (maxSteps:=2000000) (disch:=first | omega | assumption | (simp only [DS,Nat.reduceAdd, *]; done) | (simp only [DZ]; omega)) only [RUN,reduceIte,Nat.reduceEqDiff]
 ·rw [zKM]; exact ht
 ·simp (maxSteps:=2000000) (disch:=first | omega | assumption | (simp only [DS,Nat.reduceAdd, *]; done) | (simp only [DZ]; omega)) only [RUN,RU,Nat.reduceAdd]
 ·simp (maxSteps:=2000000) (disch:=first | omega | assumption | (simp only [DS,Nat.reduceAdd, *]; done) | (simp only [DZ]; omega)) only [RUN]
 ·simp (maxSteps:=2000000) (disch:=first | omega | assumption | (simp only [DS,Nat.reduceAdd, *]; done) | (simp only [DZ]; omega)) only [RUN]
 ·simp (maxSteps:=2000000) (disch:=first | omega | assumption | (simp only [DS,Nat.reduceAdd, *]; done) | (simp only [DZ]; omega)) only [RUN]
 ·simp (maxSteps:=2000000) (disch:=first | omega | assumption | (simp only [DS,Nat.reduceAdd, *]; done) | (simp only [DZ]; omega)) only [RUN]
 ·refine .inr ⟨2,[lbR x.hd.lb],some 1,rfl,.inr rfl, ?_,.cons ⟨rfl,hx.1.1⟩ .nil,by simp⟩
  simp (maxSteps:=2000000) (disch:=first | omega | assumption | (simp only [DS,Nat.reduceAdd, *]; done) | (simp only [DZ]; omega)) only [RUN]
  rfl
 ·rintro j ⟨⟩
  rfl
 ·have g3:=m.g3
  have l3:=Mem.get_lt g3
  have g7:=m.g7
  have wf:=m.wf
  have sm:=m.sm
  have ro:=m.ro
  have oo:=sm.one
  have sz:=m.sz
  refine ⟨wf,by have:=m.sz; simp only [zA7,zAD,zB5]; omega,_,_,_,_,_,m.g8, ?_⟩
  generalize hX : N.upd _ _ = X
  have wX : Wf X:=by rw [← hX]; exact wf.upd _ _
  have gX : ∀ j,j ≠ 8 → X.get j = N.get j:=fun j hj=>by rw [← hX]; exact zA4 wf _ _ _ (fun e=>hj e.symm)
  have x3:=(gX 3 (by omega)).trans g3
  have x7:=(gX 7 (by omega)).trans g7
  have l3':=Mem.get_lt x3
  have l7':=Mem.get_lt x7
  simp (maxSteps:=2000000) (disch:=first | omega | assumption | (simp only [DS,Nat.reduceAdd, *]; done) | (simp only [DZ]; omega)) only [RUN,RU,zA2,zA1,reduceIte,Nat.reduceEqDiff,Nat.reduceAdd,x3]
  refine zJK wX x7 ?_
  obtain ⟨rr,hz,hr⟩:=(sm.keep fun j hj=>by rw [zA4 wX _ _ _ (by have:=ro j hj; omega)]; exact gX j (by have:=ro j hj; omega) : SlM (X.upd 7 (.dfr true)) 2 isLb o _).frz zUW.cel (k:=12) (by omega)
  simp (maxSteps:=2000000) (disch:=first | omega | assumption | (simp only [DS,Nat.reduceAdd, *]; done) | (simp only [DZ]; omega)) only [RUN,zA0,zAB,frzL,reduceIte,Nat.reduceEqDiff,hz]
  exact ⟨rr,hr,rfl⟩
end Go.Proofs.YteognbdgdcjeeaaGreat
namespace Go.Proofs.YteognbdgdcjeeaaGreat
open Go Go.Ax
variable {fuel : Nat} {M : Mem} {Q : AV → Mem → Prop} {d : Nat} {a : AV} {x : Eid} {v : Lb} {l : List Op}
def zHF (ls : List Lb) (b : Lb) : Bool:=ls.any fun y=>decide (b = y)
def zDD (pre : List Op) (o : Op) : Bool:=if o.kd = 3 then o.hd.lb.leq o.to && (o.sp.ids.all fun id=>zHF (made pre id o.hd.lb) o.hd.lb) else true
theorem may_sp {o : Op} (h : o.may = true) : o.sp.may = true:=by
 unfold Op.may at h
 simp only [Bool.and_eq_true] at h
 exact h.1.2
theorem zVI (l : List Op) (x : Eid) (v : Lb) : (made l x v).length ≤ l.length + 1:=by
 have h1:=zJO (zC3 l x v) [x.hd.lb]
 have h2:=zJ3 l x v
 unfold made
 simp only [List.length_singleton] at h1
 omega
theorem zJU (s : Spn) : s.ids.length = s.n.toNat:=(List.length_map _).trans List.length_range
theorem zMV (s : Spn) (i : Nat) (h : i < s.ids.length) : s.ids[i] = s.at i:=(List.getElem_map _).trans (by rw [List.getElem_range])
set_option maxHeartbeats 8000000 in
theorem zNW {o : Op} {ra : AV} (hS : Sl 17 isOp a l) (hl : l.length ≤ 40000) (hf : l.length + 200 < fuel) (hR : Sl 1 zB1 ra o.rs) (ho : o.ok) (hm : o.may = true) (M : Mem) : zAE Tryz.prog (fsT tbl) fuel (d + 8) (.fn 97) [a,.agg (opR o ra)] M = some (BL (zDD l o),M):=by
 have ora:=hR.one
 have hsm:=may_sp hm
 have hb:=Spn.may_le hsm
 obtain ⟨m,hmn⟩ : ∃ m : Nat,o.sp.n = m:=⟨o.sp.n.toNat,by omega⟩
 have il : o.sp.ids.length = m:=by rw [zJU,hmn]; rfl
 have hat:=fun n M=>@zHL fuel (d + 2) o.sp n M
 simp only [hsm,if_true] at hat
 have hle:=fun M=>@zG8 fuel (d + 6) o.hd.lb o.to M
 apply zBN
 refine zM8 tf97 rfl (by simp only [icyL,fun M=>hS.icy M 12 (by omega),zHW hR.fz]) (by simp [a97]) fun b' ht hx=>?_
 have h0:=hx 0 _ rfl
 have h1:=hx 1 _ rfl
 clear hx
 simp only [a97,c97] at ht ⊢
 unfold zDD
 by_cases q3 : o.kd = 3
 ·have k3 : decide (o.kd = 3) = true:=decide_eq_true q3
  rw [if_pos q3]
  simp (maxSteps:=2000000) (disch:=first | omega | assumption | (simp only [DS,Nat.reduceAdd, *]; done) | (simp only [DZ]; omega)) only [RUN,RU,zA2,zA1,slot,reduceIte,Nat.reduceEqDiff,Nat.reduceAdd,h1,k3,hle,hmn]
  refine zBQ (I:=fun n t N => ∃ (i : Nat),n = m - i ∧ i ≤ m ∧ nth zA9 t 0 = a ∧ nth zA9 t 3 = .ptr 0 0 ∧ nth zA9 t 5 = BL (o.hd.lb.leq o.to && (o.sp.ids.take i).all fun id=>zHF (made l id o.hd.lb) o.hd.lb) ∧ nth zA9 t 20 = I64 m ∧ nth zA9 t 21 = I64 i ∧ Wf N ∧ N.get 0 = some (.row false (opR o ra))) (n:=m) (by omega) ?_ ?_
  ·refine ⟨0,rfl,Nat.zero_le _, ?_, ?_, ?_, ?_, ?_,Wf.mem0.add _,by simp (maxSteps:=2000000) (disch:=first | omega | assumption | (simp only [DS,Nat.reduceAdd, *]; done) | (simp only [DZ]; omega)) only [RUN]⟩ <;> simp (maxSteps:=2000000) (disch:=first | omega | assumption | (simp only [DS,Nat.reduceAdd, *]; done) | (simp only [DZ]; omega)) only [RUN,RU,reduceIte,Nat.reduceEqDiff,h0]
   all_goals first | rfl | assumption | done
  ·rintro n t N hlt ⟨i,rfl,hi,g0,g3,g5,g20,g21,w,g⟩
   simp only [ht] at hlt ⊢
   by_cases hc : i < m
   ·have q1 : decide ((i : Int) < m) = true:=decide_eq_true (by omega)
    have hi' : ¬((i : Int) < 0 ∨ o.sp.n ≤ i):=by omega
    have hat:=fun M=>hat i M
    simp only [hi',if_false] at hat
    have ok:=zXB ho.2.2.2.1 hsm i (by omega)
    have lN:=Mem.get_lt g
    have w1 : IntKind.i64.wrap ((i : Int) + 1) = ((i + 1 : Nat) : Int):=by rw [wrap_i64] <;> omega
    obtain ⟨r,hr,hmade⟩:=zVK (fuel:=fuel) (d:=d) (x:=o.sp.at i) (v:=o.hd.lb) hS hl (by omega) ok
    have hml:=zVI l (o.sp.at i) o.hd.lb
    have hcn : ∀ M,zAE Tryz.prog (fsT tbl) fuel (d + 7) (.fn 100) [r,lbA o.hd.lb] M = some (BL (zHF (made l (o.sp.at i) o.hd.lb) o.hd.lb),M):=fun M=>zRM (P:=Tryz.prog) (fs:=fsT tbl) (fuel:=fuel) (n:=d + 5) (v:=lbR o.hd.lb) tf100 tf102 zUW hr (by omega) (by omega) (by omega) (zEU o.hd.lb) rfl @pLbE (p:=fun y=>decide (o.hd.lb = y)) (fun dd r y hy _=>by rw [hy.1]; exact zEE dd o.hd.lb.lv o.hd.lb.cats y.lv y.cats) M
    have hsn : (o.sp.ids.take (i + 1)).all (fun id=>zHF (made l id o.hd.lb) o.hd.lb) = ((o.sp.ids.take i).all (fun id=>zHF (made l id o.hd.lb) o.hd.lb) && zHF (made l (o.sp.at i) o.hd.lb) o.hd.lb):=by
     rw [take_snoc _ i (by omega),List.all_append,zMV]; simp
    have hall : ∀ b,b = (o.hd.lb.leq o.to && (o.sp.ids.take (i + 1)).all fun id=>zHF (made l id o.hd.lb) o.hd.lb) → b = false → (o.hd.lb.leq o.to && o.sp.ids.all fun id=>zHF (made l id o.hd.lb) o.hd.lb) = false:=by
     intro b hb1 hb2
     rw [hb2] at hb1
     rw [← List.take_append_drop (i + 1) o.sp.ids,List.all_append,← Bool.and_assoc,← hb1,Bool.false_and]
    have orr:=hr.one
    cases hb : (o.hd.lb.leq o.to && (o.sp.ids.take i).all fun id=>zHF (made l id o.hd.lb) o.hd.lb) with
    | false =>
     rw [hb] at g5
     have hal:=hall _ rfl (by rw [hsn,← Bool.and_assoc,hb,Bool.false_and])
     simp (maxSteps:=2000000) (disch:=first | omega | assumption | (simp only [DS,Nat.reduceAdd, *]; done) | (simp only [DZ]; omega)) only [RUN,RU,zA2,zA1,zA0,zAB,frzL,slot,lay,reduceIte,Nat.reduceEqDiff,Nat.reduceAdd,g3,g5,g20,g21,q1,g,hat,zKB]
     rw [hal]
    | true =>
     rw [hb] at g5
     cases hcc : zHF (made l (o.sp.at i) o.hd.lb) o.hd.lb with
     | false =>
      rw [hcc] at hcn
      have hal:=hall _ rfl (by rw [hsn,hcc,Bool.and_false,Bool.and_false])
      simp (maxSteps:=2000000) (disch:=first | omega | assumption | (simp only [DS,Nat.reduceAdd, *]; done) | (simp only [DZ]; omega)) only [RUN,RU,zA2,zA1,zA0,zAB,frzL,slot,lay,reduceIte,Nat.reduceEqDiff,Nat.reduceBEq,Nat.reduceAdd,g0,g3,g5,g20,g21,q1,g,hat,hmade,hcn,zKB]
      rw [hal]
     | true =>
      rw [hcc] at hcn
      have hal : (o.hd.lb.leq o.to && (o.sp.ids.take (i + 1)).all fun id=>zHF (made l id o.hd.lb) o.hd.lb) = true:=by rw [hsn,hcc,Bool.and_true]; exact hb
      simp (maxSteps:=2000000) (disch:=first | omega | assumption | (simp only [DS,Nat.reduceAdd, *]; done) | (simp only [DZ]; omega)) only [RUN,RU,zA2,zA1,slot,lay,reduceIte,Nat.reduceEqDiff,Nat.reduceBEq,Nat.reduceAdd,g0,g3,g5,g20,g21,q1,w,g,hat,hmade,hcn,w1]
      exact ⟨hlt,m - (i + 1),by omega,i + 1,rfl,by omega,by rw [hal],rfl⟩
   ·obtain rfl : i = m:=by omega
    have q1 : decide ((i : Int) < i) = false:=decide_eq_false (by omega)
    have et : o.sp.ids.take i = o.sp.ids:=List.take_of_length_le (by omega)
    rw [et] at g5
    simp (maxSteps:=2000000) (disch:=first | omega | assumption | (simp only [DS,Nat.reduceAdd, *]; done) | (simp only [DZ]; omega)) only [RUN,RU,zA2,zA1,zA0,zAB,frzL,reduceIte,Nat.reduceEqDiff,g5,g20,g21,zKB]
 ·have k3 : decide (o.kd = 3) = false:=decide_eq_false q3
  rw [if_neg q3]
  simp (maxSteps:=2000000) (disch:=first | omega | assumption | (simp only [DS,Nat.reduceAdd, *]; done) | (simp only [DZ]; omega)) only [RUN,RU,zA2,zA1,zA0,zAB,frzL,reduceIte,Nat.reduceEqDiff,h1,k3,zKB]
end Go.Proofs.YteognbdgdcjeeaaGreat
namespace Go.Proofs.YteognbdgdcjeeaaGreat
open Go Go.Ax
variable {fuel : Nat} {M : Mem} {Q : AV → Mem → Prop} {d : Nat} {a : AV} {x : Eid} {v : Lb} {l : List Op}
def zGT : List Op → List Op → Bool
 | _,[]=>true
 | pre,o :: l=>o.may && zDD pre o && zGT (pre ++ [o]) l
def zD9 (l : List Op) : Int:=if 2048 < l.length then 4 else err (zGT [] l)
theorem drop_step {α : Type} (l : List α) (i : Nat) (h : i < l.length) : l.drop i = l[i] :: l.drop (i + 1):=List.drop_eq_getElem_cons h
set_option maxHeartbeats 8000000 in
theorem zMC (hS : Sl 17 isOp a l) (hl : l.length ≤ 40000) (hf : l.length + 200 < fuel) (M : Mem) : zAE Tryz.prog (fsT tbl) fuel (d + 9) (.fn 96) [a] M = some (I64 (zD9 l),M):=by
 have ll:=hS.len
 apply zBN
 refine zM8 tf96 rfl (by simp only [icyL,fun M=>hS.icy M 12 (by omega)]) (by simp [a96]) fun b' ht hx=>?_
 have h0:=hx 0 _ rfl
 clear hx
 simp only [a96,c96] at ht ⊢
 unfold zD9
 by_cases q0 : 2048 < l.length
 ·have q1 : decide ((2048 : Int) < l.length) = true:=decide_eq_true (by omega)
  simp (maxSteps:=2000000) (disch:=first | omega | assumption | (simp only [DS,Nat.reduceAdd, *]; done) | (simp only [DZ]; omega)) only [RUN,RU,zA2,zA1,zA0,zAB,frzL,reduceIte,Nat.reduceEqDiff,h0,ll,q1,q0,if_true,zKB]
 ·have q1 : decide ((2048 : Int) < l.length) = false:=decide_eq_false (by omega)
  simp (maxSteps:=2000000) (disch:=first | omega | assumption | (simp only [DS,Nat.reduceAdd, *]; done) | (simp only [DZ]; omega)) only [RUN,RU,zA2,zA1,reduceIte,Nat.reduceEqDiff,h0,ll,q1,q0,if_false]
  refine zBQ (I:=fun n t N => ∃ (i : Nat),n = l.length - i ∧ i ≤ l.length ∧ nth zA9 t 0 = a ∧ nth zA9 t 8 = a ∧ nth zA9 t 9 = I64 l.length ∧ nth zA9 t 10 = I64 i ∧ Wf N ∧ zGT [] l = zGT (l.take i) (l.drop i)) (n:=l.length) (by omega) ?_ ?_
  ·refine ⟨0,rfl,Nat.zero_le _, ?_, ?_, ?_, ?_,Wf.mem0,rfl⟩ <;> simp (maxSteps:=2000000) (disch:=first | omega | assumption | (simp only [DS,Nat.reduceAdd, *]; done) | (simp only [DZ]; omega)) only [RUN,reduceIte,Nat.reduceEqDiff,h0]
   all_goals first | rfl | assumption | done
  ·rintro n t N hlt ⟨i,rfl,hi,g0,g8,g9,g10,w,inv⟩
   simp only [ht] at hlt ⊢
   by_cases hc : i < l.length
   ·have q2 : decide ((i : Int) < l.length) = true:=decide_eq_true (by omega)
    have w1 : IntKind.i64.wrap ((i : Int) + 1) = ((i + 1 : Nat) : Int):=by rw [wrap_i64] <;> omega
    obtain ⟨r,hiad,hr,hrl⟩:=hS.iad i hc
    obtain ⟨p,hp1,hp2⟩:=zZY hS (j:=i) (by omega)
    rw [drop_step l i hc,zGT,← take_snoc l i hc] at inv
    have hkeep : l.take i ++ l[i] :: l.drop (i + 1) = l:=by rw [← drop_step l i hc,List.take_append_drop]
    generalize l[i] = e at *
    obtain ⟨ra,rfl,hra,hok⟩:=hr
    have ora:=hra.one
    have hck:=fun M=>@zD2 fuel (d + 1) e ra hra hok (by omega) M
    cases hm : e.may with
    | false =>
     rw [hm] at hck
     simp only [hm,Bool.false_and] at inv
     rw [inv]
     simp (maxSteps:=2000000) (disch:=first | omega | assumption | (simp only [DS,Nat.reduceAdd, *]; done) | (simp only [DZ]; omega)) only [RUN,RU,zA2,zA1,zA0,zAB,frzL,slot,lay,reduceIte,Nat.reduceEqDiff,Nat.reduceAdd,Int.reduceEq,g8,g9,g10,q2,hiad,hck,zBF,zKB]
    | true =>
     rw [hm] at hck
     have hfi:=fun M=>zNW (fuel:=fuel) (d:=d) hp2 (by simp; omega) (by simp; omega) hra hok hm M
     cases hr' : zDD (l.take i) e with
     | false =>
      rw [hr'] at hfi
      simp only [hm,hr',Bool.false_and,Bool.and_false] at inv
      rw [inv]
      simp (maxSteps:=2000000) (disch:=first | omega | assumption | (simp only [DS,Nat.reduceAdd, *]; done) | (simp only [DZ]; omega)) only [RUN,RU,zA2,zA1,zA0,zAB,frzL,slot,lay,reduceIte,Nat.reduceEqDiff,Nat.reduceBEq,Nat.reduceAdd,g0,g8,g9,g10,hS.fz.rows,q2,hiad,hck,zAX,zBF,hp1,hfi,zKB]
     | true =>
      rw [hr'] at hfi
      simp only [hm,hr',Bool.true_and] at inv
      simp (maxSteps:=2000000) (disch:=first | omega | assumption | (simp only [DS,Nat.reduceAdd, *]; done) | (simp only [DZ]; omega)) only [RUN,RU,zA2,zA1,slot,lay,reduceIte,Nat.reduceEqDiff,Nat.reduceBEq,Nat.reduceAdd,g0,g8,g9,g10,hS.fz.rows,q2,hiad,w,hck,zAX,hp1,hfi,w1]
      exact ⟨hlt,l.length - (i + 1),by omega,i + 1,rfl,by omega,rfl,inv⟩
   ·obtain rfl : i = l.length:=by omega
    have q1 : decide ((l.length : Int) < l.length) = false:=decide_eq_false (by omega)
    rw [List.drop_length,zGT] at inv
    rw [inv]
    simp (maxSteps:=2000000) (disch:=first | omega | assumption | (simp only [DS,Nat.reduceAdd, *]; done) | (simp only [DZ]; omega)) only [RUN,RU,zA2,zA1,zA0,zAB,frzL,reduceIte,Nat.reduceEqDiff,g9,g10,zAX,zKB]
end Go.Proofs.YteognbdgdcjeeaaGreat
namespace Go.Proofs.YteognbdgdcjeeaaGreat
open Go Go.Ax
variable {fuel : Nat} {M : Mem} {Q : AV → Mem → Prop} {d : Nat} {a : AV} {x : Eid} {v : Lb} {l : List Op}
def chfE (l : List Op) (o : Op) : Int:=if zD9 l = 0 then err o.may else zD9 l
def chfB (l : List Op) (o : Op) : Bool:=decide (chfE l o = 0) && zDD l o
set_option maxHeartbeats 4000000 in
theorem zUC {o : Op} {ra : AV} (hS : Rd M 17 isOp a l) (hl : l.length ≤ 40000) (hf : l.length + 200 < fuel) (hR : Sl 1 zB1 ra o.rs) (ho : o.ok) (wf : Wf M) (k : ∀ N,Kept M N → Q (.tup [BL (chfB l o),I64 (chfE l o)]) N) :
  W3 (zAE Tryz.prog (fsT tbl) fuel (d + 10) (.fn 88) [a,.agg (opR o ra)] M) Q:=by
 have ora:=hR.one
 have wA:=wf.add (.row false (opR o ra))
 have hS' : Rd (M.add (.row false (opR o ra))) 17 isOp a l:=hS.keep fun j hj=>zAG wf _ _ (by
  rcases hS with h | h
  ·rcases h with ⟨rfl,_⟩ | ⟨_,_,rfl,_⟩ <;> cases hj
  ·exact h.lt j hj)
 have hch:=zbK (P:=Tryz.prog) (fs:=fsT tbl) (fuel:=fuel) (n:=d + 8) (N:=M.add (.row false (opR o ra))) tf96 rfl zKY hS' wA (fun a' h M=>zMC (d:=d) h hl hf M)
 have hck:=fun M=>@zD2 fuel (d + 2) o ra hR ho (by omega) M
 unfold chfB at k
 unfold chfE at k
 refine zB3 tf88 rfl (by simp [a88]) fun b' ht hx=>?_
 have h0:=hx 0 _ rfl
 have h1:=hx 1 _ rfl
 clear hx
 simp only [a88,c88] at ht ⊢
 by_cases q0 : zD9 l = 0
 ·rw [q0] at hch
  simp only [q0,if_true] at k
  cases hm : o.may with
  | false =>
   rw [hm] at hck k
   simp (maxSteps:=2000000) (disch:=first | omega | assumption | (simp only [DS,Nat.reduceAdd, *]; done) | (simp only [DZ]; omega)) only [RUN,RU,zA2,zA1,zA0,zAB,slot,reduceIte,Nat.reduceEqDiff,Int.reduceEq,h0,h1,hch,hck,zBF]
   exact k _ ((Kept.refl wf).add _)
  | true =>
   have hfi:=zbL (P:=Tryz.prog) (fs:=fsT tbl) (fuel:=fuel) (n:=d + 8) (N:=M.add (.row false (opR o ra))) (y:=.agg (opR o ra)) tf97 rfl zKY hS' wA (zHW hR.fz) (fun a' h M=>zNW (d:=d + 1) h hl hf hR ho hm M)
   rw [hm] at hck k
   simp (maxSteps:=2000000) (disch:=first | omega | assumption | (simp only [DS,Nat.reduceAdd, *]; done) | (simp only [DZ]; omega)) only [RUN,RU,zA2,zA1,zA0,zAB,slot,reduceIte,Nat.reduceEqDiff,h0,h1,hch,hck,zAX,hfi]
   exact k _ ((Kept.refl wf).add _)
 ·have q1 : decide (zD9 l = 0) = false:=decide_eq_false q0
  simp only [q0,if_false,decide_false,Bool.false_and] at k
  simp (maxSteps:=2000000) (disch:=first | omega | assumption | (simp only [DS,Nat.reduceAdd, *]; done) | (simp only [DZ]; omega)) only [RUN,RU,zA2,zA1,zA0,zAB,reduceIte,Nat.reduceEqDiff,h0,h1,hch,q1]
  exact k _ ((Kept.refl wf).add _)
end Go.Proofs.YteognbdgdcjeeaaGreat
namespace Go.Proofs.YteognbdgdcjeeaaGreat
open Go Go.Ax
variable {fuel : Nat} {M : Mem} {Q : AV → Mem → Prop} {d : Nat} {x : Eid} {l : List Op}
def idV (x : Eid) : List Value:=[.int .u8 x.hd.lb.lv,.int .u32 x.hd.lb.cats,.int .u8 x.hd.num,.int .i64 x.c]
theorem zXA (x : Eid) : PT.iss [.st [.st [.int .u8,.int .u32],.int .u8],.int .i64] (idV x):=by
 simp only [PT.iss,PT.is]
 exact ⟨[.int .u8 x.hd.lb.lv,.int .u32 x.hd.lb.cats,.int .u8 x.hd.num],[.int .i64 x.c],rfl,⟨[.int .u8 x.hd.lb.lv,.int .u32 x.hd.lb.cats],[.int .u8 x.hd.num],rfl,⟨[.int .u8 x.hd.lb.lv],[.int .u32 x.hd.lb.cats],rfl,⟨_,rfl⟩,⟨[.int .u32 x.hd.lb.cats],[],rfl,⟨_,rfl⟩,rfl⟩⟩,⟨[.int .u8 x.hd.num],[],rfl,⟨_,rfl⟩,rfl⟩⟩,⟨[.int .i64 x.c],[],rfl,⟨_,rfl⟩,rfl⟩⟩
theorem zYV (x y : Eid) : idV x = idV y ↔ x = y:=by
 obtain ⟨⟨⟨a,b⟩,c⟩,e⟩:=x
 obtain ⟨⟨⟨a',b'⟩,c'⟩,e'⟩:=y
 simp [idV,and_assoc]
theorem id_ck (b : Bool) (n1 n2 n3 n4 : Int) : (zAK Tryz.prog (Instr.checkKey b 10000 29 (.agg #[.int .u8 n1,.int .u32 n2,.int .u8 n3,.int .i64 n4]))).isSome = true:=by
 cases b <;> kernel_rfl
def zJT : KeyT Tryz.prog 29 idA where
 val x:=.agg (idV x).toArray
 hval x:=rfl
 ck b x:=id_ck b _ _ _ _
 eq x y:=by
  obtain ⟨r,h1,h2⟩:=PT.eq (P:=Tryz.prog) (.st [.st [.st [.int .u8,.int .u32],.int .u8],.int .i64]) 29 10000 (by kernel_rfl) (by decide) (xs:=idV x) (ys:=idV y) (by simpa only [PT.is] using zXA x) (by simpa only [PT.is] using zXA y)
  have e : r = decide (x = y):=by
   rw [Bool.eq_iff_iff,h2,zYV]
   simp
  rw [← e]
  exact h1
 same x:=by simp [Instr.sameBits,idV]
end Go.Proofs.YteognbdgdcjeeaaGreat
namespace Go.Proofs.YteognbdgdcjeeaaGreat
open Go Go.Ax
variable {fuel : Nat} {M : Mem} {Q : AV → Mem → Prop} {d : Nat} {x : Eid} {l : List Op} {o : Op} {ra ops : AV} {B id m : Nat}
def zAQ (l : List Op) : List Eid:=l.flatMap fun o=>if o.kd = 1 then o.sp.ids else []
structure IsHist (N : Mem) (B id m : Nat) (ops : AV) (l : List Op) : Prop where
 hg : N.get id = some (.row false [ops,.mp m])
 sm : SlM N 17 isOp ops l
 mg : ∃ obj,N.get m = some obj ∧ zH3 idA (BL true) obj (zAQ l)
 ib : B ≤ id
 mb : B ≤ m
 ob : ∀ j,rowOf ops = some j → B ≤ j
 ne : id ≠ m
 n1 : rowOf ops ≠ some id
 n2 : rowOf ops ≠ some m
theorem IsHist.keep {N : Mem} (h : IsHist M B id m ops l) (k : ∀ j,j < M.size → N.get j = M.get j) : IsHist N B id m ops l:=by
 obtain ⟨obj,h1,h2⟩:=h.mg
 exact ⟨(k _ (Mem.get_lt h.hg)).trans h.hg,h.sm.keep fun j hj=>k j (h.sm.lt j hj),⟨obj,(k _ (Mem.get_lt h1)).trans h1,h2⟩,h.ib,h.mb,h.ob,h.ne,h.n1,h.n2⟩
def zFT (l : List Op) (o : Op) (x : Eid) : Bool:=decide (x ∈ zAQ l) && x.hd.lb.leq o.hd.lb
theorem zXJ (p : Prop) [Decidable p] : (if p then BL true else .sc (.bool false)) = BL (decide p):=by
 by_cases h : p <;> simp [h]
theorem zXT (hH : IsHist M B id m ops l) (hR : Sl 1 zB1 ra o.rs) (wf : Wf M) (hw : M.wm ≤ M.size) (k : ∀ N,Kept M N → Q (BL (zFT l o x)) N) :
  W3 (zAE Tryz.prog (fsT tbl) fuel (d + 2) (.fn 84) [.ptr id 0,.agg (opR o ra),idA x] M) Q:=by
 have ora:=hR.one
 have hg:=hH.hg
 obtain ⟨obj,mg,hset⟩:=hH.mg
 have li:=Mem.get_lt hg
 have lm:=Mem.get_lt mg
 have om:=hH.sm.one
 have mg2 : ((M.add (.row false (opR o ra))).add (.row false (idR x))).get m = some obj:=by
  rw [zAG (wf.add _) _ _ (by rw [zA7]; omega),zAG wf _ _ lm]; exact mg
 have hlk:=zOC zJT (z:=.bool false) mg2 hset x
 rw [zXJ] at hlk
 have hle:=fun M=>@zG8 fuel d x.hd.lb o.hd.lb M
 have one_mp : oneA (.mp m) = true:=rfl
 have kk:=(((Kept.refl wf).add (.row false (opR o ra))).add (.row false (idR x)))
 unfold zFT at k
 refine zB3 tf84 rfl (by simp [a84]) fun b' ht hx=>?_
 have h0:=hx 0 _ rfl
 have h1:=hx 1 _ rfl
 have h2:=hx 2 _ rfl
 clear hx
 simp only [a84,c84] at ht ⊢
 cases q : decide (x ∈ zAQ l) with
 | false =>
  rw [q] at hlk
  simp only [q,Bool.false_and] at k
  simp (maxSteps:=2000000) (disch:=first | omega | assumption | (simp only [DS,Nat.reduceAdd, *]; done) | (simp only [DZ]; omega)) only [RUN,RU,zA2,zA1,zA0,zAB,slot,reduceIte,Nat.reduceEqDiff,Nat.reduceBEq,Nat.reduceAdd,h0,h1,h2,hg,x_lk,hlk]
  exact k _ kk
 | true =>
  rw [q] at hlk
  simp only [q,Bool.true_and] at k
  simp (maxSteps:=2000000) (disch:=first | omega | assumption | (simp only [DS,Nat.reduceAdd, *]; done) | (simp only [DZ]; omega)) only [RUN,RU,zA2,zA1,zA0,zAB,slot,reduceIte,Nat.reduceEqDiff,Nat.reduceBEq,Nat.reduceAdd,h0,h1,h2,hg,x_lk,hlk,hle]
  exact k _ kk
theorem zaP {bh bo : Nat} (hH : IsHist M B id m ops l) (hR : Sl 1 zB1 ra o.rs) (wf : Wf M) (hw : M.wm ≤ M.size) (hb : M.get bh = some (.row false [.ptr id 0])) (hbo : M.get bo = some (.row false (opR o ra))) (k : ∀ N,Kept M N → Q (BL (!zFT l o x)) N) :
  W3 (zAE Tryz.prog (fsT tbl) fuel (d + 3) (.fn 95) [idA x,.ptr bh 0,.ptr bo 0] M) Q:=by
 have ora:=hR.one
 have lb:=Mem.get_lt hb
 have lbo:=Mem.get_lt hbo
 have li:=Mem.get_lt hH.hg
 refine zB3 tf95 rfl (by simp [a95]) fun b' ht hx=>?_
 have h0:=hx 0 _ rfl
 have h1:=hx 1 _ rfl
 have h2:=hx 2 _ rfl
 clear hx
 simp only [a95,c95] at ht ⊢
 simp (maxSteps:=2000000) (disch:=first | omega | assumption | (simp only [DS,Nat.reduceAdd, *]; done) | (simp only [DZ]; omega)) only [RUN,RU,zA2,zA1,slot,reduceIte,Nat.reduceEqDiff,h0,h1,h2,hb,hbo]
 refine zXT (d:=d) (B:=B) (m:=m) (ops:=ops) (hH.keep fun j hj=>zAG wf _ _ hj) hR (wf.add _) (by rw [zA7]; show M.wm ≤ _; omega) fun N hN=>?_
 simp (maxSteps:=2000000) (disch:=first | omega | assumption | (simp only [DS,Nat.reduceAdd, *]; done) | (simp only [DZ]; omega)) only [RUN,RU,zA2,zA1,zA0,zAB,reduceIte,Nat.reduceEqDiff]
 exact k _ (((Kept.refl wf).add _).trans hN)
def allB (l : List Op) (o : Op) : Bool:=o.sp.ids.all fun x=>zFT l o x
theorem zTP {α : Type} (p : α → Bool) (l : List α) : (l.any fun x => !p x) = !l.all p:=by
 induction l with
 | nil=>rfl
 | cons x l ih=>simp only [List.any_cons,List.all_cons,ih,Bool.not_and]
theorem zaQ (hH : IsHist M B id m ops l) (hR : Sl 1 zB1 ra o.rs) (ho : o.ok) (hm : o.may = true) (hf : 300 < fuel) (wf : Wf M) (hw : M.wm ≤ M.size) (k : ∀ N,Kept M N → Q (BL (allB l o)) N) :
  W3 (zAE Tryz.prog (fsT tbl) fuel (d + 7) (.fn 87) [.ptr id 0,.agg (opR o ra)] M) Q:=by
 have ora:=hR.one
 have li:=Mem.get_lt hH.hg
 have hb:=Spn.may_le (may_sp hm)
 obtain ⟨r,hr,hn⟩:=zHO (fuel:=fuel) (d:=d) ho.2.2.2.1 (may_sp hm) (by omega)
 have il:=zJU o.sp
 have ea : (o.sp.ids.any fun x => !zFT l o x) = !allB l o:=zTP _ _
 refine zB3 tf87 rfl (by simp [a87]) fun b' ht hx=>?_
 have h0:=hx 0 _ rfl
 have h1:=hx 1 _ rfl
 clear hx
 simp only [a87,c87] at ht ⊢
 simp (maxSteps:=2000000) (disch:=first | omega | assumption | (simp only [DS,Nat.reduceAdd, *]; done) | (simp only [DZ]; omega)) only [RUN,RU,zA2,zA1,slot,reduceIte,Nat.reduceEqDiff,h0,h1,hn]
 have kA:=((Kept.refl wf).add (.row false [.ptr id 0])).add (.row false (opR o ra))
 have wA:=kA.wf
 have gA : ((M.add (.row false [.ptr id 0])).add (.row false (opR o ra))).get M.size = some (.row false [.ptr id 0]):=by simp (maxSteps:=2000000) (disch:=first | omega | assumption | (simp only [DS,Nat.reduceAdd, *]; done) | (simp only [DZ]; omega)) only [RUN]
 have gB : ((M.add (.row false [.ptr id 0])).add (.row false (opR o ra))).get (M.size + 1) = some (.row false (opR o ra)):=by simp (maxSteps:=2000000) (disch:=first | omega | assumption | (simp only [DS,Nat.reduceAdd, *]; done) | (simp only [DZ]; omega)) only [RUN]
 have sA : ((M.add (.row false [.ptr id 0])).add (.row false (opR o ra))).size = M.size + 2:=rfl
 generalize (M.add (.row false [.ptr id 0])).add (.row false (opR o ra)) = X at *
 refine zV0 (st:=4) (ag:=true) (n:=d + 4) (first:=[]) (cap:=[.ptr M.size 0,.ptr (M.size + 1) 0]) tf85 tf94 (by simp) zKX hr (by omega) (by omega) (p:=fun x => !zFT l o x) wA (fun n hn=>by rw [sA] at hn; simp (maxSteps:=2000000) (disch:=first | omega | assumption | (simp only [DS,Nat.reduceAdd, *]; done) | (simp only [DZ]; omega)) only [RUN,RU]) (fun r x hr _ N Q' hk hQ=>?_) fun N hk=>?_
 ·obtain ⟨rfl,_⟩:=hr
  refine zaP (d:=d + 1) (B:=B) (m:=m) (ops:=ops) (hH.keep fun j hj=>(hk.get j (by omega)).trans (kA.get j hj)) hR hk.wf (by rw [hk.wm,kA.wm]; have:=hk.le; omega) ((hk.get _ (by omega)).trans gA) ((hk.get _ (by omega)).trans gB) fun N' hk'=>hQ N' (hk.trans hk')
 ·rw [ea]
  simp (maxSteps:=2000000) (disch:=first | omega | assumption | (simp only [DS,Nat.reduceAdd, *]; done) | (simp only [DZ]; omega)) only [RUN,RU,zA2,zA1,zA0,zAB,reduceIte,Nat.reduceEqDiff]
  rw [Bool.not_not]
  exact k _ (kA.trans hk)
end Go.Proofs.YteognbdgdcjeeaaGreat
namespace Go.Proofs.YteognbdgdcjeeaaGreat
open Go Go.Ax
variable {fuel : Nat} {M : Mem} {Q : AV → Mem → Prop} {d : Nat} {x : Eid} {l : List Op} {o : Op} {ra ops : AV} {B id m : Nat}
def remE (l : List Op) (o : Op) : Int:=if allB l o then (if o.sp.f.hd.lb = o.hd.lb then 0 else 2) else 6
def raiE (l : List Op) (o : Op) : Int:=if allB l o then (if chfE l o = 0 ∧ chfB l o = true then 0 else 2) else 6
set_option maxHeartbeats 4000000 in
theorem zWE (hH : IsHist M B id m ops l) (hR : Sl 1 zB1 ra o.rs) (ho : o.ok) (hm : o.may = true) (hf : 300 < fuel) (wf : Wf M) (hw : M.wm ≤ M.size) (k : ∀ N,Kept M N → Q (I64 (remE l o)) N) :
  W3 (zAE Tryz.prog (fsT tbl) fuel (d + 8) (.fn 59) [.ptr id 0,.agg (opR o ra)] M) Q:=by
 have ora:=hR.one
 have li:=Mem.get_lt hH.hg
 unfold remE at k
 refine zB3 tf59 rfl (by simp [a59]) fun b' ht hx=>?_
 have h0:=hx 0 _ rfl
 have h1:=hx 1 _ rfl
 clear hx
 simp only [a59,c59] at ht ⊢
 simp (maxSteps:=2000000) (disch:=first | omega | assumption | (simp only [DS,Nat.reduceAdd, *]; done) | (simp only [DZ]; omega)) only [RUN,RU,zA2,zA1,slot,reduceIte,Nat.reduceEqDiff,h0,h1]
 refine zaQ (d:=d) (B:=B) (m:=m) (ops:=ops) (hH.keep fun j hj=>zAG wf _ _ hj) hR ho hm hf (wf.add _) (by rw [zA7]; show M.wm ≤ _; omega) fun N hN=>?_
 have hg:=hN.get M.size (by rw [zA7]; omega)
 rw [zAH wf _ _ (Nat.le_refl _) (Nat.lt_succ_self _)] at hg
 have lg:=Mem.get_lt hg
 have kN:=((Kept.refl wf).add _).trans hN
 cases q1 : allB l o <;> simp only [q1,if_true,Bool.false_eq_true,if_false] at k
 ·simp (maxSteps:=2000000) (disch:=first | omega | assumption | (simp only [DS,Nat.reduceAdd, *]; done) | (simp only [DZ]; omega)) only [RUN,RU,zA2,zA1,zA0,zAB,reduceIte,Nat.reduceEqDiff]
  exact k _ kN
 ·cases q2 : decide (o.sp.f.hd.lb = o.hd.lb)
  ·rw [if_neg (of_decide_eq_false q2)] at k
   simp (maxSteps:=2000000) (disch:=first | omega | assumption | (simp only [DS,Nat.reduceAdd, *]; done) | (simp only [DZ]; omega)) only [RUN,RU,zA2,zA1,zA0,zAB,slot,reduceIte,Nat.reduceEqDiff,hg,↓pLbN,zFN,ETA,q2]
   exact k _ kN
  ·rw [if_pos (of_decide_eq_true q2)] at k
   simp (maxSteps:=2000000) (disch:=first | omega | assumption | (simp only [DS,Nat.reduceAdd, *]; done) | (simp only [DZ]; omega)) only [RUN,RU,zA2,zA1,zA0,zAB,slot,reduceIte,Nat.reduceEqDiff,hg,↓pLbN,zFN,ETA,q2]
   exact k _ kN
set_option maxHeartbeats 4000000 in
theorem zZO (hH : IsHist M B id m ops l) (hl : l.length ≤ 40000) (hR : Sl 1 zB1 ra o.rs) (ho : o.ok) (hm : o.may = true) (hf : l.length + 300 < fuel) (wf : Wf M) (hw : M.wm ≤ M.size) (k : ∀ N,Kept M N → Q (I64 (raiE l o)) N) :
  W3 (zAE Tryz.prog (fsT tbl) fuel (d + 11) (.fn 60) [.ptr id 0,.agg (opR o ra)] M) Q:=by
 have ora:=hR.one
 have li:=Mem.get_lt hH.hg
 unfold raiE at k
 refine zB3 tf60 rfl (by simp [a60]) fun b' ht hx=>?_
 have h0:=hx 0 _ rfl
 have h1:=hx 1 _ rfl
 clear hx
 simp only [a60,c60] at ht ⊢
 simp (maxSteps:=2000000) (disch:=first | omega | assumption | (simp only [DS,Nat.reduceAdd, *]; done) | (simp only [DZ]; omega)) only [RUN,RU,zA2,zA1,slot,reduceIte,Nat.reduceEqDiff,h0,h1]
 refine zaQ (d:=d + 3) (B:=B) (m:=m) (ops:=ops) (hH.keep fun j hj=>zAG wf _ _ hj) hR ho hm (by omega) (wf.add _) (by rw [zA7]; show M.wm ≤ _; omega) fun N hN=>?_
 have hg:=hN.get M.size (by rw [zA7]; omega)
 rw [zAH wf _ _ (Nat.le_refl _) (Nat.lt_succ_self _)] at hg
 have lg:=Mem.get_lt hg
 have kN:=((Kept.refl wf).add _).trans hN
 have hH' : IsHist N B id m ops l:=hH.keep fun j hj=>kN.get j hj
 have hg2:=hH'.hg
 have li':=Mem.get_lt hg2
 cases q1 : allB l o <;> simp only [q1,if_true,Bool.false_eq_true,if_false] at k
 ·simp (maxSteps:=2000000) (disch:=first | omega | assumption | (simp only [DS,Nat.reduceAdd, *]; done) | (simp only [DZ]; omega)) only [RUN,RU,zA2,zA1,zA0,zAB,reduceIte,Nat.reduceEqDiff]
  exact k _ kN
 ·simp (maxSteps:=2000000) (disch:=first | omega | assumption | (simp only [DS,Nat.reduceAdd, *]; done) | (simp only [DZ]; omega)) only [RUN,RU,zA2,zA1,slot,reduceIte,Nat.reduceEqDiff,Nat.reduceBEq,Nat.reduceAdd,h0,hg,hg2]
  refine zUC (d:=d) (l:=l) (.inr (hH'.sm.keep fun j hj=>rfl)) hl (by omega) hR ho (by rw [zPP]; exact hN.wf) fun N2 hN2=>?_
  have k2:=kN.trans hN2.bk
  have hd : N2.dirty = false:=hN2.di
  by_cases q2 : chfE l o = 0
  ·cases q3 : chfB l o
   ·rw [if_neg (by simp [q2,q3])] at k
    simp (maxSteps:=2000000) (disch:=first | omega | assumption | (simp only [DS,Nat.reduceAdd, *]; done) | (simp only [DZ]; omega)) only [RUN,RU,zA2,zA1,zA0,zAB,reduceIte,Nat.reduceEqDiff,Nat.reduceBEq,Nat.reduceAdd,hd,q2]
    exact k _ k2
   ·rw [if_pos ⟨q2,q3⟩] at k
    simp (maxSteps:=2000000) (disch:=first | omega | assumption | (simp only [DS,Nat.reduceAdd, *]; done) | (simp only [DZ]; omega)) only [RUN,RU,zA2,zA1,zA0,zAB,reduceIte,Nat.reduceEqDiff,Nat.reduceBEq,Nat.reduceAdd,hd,q2]
    exact k _ k2
  ·rw [if_neg (by simp [q2])] at k
   have q2' : decide (chfE l o = 0) = false:=decide_eq_false q2
   simp (maxSteps:=2000000) (disch:=first | omega | assumption | (simp only [DS,Nat.reduceAdd, *]; done) | (simp only [DZ]; omega)) only [RUN,RU,zA2,zA1,zA0,zAB,reduceIte,Nat.reduceEqDiff,Nat.reduceBEq,Nat.reduceAdd,hd,q2']
   exact k _ k2
end Go.Proofs.YteognbdgdcjeeaaGreat
namespace Go.Proofs.YteognbdgdcjeeaaGreat
open Go Go.Ax
variable {fuel : Nat} {M : Mem} {Q : AV → Mem → Prop} {d : Nat} {x : Eid} {l : List Op} {o : Op} {ra ops : AV} {B id m : Nat}
theorem zXC {bh : Nat} (hH : IsHist M B id m ops l) (wf : Wf M) (hb : M.get bh = some (.row false [.ptr id 0])) (k : ∀ N,Kept M N → Q (BL (decide (x ∈ zAQ l))) N) :
  W3 (zAE Tryz.prog (fsT tbl) fuel (d + 1) (.fn 86) [idA x,.ptr bh 0] M) Q:=by
 have lb:=Mem.get_lt hb
 have hg:=hH.hg
 have li:=Mem.get_lt hg
 obtain ⟨obj,mg,hset⟩:=hH.mg
 have lm:=Mem.get_lt mg
 have mg2 : (M.add (.row false (idR x))).get m = some obj:=by
  rw [zAG wf _ _ lm]; exact mg
 have hlk:=zOC zJT (z:=.bool false) mg2 hset x
 rw [zXJ] at hlk
 have one_mp : oneA (.mp m) = true:=rfl
 refine zB3 tf86 rfl (by simp [a86]) fun b' ht hx=>?_
 have h0:=hx 0 _ rfl
 have h1:=hx 1 _ rfl
 clear hx
 simp only [a86,c86] at ht ⊢
 simp (maxSteps:=2000000) (disch:=first | omega | assumption | (simp only [DS,Nat.reduceAdd, *]; done) | (simp only [DZ]; omega)) only [RUN,RU,zA2,zA1,zA0,zAB,slot,reduceIte,Nat.reduceEqDiff,Nat.reduceBEq,Nat.reduceAdd,h0,h1,hb,hg,x_lk,hlk]
 exact k _ ((Kept.refl wf).add _)
def insE (l : List Op) (o : Op) : Int :=
 if o.af ≠ Eid.z ∧ zFT l o o.af = false then 6
 else if rofE o ≠ 0 ∨ (o.sp.ids.any fun x=>decide (x ∈ zAQ l)) = true then 2
 else if 8192 < ((zAQ l).length : Int) + o.sp.n then 4 else 0
theorem zSU {o : Op} {r : AV} (h : rofK o r) : ∃ rn ra,r = .tup [.agg (rnR rn ra),I64 (rofE o)] ∧ oneA ra = true ∧ cellsA ra = [ra]:=by
 unfold rofK at h
 split at h
 ·rename_i h0
  obtain ⟨ra,rfl,hr⟩:=h
  exact ⟨_,ra,by rw [h0],hr.one,hr.cells⟩
 ·exact ⟨⟨⟨Eid.z,0⟩,Eid.z,[]⟩,NIL,h,rfl,rfl⟩
set_option maxHeartbeats 8000000 in
theorem zV9 (hH : IsHist M B id m ops l) (htl : (zAQ l).length ≤ 1000000) (hR : Sl 1 zB1 ra o.rs) (ho : o.ok) (hm : o.may = true) (hf : 300 < fuel) (wf : Wf M) (hw : M.wm ≤ M.size) (k : ∀ N,Kept M N → Q (I64 (insE l o)) N) :
  W3 (zAE Tryz.prog (fsT tbl) fuel (d + 9) (.fn 58) [.ptr id 0,.agg (opR o ra)] M) Q:=by
 have ora:=hR.one
 have li:=Mem.get_lt hH.hg
 have hb:=Spn.may_le (may_sp hm)
 obtain ⟨r,hr,hn⟩:=zHO (fuel:=fuel) (d:=d + 2) ho.2.2.2.1 (may_sp hm) (by omega)
 obtain ⟨rr,hk,hof⟩:=zLU (fuel:=fuel) (d:=d) hR ho (by omega)
 obtain ⟨rn,r2,rfl,o2,c2⟩:=zSU hk
 have il:=zJU o.sp
 have kA:=((Kept.refl wf).add (.row false [.ptr id 0])).add (.row false (opR o ra))
 have wA:=kA.wf
 have gA : ((M.add (.row false [.ptr id 0])).add (.row false (opR o ra))).get M.size = some (.row false [.ptr id 0]):=by simp (maxSteps:=2000000) (disch:=first | omega | assumption | (simp only [DS,Nat.reduceAdd, *]; done) | (simp only [DZ]; omega)) only [RUN]
 have gB : ((M.add (.row false [.ptr id 0])).add (.row false (opR o ra))).get (M.size + 1) = some (.row false (opR o ra)):=by simp (maxSteps:=2000000) (disch:=first | omega | assumption | (simp only [DS,Nat.reduceAdd, *]; done) | (simp only [DZ]; omega)) only [RUN]
 have sA : ((M.add (.row false [.ptr id 0])).add (.row false (opR o ra))).size = M.size + 2:=rfl
 unfold insE at k
 refine zB3 tf58 rfl (by simp [a58]) fun b' ht hx=>?_
 have h0:=hx 0 _ rfl
 have h1:=hx 1 _ rfl
 clear hx
 simp only [a58,c58] at ht ⊢
 cases qz : decide (o.af = Eid.z) with
 | false =>
  simp (maxSteps:=2000000) (disch:=first | omega | assumption | (simp only [DS,Nat.reduceAdd, *]; done) | (simp only [DZ]; omega)) only [RUN,RU,zA2,zA1,slot,zAI,reduceIte,Nat.reduceEqDiff,h0,h1,↓pIdN,zBA,ETA,qz]
  generalize (M.add (.row false [.ptr id 0])).add (.row false (opR o ra)) = X at *
  refine zXT (d:=d + 6) (B:=B) (m:=m) (ops:=ops) (hH.keep fun j hj=>kA.get j hj) hR wA (by rw [kA.wm]; omega) fun N hN=>?_
  cases qs : zFT l o o.af with
  | false =>
   rw [if_pos ⟨of_decide_eq_false qz,qs⟩] at k
   simp (maxSteps:=2000000) (disch:=first | omega | assumption | (simp only [DS,Nat.reduceAdd, *]; done) | (simp only [DZ]; omega)) only [RUN,RU,zA2,zA1,zA0,zAB,reduceIte,Nat.reduceEqDiff]
   exact k _ (kA.trans hN)
  | true =>
   rw [if_neg (by simp [qs])] at k
   have wN:=hN.wf
   have g0:=(hN.get M.size (by omega)).trans gA
   have g1:=(hN.get (M.size + 1) (by omega)).trans gB
   have kN:=kA.trans hN
   have l0:=Mem.get_lt g0
   have l1:=Mem.get_lt g1
   simp (maxSteps:=2000000) (disch:=first | omega | assumption | (simp only [DS,Nat.reduceAdd, *]; done) | (simp only [DZ]; omega)) only [RUN,RU,zA2,zA1,slot,lay,reduceIte,Nat.reduceEqDiff,Nat.reduceAdd,g1,hof]
   by_cases q1 : rofE o = 0
   ·have k2:=(kN.add (.row false (rnR ⟨⟨Eid.z,0⟩,Eid.z,[]⟩ NIL))).upd hw kN.le (.row false (rnR rn r2))
    have z0 : ((N.add (.row false (rnR ⟨⟨Eid.z,0⟩,Eid.z,[]⟩ NIL))).upd N.size (.row false (rnR rn r2))).get M.size = some (.row false [.ptr id 0]):=by
     rw [zA4 (wN.add _) _ _ _ (by omega),zAG wN _ _ l0]; exact g0
    have z1 : ((N.add (.row false (rnR ⟨⟨Eid.z,0⟩,Eid.z,[]⟩ NIL))).upd N.size (.row false (rnR rn r2))).get (M.size + 1) = some (.row false (opR o ra)):=by
     rw [zA4 (wN.add _) _ _ _ (by omega),zAG wN _ _ l1]; exact g1
    have q1' : decide (rofE o = 0) = true:=decide_eq_true q1
    simp (maxSteps:=2000000) (disch:=first | omega | assumption | (simp only [DS,Nat.reduceAdd, *]; done) | (simp only [DZ]; omega)) only [RUN,RU,zA2,zA1,slot,reduceIte,Nat.reduceEqDiff,g1,q1',hn]
    generalize ((N.add (.row false (rnR ⟨⟨Eid.z,0⟩,Eid.z,[]⟩ NIL))).upd N.size (.row false (rnR rn r2))) = X2 at *
    have w2:=k2.wf
    have s2:=k2.le
    have hH2 : IsHist X2 B id m ops l:=hH.keep fun j hj=>k2.get j hj
    have m0:=Mem.get_lt z0
    refine zV0 (st:=4) (ag:=true) (n:=d + 6) (first:=[]) (cap:=[.ptr M.size 0]) tf85 tf94 (by simp) zKX hr (by omega) (by omega) (p:=fun x=>decide (x ∈ zAQ l)) w2 (fun n hn=>by simp (maxSteps:=2000000) (disch:=first | omega | assumption | (simp only [DS,Nat.reduceAdd, *]; done) | (simp only [DZ]; omega)) only [RUN,RU]) (fun r x hr _ N Q' hk hQ=>?_) fun N3 h3=>?_
    ·obtain ⟨rfl,_⟩:=hr
     refine zXC (d:=d + 5) (B:=B) (m:=m) (ops:=ops) (hH2.keep fun j hj=>hk.get j hj) hk.wf ((hk.get _ m0).trans z0) fun N' hk'=>hQ N' (hk.trans hk')
    ·have k3:=k2.trans h3
     have y0:=(h3.get _ m0).trans z0
     have y1:=(h3.get _ (Mem.get_lt z1)).trans z1
     have w3:=h3.wf
     have hH3 : IsHist N3 B id m ops l:=hH.keep fun j hj=>k3.get j hj
     have hg3:=hH3.hg
     have li3:=Mem.get_lt hg3
     have n0:=Mem.get_lt y0
     have n1:=Mem.get_lt y1
     obtain ⟨obj,mg,hset⟩:=hH3.mg
     have lm:=Mem.get_lt mg
     have hml:=zXM mg hset
     cases q2 : o.sp.ids.any fun x=>decide (x ∈ zAQ l) with
     | true =>
      rw [if_pos (.inr q2)] at k
      simp (maxSteps:=2000000) (disch:=first | omega | assumption | (simp only [DS,Nat.reduceAdd, *]; done) | (simp only [DZ]; omega)) only [RUN,RU,zA2,zA1,zA0,zAB,reduceIte,Nat.reduceEqDiff]
      exact k _ k3
     | false =>
      rw [if_neg (by simp [q1,q2])] at k
      have w1 : IntKind.i64.wrap (((zAQ l).length : Int) + o.sp.n) = ((zAQ l).length : Int) + o.sp.n:=wrap_i64 (by omega) (by omega)
      by_cases q3 : 8192 < ((zAQ l).length : Int) + o.sp.n
      ·rw [if_pos q3] at k
       have q3':=decide_eq_true q3
       simp (maxSteps:=2000000) (disch:=first | omega | assumption | (simp only [DS,Nat.reduceAdd, *]; done) | (simp only [DZ]; omega)) only [RUN,RU,zA2,zA1,zA0,zAB,reduceIte,Nat.reduceEqDiff,Nat.reduceBEq,Nat.reduceAdd,y0,y1,hg3,x_ml,hml,w1,q3']
       exact k _ k3
      ·rw [if_neg q3] at k
       have q3':=decide_eq_false q3
       simp (maxSteps:=2000000) (disch:=first | omega | assumption | (simp only [DS,Nat.reduceAdd, *]; done) | (simp only [DZ]; omega)) only [RUN,RU,zA2,zA1,zA0,zAB,reduceIte,Nat.reduceEqDiff,Nat.reduceBEq,Nat.reduceAdd,y0,y1,hg3,x_ml,hml,w1,q3']
       exact k _ k3
   ·have q1' : decide (rofE o = 0) = false:=decide_eq_false q1
    rw [if_pos (.inl q1)] at k
    simp (maxSteps:=2000000) (disch:=first | omega | assumption | (simp only [DS,Nat.reduceAdd, *]; done) | (simp only [DZ]; omega)) only [RUN,RU,zA2,zA1,zA0,zAB,reduceIte,Nat.reduceEqDiff,q1']
    exact k _ ((kN.add _).upd hw kN.le _)
 | true =>
  rw [if_neg (fun h=>h.1 (of_decide_eq_true qz))] at k
  simp (maxSteps:=2000000) (disch:=first | omega | assumption | (simp only [DS,Nat.reduceAdd, *]; done) | (simp only [DZ]; omega)) only [RUN,RU,zA2,zA1,slot,zAI,reduceIte,Nat.reduceEqDiff,h0,h1,↓pIdN,zBA,ETA,qz]
  generalize (M.add (.row false [.ptr id 0])).add (.row false (opR o ra)) = N at *
  have wN:=wA
  have g0:=gA
  have g1:=gB
  have kN:=kA
  have qs:=qz
  have l0:=Mem.get_lt g0
  have l1:=Mem.get_lt g1
  simp (maxSteps:=2000000) (disch:=first | omega | assumption | (simp only [DS,Nat.reduceAdd, *]; done) | (simp only [DZ]; omega)) only [RUN,RU,zA2,zA1,lay,reduceIte,Nat.reduceEqDiff,Nat.reduceAdd,hof]
  by_cases q1 : rofE o = 0
  ·have k2:=(kN.add (.row false (rnR ⟨⟨Eid.z,0⟩,Eid.z,[]⟩ NIL))).upd hw kN.le (.row false (rnR rn r2))
   have z0 : ((N.add (.row false (rnR ⟨⟨Eid.z,0⟩,Eid.z,[]⟩ NIL))).upd N.size (.row false (rnR rn r2))).get M.size = some (.row false [.ptr id 0]):=by
    rw [zA4 (wN.add _) _ _ _ (by omega),zAG wN _ _ l0]; exact g0
   have z1 : ((N.add (.row false (rnR ⟨⟨Eid.z,0⟩,Eid.z,[]⟩ NIL))).upd N.size (.row false (rnR rn r2))).get (M.size + 1) = some (.row false (opR o ra)):=by
    rw [zA4 (wN.add _) _ _ _ (by omega),zAG wN _ _ l1]; exact g1
   have q1' : decide (rofE o = 0) = true:=decide_eq_true q1
   simp (maxSteps:=2000000) (disch:=first | omega | assumption | (simp only [DS,Nat.reduceAdd, *]; done) | (simp only [DZ]; omega)) only [RUN,RU,zA2,zA1,slot,reduceIte,Nat.reduceEqDiff,g1,q1',hn]
   generalize ((N.add (.row false (rnR ⟨⟨Eid.z,0⟩,Eid.z,[]⟩ NIL))).upd N.size (.row false (rnR rn r2))) = X2 at *
   have w2:=k2.wf
   have s2:=k2.le
   have hH2 : IsHist X2 B id m ops l:=hH.keep fun j hj=>k2.get j hj
   have m0:=Mem.get_lt z0
   refine zV0 (st:=4) (ag:=true) (n:=d + 6) (first:=[]) (cap:=[.ptr M.size 0]) tf85 tf94 (by simp) zKX hr (by omega) (by omega) (p:=fun x=>decide (x ∈ zAQ l)) w2 (fun n hn=>by simp (maxSteps:=2000000) (disch:=first | omega | assumption | (simp only [DS,Nat.reduceAdd, *]; done) | (simp only [DZ]; omega)) only [RUN,RU]) (fun r x hr _ N Q' hk hQ=>?_) fun N3 h3=>?_
   ·obtain ⟨rfl,_⟩:=hr
    refine zXC (d:=d + 5) (B:=B) (m:=m) (ops:=ops) (hH2.keep fun j hj=>hk.get j hj) hk.wf ((hk.get _ m0).trans z0) fun N' hk'=>hQ N' (hk.trans hk')
   ·have k3:=k2.trans h3
    have y0:=(h3.get _ m0).trans z0
    have y1:=(h3.get _ (Mem.get_lt z1)).trans z1
    have w3:=h3.wf
    have hH3 : IsHist N3 B id m ops l:=hH.keep fun j hj=>k3.get j hj
    have hg3:=hH3.hg
    have li3:=Mem.get_lt hg3
    have n0:=Mem.get_lt y0
    have n1:=Mem.get_lt y1
    obtain ⟨obj,mg,hset⟩:=hH3.mg
    have lm:=Mem.get_lt mg
    have hml:=zXM mg hset
    cases q2 : o.sp.ids.any fun x=>decide (x ∈ zAQ l) with
    | true =>
     rw [if_pos (.inr q2)] at k
     simp (maxSteps:=2000000) (disch:=first | omega | assumption | (simp only [DS,Nat.reduceAdd, *]; done) | (simp only [DZ]; omega)) only [RUN,RU,zA2,zA1,zA0,zAB,reduceIte,Nat.reduceEqDiff]
     exact k _ k3
    | false =>
     rw [if_neg (by simp [q1,q2])] at k
     have w1 : IntKind.i64.wrap (((zAQ l).length : Int) + o.sp.n) = ((zAQ l).length : Int) + o.sp.n:=wrap_i64 (by omega) (by omega)
     by_cases q3 : 8192 < ((zAQ l).length : Int) + o.sp.n
     ·rw [if_pos q3] at k
      have q3':=decide_eq_true q3
      simp (maxSteps:=2000000) (disch:=first | omega | assumption | (simp only [DS,Nat.reduceAdd, *]; done) | (simp only [DZ]; omega)) only [RUN,RU,zA2,zA1,zA0,zAB,reduceIte,Nat.reduceEqDiff,Nat.reduceBEq,Nat.reduceAdd,y0,y1,hg3,x_ml,hml,w1,q3']
      exact k _ k3
     ·rw [if_neg q3] at k
      have q3':=decide_eq_false q3
      simp (maxSteps:=2000000) (disch:=first | omega | assumption | (simp only [DS,Nat.reduceAdd, *]; done) | (simp only [DZ]; omega)) only [RUN,RU,zA2,zA1,zA0,zAB,reduceIte,Nat.reduceEqDiff,Nat.reduceBEq,Nat.reduceAdd,y0,y1,hg3,x_ml,hml,w1,q3']
      exact k _ k3
  ·have q1' : decide (rofE o = 0) = false:=decide_eq_false q1
   rw [if_pos (.inl q1)] at k
   simp (maxSteps:=2000000) (disch:=first | omega | assumption | (simp only [DS,Nat.reduceAdd, *]; done) | (simp only [DZ]; omega)) only [RUN,RU,zA2,zA1,zA0,zAB,reduceIte,Nat.reduceEqDiff,q1']
   exact k _ ((kN.add _).upd hw kN.le _)
end Go.Proofs.YteognbdgdcjeeaaGreat
namespace Go.Proofs.YteognbdgdcjeeaaGreat
open Go Go.Ax
variable {fuel : Nat} {M : Mem} {Q : AV → Mem → Prop} {d : Nat} {x : Eid} {l : List Op} {o : Op} {ra ops : AV} {B id m : Nat}
def zE3 (l : List Op) (o : Op) : Int:=if o.kd = 1 then insE l o else if o.kd = 2 then remE l o else raiE l o
def fitE (l : List Op) (o : Op) : Int:=if zE3 l o = 0 then (if 2048 ≤ l.length then 4 else 0) else zE3 l o
theorem zbP {o : Op} (h : o.may = true) (ho : o.ok) : o.kd = 1 ∨ o.kd = 2 ∨ o.kd = 3:=by
 unfold Op.may at h
 simp only [Bool.and_eq_true,Bool.not_eq_true',decide_eq_false_iff_not] at h
 have:=ho.1
 omega
set_option maxHeartbeats 8000000 in
theorem zX3 (hH : IsHist M B id m ops l) (htl : (zAQ l).length ≤ 1000000) (hl : l.length ≤ 40000) (hR : Sl 1 zB1 ra o.rs) (ho : o.ok) (hm : o.may = true) (hf : l.length + 300 < fuel) (wf : Wf M) (hw : M.wm ≤ M.size) (k : ∀ N,Kept M N → Q (I64 (fitE l o)) N) :
  W3 (zAE Tryz.prog (fsT tbl) fuel (d + 12) (.fn 33) [.ptr id 0,.agg (opR o ra)] M) Q:=by
 have ora:=hR.one
 have li:=Mem.get_lt hH.hg
 have wA:=wf.add (.row false (opR o ra))
 have gA : (M.add (.row false (opR o ra))).get M.size = some (.row false (opR o ra)):=zAH wf _ _ (Nat.le_refl _) (Nat.lt_succ_self _)
 have hHA : IsHist (M.add (.row false (opR o ra))).lo B id m ops l:=hH.keep fun j hj=>zAG wf _ _ hj
 have onf : oneA (.sc .nilFunc) = true:=rfl
 have tail : ∀ N2,Kept (M.add (.row false (opR o ra))).lo N2 → True:=fun _ _=>trivial
 clear tail
 have done : ∀ N2,Kept (M.add (.row false (opR o ra))).lo N2 → Kept M ((M.add (.row false (opR o ra))).bk N2):=fun N2 h=>((Kept.refl wf).add _).trans h.bk
 have kq : ∀ N2,Kept (M.add (.row false (opR o ra))).lo N2 → IsHist ((M.add (.row false (opR o ra))).bk N2) B id m ops l:=fun N2 h=>hH.keep fun j hj=>(done N2 h).get j hj
 unfold fitE at k
 refine zB3 tf33 rfl (by simp [a33]) fun b' ht hx=>?_
 have h0:=hx 0 _ rfl
 have h1:=hx 1 _ rfl
 clear hx
 simp only [a33,c33] at ht ⊢
 have hw' : (M.add (.row false (opR o ra))).lo.wm ≤ (M.add (.row false (opR o ra))).lo.size:=Nat.le_refl _
 rcases zbP hm ho with hk | hk | hk
 ·have n1 : zD0 (U8 o.kd) = some 1:=by rw [hk]; rfl
  have ep : zE3 l o = insE l o:=by unfold zE3; rw [if_pos hk]
  rw [ep] at k
  simp (maxSteps:=2000000) (disch:=first | omega | assumption | (simp only [DS,Nat.reduceAdd, *]; done) | (simp only [DZ]; omega)) only [RUN,RU,zA2,zA1,slot,lay,zAI,reduceIte,Nat.reduceEqDiff,Nat.reduceBEq,Nat.reduceAdd,Nat.reduceMul,h0,h1,n1,zQ3,zG6]
  refine zV9 (d:=d + 2) hHA htl hR ho hm (by omega) wA hw' fun N2 hN2=>?_
  have hd : N2.dirty = false:=hN2.di
  have hq:=kq N2 hN2
  have kN:=done N2 hN2
  have hg : N2.get id = some (.row false [ops,.mp m]):=hq.hg
  have lg : id < N2.size:=Mem.get_lt hg
  have ll:=hq.sm.len
  by_cases q1 : insE l o = 0
  ·rw [if_pos q1] at k
   have q1' : decide (insE l o = 0) = true:=decide_eq_true q1
   by_cases q2 : 2048 ≤ l.length
   ·rw [if_pos q2] at k
    have q2' : decide ((2048 : Int) ≤ l.length) = true:=decide_eq_true (by omega)
    simp (maxSteps:=2000000) (disch:=first | omega | assumption | (simp only [DS,Nat.reduceAdd, *]; done) | (simp only [DZ]; omega)) only [RUN,RU,zA2,zA1,zA0,zAB,reduceIte,Nat.reduceEqDiff,Nat.reduceAdd,h0,hd,q1',hg,ll,q2']
    exact k _ kN
   ·rw [if_neg q2] at k
    have q2' : decide ((2048 : Int) ≤ l.length) = false:=decide_eq_false (by omega)
    simp (maxSteps:=2000000) (disch:=first | omega | assumption | (simp only [DS,Nat.reduceAdd, *]; done) | (simp only [DZ]; omega)) only [RUN,RU,zA2,zA1,zA0,zAB,reduceIte,Nat.reduceEqDiff,Nat.reduceAdd,h0,hd,hg,ll,q2',q1]
    exact k _ kN
  ·rw [if_neg q1] at k
   have q1' : decide (insE l o = 0) = false:=decide_eq_false q1
   simp (maxSteps:=2000000) (disch:=first | omega | assumption | (simp only [DS,Nat.reduceAdd, *]; done) | (simp only [DZ]; omega)) only [RUN,RU,zA2,zA1,zA0,zAB,reduceIte,Nat.reduceEqDiff,Nat.reduceAdd,hd,q1']
   exact k _ kN
 ·have n1 : zD0 (U8 o.kd) = some 2:=by rw [hk]; rfl
  have ep : zE3 l o = remE l o:=by unfold zE3; rw [if_neg (by omega),if_pos hk]
  rw [ep] at k
  simp (maxSteps:=2000000) (disch:=first | omega | assumption | (simp only [DS,Nat.reduceAdd, *]; done) | (simp only [DZ]; omega)) only [RUN,RU,zA2,zA1,slot,lay,zAI,reduceIte,Nat.reduceEqDiff,Nat.reduceBEq,Nat.reduceAdd,Nat.reduceMul,h0,h1,n1,zQ3,zG6]
  refine zWE (d:=d + 3) hHA hR ho hm (by omega) wA hw' fun N2 hN2=>?_
  have hd : N2.dirty = false:=hN2.di
  have hq:=kq N2 hN2
  have kN:=done N2 hN2
  have hg : N2.get id = some (.row false [ops,.mp m]):=hq.hg
  have lg : id < N2.size:=Mem.get_lt hg
  have ll:=hq.sm.len
  by_cases q1 : remE l o = 0
  ·rw [if_pos q1] at k
   have q1' : decide (remE l o = 0) = true:=decide_eq_true q1
   by_cases q2 : 2048 ≤ l.length
   ·rw [if_pos q2] at k
    have q2' : decide ((2048 : Int) ≤ l.length) = true:=decide_eq_true (by omega)
    simp (maxSteps:=2000000) (disch:=first | omega | assumption | (simp only [DS,Nat.reduceAdd, *]; done) | (simp only [DZ]; omega)) only [RUN,RU,zA2,zA1,zA0,zAB,reduceIte,Nat.reduceEqDiff,Nat.reduceAdd,h0,hd,q1',hg,ll,q2']
    exact k _ kN
   ·rw [if_neg q2] at k
    have q2' : decide ((2048 : Int) ≤ l.length) = false:=decide_eq_false (by omega)
    simp (maxSteps:=2000000) (disch:=first | omega | assumption | (simp only [DS,Nat.reduceAdd, *]; done) | (simp only [DZ]; omega)) only [RUN,RU,zA2,zA1,zA0,zAB,reduceIte,Nat.reduceEqDiff,Nat.reduceAdd,h0,hd,hg,ll,q2',q1]
    exact k _ kN
  ·rw [if_neg q1] at k
   have q1' : decide (remE l o = 0) = false:=decide_eq_false q1
   simp (maxSteps:=2000000) (disch:=first | omega | assumption | (simp only [DS,Nat.reduceAdd, *]; done) | (simp only [DZ]; omega)) only [RUN,RU,zA2,zA1,zA0,zAB,reduceIte,Nat.reduceEqDiff,Nat.reduceAdd,hd,q1']
   exact k _ kN
 ·have n1 : zD0 (U8 o.kd) = some 3:=by rw [hk]; rfl
  have ep : zE3 l o = raiE l o:=by unfold zE3; rw [if_neg (by omega),if_neg (by omega)]
  rw [ep] at k
  simp (maxSteps:=2000000) (disch:=first | omega | assumption | (simp only [DS,Nat.reduceAdd, *]; done) | (simp only [DZ]; omega)) only [RUN,RU,zA2,zA1,slot,lay,zAI,reduceIte,Nat.reduceEqDiff,Nat.reduceBEq,Nat.reduceAdd,Nat.reduceMul,h0,h1,n1,zQ3,zG6]
  refine zZO (d:=d) hHA hl hR ho hm (by omega) wA hw' fun N2 hN2=>?_
  have hd : N2.dirty = false:=hN2.di
  have hq:=kq N2 hN2
  have kN:=done N2 hN2
  have hg : N2.get id = some (.row false [ops,.mp m]):=hq.hg
  have lg : id < N2.size:=Mem.get_lt hg
  have ll:=hq.sm.len
  by_cases q1 : raiE l o = 0
  ·rw [if_pos q1] at k
   have q1' : decide (raiE l o = 0) = true:=decide_eq_true q1
   by_cases q2 : 2048 ≤ l.length
   ·rw [if_pos q2] at k
    have q2' : decide ((2048 : Int) ≤ l.length) = true:=decide_eq_true (by omega)
    simp (maxSteps:=2000000) (disch:=first | omega | assumption | (simp only [DS,Nat.reduceAdd, *]; done) | (simp only [DZ]; omega)) only [RUN,RU,zA2,zA1,zA0,zAB,reduceIte,Nat.reduceEqDiff,Nat.reduceAdd,h0,hd,q1',hg,ll,q2']
    exact k _ kN
   ·rw [if_neg q2] at k
    have q2' : decide ((2048 : Int) ≤ l.length) = false:=decide_eq_false (by omega)
    simp (maxSteps:=2000000) (disch:=first | omega | assumption | (simp only [DS,Nat.reduceAdd, *]; done) | (simp only [DZ]; omega)) only [RUN,RU,zA2,zA1,zA0,zAB,reduceIte,Nat.reduceEqDiff,Nat.reduceAdd,h0,hd,hg,ll,q2',q1]
    exact k _ kN
  ·rw [if_neg q1] at k
   have q1' : decide (raiE l o = 0) = false:=decide_eq_false q1
   simp (maxSteps:=2000000) (disch:=first | omega | assumption | (simp only [DS,Nat.reduceAdd, *]; done) | (simp only [DZ]; omega)) only [RUN,RU,zA2,zA1,zA0,zAB,reduceIte,Nat.reduceEqDiff,Nat.reduceAdd,hd,q1']
   exact k _ kN
end Go.Proofs.YteognbdgdcjeeaaGreat
namespace Go.Proofs.YteognbdgdcjeeaaGreat
open Go Go.Ax
variable {fuel : Nat} {M : Mem} {Q : AV → Mem → Prop} {d : Nat} {x : Eid} {l : List Op} {o : Op} {ra ops a : AV} {B id m : Nat}
def zB6 : List Op → List Op → Bool
 | _,[]=>true
 | pre,o :: l=>o.may && decide (fitE pre o = 0) && zB6 (pre ++ [o]) l
theorem zR8 {pre : List Op} {o : Op} (h : fitE pre o = 0) (hk : o.kd = 1) : ∀ x ∈ o.sp.ids,x ∉ zAQ pre:=by
 have h1 : zE3 pre o = 0:=by
  unfold fitE at h
  split at h
  ·assumption
  ·exact h
 unfold zE3 at h1
 rw [if_pos hk] at h1
 unfold insE at h1
 intro x hx hin
 split at h1
 ·cases h1
 ·split at h1
  ·cases h1
  ·rename_i h2
   exact h2 (.inr (List.any_eq_true.2 ⟨x,hx,decide_eq_true hin⟩))
theorem zJ7 (l : List Op) (o : Op) : zAQ (l ++ [o]) = zAQ l ++ (if o.kd = 1 then o.sp.ids else []):=by
 unfold zAQ
 rw [List.flatMap_append]
 simp
structure HS (N : Mem) (B id m : Nat) (ops : AV) (l : List Op) (S : List Eid) : Prop where
 hg : N.get id = some (.row false [ops,.mp m])
 sm : SlM N 17 isOp ops l
 mg : ∃ obj,N.get m = some obj ∧ zH3 idA (BL true) obj S
 ib : B ≤ id
 mb : B ≤ m
 ob : ∀ j,rowOf ops = some j → B ≤ j
 ne : id ≠ m
 n1 : rowOf ops ≠ some id
 n2 : rowOf ops ≠ some m
theorem HS.keep {N : Mem} {S : List Eid} (h : HS M B id m ops l S) (k : ∀ j,j < M.size → N.get j = M.get j) : HS N B id m ops l S:=by
 obtain ⟨obj,h1,h2⟩:=h.mg
 exact ⟨(k _ (Mem.get_lt h.hg)).trans h.hg,h.sm.keep fun j hj=>k j (h.sm.lt j hj),⟨obj,(k _ (Mem.get_lt h1)).trans h1,h2⟩,h.ib,h.mb,h.ob,h.ne,h.n1,h.n2⟩
theorem HS.of (h : IsHist M B id m ops l) : HS M B id m ops l (zAQ l):=⟨h.hg,h.sm,h.mg,h.ib,h.mb,h.ob,h.ne,h.n1,h.n2⟩
theorem HS.to {S : List Eid} (h : HS M B id m ops l S) (e : S = zAQ l) : IsHist M B id m ops l:=by
 subst e; exact ⟨h.hg,h.sm,h.mg,h.ib,h.mb,h.ob,h.ne,h.n1,h.n2⟩
set_option maxHeartbeats 8000000 in
theorem of_0 (hS : Sl 17 isOp a l) (hl : l.length ≤ 10000) (hf : l.length + 400 < fuel) (wf : Wf M) (hw : M.wm ≤ M.size)
  (kf : ∀ N,Wf N → M.size ≤ N.size → (∀ j,j < M.size → N.get j = M.get j) → zB6 [] l = false → Q (.tup [.sc (.pointer none),BL false]) N)
  (kt : ∀ N ops,Wf N → M.size + 2 ≤ N.size → N.wm = M.wm → (∀ j,j < M.size → N.get j = M.get j) → zB6 [] l = true → IsHist N M.size (M.size + 1) M.size ops l → (zAQ l).length ≤ 64 * l.length → Q (.tup [.ptr (M.size + 1) 0,BL true]) N) :
  W3 (zAE Tryz.prog (fsT tbl) fuel (d + 13) (.fn 31) [a] M) Q:=by
 have ll:=hS.len
 have one_mp : oneA (.mp M.size) = true:=rfl
 have cmp : cellsA (.mp M.size) = [.mp M.size]:=rfl
 refine zB3 tf31 rfl (by simp [a31]) fun b' ht hx=>?_
 have h0:=hx 0 _ rfl
 clear hx
 simp only [a31,c31] at ht ⊢
 have hH0 : IsHist ((M.add (.map [] 0)).add (.row false [NIL,.mp M.size])) M.size (M.size + 1) M.size NIL []:=⟨by simp (maxSteps:=2000000) (disch:=first | omega | assumption | (simp only [DS,Nat.reduceAdd, *]; done) | (simp only [DZ]; omega)) only [RUN],SlM.nil,⟨.map [] 0,by simp (maxSteps:=2000000) (disch:=first | omega | assumption | (simp only [DS,Nat.reduceAdd, *]; done) | (simp only [DZ]; omega)) only [RUN],zH3.nil _ _⟩,by omega,by omega,fun j hj=>(by cases hj),by omega,fun hj=>(by cases hj),fun hj=>(by cases hj)⟩
 simp (maxSteps:=2000000) (disch:=first | omega | assumption | (simp only [DS,Nat.reduceAdd, *]; done) | (simp only [DZ]; omega)) only [RUN,RU,zA2,zA1,lay,zAI,reduceIte,Nat.reduceEqDiff,Nat.reduceBEq,Nat.reduceAdd,h0,ll,zTI,cmp]
 refine zBQ (I:=fun n t N => ∃ (i : Nat) (ops : AV),n = l.length - i ∧ i ≤ l.length ∧ nth zA9 t 4 = .ptr (M.size + 1) 0 ∧ nth zA9 t 12 = a ∧ nth zA9 t 13 = I64 l.length ∧ nth zA9 t 14 = I64 i ∧ Wf N ∧ M.size + 2 ≤ N.size ∧ N.wm = M.wm ∧ (∀ j,j < M.size → N.get j = M.get j) ∧ IsHist N M.size (M.size + 1) M.size ops (l.take i) ∧ zB6 [] l = zB6 (l.take i) (l.drop i) ∧ (zAQ (l.take i)).length ≤ 64 * i) (n:=l.length) (by omega) ?_ ?_
 ·refine ⟨0,NIL,rfl,Nat.zero_le _, ?_, ?_, ?_, ?_,(wf.add _).add _,by simp only [zA7]; omega,rfl,fun j hj=>by rw [zAG (wf.add _) _ _ (by rw [zA7]; omega),zAG wf _ _ hj],hH0,rfl,Nat.le_refl 0⟩ <;> simp (maxSteps:=2000000) (disch:=first | omega | assumption | (simp only [DS,Nat.reduceAdd, *]; done) | (simp only [DZ]; omega)) only [RUN,reduceIte,Nat.reduceEqDiff]
  all_goals first | rfl | assumption | done
 ·rintro n t N hlt ⟨i,ops,rfl,hi,g4,g12,g13,g14,w,sz,wm,kp,hH,inv,tl⟩
  simp only [ht] at hlt ⊢
  by_cases hc : i < l.length
  ·have q2 : decide ((i : Int) < l.length) = true:=decide_eq_true (by omega)
   have w1 : IntKind.i64.wrap ((i : Int) + 1) = ((i + 1 : Nat) : Int):=by rw [wrap_i64] <;> omega
   obtain ⟨r,hiad,hr,hrl⟩:=hS.iad i hc
   rw [drop_step l i hc,zB6,← take_snoc l i hc] at inv
   have hts:=zJ7 (l.take i) l[i]
   have hsn:=take_snoc l i hc
   rw [← hsn] at hts
   generalize l[i] = e at *
   obtain ⟨ra,rfl,hra,hok⟩:=hr
   have ora:=hra.one
   have hck:=fun M=>@zD2 fuel (d + 5) e ra hra hok (by omega) M
   cases hm : e.may with
   | false =>
    rw [hm] at hck
    simp only [hm,Bool.false_and] at inv
    simp (maxSteps:=2000000) (disch:=first | omega | assumption | (simp only [DS,Nat.reduceAdd, *]; done) | (simp only [DZ]; omega)) only [RUN,RU,zA2,zA1,zA0,zAB,slot,lay,reduceIte,Nat.reduceEqDiff,Nat.reduceAdd,Int.reduceEq,g12,g13,g14,q2,hiad,hck,zBF]
    exact kf _ ((w.add _).upd _ _) (by simp only [zAD,zA7]; omega) (fun j hj=>by rw [zA4 (w.add _) _ _ _ (by omega),zAG w _ _ (by omega)]; exact kp j hj) inv
   | true =>
    rw [hm] at hck
    simp (maxSteps:=2000000) (disch:=first | omega | assumption | (simp only [DS,Nat.reduceAdd, *]; done) | (simp only [DZ]; omega)) only [RUN,RU,zA2,zA1,slot,lay,reduceIte,Nat.reduceEqDiff,Nat.reduceAdd,g4,g12,g13,g14,q2,hiad,hck,zAX]
    have hwN : N.wm ≤ N.size:=by omega
    have kX:=((Kept.refl w).add (.row false (opR ⟨0,Hd.z,0,⟨Eid.z,0⟩,Eid.z,Lb.z,[]⟩ NIL))).upd hwN (Nat.le_refl _) (.row false (opR e ra))
    have hli : (l.take i).length = i:=by rw [List.length_take]; omega
    refine zX3 (d:=d) (B:=M.size) (m:=M.size) (ops:=ops) (l:=l.take i) (hH.keep kX.get) (by omega) (by omega) hra hok hm (by omega) kX.wf (kX.wml hwN) fun N2 hN2=>?_
    have kN:=kX.trans hN2
    have gE : N2.get N.size = some (.row false (opR e ra)):=by
     rw [hN2.get _ (by rw [zAD,zA7]; omega)]
     exact zAF (w.add _) _ _ (by rw [zA7]; omega)
    have lE:=Mem.get_lt gE
    have w2:=kN.wf
    have hH2:=hH.keep kN.get
    have hg2:=hH2.hg
    have lg2:=Mem.get_lt hg2
    have sm2:=hH2.sm
    have oo2:=sm2.one
    have oc2:=sm2.cells
    have rl2:=sm2.rl
    have le2:=kN.le
    by_cases q3 : fitE (l.take i) e = 0
    ·have q3' : decide (fitE (l.take i) e = 0) = true:=decide_eq_true q3
     simp only [hm,q3',Bool.true_and] at inv
     simp (maxSteps:=2000000) (disch:=first | omega | assumption | (simp only [DS,Nat.reduceAdd, *]; done) | (simp only [DZ]; omega)) only [RUN,RU,zA2,zA1,slot,lay,zAI,zA6,reduceIte,Nat.reduceEqDiff,Nat.reduceBEq,Nat.reduceAdd,g4,q3',gE,hg2]
     refine ⟨zAV rl2 (by omega), ?_⟩
     refine app1 w2 sm2 zKY (x:=e) ⟨ra,rfl,hra,hok⟩ rfl (by omega) (by omega) (by omega) fun ops' M3 m3 w3 le3 kp3 nw3 wm3 rl3 on3 oc3=>?_
     have gH3 : M3.get (M.size + 1) = some (.row false [ops,.mp M.size]):=(kp3 _ lg2 hH2.n1).trans hg2
     have gE3 : M3.get N.size = some (.row false (opR e ra)):=(kp3 _ lE (fun h=>by have:=hH.sm.lt _ h; omega)).trans gE
     have l3:=Mem.get_lt gH3
     have lE3:=Mem.get_lt gE3
     simp (maxSteps:=2000000) (disch:=first | omega | assumption | (simp only [DS,Nat.reduceAdd, *]; done) | (simp only [DZ]; omega)) only [RUN,RU,zA2,zA1,lay,reduceIte,Nat.reduceEqDiff,Nat.reduceBEq,Nat.reduceAdd,gH3,gE3,oc3]
     have ob' : ∀ j,rowOf ops' = some j → j ≠ M.size + 1 ∧ j ≠ M.size ∧ M.size ≤ j:=fun j hj=>by
      rcases nw3 j hj with h | h
      ·exact ⟨fun e=>hH.n1 (e ▸ h),fun e=>hH.n2 (e ▸ h),hH.ob j h⟩
      ·omega
     have hS4 : HS (M3.upd (M.size + 1) (.row false [ops',.mp M.size])) M.size (M.size + 1) M.size ops' (l.take (i + 1)) (zAQ (l.take i)):=by
      obtain ⟨obj,mg,hset⟩:=hH2.mg
      refine ⟨zAF w3 _ _ l3, ?_,⟨obj, ?_,hset⟩,by omega,by omega,fun j hj=>(ob' j hj).2.2,by omega,fun hj=>(ob' _ hj).1 rfl,fun hj=>(ob' _ hj).2.1 rfl⟩
      ·rw [hsn]
       exact m3.keep fun j hj=>zA4 w3 _ _ _ (fun e=>(ob' j hj).1 e.symm)
      ·rw [zA4 w3 _ _ _ (by omega),kp3 _ (Mem.get_lt mg) hH2.n2]; exact mg
     have kp4 : ∀ j,j < M.size → (M3.upd (M.size + 1) (.row false [ops',.mp M.size])).get j = M.get j:=fun j hj=>by
      rw [zA4 w3 _ _ _ (by omega),kp3 j (by omega) (fun h=>by have:=hH.ob j h; omega),kN.get j (by omega)]; exact kp j hj
     have w4:=w3.upd (M.size + 1) (.row false [ops',.mp M.size])
     have wm4 : (M3.upd (M.size + 1) (.row false [ops',.mp M.size])).wm = M.wm:=by
      show M3.wm = M.wm
      rw [wm3,kN.wm,wm]
     have gE4 : (M3.upd (M.size + 1) (.row false [ops',.mp M.size])).get N.size = some (.row false (opR e ra)):=by rw [zA4 w3 _ _ _ (by omega)]; exact gE3
     have sz4 : M.size + 2 ≤ (M3.upd (M.size + 1) (.row false [ops',.mp M.size])).size:=by rw [zAD]; omega
     have lE4 : N.size < (M3.upd (M.size + 1) (.row false [ops',.mp M.size])).size:=by rw [zAD]; exact lE3
     generalize M3.upd (M.size + 1) (.row false [ops',.mp M.size]) = X4 at *
     by_cases q4 : e.kd = 1
     ·have q4' : decide (e.kd = 1) = true:=decide_eq_true q4
      rw [if_pos q4] at hts
      obtain ⟨r,hr,hn⟩:=zHO (fuel:=fuel) (d:=d + 6) hok.2.2.2.1 (may_sp hm) (by omega)
      have hbn:=Spn.may_le (may_sp hm)
      have il:=zJU e.sp
      have rlen:=hr.len
      simp (maxSteps:=2000000) (disch:=first | omega | assumption | (simp only [DS,Nat.reduceAdd, *]; done) | (simp only [DZ]; omega)) only [RUN,RU,zA2,zA1,slot,reduceIte,Nat.reduceEqDiff,q4',gE4,hn,rlen]
      refine zBQ (I:=fun nk tk Nk => ∃ (ik : Nat),nk = e.sp.ids.length - ik ∧ ik ≤ e.sp.ids.length ∧ nth zA9 tk 4 = .ptr (M.size + 1) 0 ∧ nth zA9 tk 12 = a ∧ nth zA9 tk 13 = I64 l.length ∧ nth zA9 tk 14 = I64 i ∧ nth zA9 tk 42 = r ∧ nth zA9 tk 43 = I64 e.sp.ids.length ∧ nth zA9 tk 44 = I64 ik ∧ Wf Nk ∧ M.size + 2 ≤ Nk.size ∧ Nk.wm = M.wm ∧ (∀ j,j < M.size → Nk.get j = M.get j) ∧ HS Nk M.size (M.size + 1) M.size ops' (l.take (i + 1)) (zAQ (l.take i) ++ e.sp.ids.take ik)) (n:=e.sp.ids.length) (by omega) ?_ ?_
      ·refine ⟨0,rfl,Nat.zero_le _, ?_, ?_, ?_, ?_, ?_, ?_, ?_,w4,sz4,wm4,kp4,(by rw [List.take_zero,List.append_nil]; exact hS4)⟩ <;> simp (maxSteps:=2000000) (disch:=first | omega | assumption | (simp only [DS,Nat.reduceAdd, *]; done) | (simp only [DZ]; omega)) only [RUN,reduceIte,Nat.reduceEqDiff,g4,g12,g13,g14]
       all_goals first | rfl | assumption | done
      ·rintro nk tk Nk hltk ⟨ik,rfl,hik,gk4,gk12,gk13,gk14,gk42,gk43,gk44,wk,szk,wmk,kpk,hSk⟩
       simp only [hlt] at hltk ⊢
       by_cases hck : ik < e.sp.ids.length
       ·have q5 : decide ((ik : Int) < e.sp.ids.length) = true:=decide_eq_true (by omega)
        have w1k : IntKind.i64.wrap ((ik : Int) + 1) = ((ik + 1 : Nat) : Int):=by rw [wrap_i64] <;> omega
        obtain ⟨rx,hiadx,hrx,hrlx⟩:=hr.iad ik hck
        have fr : e.sp.ids[ik] ∉ zAQ (l.take i) ++ e.sp.ids.take ik:=by
         intro hin
         rcases List.mem_append.1 hin with h | h
         ·exact zR8 q3 q4 _ (List.getElem_mem hck) h
         ·obtain ⟨j,hj,he⟩:=List.getElem_of_mem h
          rw [List.getElem_take] at he
          rw [List.length_take] at hj
          rw [zMV,zMV] at he
          have:=congrArg Eid.c he
          simp only [Spn.at] at this
          omega
        have sn:=take_snoc e.sp.ids ik hck
        generalize e.sp.ids[ik] = x at *
        obtain ⟨rfl,hxo⟩:=hrx
        have gk:=hSk.hg
        obtain ⟨obj,mgk,hset⟩:=hSk.mg
        have lk:=Mem.get_lt gk
        have lmk:=Mem.get_lt mgk
        simp (maxSteps:=2000000) (disch:=first | omega | assumption | (simp only [DS,Nat.reduceAdd, *]; done) | (simp only [DZ]; omega)) only [RUN,RU,zA2,zA1,slot,lay,reduceIte,Nat.reduceEqDiff,Nat.reduceBEq,Nat.reduceAdd,gk4,gk42,gk43,gk44,q5,hiadx,gk,x_mu]
        have wk2:=(wk.add (.row false (idR ⟨⟨⟨0,0⟩,0⟩,0⟩))).upd Nk.size (.row false (idR x))
        have keep2 : ∀ j,j < Nk.size → ((Nk.add (.row false (idR ⟨⟨⟨0,0⟩,0⟩,0⟩))).upd Nk.size (.row false (idR x))).get j = Nk.get j:=fun j hj=>by
         rw [zA4 (wk.add _) _ _ _ (by omega),zAG wk _ _ hj]
        refine zLB zJT (l:=zAQ (l.take i) ++ e.sp.ids.take ik) wk2 (by simp only [zAD,zA7]; omega) ((keep2 _ lmk).trans mgk) hset x fun o' hs'=>?_
        rw [if_neg fr] at hs'
        have hS5 : HS (((Nk.add (.row false (idR ⟨⟨⟨0,0⟩,0⟩,0⟩))).upd Nk.size (.row false (idR x))).upd M.size o') M.size (M.size + 1) M.size ops' (l.take (i + 1)) (zAQ (l.take i) ++ e.sp.ids.take (ik + 1)):=by
         have u : ∀ j,j < Nk.size → j ≠ M.size → (((Nk.add (.row false (idR ⟨⟨⟨0,0⟩,0⟩,0⟩))).upd Nk.size (.row false (idR x))).upd M.size o').get j = Nk.get j:=fun j hj hne=>by
          rw [zA4 wk2 _ _ _ (fun e=>hne e.symm),keep2 j hj]
         refine ⟨(u _ lk (by omega)).trans gk,hSk.sm.keep fun j hj=>u j (hSk.sm.lt j hj) (fun e=>hSk.n2 (e ▸ hj)),⟨o',zAF wk2 _ _ (by simp only [zAD,zA7]; omega), ?_⟩,hSk.ib,hSk.mb,hSk.ob,hSk.ne,hSk.n1,hSk.n2⟩
         rw [sn,← List.append_assoc]
         exact hs'
        have wm5 : (((Nk.add (.row false (idR ⟨⟨⟨0,0⟩,0⟩,0⟩))).upd Nk.size (.row false (idR x))).upd M.size o').wm = M.wm:=wmk
        have kp5 : ∀ j,j < M.size → (((Nk.add (.row false (idR ⟨⟨⟨0,0⟩,0⟩,0⟩))).upd Nk.size (.row false (idR x))).upd M.size o').get j = M.get j:=fun j hj=>by
         rw [zA4 wk2 _ _ _ (by omega),keep2 j (by omega)]; exact kpk j hj
        have wk5:=wk2.upd M.size o'
        have sz5 : M.size + 2 ≤ (((Nk.add (.row false (idR ⟨⟨⟨0,0⟩,0⟩,0⟩))).upd Nk.size (.row false (idR x))).upd M.size o').size:=by simp only [zAD,zA7]; omega
        simp (maxSteps:=2000000) (disch:=first | omega | assumption | (simp only [DS,Nat.reduceAdd, *]; done) | (simp only [DZ]; omega)) only [RUN,RU,zA2,zA1,reduceIte,Nat.reduceEqDiff,Nat.reduceAdd,Nat.reduceLeDiff,gk4,gk12,gk13,gk14,gk42,gk43,gk44,w1k]
        exact ⟨hltk,e.sp.ids.length - (ik + 1),by omega,ik + 1,rfl,by omega,rfl,wk,by omega,wm5,kp5,hS5⟩
       ·obtain rfl : ik = e.sp.ids.length:=by omega
        have q5 : decide ((e.sp.ids.length : Int) < e.sp.ids.length) = false:=decide_eq_false (by omega)
        rw [List.take_length] at hSk
        simp (maxSteps:=2000000) (disch:=first | omega | assumption | (simp only [DS,Nat.reduceAdd, *]; done) | (simp only [DZ]; omega)) only [RUN,RU,zA2,zA1,reduceIte,Nat.reduceEqDiff,gk4,gk12,gk13,gk14,gk43,gk44,w1]
        exact ⟨hltk,l.length - (i + 1),by omega,i + 1,ops',rfl,by omega,rfl,wk,szk,wmk,kpk,hSk.to hts.symm,inv,by rw [hts,List.length_append]; omega⟩
     ·have q4' : decide (e.kd = 1) = false:=decide_eq_false q4
      rw [if_neg q4,List.append_nil] at hts
      simp (maxSteps:=2000000) (disch:=first | omega | assumption | (simp only [DS,Nat.reduceAdd, *]; done) | (simp only [DZ]; omega)) only [RUN,RU,zA2,zA1,reduceIte,Nat.reduceEqDiff,g4,g12,g13,g14,q4',w1]
      exact ⟨hlt,l.length - (i + 1),by omega,i + 1,ops',rfl,by omega,rfl,w4,sz4,wm4,kp4,hS4.to hts.symm,inv,by rw [hts]; omega⟩
    ·have q3' : decide (fitE (l.take i) e = 0) = false:=decide_eq_false q3
     simp only [hm,q3',Bool.false_and,Bool.and_false] at inv
     simp (maxSteps:=2000000) (disch:=first | omega | assumption | (simp only [DS,Nat.reduceAdd, *]; done) | (simp only [DZ]; omega)) only [RUN,RU,zA2,zA1,zA0,zAB,reduceIte,Nat.reduceEqDiff,q3']
     exact kf _ w2 (by omega) (fun j hj=>(kN.get j (by omega)).trans (kp j hj)) inv
  ·obtain rfl : i = l.length:=by omega
   have q1 : decide ((l.length : Int) < l.length) = false:=decide_eq_false (by omega)
   rw [List.drop_length,zB6] at inv
   rw [List.take_length] at hH tl
   simp (maxSteps:=2000000) (disch:=first | omega | assumption | (simp only [DS,Nat.reduceAdd, *]; done) | (simp only [DZ]; omega)) only [RUN,RU,zA2,zA1,zA0,zAB,reduceIte,Nat.reduceEqDiff,g4,g13,g14]
   exact kt _ _ w sz wm kp inv hH tl
end Go.Proofs.YteognbdgdcjeeaaGreat
namespace Go.Proofs.YteognbdgdcjeeaaGreat
open Go Go.Ax
variable {fuel : Nat} {M : Mem} {Q : AV → Mem → Prop} {d : Nat} {x : Eid} {l : List Op} {o : Op} {ra ops a : AV} {B id m : Nat} {v : Lb}
abbrev opH (o : Op) : List AV:=[U8 o.kd,U8 o.hd.lb.lv,U32 o.hd.lb.cats,U8 o.hd.num,I64 o.sr,U8 o.sp.f.hd.lb.lv,U32 o.sp.f.hd.lb.cats,U8 o.sp.f.hd.num,I64 o.sp.f.c,I64 o.sp.n,U8 o.af.hd.lb.lv,U32 o.af.hd.lb.cats,U8 o.af.hd.num,I64 o.af.c,U8 o.to.lv,U32 o.to.cats]
def opK : NK Op Int where
 st:=17
 H:=opH
 f:=Op.rs
 T:=zB1
 ok:=Op.ok
 hl:=fun _=>rfl
 hz:=fun o y hy=>by
  simp only [opH,List.mem_cons,List.not_mem_nil,or_false] at hy
  rcases hy with rfl | rfl | rfl | rfl | rfl | rfl | rfl | rfl | rfl | rfl | rfl | rfl | rfl | rfl | rfl | rfl
  all_goals exact zCX _ _
 ft:=zGP
theorem zbU (h : Sl opK.st opK.is a l) : Sl 17 isOp a l:=h
theorem zE9 (hS : Sl 17 isOp a l) (hl : l.length ≤ 10000) (hf : l.length + 400 < fuel) (M : Mem) : zAE Tryz.prog (fsT tbl) fuel (d + 14) (.fn 17) [a] M = some (I64 (err (zB6 [] l)),M):=by
 apply zBN
 refine zAJ tf17 rfl (by simp only [icyL,fun M=>hS.icy M 12 (by omega)]) (by simp [a17]) fun b' ht hx=>?_
 have h0:=hx 0 _ rfl
 clear hx
 simp only [a17,c17] at ht ⊢
 simp (maxSteps:=2000000) (disch:=first | omega | assumption | (simp only [DS,Nat.reduceAdd, *]; done) | (simp only [DZ]; omega)) only [RUN,RU,zA2,zA1,reduceIte,Nat.reduceEqDiff,h0]
 refine of_0 (d:=d) hS hl hf Wf.mem0 (Nat.le_refl _) (fun N w s k hh=>?_) (fun N ops w s wm k hh _ _=>?_)
 ·rw [hh]
  simp (maxSteps:=2000000) (disch:=first | omega | assumption | (simp only [DS,Nat.reduceAdd, *]; done) | (simp only [DZ]; omega)) only [RUN,RU,zA2,zA1,zA0,zAB,frzL,reduceIte,Nat.reduceEqDiff,zBF]
 ·rw [hh]
  simp (maxSteps:=2000000) (disch:=first | omega | assumption | (simp only [DS,Nat.reduceAdd, *]; done) | (simp only [DZ]; omega)) only [RUN,RU,zA2,zA1,zA0,zAB,frzL,reduceIte,Nat.reduceEqDiff,zAX]
def zN2 (l : List Op) (v : Lb) : Int:=err (zB6 [] l && v.may)
def lowL (l : List Op) (v : Lb) : List Op:=l.filter fun o=>o.hd.lb.leq v
theorem zOD (l : List Op) (o : Op) (v : Lb) : lowL (l ++ [o]) v = lowL l v ++ (if o.hd.lb.leq v then [o] else []):=by
 unfold lowL
 rw [List.filter_append]
 cases h : o.hd.lb.leq v <;> simp [h]
theorem zMY (l : List Op) (v : Lb) : (lowL l v).length ≤ l.length:=List.length_filter_le _ _
def zbT (l : List Op) (v : Lb) (r : AV) : Prop:=∃ r1,r = .tup [r1,I64 (zN2 l v)] ∧ Sl 17 isOp r1 (if zN2 l v = 0 then lowL l v else [])
set_option maxHeartbeats 8000000 in
theorem zVU (hS : Sl 17 isOp a l) (hl : l.length ≤ 10000) (hf : l.length + 400 < fuel) (hd : ∀ o ∈ l,o.rs.length ≤ 1000000000) : ∃ r,zbT l v r ∧ ∀ M,zAE Tryz.prog (fsT tbl) fuel (d + 15) (.fn 6) [a,lbA v] M = some (r,M):=by
 have ll:=hS.len
 have hck:=fun M=>zE9 (fuel:=fuel) (d:=d) hS hl hf M
 have hlc:=fun M=>@zEN fuel (d + 13) v M
 refine zG4 tf6 rfl (fun M=>by simp only [icyL,fun M=>hS.icy M 12 (by omega),zBE (zEU v) (show 1 < 12 by omega)]) ?_
 refine zAJ tf6 rfl (by simp only [icyL,fun M=>hS.icy M 12 (by omega),zBE (zEU v) (show 1 < 12 by omega)]) (by simp [a6]) fun b' ht hx=>?_
 have h0:=hx 0 _ rfl
 have h1:=hx 1 _ rfl
 clear hx
 simp only [a6,c6] at ht ⊢
 unfold zbT zN2
 cases q1 : zB6 [] l with
 | false =>
  rw [q1] at hck
  cases q2 : v.may <;> rw [q2] at hlc
  all_goals
   simp (maxSteps:=2000000) (disch:=first | omega | assumption | (simp only [DS,Nat.reduceAdd, *]; done) | (simp only [DZ]; omega)) only [RUN,RU,zA2,zA1,zA0,zAB,frzL,slot,reduceIte,Nat.reduceEqDiff,Nat.reduceBEq,Nat.reduceAdd,Int.reduceEq,h0,h1,hck,hlc,zAX,zBF,zCF,BMM,IMX]
   exact ⟨_,⟨NIL,rfl,.inl ⟨rfl,rfl⟩⟩,rfl⟩
 | true =>
  rw [q1] at hck
  cases q2 : v.may <;> rw [q2] at hlc
  ·simp (maxSteps:=2000000) (disch:=first | omega | assumption | (simp only [DS,Nat.reduceAdd, *]; done) | (simp only [DZ]; omega)) only [RUN,RU,zA2,zA1,zA0,zAB,frzL,slot,reduceIte,Nat.reduceEqDiff,Nat.reduceBEq,Nat.reduceAdd,Int.reduceEq,h0,h1,hck,hlc,zAX,zBF,zCF,BMM,IMX]
   exact ⟨_,⟨NIL,rfl,.inl ⟨rfl,rfl⟩⟩,rfl⟩
  ·simp (maxSteps:=2000000) (disch:=first | omega | assumption | (simp only [DS,Nat.reduceAdd, *]; done) | (simp only [DZ]; omega)) only [RUN,RU,zA2,zA1,slot,reduceIte,Nat.reduceEqDiff,Nat.reduceBEq,Nat.reduceAdd,h0,h1,hck,hlc,zAX,zCF,BMM,IMX,ll]
   refine zBQ (I:=fun n t N => ∃ (i : Nat) (out : AV),n = l.length - i ∧ i ≤ l.length ∧ nth zA9 t 3 = .ptr 0 0 ∧ nth zA9 t 4 = out ∧ nth zA9 t 17 = a ∧ nth zA9 t 18 = I64 l.length ∧ nth zA9 t 19 = I64 i ∧ Wf N ∧ N.get 0 = some (.row false (lbR v)) ∧ N.wm = 0 ∧ opK.NN N 1 out (lowL (l.take i) v)) (n:=l.length) (by omega) ?_ ?_
   ·refine ⟨0,NIL,rfl,Nat.zero_le _, ?_, ?_, ?_, ?_, ?_,Wf.mem0.add _,by simp (maxSteps:=2000000) (disch:=first | omega | assumption | (simp only [DS,Nat.reduceAdd, *]; done) | (simp only [DZ]; omega)) only [RUN],rfl,NK.NN.nil _ _⟩ <;> simp (maxSteps:=2000000) (disch:=first | omega | assumption | (simp only [DS,Nat.reduceAdd, *]; done) | (simp only [DZ]; omega)) only [RUN,reduceIte,Nat.reduceEqDiff]
    all_goals first | rfl | assumption | done
   ·rintro n t N hlt ⟨i,out,rfl,hi,g3,g4,g17,g18,g19,w,g,wm,hN⟩
    simp only [ht] at hlt ⊢
    by_cases hc : i < l.length
    ·have q3 : decide ((i : Int) < l.length) = true:=decide_eq_true (by omega)
     have w1 : IntKind.i64.wrap ((i : Int) + 1) = ((i + 1 : Nat) : Int):=by rw [wrap_i64] <;> omega
     obtain ⟨r,hiad,hr,hrl⟩:=hS.iad i hc
     have hls:=zOD (l.take i) l[i] v
     rw [← take_snoc l i hc] at hls
     have hlo:=hd l[i] (List.getElem_mem hc)
     have hll:=zMY (l.take i) v
     rw [List.length_take] at hll
     generalize l[i] = e at *
     obtain ⟨ra,rfl,hra,hok⟩:=hr
     have ora:=hra.one
     have lN:=Mem.get_lt g
     have hle:=fun M=>@zG8 fuel (d + 13) e.hd.lb v M
     have kX:=((Kept.refl w).add (.row false (opR ⟨0,Hd.z,0,⟨Eid.z,0⟩,Eid.z,Lb.z,[]⟩ NIL))).upd (by omega) (Nat.le_refl _) (.row false (opR e ra))
     cases q4 : e.hd.lb.leq v with
     | false =>
      rw [q4] at hle
      rw [q4,if_neg (by decide),List.append_nil] at hls
      simp (maxSteps:=2000000) (disch:=first | omega | assumption | (simp only [DS,Nat.reduceAdd, *]; done) | (simp only [DZ]; omega)) only [RUN,RU,zA2,zA1,slot,lay,reduceIte,Nat.reduceEqDiff,Nat.reduceAdd,g3,g4,g17,g18,g19,q3,hiad,w,g,hle,w1]
      exact ⟨hlt,l.length - (i + 1),by omega,i + 1,out,rfl,by omega,rfl,rfl,wm,by rw [hls]; exact hN.keep fun j a b=>kX.get j b⟩
     | true =>
      rw [q4] at hle
      rw [q4,if_pos rfl] at hls
      have oo:=hN.one
      have oc:=hN.cells
      simp (maxSteps:=2000000) (disch:=first | omega | assumption | (simp only [DS,Nat.reduceAdd, *]; done) | (simp only [DZ]; omega)) only [RUN,RU,zA2,zA1,slot,lay,reduceIte,Nat.reduceEqDiff,Nat.reduceAdd,g3,g4,g17,g18,g19,q3,hiad,g,hle]
      refine zW0 (d:=d + 12) hra hlo kX.wf (by rw [kX.wm]; omega) fun a' N2 hN2 sm2 nw2=>?_
      have k2:=kX.trans hN2
      have w2:=k2.wf
      have oa:=sm2.one
      have ca:=sm2.cells
      have rl2:=zAV sm2.rl (Nat.le_refl N2.size)
      have rr2:=hN.rows (show N.size ≤ N2.size + 1 by have:=k2.le; omega)
      simp (maxSteps:=2000000) (disch:=first | omega | assumption | (simp only [DS,Nat.reduceAdd, *]; done) | (simp only [DZ]; omega)) only [RUN,RU,zA2,zA1,lay,zAI,zA6,reduceIte,Nat.reduceEqDiff,Nat.reduceBEq,Nat.reduceAdd,rr2]
      have hsz : N.size + 1 ≤ N2.size:=hN2.le
      refine NK.NN.app (K:=opK) (B:=1) (l:=lowL (l.take i) v) (x:=e) (ra:=a') w2 (hN.keep fun j a b=>k2.get j b) ⟨rfl,oa,ca⟩ ⟨sm2,fun j hj=>by have:=nw2 j hj; simp only [zAD,zA7] at this; omega,hok⟩ (fun j hj hj2=>by have h1:=hN.lt j hj; have h2:=nw2 j hj2; simp only [zAD,zA7] at h2; omega) (by omega) (by omega) (by omega) fun o' M' hN' w' le' kp' nw' wm'=>?_
      simp (maxSteps:=2000000) (disch:=first | omega | assumption | (simp only [DS,Nat.reduceAdd, *]; done) | (simp only [DZ]; omega)) only [RUN,RU,zA2,zA1,reduceIte,Nat.reduceEqDiff,g3,g4,g17,g18,g19,w1]
      refine ⟨hlt,l.length - (i + 1),by omega,i + 1,o',rfl,by omega,rfl,rfl,w', ?_, ?_,by rw [hls]; exact hN'⟩
      ·rw [kp' 0 (by omega) (fun h=>by have:=hN.lt 0 h; omega),k2.get 0 lN]; exact g
      ·rw [wm',k2.wm]; exact wm
    ·obtain rfl : i = l.length:=by omega
     have q3 : decide ((l.length : Int) < l.length) = false:=decide_eq_false (by omega)
     rw [List.take_length] at hN
     obtain ⟨o',hz,hs⟩:=hN.frz (k:=11) (by omega)
     have hz:=hz N (fun _ _=>rfl)
     simp (maxSteps:=2000000) (disch:=first | omega | assumption | (simp only [DS,Nat.reduceAdd, *]; done) | (simp only [DZ]; omega)) only [RUN,RU,zA2,zA1,zA0,zAB,frzL,reduceIte,Nat.reduceEqDiff,g4,g18,g19,hz]
     exact ⟨_,⟨o',rfl,zbU hs⟩,rfl⟩
end Go.Proofs.YteognbdgdcjeeaaGreat
namespace Go.Proofs.YteognbdgdcjeeaaGreat
open Go Go.Ax
theorem zJS : ∀ {pre l : List Op},zB6 pre l = true → ∀ o ∈ l,o.may = true
 | _,[],_,_,h=>by cases h
 | pre,o :: l,h,p,hp=>by
  simp only [zB6,Bool.and_eq_true] at h
  rcases List.mem_cons.1 hp with rfl | hp
  ·exact h.1.1
  ·exact zJS h.2 p hp
end Go.Proofs.YteognbdgdcjeeaaGreat
namespace Go.Proofs.YteognbdgdcjeeaaGreat
open Go Go.Ax
theorem zG7 (a b : Int) : zRY a b = 0 ↔ BitVec.ofInt 32 a &&& ~~~ BitVec.ofInt 32 b = 0#32:=by
 have e : zRY a b = ((BitVec.ofInt 32 a &&& ~~~ BitVec.ofInt 32 b).toNat : Int):=by
  have:=(BitVec.ofInt 32 a &&& ~~~ BitVec.ofInt 32 b).isLt
  unfold zRY
  generalize (BitVec.ofInt 32 a &&& ~~~ BitVec.ofInt 32 b).toNat = z at *
  simp [IntKind.wrap,IntKind.bits,IntKind.signed]
  omega
 rw [e,← BitVec.toNat_inj]
 simp
theorem zP6 (x y z : BitVec 32) (h1 : x &&& ~~~ y = 0#32) (h2 : y &&& ~~~ z = 0#32) : x &&& ~~~ z = 0#32:=by
 apply BitVec.eq_of_getLsbD_eq
 intro i hi
 have a1:=congrArg (fun v=>BitVec.getLsbD v i) h1
 have a2:=congrArg (fun v=>BitVec.getLsbD v i) h2
 simp only [BitVec.getLsbD_and,BitVec.getLsbD_not,hi,BitVec.getLsbD_zero,decide_true,Bool.true_and] at a1 a2 ⊢
 cases hx : x.getLsbD i <;> cases hy : y.getLsbD i <;> cases hz : z.getLsbD i <;> simp_all
theorem zHN {a b c : Lb} (h1 : a.leq b = true) (h2 : b.leq c = true) : a.leq c = true:=by
 unfold Lb.leq at *
 simp only [Bool.and_eq_true,decide_eq_true_eq,zG7] at *
 exact ⟨Int.le_trans h1.1 h2.1,zP6 _ _ _ h1.2 h2.2⟩
theorem zOB (a : Lb) : a.leq a = true:=by
 unfold Lb.leq
 simp only [Bool.and_eq_true,decide_eq_true_eq,zG7]
 refine ⟨Int.le_refl _, ?_⟩
 apply BitVec.eq_of_getLsbD_eq
 intro i hi
 simp only [BitVec.getLsbD_and,BitVec.getLsbD_not,hi,BitVec.getLsbD_zero,decide_true,Bool.true_and]
 cases (BitVec.ofInt 32 a.cats).getLsbD i <;> rfl
/-! ### Raises -/
theorem zPV (l : List Op) (v u : Lb) (h : u.leq v = true) (x : Eid) : zC3 (lowL l v) x u = zC3 l x u:=by
 unfold zC3 lowL
 rw [List.filter_filter]
 congr 1
 apply List.filter_congr
 intro o _
 cases hc : zDQ x u o with
 | false=>rfl
 | true =>
  have hl : o.hd.lb.leq u = true:=by
   unfold zDQ at hc
   simp only [Bool.and_eq_true] at hc
   exact hc.2
  rw [zHN hl h]; rfl
theorem zVJ (l : List Op) (v u : Lb) (h : u.leq v = true) (x : Eid) : made (lowL l v) x u = made l x u:=by
 unfold made
 rw [zPV l v u h]
theorem zNE (l : List Op) (v : Lb) (o : Op) (h : o.hd.lb.leq v = true) : zDD (lowL l v) o = zDD l o:=by
 unfold zDD
 simp only [zVJ l v _ h]
/-! ### A history is right -/
theorem zR9 {pre : List Op} {o : Op} (h : fitE pre o = 0) : pre.length < 2048:=by
 unfold fitE at h
 split at h
 ·split at h
  ·cases h
  ·omega
 ·rename_i h1; exact absurd h h1
theorem zJM {pre : List Op} {o : Op} (h : fitE pre o = 0) : zE3 pre o = 0:=by
 unfold fitE at h
 split at h
 ·assumption
 ·exact h
theorem zRA {pre : List Op} {o : Op} (hm : o.may = true) (h : fitE pre o = 0) : zDD pre o = true:=by
 by_cases hk : o.kd = 3
 ·have h1:=zJM h
  unfold zE3 at h1
  rw [if_neg (by omega),if_neg (by omega)] at h1
  unfold raiE at h1
  split at h1
  ·split at h1
   ·rename_i h2
    have:=h2.2
    unfold chfB at this
    simp only [Bool.and_eq_true] at this
    exact this.2
   ·cases h1
  ·cases h1
 ·unfold zDD
  rw [if_neg hk]
theorem zIS : ∀ {pre l : List Op},zB6 pre l = true → zGT pre l = true
 | _,[],_=>rfl
 | pre,o :: l,h=>by
  simp only [zB6,Bool.and_eq_true,decide_eq_true_eq] at h
  simp only [zGT,Bool.and_eq_true]
  exact ⟨⟨h.1.1,zRA h.1.1 h.1.2⟩,zIS h.2⟩
theorem zO3 : ∀ {pre l : List Op},zB6 pre l = true → l ≠ [] → pre.length + l.length ≤ 2048
 | _,[],_,h=>absurd rfl h
 | pre,[o],h,_=>by
  simp only [zB6,Bool.and_eq_true,decide_eq_true_eq] at h
  have:=zR9 h.1.2
  simp only [List.length_singleton]
  omega
 | pre,o :: p :: l,h,_=>by
  simp only [zB6,Bool.and_eq_true] at h
  have:=zO3 (pre:=pre ++ [o]) (l:=p :: l) (by simp only [zB6,Bool.and_eq_true]; exact h.2) (by simp)
  simp only [List.length_append,List.length_cons,List.length_nil] at this ⊢
  omega
theorem zIR {l : List Op} (h : zB6 [] l = true) : zD9 l = 0:=by
 have h1 : ¬2048 < l.length:=by
  by_cases e : l = []
  ·subst e; simp
  ·have:=zO3 h e
   simp only [List.length_nil] at this
   omega
 unfold zD9
 rw [if_neg h1,zIS h]
 rfl
end Go.Proofs.YteognbdgdcjeeaaGreat
namespace Go.Proofs.YteognbdgdcjeeaaGreat
open Go Go.Ax
theorem zG9 {o : Op} (h : o.may = true) (hk : o.kd = 1) : o.sp.f.hd = o.hd ∧ (o.rs.length : Int) = o.sp.n:=by
 unfold Op.may Op.part at h
 rw [if_pos hk] at h
 simp only [Bool.and_eq_true,decide_eq_true_eq] at h
 exact ⟨h.2.1.1.2,h.2.1.2⟩
theorem zMZ {s : Spn} {x : Eid} (h : x ∈ s.ids) : x.hd = s.f.hd:=by
 unfold Spn.ids at h
 obtain ⟨i,_,rfl⟩:=List.mem_map.1 h
 rfl
theorem zL9 {l : List Op} {x : Eid} : x ∈ zAQ l ↔ ∃ o ∈ l,o.kd = 1 ∧ x ∈ o.sp.ids:=by
 unfold zAQ
 rw [List.mem_flatMap]
 constructor
 ·rintro ⟨o,ho,h⟩
  split at h
  ·exact ⟨o,ho,by assumption,h⟩
  ·cases h
 ·rintro ⟨o,ho,hk,h⟩
  exact ⟨o,ho,by rw [if_pos hk]; exact h⟩
theorem zII {l : List Op} (hm : ∀ o ∈ l,o.may = true) {v : Lb} {x : Eid} (hx : x.hd.lb.leq v = true) : x ∈ zAQ (lowL l v) ↔ x ∈ zAQ l:=by
 rw [zL9,zL9]
 constructor
 ·rintro ⟨o,ho,h⟩
  exact ⟨o,(List.mem_filter.1 ho).1,h⟩
 ·rintro ⟨o,ho,hk,h⟩
  refine ⟨o,List.mem_filter.2 ⟨ho, ?_⟩,hk,h⟩
  have:=zMZ h
  rw [← (zG9 (hm o ho) hk).1,← this]
  exact hx
theorem zKI (l : List Op) (v : Lb) : (zAQ (lowL l v)).length ≤ (zAQ l).length:=by
 induction l with
 | nil=>exact Nat.le_refl _
 | cons o l ih =>
  unfold lowL zAQ at *
  rw [List.filter_cons]
  split
  ·simp only [List.flatMap_cons,List.length_append]; omega
  ·simp only [List.flatMap_cons,List.length_append]; omega
section
variable {pre : List Op} {o : Op} {v : Lb}
theorem zOU (hm : ∀ o ∈ pre,o.may = true) (ho : o.hd.lb.leq v = true) (x : Eid) : zFT (lowL pre v) o x = zFT pre o x:=by
 unfold zFT
 cases h : x.hd.lb.leq o.hd.lb with
 | false=>simp
 | true =>
  have:=zII hm (zHN h ho)
  rw [decide_eq_decide.2 this]
theorem zQE (hm : ∀ o ∈ pre,o.may = true) (ho : o.hd.lb.leq v = true) : allB (lowL pre v) o = allB pre o:=by
 unfold allB
 congr 1
 funext x
 exact zOU hm ho x
theorem zVC (hm : ∀ o ∈ pre,o.may = true) (ho : o.hd.lb.leq v = true) (hom : o.may = true) (hc : zD9 pre = 0) (hc2 : zD9 (lowL pre v) = 0) (hb : o.kd = 1 → ¬8192 < ((zAQ pre).length : Int) + o.sp.n) : zE3 (lowL pre v) o = zE3 pre o:=by
 unfold zE3
 by_cases hk : o.kd = 1
 ·rw [if_pos hk,if_pos hk]
  unfold insE
  have h1 : (o.sp.ids.any fun x=>decide (x ∈ zAQ (lowL pre v))) = (o.sp.ids.any fun x=>decide (x ∈ zAQ pre)):=by
   rw [Bool.eq_iff_iff,List.any_eq_true,List.any_eq_true]
   constructor
   ·rintro ⟨x,hx,h⟩
    refine ⟨x,hx, ?_⟩
    rw [decide_eq_true_eq] at h ⊢
    exact (zII hm (by rw [zMZ hx,(zG9 hom hk).1]; exact ho)).1 h
   ·rintro ⟨x,hx,h⟩
    refine ⟨x,hx, ?_⟩
    rw [decide_eq_true_eq] at h ⊢
    exact (zII hm (by rw [zMZ hx,(zG9 hom hk).1]; exact ho)).2 h
  have:=zKI pre v
  have hb:=hb hk
  rw [zOU hm ho,h1,if_neg (show ¬8192 < ((zAQ (lowL pre v)).length : Int) + o.sp.n by omega),if_neg hb]
 ·rw [if_neg hk,if_neg hk]
  split
  ·unfold remE
   rw [zQE hm ho]
  ·unfold raiE chfB chfE
   rw [zQE hm ho,hc,hc2,zNE pre v o ho]
theorem zV8 (h : zE3 pre o = 0) : o.kd = 1 → ¬8192 < ((zAQ pre).length : Int) + o.sp.n:=by
 intro hk hb
 unfold zE3 insE at h
 rw [if_pos hk] at h
 split at h
 ·cases h
 ·split at h
  ·cases h
  ·first | (rw [if_pos hb] at h; cases h) | cases h
theorem zPJ (hm : ∀ o ∈ pre,o.may = true) (ho : o.hd.lb.leq v = true) (hom : o.may = true) (hc : zD9 pre = 0) (hc2 : zD9 (lowL pre v) = 0) (hb : o.kd = 1 → ¬8192 < ((zAQ pre).length : Int) + o.sp.n) (hl : pre.length < 2048) : fitE (lowL pre v) o = fitE pre o:=by
 have:=zMY pre v
 unfold fitE
 rw [zVC hm ho hom hc hc2 hb,if_neg (show ¬2048 ≤ pre.length by omega),if_neg (show ¬2048 ≤ (lowL pre v).length by omega)]
theorem zYI (hm : ∀ o ∈ pre,o.may = true) (ho : o.hd.lb.leq v = true) (hom : o.may = true) (hc : zD9 pre = 0) (hc2 : zD9 (lowL pre v) = 0) (h : fitE pre o = 0) : fitE (lowL pre v) o = 0:=by
 rw [zPJ hm ho hom hc hc2 (zV8 (zJM h)) (zR9 h)]
 exact h
end
theorem zFI : ∀ (pre a b : List Op),zB6 pre (a ++ b) = (zB6 pre a && zB6 (pre ++ a) b)
 | pre,[],b=>by simp [zB6]
 | pre,o :: a,b=>by
  simp only [List.cons_append,zB6]
  rw [zFI (pre ++ [o]) a b,List.append_assoc]
  simp only [List.cons_append,List.nil_append,Bool.and_assoc]
theorem zJR (v : Lb) : ∀ (l pre : List Op),zB6 [] pre = true → zB6 [] (lowL pre v) = true → zB6 pre l = true → zB6 (lowL pre v) (lowL l v) = true
 | [],pre,_,_,_=>rfl
 | o :: l,pre,hp,hq,h=>by
  simp only [zB6,Bool.and_eq_true,decide_eq_true_eq] at h
  have hp' : zB6 [] (pre ++ [o]) = true:=by
   rw [zFI,hp]
   simp only [List.nil_append,zB6,h.1.1,h.1.2,decide_true,Bool.and_self]
  have hs:=zOD pre o v
  unfold lowL at hs ⊢
  rw [List.filter_cons]
  cases ho : o.hd.lb.leq v with
  | false =>
   rw [ho,if_neg (by decide),List.append_nil] at hs
   have:=zJR v l (pre ++ [o]) hp' (by unfold lowL; rw [hs]; exact hq) h.2
   unfold lowL at this
   rw [hs] at this
   simpa using this
  | true =>
   rw [ho,if_pos rfl] at hs
   have hf:=zYI (zJS hp) ho h.1.1 (zIR hp) (zIR hq) h.1.2
   unfold lowL at hf
   have hq' : zB6 [] (lowL (pre ++ [o]) v) = true:=by
    unfold lowL
    rw [hs,zFI]
    unfold lowL at hq
    rw [hq]
    simp only [List.nil_append,zB6,h.1.1,hf,decide_true,Bool.and_self]
   have:=zJR v l (pre ++ [o]) hp' hq' h.2
   unfold lowL at this
   rw [hs] at this
   simp only [if_true,zB6,h.1.1,hf,decide_true,Bool.true_and]
   exact this
theorem zL0 {l : List Op} (v : Lb) (h : zB6 [] l = true) : zB6 [] (lowL l v) = true:=zJR v l [] rfl rfl h
end Go.Proofs.YteognbdgdcjeeaaGreat
namespace Go.Proofs.YteognbdgdcjeeaaGreat
open Go Go.Ax
def stepT (t : List Rn) (o : Op) : List Rn:=if rofE o = 0 then insL t o.rn else t
def textOf (l : List Op) : List Rn:=l.foldl stepT []
theorem zDZ (l : List Op) (o : Op) : textOf (l ++ [o]) = stepT (textOf l) o:=by simp [textOf]
theorem zHK (l : List Op) (o : Op) : zB6 [] (l ++ [o]) = (zB6 [] l && (o.may && decide (fitE l o = 0))):=by
 rw [zFI]
 simp [zB6]
theorem zJH (o : Op) : o.rn.elR.map (·.id) = o.sp.ids:=by
 simp [Rn.elR,Spn.ids,Op.rn,Function.comp_def]
theorem zJ6 {o : Op} (h : rofE o = 0) : o.may = true ∧ o.kd = 1 ∧ o.rn.may = true:=by
 unfold rofE at h
 split at h
 ·rename_i h1
  split at h
  ·rename_i h2; exact ⟨h1,h2.1,h2.2⟩
  ·cases h
 ·cases h
structure HT (l : List Op) (t : List Rn) : Prop where
 ok : zCJ t
 mem : ∀ x,x ∈ elsR t ↔ ∃ o ∈ l,rofE o = 0 ∧ x ∈ o.rn.elR
 ids : ∀ y,y ∈ zAQ l ↔ ∃ x ∈ elsR t,x.id = y
 len : (elsR t).length = (zAQ l).length
 cl : (∀ o ∈ l,o.ok) → zJ9 (elsR t)
theorem z_leq {b : Lb} (h : b.ok) : Lb.z.leq b = true:=by
 unfold Lb.leq
 simp only [Bool.and_eq_true,decide_eq_true_eq,zG7]
 refine ⟨h.1, ?_⟩
 simp
theorem HT.step {l : List Op} {t : List Rn} {o : Op} (h : HT l t) (hf : fitE l o = 0) (hm : o.may = true) : HT (l ++ [o]) (stepT t o) ∧ (o.kd = 1 → putE t o.rn = 0 ∧ rofE o = 0):=by
 have hk:=zJM hf
 have hth:=zJ7 l o
 by_cases h1 : o.kd = 1
 ·unfold zE3 at hk
  rw [if_pos h1] at hk
  unfold insE at hk
  split at hk
  ·cases hk
  rename_i hs
  split at hk
  ·cases hk
  rename_i hr
  split at hk
  ·cases hk
  rename_i hn
  have hr0 : rofE o = 0:=Classical.byContradiction fun k=>hr (.inl k)
  have hfr : ∀ y ∈ o.sp.ids,y ∉ zAQ l:=fun y hy k=>hr (.inr (List.any_eq_true.2 ⟨y,hy,decide_eq_true k⟩))
  obtain ⟨_,_,hrm⟩:=zJ6 hr0
  have hsee : o.af ≠ Eid.z → zFT l o o.af = true:=fun hz=>Classical.byContradiction fun k=>hs ⟨hz,by simpa using k⟩
  have hp : putE t o.rn = 0:=by
   rw [zOO]
   refine ⟨h.ok,hrm, ?_,fun x hx e he k=>?_, ?_⟩
   ·by_cases hz : o.af = Eid.z
    ·exact .inl hz
    ·right
     have:=hsee hz
     unfold zFT at this
     simp only [Bool.and_eq_true,decide_eq_true_eq] at this
     exact (h.ids _).1 this.1
   ·have h2 : x.id ∈ o.sp.ids:=by rw [← zJH]; exact List.mem_map.2 ⟨x,hx,rfl⟩
    exact hfr _ h2 ((h.ids _).2 ⟨e,he,k.symm⟩)
   ·have hl : o.rn.elR.length = o.sp.n.toNat:=zBD _
    have hb:=Spn.may_le (Rn.may_sp hrm)
    have e1 : o.rn.sp.n = o.sp.n:=rfl
    rw [e1] at hb
    rw [h.len,hl]
    omega
  have hst : stepT t o = insL t o.rn:=by unfold stepT; rw [if_pos hr0]
  rw [hst]
  refine ⟨⟨zbF hp,fun x=>?_,fun y=>?_, ?_,fun hok=>?_⟩,fun _=>⟨hp,hr0⟩⟩
  ·rw [zHM hp,h.mem]
   constructor
   ·rintro (⟨p,h2,h3⟩ | h2)
    ·exact ⟨p,List.mem_append_left _ h2,h3⟩
    ·exact ⟨o,List.mem_append_right _ List.mem_cons_self,hr0,h2⟩
   ·rintro ⟨p,h2,h3,h4⟩
    rcases List.mem_append.1 h2 with h2 | h2
    ·exact .inl ⟨p,h2,h3,h4⟩
    ·rw [List.mem_singleton] at h2; subst h2; exact .inr h4
  ·rw [hth,if_pos h1,List.mem_append,h.ids]
   constructor
   ·rintro (⟨x,h2,h3⟩ | h2)
    ·exact ⟨x,(zHM hp x).2 (.inl h2),h3⟩
    ·rw [← zJH] at h2
     obtain ⟨x,h3,h4⟩:=List.mem_map.1 h2
     exact ⟨x,(zHM hp x).2 (.inr h3),h4⟩
   ·rintro ⟨x,h2,h3⟩
    rcases (zHM hp x).1 h2 with h2 | h2
    ·exact .inl ⟨x,h2,h3⟩
    ·right
     rw [← zJH]
     exact List.mem_map.2 ⟨x,h2,h3⟩
  ·rw [zYZ hp,hth,if_pos h1,List.length_append,h.len,← zJH,List.length_map]
  ·intro x hx
   rcases (zHM hp x).1 hx with hx | hx
   ·exact h.cl (fun p hp=>hok p (List.mem_append_left _ hp)) x hx
   ·have hhd:=(zG9 hm h1).1
    have ho:=hok o (List.mem_append_right _ List.mem_cons_self)
    rw [zKT hx]
    obtain ⟨i,hi,rfl⟩:=List.getElem_of_mem hx
    rw [zBS]
    unfold Rn.afAt
    by_cases h0 : (0 : Int) < i
    ·rw [if_pos h0]; exact zOB _
    ·rw [if_neg h0]
     show o.af.hd.lb.leq o.sp.f.hd.lb = true
     by_cases hz : o.af = Eid.z
     ·rw [hz,hhd]; exact z_leq ho.2.1.1
     ·have:=hsee hz
      unfold zFT at this
      simp only [Bool.and_eq_true,decide_eq_true_eq] at this
      rw [hhd]; exact this.2
 ·have hr0 : ¬rofE o = 0:=fun k=>h1 (zJ6 k).2.1
  have hst : stepT t o = t:=by unfold stepT; rw [if_neg hr0]
  rw [hst]
  refine ⟨⟨h.ok,fun x=>?_,fun y=>?_, ?_,fun hok=>h.cl fun p hp=>hok p (List.mem_append_left _ hp)⟩,fun k=>absurd k h1⟩
  ·rw [h.mem]
   constructor
   ·rintro ⟨p,h2,h3⟩
    exact ⟨p,List.mem_append_left _ h2,h3⟩
   ·rintro ⟨p,h2,h3,h4⟩
    rcases List.mem_append.1 h2 with h2 | h2
    ·exact ⟨p,h2,h3,h4⟩
    ·rw [List.mem_singleton] at h2; subst h2; exact absurd h3 hr0
  ·rw [hth,if_neg h1,List.append_nil]; exact h.ids y
  ·rw [hth,if_neg h1,List.append_nil]; exact h.len
theorem zNH : zCJ []:=⟨fun _ h=>absurd h (by simp),by simp [zB0],by rw [show elsL [] = [] from rfl]; exact Ord.nil,rfl⟩
theorem zbA : HT [] []:=⟨zNH,fun x=>by simp [elsR],fun y=>by simp [zAQ,elsR],rfl,fun _ x hx=>absurd hx (by simp [elsR])⟩
theorem zDL {l : List Op} : zB6 [] l = true → HT l (textOf l):=by
 refine zCQ (P:=fun l=>zB6 [] l = true → HT l (textOf l)) (fun _=>zbA) (fun l o ih h=>?_) l
 rw [zHK] at h
 simp only [Bool.and_eq_true,decide_eq_true_eq] at h
 rw [zDZ]
 exact ((ih h.1).step h.2.2 h.2.1).1
theorem zV1 {l m : List Op} (h : zB6 [] (l ++ m) = true) : zB6 [] l = true:=by
 rw [zFI] at h
 simp only [Bool.and_eq_true] at h
 exact h.1
theorem zV2 {l m : List Op} {o : Op} (h : zB6 [] (l ++ o :: m) = true) (hr : rofE o = 0) : putE (textOf l) o.rn = 0:=by
 have e : l ++ o :: m = (l ++ [o]) ++ m:=by simp
 rw [e] at h
 have h:=zV1 h
 rw [zHK] at h
 simp only [Bool.and_eq_true,decide_eq_true_eq] at h
 exact (((zDL h.1).step h.2.2 h.2.1).2 (zJ6 hr).2.1).1
theorem zWO {l : List Op} (h : zB6 [] l = true) (hok : ∀ o ∈ l,o.ok) (v : Lb) : textOf (lowL l v) = upTo v (textOf l) ∧ zE7 (textOf l) = true:=by
 have hT:=zDL h
 have hL:=zDL (zL0 v h)
 have hE:=(zEQ hT.ok).1
 have hC:=hT.cl hok
 have hcl : zE7 (textOf l) = true:=(zPA hT.ok.1 zOB).2 hC
 refine ⟨?_,hcl⟩
 rw [zWP hT.ok.1]
 have hM:=zZ3 hE hC (fun _ _ _=>zHN) v
 refine text_eq hL.ok (zLY hM) fun x=>?_
 rw [(zDG _).1,List.mem_filter,hL.mem,hT.mem]
 have hmay:=zJS h
 constructor
 ·rintro ⟨o,ho,h1,h2⟩
  obtain ⟨h3,h4⟩:=List.mem_filter.1 ho
  refine ⟨⟨o,h3,h1,h2⟩, ?_⟩
  unfold lowE
  rw [zKT h2]
  show o.sp.f.hd.lb.leq v = true
  rw [(zG9 (hmay o h3) (zJ6 h1).2.1).1]
  exact h4
 ·rintro ⟨⟨o,h3,h1,h2⟩,h4⟩
  refine ⟨o,List.mem_filter.2 ⟨h3, ?_⟩,h1,h2⟩
  unfold lowE at h4
  rw [zKT h2] at h4
  have h5 : o.sp.f.hd.lb.leq v = true:=h4
  rw [(zG9 (hmay o h3) (zJ6 h1).2.1).1] at h5
  exact h5
end Go.Proofs.YteognbdgdcjeeaaGreat
namespace Go.Proofs.YteognbdgdcjeeaaGreat
open Go Go.Ax
variable {fuel : Nat} {M : Mem} {Q : AV → Mem → Prop} {d : Nat}
def cO1 : ACode:=(.seq (.region [⟨some 5,.alloc 29 (.agg #[(.int .u8 0),(.int .u32 0),(.int .u8 0),(.int .i64 0)]),none,[]⟩,⟨none,.store 4 (.tmp 5) (.tmp 12),none,[]⟩] false) (.region [⟨some 6,.alloc 29 (.agg #[(.int .u8 0),(.int .u32 0),(.int .u8 0),(.int .i64 0)]),none,[]⟩,⟨none,.store 4 (.tmp 6) (.tmp 13),none,[]⟩] false))
def cO2 : ACode:=(.block 1 (.scope (.seq (.region [⟨some 7,.alloc 29 (.agg #[(.int .u8 0),(.int .u32 0),(.int .u8 0),(.int .i64 0)]),none,[]⟩] false) (.seq .label (.seq (.block 2 (.loop (.seq (.seq (.region [⟨some 14,.load 1 false (.tmp 3),none,[]⟩,⟨some 15,.len (.tmp 14),none,[]⟩,⟨some 16,.pur (mkO (.binOp .gtr 3 (.tmp 15) (.const (.int .i64 0)) 3) 4),none,[]⟩] false) (.cond (.tmp 16) .skip (.exit 2))) (.block 3 (.seq (.region [⟨some 17,.load 1 false (.tmp 3),none,[1,2,3,6]⟩,⟨some 18,.load 1 false (.tmp 3),none,[0,6]⟩,⟨some 19,.len (.tmp 18),none,[0,6]⟩,⟨some 20,.pur (mkO (.binOp .sub 3 (.tmp 19) (.const (.int .i64 1)) 3) 3),none,[0,6]⟩,⟨some 21,.iad 4 (.tmp 17) (.tmp 20),none,[6]⟩,⟨some 22,.load 4 true (.tmp 21),none,[6]⟩,⟨some 8,.alloc 29 (.agg #[(.int .u8 0),(.int .u32 0),(.int .u8 0),(.int .i64 0)]),none,[0,1,2,3,4,5]⟩,⟨none,.store 4 (.tmp 8) (.tmp 22),none,[]⟩] false) (.seq (.seq (.region [⟨some 23,.load 4 true (.tmp 8),none,[1]⟩,⟨some 24,.load 4 true (.tmp 6),none,[0]⟩,⟨some 25,.pur (mkO (.binOp .eql 29 (.tmp 23) (.tmp 24) 29) 4),none,[]⟩] false) (.cond (.tmp 25) (.exit 2) .skip)) (.region [⟨some 26,.load 4 true (.tmp 8),none,[1,2,3,4,5]⟩,⟨some 27,.load 1 false (.tmp 3),none,[0,2,3,4,6]⟩,⟨some 28,.load 1 false (.tmp 3),none,[0,1,6]⟩,⟨some 29,.len (.tmp 28),none,[0,1,6]⟩,⟨some 30,.pur (mkO (.binOp .sub 3 (.tmp 29) (.const (.int .i64 1)) 3) 3),none,[0,1,6]⟩,⟨some 31,.slc 4 (.tmp 27) none (some (.tmp 30)) none,none,[0,6]⟩,⟨none,.store 4 (.tmp 7) (.tmp 26),none,[1,2,3,4,5]⟩,⟨none,.store 1 (.tmp 3) (.tmp 31),none,[]⟩] true))))))) (.seq (.seq (.region [⟨some 32,.load 1 false (.tmp 3),none,[]⟩,⟨some 33,.len (.tmp 32),none,[]⟩,⟨some 34,.pur (mkO (.binOp .eql 3 (.tmp 33) (.const (.int .i64 0)) 3) 4),none,[]⟩,⟨some 35,.mov (.tmp 34),none,[]⟩,⟨some 36,.load 4 true (.tmp 6),some (35,true),[5]⟩,⟨some 37,.build (.agg #[(.int .u8 0),(.int .u32 0),(.int .u8 0),(.int .i64 0)]) [],some (35,true),[4]⟩,⟨some 38,.pur (mkO (.binOp .neq 29 (.tmp 36) (.tmp 37) 29) 4),some (35,true),[]⟩,⟨some 39,.pick (.tmp 35) (.tmp 38) (.const (.bool false)),none,[]⟩,⟨some 40,.mov (.tmp 39),none,[]⟩,⟨some 41,.load 4 true (.tmp 7),some (40,false),[10]⟩,⟨some 42,.build (.agg #[(.int .u8 0),(.int .u32 0),(.int .u8 0),(.int .i64 0)]) [],some (40,false),[9]⟩,⟨some 43,.pur (mkO (.binOp .neq 29 (.tmp 41) (.tmp 42) 29) 4),some (40,false),[]⟩,⟨some 44,.mov (.tmp 43),some (40,false),[]⟩,⟨some 45,.load 4 true (.tmp 5),some (44,true),[14]⟩,⟨some 46,.load 4 true (.tmp 7),some (44,true),[13]⟩,⟨some 47,.call (.func 42) [(.tmp 45),(.tmp 46)],some (44,true),[]⟩,⟨some 48,.pur (mkO (.unOp .not 4 (.tmp 47)) 4),some (44,true),[]⟩,⟨some 49,.pick (.tmp 44) (.tmp 48) (.const (.bool false)),some (40,false),[]⟩,⟨some 50,.pick (.tmp 40) (.const (.bool true)) (.tmp 49),none,[]⟩,⟨some 51,.mov (.tmp 50),none,[]⟩,⟨some 52,.load 1 false (.tmp 4),some (51,false),[21]⟩,⟨some 53,.load 4 true (.tmp 5),some (51,false),[20]⟩,⟨some 54,.lookup 29 (.int .i64 0) (.tmp 52) (.tmp 53) false,some (51,false),[]⟩,⟨some 55,.pur (mkO (.binOp .gtr 3 (.tmp 54) (.const (.int .i64 0)) 3) 4),some (51,false),[]⟩,⟨some 56,.pick (.tmp 51) (.const (.bool true)) (.tmp 55),none,[]⟩] false) (.cond (.tmp 56) (.seq (.region [⟨none,.store 1 (.tmp 2) (.const (.bool false)),none,[]⟩] false) .ret) .skip)) (.seq (.region [⟨some 57,.load 1 false (.tmp 4),none,[1]⟩,⟨some 58,.load 4 true (.tmp 5),none,[0]⟩,⟨none,.mupd 29 (.tmp 57) (.tmp 58) (.const (.int .i64 1)),none,[]⟩] false) (.region [⟨some 59,.load 1 false (.tmp 3),none,[1,2]⟩,⟨some 60,.load 4 true (.tmp 5),none,[0]⟩,⟨some 61,.bsl 29 4 (.agg #[(.int .u8 0),(.int .u32 0),(.int .u8 0),(.int .i64 0)]) 1 [(0,4,(.tmp 60))],none,[0]⟩,⟨some 62,.app 29 4 24 (.agg #[(.int .u8 0),(.int .u32 0),(.int .u8 0),(.int .i64 0)]) (.tmp 59) (.tmp 61),none,[]⟩,⟨none,.store 1 (.tmp 3) (.tmp 62),none,[]⟩] false))))))))
structure OI (tm : List AV) (pre : List (Eid × Eid)) (O : Nat → Prop) (N : Mem) : Prop where
 wf : Wf N
 sz : 7 ≤ N.size
 g0 : N.get 0 = some (.row false [BL false])
 g1 : ∃ o,N.get 1 = some (.row false [o]) ∧ SlP N 4 zJY o (stk pre).reverse ∧ ∀ j,rowOf o = some j → O j ∧ 7 ≤ j
 g2 : ∃ obj,N.get 2 = some obj ∧ zH3 idA (I64 1) obj (pre.map (·.1))
 g3 : N.get 3 = some (.row false [.mp 2])
 g5 : N.get 5 = some (.dfr false)
 g6 : N.get 6 = some (.loop .ready none tm [12,13] cO1 cO2 5)
 o1 : O 1
 o2 : O 2
 o6 : O 6
 ol : ∀ j,O j → j < N.size ∧ (j = 1 ∨ j = 2 ∨ 6 ≤ j)
 od : Ord pre
theorem OI.keep {tm : List AV} {pre : List (Eid × Eid)} {O : Nat → Prop} {N N' : Mem} (h : OI tm pre O N) (wf : Wf N') (hs : N.size ≤ N'.size) (k : ∀ j,j < N.size → N'.get j = N.get j) : OI tm pre O N':=by
 have:=h.sz
 obtain ⟨o,h1,h2,h3⟩:=h.g1
 obtain ⟨obj,h4,h5⟩:=h.g2
 exact ⟨wf,by omega,(k 0 (by omega)).trans h.g0,⟨o,(k 1 (by omega)).trans h1,h2.keep fun j hj=>k j (h2.lt j hj),h3⟩,⟨obj,(k 2 (by omega)).trans h4,h5⟩,(k 3 (by omega)).trans h.g3,(k 5 (by omega)).trans h.g5,(k 6 (by omega)).trans h.g6,h.o1,h.o2,h.o6,fun j hj=>⟨by have:=(h.ol j hj).1; omega,(h.ol j hj).2⟩,h.od⟩
structure OS (tm : List AV) (N : Mem) : Prop where
 wf : Wf N
 sz : 7 ≤ N.size
 g0 : N.get 0 = some (.row false [BL false])
 g5 : N.get 5 = some (.dfr false)
 g6 : N.get 6 = some (.loop .done (some .ret) tm [12,13] cO1 cO2 5)
theorem zGZ : FzT zJY:=fun r x h y hy=>by
 obtain ⟨rfl,_⟩:=h
 exact zE0 x y hy
theorem zON (af : Eid) : ∀ (s : List Eid) (el : Eid),(popT af s el).2.length ≤ s.length
 | [],_=>Nat.le_refl _
 | t :: s,el=>by
  rw [popT]
  split
  ·exact Nat.le_refl _
  ·exact Nat.le_trans (zON af s t) (Nat.le_succ _)
theorem za1 (l : List (Eid × Eid)) : (stk l).length ≤ l.length:=by
 refine zCQ (P:=fun l=>(stk l).length ≤ l.length) (Nat.le_refl _) (fun l x ih=>?_) l
 rw [zDY,List.length_cons,List.length_append]
 have:=zON x.2 (stk l) Eid.z
 simp only [List.length_singleton]
 omega
set_option maxHeartbeats 16000000 in
theorem zcH {B : Nat} {tm : List AV} {pre : List (Eid × Eid)} {O : Nat → Prop} {x : Eid × Eid} (h : OI tm pre O M) (h2 : nth zA9 tm 2 = .ptr 0 0) (h3' : nth zA9 tm 3 = .ptr 1 0) (h4' : nth zA9 tm 4 = .ptr 3 0) (hlen : tm.length = 63) (hx : x.1.ok) (hn : pre.length ≤ 100000) (hf : pre.length + 10 < fuel) :
  W3 (zAE Tryz.prog (fsT tbl) fuel (d + 7) (.yl 6) [idA x.1,idA x.2] M) (fun v N'=>(v = BL true ∧ Yl (OI tm) (pre ++ [x]) O B M N') ∨ (v = BL false ∧ OS tm N' ∧ ordS x (stk pre) (pre.map (·.1)) = false)):=by
 obtain ⟨o,g1,sp,ro⟩:=h.g1
 obtain ⟨obj,gm2,hset⟩:=h.g2
 have wf:=h.wf
 have sz:=h.sz
 have hsl:=za1 pre
 have g0:=h.g0
 have g3:=h.g3
 have g6:=h.g6
 have oo:=sp.one
 refine zU7 g6 rfl ?_
 have e1 : zEZ tm [12,13] [idA x.1,idA x.2] = St tm [(13,idA x.2),(12,idA x.1)]:=rfl
 rw [e1]
 unfold cO1 cO2
 simp (maxSteps:=2000000) (disch:=first | omega | assumption | (simp only [DS,Nat.reduceAdd, *]; done) | (simp only [DZ]; omega)) only [RUN,RU,zA2,zA1,lay,reduceIte,Nat.reduceEqDiff,Nat.reduceAdd,wf]
 refine ⟨tm,[12,13],_,_,5,g6, ?_⟩
 generalize hX : ((((((M.add _).upd M.size _).add _).upd (M.size + 1) _).upd 6 _).add _) = X
 have wX : Wf X:=by rw [← hX]; exact ((((((wf.add _).upd _ _).add _).upd _ _).upd _ _).add _)
 have sX : X.size = M.size + 1 + 1 + 1:=by rw [← hX]; rfl
 have gX : ∀ j,j < M.size → j ≠ 6 → X.get j = M.get j:=fun j a b=>by
  rw [← hX,zAG (((((wf.add _).upd _ _).add _).upd _ _).upd _ _) _ _ (by simp only [zAD,zA7]; omega),zA4 ((((wf.add _).upd _ _).add _).upd _ _) _ _ _ (fun e=>b e.symm),zA4 (((wf.add _).upd _ _).add _) _ _ _ (by omega),zAG ((wf.add _).upd _ _) _ _ (by simp only [zAD,zA7]; omega),zA4 (wf.add _) _ _ _ (by omega),zAG wf _ _ a]
 have x6 : X.get 6 = some (.loop .busy none tm [12,13] cO1 cO2 5):=by
  rw [← hX,zAG (((((wf.add _).upd _ _).add _).upd _ _).upd _ _) _ _ (by simp only [zAD,zA7]; omega),zAF ((((wf.add _).upd _ _).add _).upd _ _) _ _ (by simp only [zAD,zA7]; omega)]
 have xa : X.get M.size = some (.row false (idR x.1)):=by
  rw [← hX,zAG (((((wf.add _).upd _ _).add _).upd _ _).upd _ _) _ _ (by simp only [zAD,zA7]; omega),zA4 ((((wf.add _).upd _ _).add _).upd _ _) _ _ _ (by omega),zA4 (((wf.add _).upd _ _).add _) _ _ _ (by omega),zAG ((wf.add _).upd _ _) _ _ (by simp only [zAD,zA7]; omega),zAF (wf.add _) _ _ (by simp only [zA7]; omega)]
 have xb : X.get (M.size + 1) = some (.row false (idR x.2)):=by
  rw [← hX,zAG (((((wf.add _).upd _ _).add _).upd _ _).upd _ _) _ _ (by simp only [zAD,zA7]; omega),zA4 ((((wf.add _).upd _ _).add _).upd _ _) _ _ _ (by omega),zAF (((wf.add _).upd _ _).add _) _ _ (by simp only [zAD,zA7]; omega)]
 have xc : X.get (M.size + 1 + 1) = some (.row false (idR Eid.z)):=by
  rw [← hX]
  exact zAH (((((wf.add _).upd _ _).add _).upd _ _).upd _ _) _ _ (by simp only [zAD,zA7]; omega) (by simp only [zAD,zA7]; omega)
 clear hX
 have spX : SlP X 4 zJY o (stk pre).reverse:=sp.keep fun j hj=>gX j (sp.lt j hj) (by have:=ro j hj; omega)
 refine zBQ (I:=fun n t N => ∃ (i : Nat) (o' : AV),n = (stk pre).length - i ∧ i ≤ (stk pre).length ∧ nth zA9 t 2 = .ptr 0 0 ∧ nth zA9 t 3 = .ptr 1 0 ∧ nth zA9 t 4 = .ptr 3 0 ∧ nth zA9 t 5 = .ptr M.size 0 ∧ nth zA9 t 6 = .ptr (M.size + 1) 0 ∧ nth zA9 t 7 = .ptr (M.size + 1 + 1) 0 ∧ Wf N ∧ X.size ≤ N.size ∧ (∀ j,j < M.size → j ≠ 1 → N.get j = X.get j) ∧ N.get 1 = some (.row false [o']) ∧ SlP N 4 zJY o' ((stk pre).drop i).reverse ∧ rowOf o' = rowOf o ∧ N.get M.size = some (.row false (idR x.1)) ∧ N.get (M.size + 1) = some (.row false (idR x.2)) ∧ N.get (M.size + 1 + 1) = some (.row false (idR (((stk pre).take i).getLast?.getD Eid.z))) ∧ (∀ t ∈ (stk pre).take i,t ≠ x.2)) (n:=(stk pre).length) (by omega) ?_ ?_
 ·refine ⟨0,o,rfl,Nat.zero_le _, ?_, ?_, ?_, ?_, ?_, ?_,wX,Nat.le_refl _,(fun _ _ _=>rfl),((gX 1 (by omega) (by omega)).trans g1),(by rw [List.drop_zero]; exact spX),rfl,xa,xb,(by rw [List.take_zero]; exact xc),(fun t ht=>absurd ht (by simp))⟩ <;> simp (maxSteps:=2000000) (disch:=first | omega | assumption | (simp only [DS,Nat.reduceAdd, *]; done) | (simp only [DZ]; omega)) only [RUN,reduceIte,Nat.reduceEqDiff,h2,h3',h4']
  all_goals first | rfl | assumption | done
 ·rintro n t N hlt ⟨i,o',rfl,hi,g2,g3,g4,g5,g6,g7,w,le,kk,c1,spN,ro',ca,cb,cc,hm⟩
  simp only [hlen] at hlt ⊢
  have olen:=spN.len
  have oo':=spN.one
  rw [List.length_reverse,List.length_drop] at olen
  have l1:=Mem.get_lt c1
  have la:=Mem.get_lt ca
  have lb:=Mem.get_lt cb
  have lc:=Mem.get_lt cc
  by_cases hc : i < (stk pre).length
  ·have q1 : decide ((0 : Int) < ((stk pre).length - i : Nat)) = true:=decide_eq_true (by omega)
   have hil : (stk pre).length - i - 1 < ((stk pre).drop i).reverse.length:=by rw [List.length_reverse,List.length_drop]; omega
   obtain ⟨rid,cs,r,hrow,lrid,hgr,hiad,hr,hrl,hpt⟩:=spN.at hil
   have w1 : IntKind.i64.wrap (((stk pre).length - i : Nat) - 1) = ((stk pre).length - i - 1 : Nat):=by rw [wrap_i64] <;> omega
   obtain ⟨oc,hslc,spc,roc⟩:=spN.cut (by omega) (n:=(stk pre).length - i - 1) (by omega)
   have hel : ((stk pre).drop i).reverse[(stk pre).length - i - 1] = (stk pre)[i]:=by
    rw [List.getElem_reverse,List.getElem_drop]
    congr 1
    rw [List.length_drop]; omega
   rw [hel] at hr
   obtain ⟨rfl,hrok⟩:=hr
   simp (maxSteps:=2000000) (disch:=first | omega | assumption | (simp only [DS,Nat.reduceAdd, *]; done) | (simp only [DZ]; omega)) only [RUN,RU,zA2,zA1,slot,lay,reduceIte,Nat.reduceEqDiff,Nat.reduceAdd,g3,g6,olen,q1,w1,c1,hiad,hgr,hpt,cb,↓pIdE,zAU,ETA]
   by_cases hte : (stk pre)[i] = x.2
   ·have q2 : decide ((stk pre)[i] = x.2) = true:=decide_eq_true hte
    have hpop:=zI1 (el:=Eid.z) (q:=(stk pre).drop i) hm (.inr ⟨(stk pre).drop (i + 1),by rw [List.drop_eq_getElem_cons hc,hte]⟩)
    rw [List.take_append_drop] at hpop
    have hne : decide (((((stk pre).length - i : Nat) : Int)) = 0) = false:=decide_eq_false (by omega)
    have hqz : decide ((stk pre).drop i = []) = false:=decide_eq_false (fun e=>by have:=congrArg List.length e; rw [List.length_drop] at this; simp at this; omega)
    simp (maxSteps:=2000000) (disch:=first | omega | assumption | (simp only [DS,Nat.reduceAdd, *]; done) | (simp only [DZ]; omega)) only [RUN,RU,zA2,zA1,reduceIte,Nat.reduceEqDiff,g3,olen,q2,c1]
    generalize hY : (N.add _).upd N.size _ = Y
    have wY : Wf Y:=by rw [← hY]; exact (w.add _).upd _ _
    have lY : N.size ≤ Y.size:=by rw [← hY,zAD,zA7]; omega
    have kY : ∀ j,j < N.size → Y.get j = N.get j:=fun j hj=>by
     rw [← hY,zA4 (w.add _) _ _ _ (by omega),zAG w _ _ hj]
    clear hY
    have y0 : Y.get 0 = some (.row false [BL false]):=(kY 0 (by omega)).trans ((kk 0 (by omega) (by omega)).trans ((gX 0 (by omega) (by omega)).trans h.g0))
    have y1:=(kY 1 (by omega)).trans c1
    have y2:=(kY 2 (by omega)).trans ((kk 2 (by omega) (by omega)).trans ((gX 2 (by omega) (by omega)).trans gm2))
    have y3:=(kY 3 (by omega)).trans ((kk 3 (by omega) (by omega)).trans ((gX 3 (by omega) (by omega)).trans h.g3))
    have y6:=(kY 6 (by omega)).trans ((kk 6 (by omega) (by omega)).trans x6)
    have ya:=(kY _ (by omega)).trans ca
    have yb:=(kY _ (by omega)).trans cb
    have yc:=(kY _ (by omega)).trans cc
    have yj : ∀ j,j < M.size → j ≠ 1 → j ≠ 6 → Y.get j = M.get j:=fun j a b c=>(kY j (by omega)).trans ((kk j a b).trans (gX j a c))
    have spY : SlP Y 4 zJY o' ((stk pre).drop i).reverse:=spN.keep fun j hj=>kY j (spN.lt j hj)
    clear kY kk w c1 ca cb cc spN l1 la lb lc
    have l1:=Mem.get_lt y1
    have la:=Mem.get_lt ya
    have lb:=Mem.get_lt yb
    have lc:=Mem.get_lt yc
    have l2:=Mem.get_lt y2
    have l3:=Mem.get_lt y3
    have l0:=Mem.get_lt y0
    have hlk:=zOC zJT (z:=.int .i64 0) y2 hset x.1
    unfold ordS
    rw [hpop]
    simp only [hqz]
    have hql : ((stk pre).drop i).length ≤ pre.length:=by rw [List.length_drop]; omega
    generalize (stk pre).drop i = q at *
    generalize ((stk pre).take i).getLast?.getD Eid.z = el at *
    have hls:=fun M=>@zEO fuel (d + 4) x.1 el M
    have c2 : True:=trivial
    cases c3 : decide (el = Eid.z)
    ·cases c4 : x.1.less el
     ·rw [c4] at hls
      simp (maxSteps:=2000000) (disch:=first | omega | assumption | (simp only [DS,Nat.reduceAdd, *]; done) | (simp only [DZ]; omega)) only [RUN,RU,zA2,zA1,slot,lay,zAI,reduceIte,Nat.reduceEqDiff,g2,g5,g7,hne,y0,ya,yc,wY,↓pIdN,zBA,ETA,c3,hls]
      have os : OS tm ((Y.upd 0 (.row false [BL false])).upd 6 (.loop .done (some .ret) tm [12,13] cO1 cO2 5)):=by
       refine ⟨(wY.upd _ _).upd _ _,by simp only [zAD]; omega, ?_, ?_, ?_⟩
       ·rw [zA4 (wY.upd _ _) _ _ _ (by omega)]
        exact zAF wY _ _ l0
       ·rw [zA4 (wY.upd _ _) _ _ _ (by omega),zA4 wY _ _ _ (by omega)]
        exact (yj 5 (by omega) (by omega) (by omega)).trans h.g5
       ·exact zAF (wY.upd _ _) _ _ (by simp only [zAD]; omega)
      refine ⟨_,_,_,_,_,_,_,y6,.inr (.inr ?_)⟩
      first
      | exact os
      | exact ⟨os,by simp [*]⟩
     ·rw [c4] at hls
      by_cases c5 : x.1 ∈ pre.map (·.1)
      ·simp only [c5,if_true] at hlk
       simp (maxSteps:=2000000) (disch:=first | omega | assumption | (simp only [DS,Nat.reduceAdd, *]; done) | (simp only [DZ]; omega)) only [RUN,RU,zA2,zA1,slot,lay,zAI,reduceIte,Nat.reduceEqDiff,Int.reduceLT,g2,g4,g5,g7,hne,y0,y3,ya,yc,wY,↓pIdN,zBA,ETA,c3,hls,x_lk,hlk]
       have os : OS tm ((Y.upd 0 (.row false [BL false])).upd 6 (.loop .done (some .ret) tm [12,13] cO1 cO2 5)):=by
        refine ⟨(wY.upd _ _).upd _ _,by simp only [zAD]; omega, ?_, ?_, ?_⟩
        ·rw [zA4 (wY.upd _ _) _ _ _ (by omega)]
         exact zAF wY _ _ l0
        ·rw [zA4 (wY.upd _ _) _ _ _ (by omega),zA4 wY _ _ _ (by omega)]
         exact (yj 5 (by omega) (by omega) (by omega)).trans h.g5
        ·exact zAF (wY.upd _ _) _ _ (by simp only [zAD]; omega)
       refine ⟨_,_,_,_,_,_,_,y6,.inr (.inr ?_)⟩
       first
       | exact os
       | exact ⟨os,by simp [*]⟩
      ·simp only [c5,if_false] at hlk
       simp (maxSteps:=2000000) (disch:=first | omega | assumption | (simp only [DS,Nat.reduceAdd, *]; done) | (simp only [DZ]; omega)) only [RUN,RU,zA2,zA1,slot,zAI,reduceIte,Nat.reduceEqDiff,g4,g5,g7,hne,y3,ya,yc,↓pIdN,zBA,ETA,c3,hls,x_lk,hlk,x_mu]
       refine zLB zJT wY l2 y2 hset x.1 fun obj' hset'=>?_
       simp only [c5,if_false] at hset'
       simp (maxSteps:=2000000) (disch:=first | omega | assumption | (simp only [DS,Nat.reduceAdd, *]; done) | (simp only [DZ]; omega)) only [RUN,RU,zA2,zA1,slot,lay,zAI,zA6,reduceIte,Nat.reduceEqDiff,Nat.reduceBEq,Nat.reduceAdd,g3,g5,y1,ya]
       refine ⟨spY.rows (by omega),SlP.app1 (bytes:=24) (x:=x.1) (wY.upd 2 obj') (spY.keep fun j hj=>zA4 wY _ _ _ (by have:=(ro j (ro' ▸ hj)).2; omega)) zGZ ⟨rfl,hx⟩ rfl (by omega) (by rw [List.length_reverse]; omega) (by rw [List.length_reverse]; omega) fun o2 M2 sp2 w2 le2 kp2 nw2 rl2 on2 oc2=>?_⟩
       rw [zAD] at le2 kp2 nw2
       have hS : ordS x (stk pre) (pre.map (·.1)) = true:=by
        unfold ordS
        rw [hpop]
        simp [*]
       have hst : (stk (pre ++ [x])).reverse = q.reverse ++ [x.1]:=by rw [zDY,hpop,List.reverse_cons]
       have ro2 : ∀ j,rowOf o' = some j → O j ∧ 7 ≤ j:=fun j hj=>ro j (ro' ▸ hj)
       have k2 : ∀ j,j < M.size → j ≠ 1 → j ≠ 2 → j ≠ 6 → rowOf o' ≠ some j → M2.get j = M.get j:=fun j a b c e f=>by
        rw [kp2 j (by omega) f,zA4 wY _ _ _ (fun e=>c e.symm)]
        exact yj j a b e
       have m6 : M2.get 6 = some (.loop .busy none tm [12,13] cO1 cO2 5):=by
        rw [kp2 6 (by omega) (fun e=>by have:=(ro2 6 e).2; omega),zA4 wY _ _ _ (by omega)]
        exact y6
       have m2 : M2.get 2 = some obj':=by
        rw [kp2 2 (by omega) (fun e=>by have:=(ro2 2 e).2; omega)]
        exact zAF wY _ _ l2
       have m1 : 1 < M2.size:=by omega
       have n1 : M2.get 1 = some (.row false [o']):=by
        rw [kp2 1 (by omega) (fun e=>by have:=(ro2 1 e).2; omega),zA4 wY _ _ _ (by omega)]
        exact y1
       simp (maxSteps:=2000000) (disch:=first | omega | assumption | (simp only [DS,Nat.reduceAdd, *]; done) | (simp only [DZ]; omega)) only [RUN,RU,zA2,zA1,lay,reduceIte,Nat.reduceEqDiff,g3,oc2,w2,m6,n1]
       have yl : Yl (OI tm) (pre ++ [x]) O B M ((M2.upd 1 (.row false [o2])).upd 6 (.loop .ready none tm [12,13] cO1 cO2 5)):=by
        have wZ:=w2.upd 1 (.row false [o2])
        have zk : ∀ j,j ≠ 1 → j ≠ 6 → ((M2.upd 1 (.row false [o2])).upd 6 (.loop .ready none tm [12,13] cO1 cO2 5)).get j = M2.get j:=fun j a b=>by
         rw [zA4 wZ _ _ _ (fun e=>b e.symm),zA4 w2 _ _ _ (fun e=>a e.symm)]
        have nro : ∀ j,j < 7 → rowOf o' ≠ some j:=fun j hj e=>by have:=(ro2 j e).2; omega
        have no2 : ∀ j,rowOf o2 = some j → 7 ≤ j ∧ (O j ∨ M.size ≤ j):=fun j hj=>by
         rcases nw2 j hj with e | e
         ·exact ⟨(ro2 j e).2,.inl (ro2 j e).1⟩
         ·exact ⟨by omega,.inr (by omega)⟩
        refine ⟨⟨fun j=>O j ∨ rowOf o2 = some j,⟨wZ.upd _ _,by simp only [zAD]; omega, ?_,⟨o2, ?_, ?_,fun j hj=>⟨.inr hj,(no2 j hj).1⟩⟩,⟨obj', ?_, ?_⟩, ?_, ?_, ?_,.inl h.o1,.inl h.o2,.inl h.o6, ?_,h.od.snoc hS⟩, ?_⟩,wZ.upd _ _,by simp only [zAD]; omega, ?_⟩
        ·rw [zk 0 (by omega) (by omega),k2 0 (by omega) (by omega) (by omega) (by omega) (nro 0 (by omega))]; exact h.g0
        ·rw [zA4 wZ _ _ _ (by omega)]; exact zAF w2 _ _ m1
        ·rw [hst]
         exact sp2.keep fun j hj=>zk j (by have:=(no2 j hj).1; omega) (by have:=(no2 j hj).1; omega)
        ·rw [zk 2 (by omega) (by omega)]; exact m2
        ·rw [List.map_append]; exact hset'
        ·rw [zk 3 (by omega) (by omega),k2 3 (by omega) (by omega) (by omega) (by omega) (nro 3 (by omega))]; exact h.g3
        ·rw [zk 5 (by omega) (by omega),k2 5 (by omega) (by omega) (by omega) (by omega) (nro 5 (by omega))]; exact h.g5
        ·exact zAF wZ _ _ (by simp only [zAD]; omega)
        ·intro j hj
         simp only [zAD]
         rcases hj with hj | hj
         ·exact ⟨by have:=(h.ol j hj).1; omega,(h.ol j hj).2⟩
         ·exact ⟨sp2.lt j hj,.inr (.inr (by have:=(no2 j hj).1; omega))⟩
        ·rintro j (hj | hj)
         ·exact .inl hj
         ·exact (no2 j hj).2
        ·intro j hj hO
         have h1 : j ≠ 1:=fun e=>hO (e ▸ h.o1)
         have h2 : j ≠ 2:=fun e=>hO (e ▸ h.o2)
         have h6 : j ≠ 6:=fun e=>hO (e ▸ h.o6)
         rw [zk j h1 h6]
         exact k2 j hj h1 h2 h6 fun e=>hO (ro2 j e).1
       exact ⟨_,_,_,_,_,_,_,rfl,.inl (.inl yl)⟩
    ·skip
     by_cases c5 : x.1 ∈ pre.map (·.1)
     ·simp only [c5,if_true] at hlk
      simp (maxSteps:=2000000) (disch:=first | omega | assumption | (simp only [DS,Nat.reduceAdd, *]; done) | (simp only [DZ]; omega)) only [RUN,RU,zA2,zA1,slot,lay,zAI,reduceIte,Nat.reduceEqDiff,Int.reduceLT,g2,g4,g5,g7,hne,y0,y3,ya,yc,wY,↓pIdN,zBA,ETA,c3,x_lk,hlk]
      have os : OS tm ((Y.upd 0 (.row false [BL false])).upd 6 (.loop .done (some .ret) tm [12,13] cO1 cO2 5)):=by
       refine ⟨(wY.upd _ _).upd _ _,by simp only [zAD]; omega, ?_, ?_, ?_⟩
       ·rw [zA4 (wY.upd _ _) _ _ _ (by omega)]
        exact zAF wY _ _ l0
       ·rw [zA4 (wY.upd _ _) _ _ _ (by omega),zA4 wY _ _ _ (by omega)]
        exact (yj 5 (by omega) (by omega) (by omega)).trans h.g5
       ·exact zAF (wY.upd _ _) _ _ (by simp only [zAD]; omega)
      refine ⟨_,_,_,_,_,_,_,y6,.inr (.inr ?_)⟩
      first
      | exact os
      | exact ⟨os,by simp [*]⟩
     ·simp only [c5,if_false] at hlk
      simp (maxSteps:=2000000) (disch:=first | omega | assumption | (simp only [DS,Nat.reduceAdd, *]; done) | (simp only [DZ]; omega)) only [RUN,RU,zA2,zA1,slot,zAI,reduceIte,Nat.reduceEqDiff,g4,g5,g7,hne,y3,ya,yc,↓pIdN,zBA,ETA,c3,x_lk,hlk,x_mu]
      refine zLB zJT wY l2 y2 hset x.1 fun obj' hset'=>?_
      simp only [c5,if_false] at hset'
      simp (maxSteps:=2000000) (disch:=first | omega | assumption | (simp only [DS,Nat.reduceAdd, *]; done) | (simp only [DZ]; omega)) only [RUN,RU,zA2,zA1,slot,lay,zAI,zA6,reduceIte,Nat.reduceEqDiff,Nat.reduceBEq,Nat.reduceAdd,g3,g5,y1,ya]
      refine ⟨spY.rows (by omega),SlP.app1 (bytes:=24) (x:=x.1) (wY.upd 2 obj') (spY.keep fun j hj=>zA4 wY _ _ _ (by have:=(ro j (ro' ▸ hj)).2; omega)) zGZ ⟨rfl,hx⟩ rfl (by omega) (by rw [List.length_reverse]; omega) (by rw [List.length_reverse]; omega) fun o2 M2 sp2 w2 le2 kp2 nw2 rl2 on2 oc2=>?_⟩
      rw [zAD] at le2 kp2 nw2
      have hS : ordS x (stk pre) (pre.map (·.1)) = true:=by
       unfold ordS
       rw [hpop]
       simp [*]
      have hst : (stk (pre ++ [x])).reverse = q.reverse ++ [x.1]:=by rw [zDY,hpop,List.reverse_cons]
      have ro2 : ∀ j,rowOf o' = some j → O j ∧ 7 ≤ j:=fun j hj=>ro j (ro' ▸ hj)
      have k2 : ∀ j,j < M.size → j ≠ 1 → j ≠ 2 → j ≠ 6 → rowOf o' ≠ some j → M2.get j = M.get j:=fun j a b c e f=>by
       rw [kp2 j (by omega) f,zA4 wY _ _ _ (fun e=>c e.symm)]
       exact yj j a b e
      have m6 : M2.get 6 = some (.loop .busy none tm [12,13] cO1 cO2 5):=by
       rw [kp2 6 (by omega) (fun e=>by have:=(ro2 6 e).2; omega),zA4 wY _ _ _ (by omega)]
       exact y6
      have m2 : M2.get 2 = some obj':=by
       rw [kp2 2 (by omega) (fun e=>by have:=(ro2 2 e).2; omega)]
       exact zAF wY _ _ l2
      have m1 : 1 < M2.size:=by omega
      have n1 : M2.get 1 = some (.row false [o']):=by
       rw [kp2 1 (by omega) (fun e=>by have:=(ro2 1 e).2; omega),zA4 wY _ _ _ (by omega)]
       exact y1
      simp (maxSteps:=2000000) (disch:=first | omega | assumption | (simp only [DS,Nat.reduceAdd, *]; done) | (simp only [DZ]; omega)) only [RUN,RU,zA2,zA1,lay,reduceIte,Nat.reduceEqDiff,g3,oc2,w2,m6,n1]
      have yl : Yl (OI tm) (pre ++ [x]) O B M ((M2.upd 1 (.row false [o2])).upd 6 (.loop .ready none tm [12,13] cO1 cO2 5)):=by
       have wZ:=w2.upd 1 (.row false [o2])
       have zk : ∀ j,j ≠ 1 → j ≠ 6 → ((M2.upd 1 (.row false [o2])).upd 6 (.loop .ready none tm [12,13] cO1 cO2 5)).get j = M2.get j:=fun j a b=>by
        rw [zA4 wZ _ _ _ (fun e=>b e.symm),zA4 w2 _ _ _ (fun e=>a e.symm)]
       have nro : ∀ j,j < 7 → rowOf o' ≠ some j:=fun j hj e=>by have:=(ro2 j e).2; omega
       have no2 : ∀ j,rowOf o2 = some j → 7 ≤ j ∧ (O j ∨ M.size ≤ j):=fun j hj=>by
        rcases nw2 j hj with e | e
        ·exact ⟨(ro2 j e).2,.inl (ro2 j e).1⟩
        ·exact ⟨by omega,.inr (by omega)⟩
       refine ⟨⟨fun j=>O j ∨ rowOf o2 = some j,⟨wZ.upd _ _,by simp only [zAD]; omega, ?_,⟨o2, ?_, ?_,fun j hj=>⟨.inr hj,(no2 j hj).1⟩⟩,⟨obj', ?_, ?_⟩, ?_, ?_, ?_,.inl h.o1,.inl h.o2,.inl h.o6, ?_,h.od.snoc hS⟩, ?_⟩,wZ.upd _ _,by simp only [zAD]; omega, ?_⟩
       ·rw [zk 0 (by omega) (by omega),k2 0 (by omega) (by omega) (by omega) (by omega) (nro 0 (by omega))]; exact h.g0
       ·rw [zA4 wZ _ _ _ (by omega)]; exact zAF w2 _ _ m1
       ·rw [hst]
        exact sp2.keep fun j hj=>zk j (by have:=(no2 j hj).1; omega) (by have:=(no2 j hj).1; omega)
       ·rw [zk 2 (by omega) (by omega)]; exact m2
       ·rw [List.map_append]; exact hset'
       ·rw [zk 3 (by omega) (by omega),k2 3 (by omega) (by omega) (by omega) (by omega) (nro 3 (by omega))]; exact h.g3
       ·rw [zk 5 (by omega) (by omega),k2 5 (by omega) (by omega) (by omega) (by omega) (nro 5 (by omega))]; exact h.g5
       ·exact zAF wZ _ _ (by simp only [zAD]; omega)
       ·intro j hj
        simp only [zAD]
        rcases hj with hj | hj
        ·exact ⟨by have:=(h.ol j hj).1; omega,(h.ol j hj).2⟩
        ·exact ⟨sp2.lt j hj,.inr (.inr (by have:=(no2 j hj).1; omega))⟩
       ·rintro j (hj | hj)
        ·exact .inl hj
        ·exact (no2 j hj).2
       ·intro j hj hO
        have h1 : j ≠ 1:=fun e=>hO (e ▸ h.o1)
        have h2 : j ≠ 2:=fun e=>hO (e ▸ h.o2)
        have h6 : j ≠ 6:=fun e=>hO (e ▸ h.o6)
        rw [zk j h1 h6]
        exact k2 j hj h1 h2 h6 fun e=>hO (ro2 j e).1
      exact ⟨_,_,_,_,_,_,_,rfl,.inl (.inl yl)⟩
   ·have q2 : decide ((stk pre)[i] = x.2) = false:=decide_eq_false hte
    simp (maxSteps:=2000000) (disch:=first | omega | assumption | (simp only [DS,Nat.reduceAdd, *]; done) | (simp only [DZ]; omega)) only [RUN,RU,zA2,slot,reduceIte,Nat.reduceEqDiff,Nat.reduceBEq,Nat.reduceAdd,g3,olen,q2,w1,c1]
    refine ⟨spN.rows (by omega), ?_⟩
    rw [hslc _ (fun id hid=>by
     have:=spN.lt id hid
     rw [zA4 (w.add _) _ _ _ (by omega),zAG w _ _ this])]
    have oco:=spc.one
    have occ:=spc.cells
    have ocr:=fun m hm=>spc.rows (m:=m) hm
    simp (maxSteps:=2000000) (disch:=first | omega | assumption | (simp only [DS,Nat.reduceAdd, *]; done) | (simp only [DZ]; omega)) only [RUN,RU,zA2,lay,reduceIte,Nat.reduceEqDiff,Nat.reduceBEq,Nat.reduceAdd,g2,g3,g4,g5,g6,g7,occ,c1,ca,cb,cc,w]
    have ror:=spN.row1 hrow
    have rid7 : 7 ≤ rid ∧ rid < M.size:=by
     have e : rowOf o = some rid:=ro' ▸ hrow
     exact ⟨(ro rid e).2,sp.lt rid e⟩
    refine ⟨?_,hlt,(stk pre).length - (i + 1),by omega,i + 1,oc,rfl,by omega,by omega,fun j a b=>?_,rfl, ?_,roc.trans ro', ?_, ?_⟩
    ·have e1 : ¬(M.size + 1 + 1 = 1):=by omega
     have e2 : ¬(M.size + 1 + 1 = rid):=by omega
     rw [ror]
     simp [FP.apart,disj,FP.reads,FP.writes,fpOf,e2]
    ·rw [zA4 (((w.add _).upd _ _).upd _ _) _ _ _ (by omega),zA4 ((w.add _).upd _ _) _ _ _ (by omega),zA4 (w.add _) _ _ _ (by omega),zAG w _ _ (by omega)]
     exact kk j a b
    ·have e : ((stk pre).drop i).reverse.take ((stk pre).length - i - 1) = ((stk pre).drop (i + 1)).reverse:=by
      rw [List.take_reverse,List.drop_drop,List.length_drop]
      congr 2
      omega
     rw [← e]
     refine spc.keep fun j hj=>?_
     rw [roc,hrow] at hj
     injection hj with hj
     subst hj
     rw [zA4 (((w.add _).upd _ _).upd _ _) _ _ _ (by omega),zA4 ((w.add _).upd _ _) _ _ _ (by omega),zA4 (w.add _) _ _ _ (by omega),zAG w _ _ (by omega)]
    ·have e : ((stk pre).take (i + 1)).getLast?.getD Eid.z = (stk pre)[i]:=by
      rw [zBJ _ _ hc,List.getLast?_concat]; rfl
     rw [e]
    ·intro t ht
     rw [zBJ _ _ hc] at ht
     rcases List.mem_append.1 ht with ht | ht
     ·exact hm t ht
     ·rw [List.mem_singleton] at ht; subst ht; exact hte
  ·obtain rfl : i = (stk pre).length:=by omega
   have q1 : decide ((0 : Int) < ((stk pre).length - (stk pre).length : Nat)) = false:=decide_eq_false (by omega)
   have hne : decide (((((stk pre).length - (stk pre).length : Nat) : Int)) = 0) = true:=decide_eq_true (by omega)
   have hqz : decide ((stk pre).drop (stk pre).length = []) = true:=decide_eq_true (List.drop_length)
   have hpop:=zI1 (el:=Eid.z) (q:=(stk pre).drop (stk pre).length) hm (.inl List.drop_length)
   rw [List.take_append_drop] at hpop
   simp (maxSteps:=2000000) (disch:=first | omega | assumption | (simp only [DS,Nat.reduceAdd, *]; done) | (simp only [DZ]; omega)) only [RUN,RU,zA2,zA1,reduceIte,Nat.reduceEqDiff,g3,olen,q1,c1]
   obtain ⟨Y,hY⟩ : ∃ Y,Y = N:=⟨N,rfl⟩
   rw [← hY]
   have wY : Wf Y:=by rw [hY]; exact w
   have lY : N.size ≤ Y.size:=by rw [hY]; omega
   have kY : ∀ j,j < N.size → Y.get j = N.get j:=fun j hj=>by rw [hY]
   clear hY
   have y0 : Y.get 0 = some (.row false [BL false]):=(kY 0 (by omega)).trans ((kk 0 (by omega) (by omega)).trans ((gX 0 (by omega) (by omega)).trans h.g0))
   have y1:=(kY 1 (by omega)).trans c1
   have y2:=(kY 2 (by omega)).trans ((kk 2 (by omega) (by omega)).trans ((gX 2 (by omega) (by omega)).trans gm2))
   have y3:=(kY 3 (by omega)).trans ((kk 3 (by omega) (by omega)).trans ((gX 3 (by omega) (by omega)).trans h.g3))
   have y6:=(kY 6 (by omega)).trans ((kk 6 (by omega) (by omega)).trans x6)
   have ya:=(kY _ (by omega)).trans ca
   have yb:=(kY _ (by omega)).trans cb
   have yc:=(kY _ (by omega)).trans cc
   have yj : ∀ j,j < M.size → j ≠ 1 → j ≠ 6 → Y.get j = M.get j:=fun j a b c=>(kY j (by omega)).trans ((kk j a b).trans (gX j a c))
   have spY : SlP Y 4 zJY o' ((stk pre).drop (stk pre).length).reverse:=spN.keep fun j hj=>kY j (spN.lt j hj)
   clear kY kk w c1 ca cb cc spN l1 la lb lc
   have l1:=Mem.get_lt y1
   have la:=Mem.get_lt ya
   have lb:=Mem.get_lt yb
   have lc:=Mem.get_lt yc
   have l2:=Mem.get_lt y2
   have l3:=Mem.get_lt y3
   have l0:=Mem.get_lt y0
   have hlk:=zOC zJT (z:=.int .i64 0) y2 hset x.1
   unfold ordS
   rw [hpop]
   simp only [hqz]
   have hql : ((stk pre).drop (stk pre).length).length ≤ pre.length:=by rw [List.length_drop]; omega
   generalize (stk pre).drop (stk pre).length = q at *
   generalize ((stk pre).take (stk pre).length).getLast?.getD Eid.z = el at *
   have hls:=fun M=>@zEO fuel (d + 4) x.1 el M
   cases c2 : decide (x.2 = Eid.z)
   ·simp (maxSteps:=2000000) (disch:=first | omega | assumption | (simp only [DS,Nat.reduceAdd, *]; done) | (simp only [DZ]; omega)) only [RUN,RU,zA2,zA1,slot,lay,zAI,reduceIte,Nat.reduceEqDiff,g2,g6,hne,y0,yb,wY,↓pIdN,zBA,ETA,c2]
    have os : OS tm ((Y.upd 0 (.row false [BL false])).upd 6 (.loop .done (some .ret) tm [12,13] cO1 cO2 5)):=by
     refine ⟨(wY.upd _ _).upd _ _,by simp only [zAD]; omega, ?_, ?_, ?_⟩
     ·rw [zA4 (wY.upd _ _) _ _ _ (by omega)]
      exact zAF wY _ _ l0
     ·rw [zA4 (wY.upd _ _) _ _ _ (by omega),zA4 wY _ _ _ (by omega)]
      exact (yj 5 (by omega) (by omega) (by omega)).trans h.g5
     ·exact zAF (wY.upd _ _) _ _ (by simp only [zAD]; omega)
    refine ⟨_,_,_,_,_,_,_,y6,.inr (.inr ?_)⟩
    first
    | exact os
    | exact ⟨os,by simp [*]⟩
   ·skip
    cases c3 : decide (el = Eid.z)
    ·cases c4 : x.1.less el
     ·rw [c4] at hls
      simp (maxSteps:=2000000) (disch:=first | omega | assumption | (simp only [DS,Nat.reduceAdd, *]; done) | (simp only [DZ]; omega)) only [RUN,RU,zA2,zA1,slot,lay,zAI,reduceIte,Nat.reduceEqDiff,g2,g5,g6,g7,hne,y0,ya,yb,yc,wY,↓pIdN,zBA,ETA,c2,c3,hls]
      have os : OS tm ((Y.upd 0 (.row false [BL false])).upd 6 (.loop .done (some .ret) tm [12,13] cO1 cO2 5)):=by
       refine ⟨(wY.upd _ _).upd _ _,by simp only [zAD]; omega, ?_, ?_, ?_⟩
       ·rw [zA4 (wY.upd _ _) _ _ _ (by omega)]
        exact zAF wY _ _ l0
       ·rw [zA4 (wY.upd _ _) _ _ _ (by omega),zA4 wY _ _ _ (by omega)]
        exact (yj 5 (by omega) (by omega) (by omega)).trans h.g5
       ·exact zAF (wY.upd _ _) _ _ (by simp only [zAD]; omega)
      refine ⟨_,_,_,_,_,_,_,y6,.inr (.inr ?_)⟩
      first
      | exact os
      | exact ⟨os,by simp [*]⟩
     ·rw [c4] at hls
      by_cases c5 : x.1 ∈ pre.map (·.1)
      ·simp only [c5,if_true] at hlk
       simp (maxSteps:=2000000) (disch:=first | omega | assumption | (simp only [DS,Nat.reduceAdd, *]; done) | (simp only [DZ]; omega)) only [RUN,RU,zA2,zA1,slot,lay,zAI,reduceIte,Nat.reduceEqDiff,Int.reduceLT,g2,g4,g5,g6,g7,hne,y0,y3,ya,yb,yc,wY,↓pIdN,zBA,ETA,c2,c3,hls,x_lk,hlk]
       have os : OS tm ((Y.upd 0 (.row false [BL false])).upd 6 (.loop .done (some .ret) tm [12,13] cO1 cO2 5)):=by
        refine ⟨(wY.upd _ _).upd _ _,by simp only [zAD]; omega, ?_, ?_, ?_⟩
        ·rw [zA4 (wY.upd _ _) _ _ _ (by omega)]
         exact zAF wY _ _ l0
        ·rw [zA4 (wY.upd _ _) _ _ _ (by omega),zA4 wY _ _ _ (by omega)]
         exact (yj 5 (by omega) (by omega) (by omega)).trans h.g5
        ·exact zAF (wY.upd _ _) _ _ (by simp only [zAD]; omega)
       refine ⟨_,_,_,_,_,_,_,y6,.inr (.inr ?_)⟩
       first
       | exact os
       | exact ⟨os,by simp [*]⟩
      ·simp only [c5,if_false] at hlk
       simp (maxSteps:=2000000) (disch:=first | omega | assumption | (simp only [DS,Nat.reduceAdd, *]; done) | (simp only [DZ]; omega)) only [RUN,RU,zA2,zA1,slot,zAI,reduceIte,Nat.reduceEqDiff,g4,g5,g6,g7,hne,y3,ya,yb,yc,↓pIdN,zBA,ETA,c2,c3,hls,x_lk,hlk,x_mu]
       refine zLB zJT wY l2 y2 hset x.1 fun obj' hset'=>?_
       simp only [c5,if_false] at hset'
       simp (maxSteps:=2000000) (disch:=first | omega | assumption | (simp only [DS,Nat.reduceAdd, *]; done) | (simp only [DZ]; omega)) only [RUN,RU,zA2,zA1,slot,lay,zAI,zA6,reduceIte,Nat.reduceEqDiff,Nat.reduceBEq,Nat.reduceAdd,g3,g5,y1,ya]
       refine ⟨spY.rows (by omega),SlP.app1 (bytes:=24) (x:=x.1) (wY.upd 2 obj') (spY.keep fun j hj=>zA4 wY _ _ _ (by have:=(ro j (ro' ▸ hj)).2; omega)) zGZ ⟨rfl,hx⟩ rfl (by omega) (by rw [List.length_reverse]; omega) (by rw [List.length_reverse]; omega) fun o2 M2 sp2 w2 le2 kp2 nw2 rl2 on2 oc2=>?_⟩
       rw [zAD] at le2 kp2 nw2
       have hS : ordS x (stk pre) (pre.map (·.1)) = true:=by
        unfold ordS
        rw [hpop]
        simp [*]
       have hst : (stk (pre ++ [x])).reverse = q.reverse ++ [x.1]:=by rw [zDY,hpop,List.reverse_cons]
       have ro2 : ∀ j,rowOf o' = some j → O j ∧ 7 ≤ j:=fun j hj=>ro j (ro' ▸ hj)
       have k2 : ∀ j,j < M.size → j ≠ 1 → j ≠ 2 → j ≠ 6 → rowOf o' ≠ some j → M2.get j = M.get j:=fun j a b c e f=>by
        rw [kp2 j (by omega) f,zA4 wY _ _ _ (fun e=>c e.symm)]
        exact yj j a b e
       have m6 : M2.get 6 = some (.loop .busy none tm [12,13] cO1 cO2 5):=by
        rw [kp2 6 (by omega) (fun e=>by have:=(ro2 6 e).2; omega),zA4 wY _ _ _ (by omega)]
        exact y6
       have m2 : M2.get 2 = some obj':=by
        rw [kp2 2 (by omega) (fun e=>by have:=(ro2 2 e).2; omega)]
        exact zAF wY _ _ l2
       have m1 : 1 < M2.size:=by omega
       have n1 : M2.get 1 = some (.row false [o']):=by
        rw [kp2 1 (by omega) (fun e=>by have:=(ro2 1 e).2; omega),zA4 wY _ _ _ (by omega)]
        exact y1
       simp (maxSteps:=2000000) (disch:=first | omega | assumption | (simp only [DS,Nat.reduceAdd, *]; done) | (simp only [DZ]; omega)) only [RUN,RU,zA2,zA1,lay,reduceIte,Nat.reduceEqDiff,g3,oc2,w2,m6,n1]
       have yl : Yl (OI tm) (pre ++ [x]) O B M ((M2.upd 1 (.row false [o2])).upd 6 (.loop .ready none tm [12,13] cO1 cO2 5)):=by
        have wZ:=w2.upd 1 (.row false [o2])
        have zk : ∀ j,j ≠ 1 → j ≠ 6 → ((M2.upd 1 (.row false [o2])).upd 6 (.loop .ready none tm [12,13] cO1 cO2 5)).get j = M2.get j:=fun j a b=>by
         rw [zA4 wZ _ _ _ (fun e=>b e.symm),zA4 w2 _ _ _ (fun e=>a e.symm)]
        have nro : ∀ j,j < 7 → rowOf o' ≠ some j:=fun j hj e=>by have:=(ro2 j e).2; omega
        have no2 : ∀ j,rowOf o2 = some j → 7 ≤ j ∧ (O j ∨ M.size ≤ j):=fun j hj=>by
         rcases nw2 j hj with e | e
         ·exact ⟨(ro2 j e).2,.inl (ro2 j e).1⟩
         ·exact ⟨by omega,.inr (by omega)⟩
        refine ⟨⟨fun j=>O j ∨ rowOf o2 = some j,⟨wZ.upd _ _,by simp only [zAD]; omega, ?_,⟨o2, ?_, ?_,fun j hj=>⟨.inr hj,(no2 j hj).1⟩⟩,⟨obj', ?_, ?_⟩, ?_, ?_, ?_,.inl h.o1,.inl h.o2,.inl h.o6, ?_,h.od.snoc hS⟩, ?_⟩,wZ.upd _ _,by simp only [zAD]; omega, ?_⟩
        ·rw [zk 0 (by omega) (by omega),k2 0 (by omega) (by omega) (by omega) (by omega) (nro 0 (by omega))]; exact h.g0
        ·rw [zA4 wZ _ _ _ (by omega)]; exact zAF w2 _ _ m1
        ·rw [hst]
         exact sp2.keep fun j hj=>zk j (by have:=(no2 j hj).1; omega) (by have:=(no2 j hj).1; omega)
        ·rw [zk 2 (by omega) (by omega)]; exact m2
        ·rw [List.map_append]; exact hset'
        ·rw [zk 3 (by omega) (by omega),k2 3 (by omega) (by omega) (by omega) (by omega) (nro 3 (by omega))]; exact h.g3
        ·rw [zk 5 (by omega) (by omega),k2 5 (by omega) (by omega) (by omega) (by omega) (nro 5 (by omega))]; exact h.g5
        ·exact zAF wZ _ _ (by simp only [zAD]; omega)
        ·intro j hj
         simp only [zAD]
         rcases hj with hj | hj
         ·exact ⟨by have:=(h.ol j hj).1; omega,(h.ol j hj).2⟩
         ·exact ⟨sp2.lt j hj,.inr (.inr (by have:=(no2 j hj).1; omega))⟩
        ·rintro j (hj | hj)
         ·exact .inl hj
         ·exact (no2 j hj).2
        ·intro j hj hO
         have h1 : j ≠ 1:=fun e=>hO (e ▸ h.o1)
         have h2 : j ≠ 2:=fun e=>hO (e ▸ h.o2)
         have h6 : j ≠ 6:=fun e=>hO (e ▸ h.o6)
         rw [zk j h1 h6]
         exact k2 j hj h1 h2 h6 fun e=>hO (ro2 j e).1
       exact ⟨_,_,_,_,_,_,_,rfl,.inl (.inl yl)⟩
    ·skip
     by_cases c5 : x.1 ∈ pre.map (·.1)
     ·simp only [c5,if_true] at hlk
      simp (maxSteps:=2000000) (disch:=first | omega | assumption | (simp only [DS,Nat.reduceAdd, *]; done) | (simp only [DZ]; omega)) only [RUN,RU,zA2,zA1,slot,lay,zAI,reduceIte,Nat.reduceEqDiff,Int.reduceLT,g2,g4,g5,g6,g7,hne,y0,y3,ya,yb,yc,wY,↓pIdN,zBA,ETA,c2,c3,x_lk,hlk]
      have os : OS tm ((Y.upd 0 (.row false [BL false])).upd 6 (.loop .done (some .ret) tm [12,13] cO1 cO2 5)):=by
       refine ⟨(wY.upd _ _).upd _ _,by simp only [zAD]; omega, ?_, ?_, ?_⟩
       ·rw [zA4 (wY.upd _ _) _ _ _ (by omega)]
        exact zAF wY _ _ l0
       ·rw [zA4 (wY.upd _ _) _ _ _ (by omega),zA4 wY _ _ _ (by omega)]
        exact (yj 5 (by omega) (by omega) (by omega)).trans h.g5
       ·exact zAF (wY.upd _ _) _ _ (by simp only [zAD]; omega)
      refine ⟨_,_,_,_,_,_,_,y6,.inr (.inr ?_)⟩
      first
      | exact os
      | exact ⟨os,by simp [*]⟩
     ·simp only [c5,if_false] at hlk
      simp (maxSteps:=2000000) (disch:=first | omega | assumption | (simp only [DS,Nat.reduceAdd, *]; done) | (simp only [DZ]; omega)) only [RUN,RU,zA2,zA1,slot,zAI,reduceIte,Nat.reduceEqDiff,g4,g5,g6,g7,hne,y3,ya,yb,yc,↓pIdN,zBA,ETA,c2,c3,x_lk,hlk,x_mu]
      refine zLB zJT wY l2 y2 hset x.1 fun obj' hset'=>?_
      simp only [c5,if_false] at hset'
      simp (maxSteps:=2000000) (disch:=first | omega | assumption | (simp only [DS,Nat.reduceAdd, *]; done) | (simp only [DZ]; omega)) only [RUN,RU,zA2,zA1,slot,lay,zAI,zA6,reduceIte,Nat.reduceEqDiff,Nat.reduceBEq,Nat.reduceAdd,g3,g5,y1,ya]
      refine ⟨spY.rows (by omega),SlP.app1 (bytes:=24) (x:=x.1) (wY.upd 2 obj') (spY.keep fun j hj=>zA4 wY _ _ _ (by have:=(ro j (ro' ▸ hj)).2; omega)) zGZ ⟨rfl,hx⟩ rfl (by omega) (by rw [List.length_reverse]; omega) (by rw [List.length_reverse]; omega) fun o2 M2 sp2 w2 le2 kp2 nw2 rl2 on2 oc2=>?_⟩
      rw [zAD] at le2 kp2 nw2
      have hS : ordS x (stk pre) (pre.map (·.1)) = true:=by
       unfold ordS
       rw [hpop]
       simp [*]
      have hst : (stk (pre ++ [x])).reverse = q.reverse ++ [x.1]:=by rw [zDY,hpop,List.reverse_cons]
      have ro2 : ∀ j,rowOf o' = some j → O j ∧ 7 ≤ j:=fun j hj=>ro j (ro' ▸ hj)
      have k2 : ∀ j,j < M.size → j ≠ 1 → j ≠ 2 → j ≠ 6 → rowOf o' ≠ some j → M2.get j = M.get j:=fun j a b c e f=>by
       rw [kp2 j (by omega) f,zA4 wY _ _ _ (fun e=>c e.symm)]
       exact yj j a b e
      have m6 : M2.get 6 = some (.loop .busy none tm [12,13] cO1 cO2 5):=by
       rw [kp2 6 (by omega) (fun e=>by have:=(ro2 6 e).2; omega),zA4 wY _ _ _ (by omega)]
       exact y6
      have m2 : M2.get 2 = some obj':=by
       rw [kp2 2 (by omega) (fun e=>by have:=(ro2 2 e).2; omega)]
       exact zAF wY _ _ l2
      have m1 : 1 < M2.size:=by omega
      have n1 : M2.get 1 = some (.row false [o']):=by
       rw [kp2 1 (by omega) (fun e=>by have:=(ro2 1 e).2; omega),zA4 wY _ _ _ (by omega)]
       exact y1
      simp (maxSteps:=2000000) (disch:=first | omega | assumption | (simp only [DS,Nat.reduceAdd, *]; done) | (simp only [DZ]; omega)) only [RUN,RU,zA2,zA1,lay,reduceIte,Nat.reduceEqDiff,g3,oc2,w2,m6,n1]
      have yl : Yl (OI tm) (pre ++ [x]) O B M ((M2.upd 1 (.row false [o2])).upd 6 (.loop .ready none tm [12,13] cO1 cO2 5)):=by
       have wZ:=w2.upd 1 (.row false [o2])
       have zk : ∀ j,j ≠ 1 → j ≠ 6 → ((M2.upd 1 (.row false [o2])).upd 6 (.loop .ready none tm [12,13] cO1 cO2 5)).get j = M2.get j:=fun j a b=>by
        rw [zA4 wZ _ _ _ (fun e=>b e.symm),zA4 w2 _ _ _ (fun e=>a e.symm)]
       have nro : ∀ j,j < 7 → rowOf o' ≠ some j:=fun j hj e=>by have:=(ro2 j e).2; omega
       have no2 : ∀ j,rowOf o2 = some j → 7 ≤ j ∧ (O j ∨ M.size ≤ j):=fun j hj=>by
        rcases nw2 j hj with e | e
        ·exact ⟨(ro2 j e).2,.inl (ro2 j e).1⟩
        ·exact ⟨by omega,.inr (by omega)⟩
       refine ⟨⟨fun j=>O j ∨ rowOf o2 = some j,⟨wZ.upd _ _,by simp only [zAD]; omega, ?_,⟨o2, ?_, ?_,fun j hj=>⟨.inr hj,(no2 j hj).1⟩⟩,⟨obj', ?_, ?_⟩, ?_, ?_, ?_,.inl h.o1,.inl h.o2,.inl h.o6, ?_,h.od.snoc hS⟩, ?_⟩,wZ.upd _ _,by simp only [zAD]; omega, ?_⟩
       ·rw [zk 0 (by omega) (by omega),k2 0 (by omega) (by omega) (by omega) (by omega) (nro 0 (by omega))]; exact h.g0
       ·rw [zA4 wZ _ _ _ (by omega)]; exact zAF w2 _ _ m1
       ·rw [hst]
        exact sp2.keep fun j hj=>zk j (by have:=(no2 j hj).1; omega) (by have:=(no2 j hj).1; omega)
       ·rw [zk 2 (by omega) (by omega)]; exact m2
       ·rw [List.map_append]; exact hset'
       ·rw [zk 3 (by omega) (by omega),k2 3 (by omega) (by omega) (by omega) (by omega) (nro 3 (by omega))]; exact h.g3
       ·rw [zk 5 (by omega) (by omega),k2 5 (by omega) (by omega) (by omega) (by omega) (nro 5 (by omega))]; exact h.g5
       ·exact zAF wZ _ _ (by simp only [zAD]; omega)
       ·intro j hj
        simp only [zAD]
        rcases hj with hj | hj
        ·exact ⟨by have:=(h.ol j hj).1; omega,(h.ol j hj).2⟩
        ·exact ⟨sp2.lt j hj,.inr (.inr (by have:=(no2 j hj).1; omega))⟩
       ·rintro j (hj | hj)
        ·exact .inl hj
        ·exact (no2 j hj).2
       ·intro j hj hO
        have h1 : j ≠ 1:=fun e=>hO (e ▸ h.o1)
        have h2 : j ≠ 2:=fun e=>hO (e ▸ h.o2)
        have h6 : j ≠ 6:=fun e=>hO (e ▸ h.o6)
        rw [zk j h1 h6]
        exact k2 j hj h1 h2 h6 fun e=>hO (ro2 j e).1
      exact ⟨_,_,_,_,_,_,_,rfl,.inl (.inl yl)⟩
end Go.Proofs.YteognbdgdcjeeaaGreat
namespace Go.Proofs.YteognbdgdcjeeaaGreat
open Go Go.Ax
variable {fuel : Nat} {M : Mem} {Q : AV → Mem → Prop} {d : Nat}
theorem zPD {a : AV} {l : List Rn} (hS : Sl 10 isRn a l) (wf : Wf M) (k : Q (.fn 69 [] [.ptr M.size 0]) (M.add (.row false [a]))) :
  W3 (zAE Tryz.prog (fsT tbl) fuel (d + 1) (.fn 44) [a] M) Q:=by
 have oa:=hS.one
 refine zB3 tf44 rfl (by simp [a44]) fun b' ht hx=>?_
 have h0:=hx 0 _ rfl
 clear hx
 simp only [a44,c44] at ht ⊢
 simp (maxSteps:=2000000) (disch:=first | omega | assumption | (simp only [DS,Nat.reduceAdd, *]; done) | (simp only [DZ]; omega)) only [RUN,RU,zA2,zA1,zA0,zAB,reduceIte,Nat.reduceEqDiff,h0,hS.fz.cells]
 exact k
theorem zZR {a : AV} {l : List Rn} (hS : Sl 10 isRn a l) : ∀ r ∈ l,r.ok:=by
 intro r hr
 obtain ⟨i,hi,rfl⟩:=List.getElem_of_mem hr
 obtain ⟨_,_,⟨_,_,_,hok⟩,_⟩:=hS.iad i hi
 exact hok
theorem zX1 {l : List Rn} (h : ∀ r ∈ l,r.ok) (hm : ∀ r ∈ l,r.may = true) : ∀ x ∈ elsL l,x.1.ok:=by
 intro x hx
 obtain ⟨r,hr,hx⟩:=List.mem_flatMap.1 hx
 obtain ⟨i,hi,rfl⟩:=List.mem_map.1 hx
 rw [List.mem_range] at hi
 have hb:=Spn.may_le (Rn.may_sp (hm r hr))
 have hk:=h r hr
 refine ⟨hk.1.1.1, ?_⟩
 simp only [Spn.at,i64R]
 omega
theorem zIN {l : List Rn} (hm : ∀ r ∈ l,r.may = true) : (elsL l).length ≤ 64 * l.length:=by
 have:=zE8 hm
 have e:=zDH hm
 rw [← zK5]
 unfold prs
 rw [List.length_map]
 omega
theorem zYD {X : Mem} {tm : List AV} {a : AV} {l : List Rn} (hS : Sl 10 isRn a l) (hl : l.length ≤ 1000) (hm : ∀ r ∈ l,r.may = true) (hf : 64 * l.length + 1000 < fuel) (w : Wf X) (h2 : nth zA9 tm 2 = .ptr 0 0) (h3 : nth zA9 tm 3 = .ptr 1 0) (h4 : nth zA9 tm 4 = .ptr 3 0) (hlen : tm.length = 63) (hX : X.size = 5) (g0 : X.get 0 = some (.row false [BL false])) (g1 : X.get 1 = some (.row false [NIL])) (g2 : X.get 2 = some (.map [] 0)) (g3 : X.get 3 = some (.row false [.mp 2])) (g4 : X.get 4 = some (.row false [a]))
  (kt : Ord (elsL l) → ∀ u O N,OI tm (elsL l) O N → Q u N) (ks : ¬Ord (elsL l) → ∀ u N,OS tm N → Q u N) :
  W3 (zAE Tryz.prog (fsT tbl) fuel (d + 8) (.fn 69) ([] ++ [.yl (X.size + 1)] ++ [.ptr 4 0]) ((X.add (.dfr false)).add (.loop .ready none tm [12,13] cO1 cO2 X.size))) Q:=by
 have w1:=w.add (.dfr false)
 have hel:=zIN hm
 have heo:=zX1 (zZR hS) hm
 have e : X.size + 1 = 6:=by omega
 have u : ∀ j,j < 5 → ((X.add (.dfr false)).add (.loop .ready none tm [12,13] cO1 cO2 X.size)).get j = X.get j:=fun j hj=>by
  rw [zAG w1 _ _ (by rw [zA7]; omega),zAG w _ _ (by omega)]
 have hJ0 : OI tm [] (fun j=>j = 1 ∨ j = 2 ∨ j = 6) ((X.add (.dfr false)).add (.loop .ready none tm [12,13] cO1 cO2 X.size)):=by
  refine ⟨w1.add _,by simp only [zA7]; omega,(u 0 (by omega)).trans g0,⟨NIL,(u 1 (by omega)).trans g1,SlP.nil,fun j hj=>by cases hj⟩,⟨_,(u 2 (by omega)).trans g2,zH3.nil _ _⟩,(u 3 (by omega)).trans g3, ?_, ?_,.inl rfl,.inr (.inl rfl),.inr (.inr rfl), ?_,Ord.nil⟩
  ·rw [zAG w1 _ _ (by rw [zA7]; omega),← hX]
   exact zAH w _ _ (Nat.le_refl _) (Nat.lt_succ_self _)
  ·have:=zAH w1 (.loop .ready none tm [12,13] cO1 cO2 X.size) 6 (by rw [zA7]; omega) (by rw [zA7]; omega)
   rw [hX] at this ⊢
   exact this
  ·intro j hj
   simp only [zA7]
   rcases hj with rfl | rfl | rfl <;> omega
 have key:=zUI (d:=d) (fuel:=fuel) (Q:=Q) (J:=OI tm) (S:=fun N=>OS tm N ∧ ¬Ord (elsL l)) (id:=6) (p:=4) hS (by omega) hm (by omega) (w1.add _) ((u 4 (by omega)).trans g4) hJ0 (fun pre O N N' h wf le k=>h.keep wf le k) (fun pre O N h j hj=>(h.ol j hj).1) (fun pre x post O N he h wf le=>?_) (fun u N O h _ _=>kt h.od u O N h) (fun u N h=>ks h.2 u N h.1)
 ·rw [← e] at key
  exact key
 ·have hxm : x ∈ elsL l:=by rw [he]; simp
  have hpl : pre.length ≤ (elsL l).length:=by rw [he]; simp
  obtain ⟨v,N',hc,hv⟩:=zcH (fuel:=fuel) (d:=d) (B:=((X.add (.dfr false)).add (.loop .ready none tm [12,13] cO1 cO2 X.size)).size) h h2 h3 h4 hlen (heo x hxm) (by omega) (by omega)
  refine ⟨v,N',hc, ?_⟩
  rcases hv with ⟨rfl,hv⟩ | ⟨rfl,hv,ho⟩
  ·exact .inl ⟨rfl,hv⟩
  ·refine .inr ⟨rfl,hv,fun k=>?_⟩
   rw [k pre x post he] at ho
   cases ho
open Classical in
set_option maxHeartbeats 4000000 in
theorem zN3 {a : AV} {l : List Rn} (hS : Sl 10 isRn a l) (hl : l.length ≤ 1000) (hm : ∀ r ∈ l,r.may = true) (hf : 64 * l.length + 1000 < fuel) (M : Mem) : zAE Tryz.prog (fsT tbl) fuel (d + 9) (.fn 47) [a] M = some (BL (decide (Ord (elsL l))),M):=by
 have oa:=hS.one
 have hel:=zIN hm
 have heo:=zX1 (zZR hS) hm
 apply zBN
 refine zAJ tf47 rfl (by simp only [icyL,fun M=>hS.icy M 12 (by omega)]) (by simp [a47]) fun b' ht hx=>?_
 have h0:=hx 0 _ rfl
 clear hx
 simp only [a47,c47] at ht ⊢
 have cm : cellsA (.mp 2) = [.mp 2]:=rfl
 have om : oneA (.mp 2) = true:=rfl
 have sm : scs (.map none) = [.sc (.map none)]:=rfl
 simp (maxSteps:=2000000) (disch:=first | omega | assumption | (simp only [DS,Nat.reduceAdd, *]; done) | (simp only [DZ]; omega)) only [RUN,RU,zA2,zA1,lay,reduceIte,Nat.reduceEqDiff,Nat.reduceAdd,h0,zTI,cm,sm]
 refine zPD hS (by simp (maxSteps:=2000000) (disch:=first | omega | assumption | (simp only [DS,Nat.reduceAdd, *]; done) | (simp only [DZ]; omega)) only [RUN]) ?_
 simp (maxSteps:=2000000) (disch:=first | omega | assumption | (simp only [DS,Nat.reduceAdd, *]; done) | (simp only [DZ]; omega)) only [RUN,RU,Nat.reduceAdd]
 refine zWR (g:=69) (first:=[]) (cap:=[.ptr 4 0]) (by simp (maxSteps:=2000000) (disch:=first | omega | assumption | (simp only [DS,Nat.reduceAdd, *]; done) | (simp only [DZ]; omega)) only [RUN]) (by simp (maxSteps:=2000000) (disch:=first | omega | assumption | (simp only [DS,Nat.reduceAdd, *]; done) | (simp only [DZ]; omega)) only [RUN,reduceIte,Nat.reduceEqDiff]) ?_
 refine zYD (d:=d) hS hl hm hf ?_ ?_ ?_ ?_ ?_ ?_ ?_ ?_ ?_ ?_ ?_ (fun ho u O N h=>?_) (fun ho u N h=>?_)
 ·simp (maxSteps:=2000000) (disch:=first | omega | assumption | (simp only [DS,Nat.reduceAdd, *]; done) | (simp only [DZ]; omega)) only [RUN]
 ·simp (maxSteps:=2000000) (disch:=first | omega | assumption | (simp only [DS,Nat.reduceAdd, *]; done) | (simp only [DZ]; omega)) only [RUN,reduceIte,Nat.reduceEqDiff]
 ·simp (maxSteps:=2000000) (disch:=first | omega | assumption | (simp only [DS,Nat.reduceAdd, *]; done) | (simp only [DZ]; omega)) only [RUN,reduceIte,Nat.reduceEqDiff]
 ·simp (maxSteps:=2000000) (disch:=first | omega | assumption | (simp only [DS,Nat.reduceAdd, *]; done) | (simp only [DZ]; omega)) only [RUN,reduceIte,Nat.reduceEqDiff]
 ·rw [zKM]; exact ht
 ·simp (maxSteps:=2000000) (disch:=first | omega | assumption | (simp only [DS,Nat.reduceAdd, *]; done) | (simp only [DZ]; omega)) only [RUN,RU,Nat.reduceAdd]
 ·simp (maxSteps:=2000000) (disch:=first | omega | assumption | (simp only [DS,Nat.reduceAdd, *]; done) | (simp only [DZ]; omega)) only [RUN]
 ·simp (maxSteps:=2000000) (disch:=first | omega | assumption | (simp only [DS,Nat.reduceAdd, *]; done) | (simp only [DZ]; omega)) only [RUN]
 ·simp (maxSteps:=2000000) (disch:=first | omega | assumption | (simp only [DS,Nat.reduceAdd, *]; done) | (simp only [DZ]; omega)) only [RUN]
 ·simp (maxSteps:=2000000) (disch:=first | omega | assumption | (simp only [DS,Nat.reduceAdd, *]; done) | (simp only [DZ]; omega)) only [RUN]
 ·simp (maxSteps:=2000000) (disch:=first | omega | assumption | (simp only [DS,Nat.reduceAdd, *]; done) | (simp only [DZ]; omega)) only [RUN]
 ·have wf:=h.wf
  have sz:=h.sz
  have l0:=Mem.get_lt h.g0
  have l5:=Mem.get_lt h.g5
  have e6 : (mem0.add (.row false [BL false])).size = 1:=rfl
  refine ⟨wf,by simp only [zA7,zAD,zB5]; omega,_,_,_,_,_,_,_,.inl rfl,h.g6, ?_⟩
  generalize hX : N.upd _ _ = X
  have wX : Wf X:=by rw [← hX]; exact wf.upd _ _
  have sX : X.size = N.size:=by rw [← hX]; rfl
  have gX : ∀ j,j ≠ 6 → X.get j = N.get j:=fun j hj=>by rw [← hX]; exact zA4 wf _ _ _ (fun e=>hj e.symm)
  have x0:=(gX 0 (by omega)).trans h.g0
  have x5:=(gX 5 (by omega)).trans h.g5
  have hd : decide (Ord (elsL l)) = true:=decide_eq_true ho
  rw [hd]
  simp (maxSteps:=2000000) (disch:=first | omega | assumption | (simp only [DS,Nat.reduceAdd, *]; done) | (simp only [DZ]; omega)) only [RUN,RU,zA2,zA1,lay,reduceIte,Nat.reduceEqDiff,Nat.reduceAdd,x0,Option.getD_none]
  refine zJK (by simp (maxSteps:=2000000) (disch:=first | omega | assumption | (simp only [DS,Nat.reduceAdd, *]; done) | (simp only [DZ]; omega)) only [RUN,wX]) (by simp (maxSteps:=2000000) (disch:=first | omega | assumption | (simp only [DS,Nat.reduceAdd, *]; done) | (simp only [DZ]; omega)) only [RUN,x5]) ?_
  simp (maxSteps:=2000000) (disch:=first | omega | assumption | (simp only [DS,Nat.reduceAdd, *]; done) | (simp only [DZ]; omega)) only [RUN,RU,zA0,zAB,frzL,reduceIte,Nat.reduceEqDiff]
 ·have wf:=h.wf
  have sz:=h.sz
  have l0:=Mem.get_lt h.g0
  have l5:=Mem.get_lt h.g5
  refine ⟨wf,by simp only [zA7,zAD,zB5]; omega,_,_,_,_,_,_,_,.inr rfl,h.g6, ?_⟩
  generalize hX : N.upd _ _ = X
  have wX : Wf X:=by rw [← hX]; exact wf.upd _ _
  have sX : X.size = N.size:=by rw [← hX]; rfl
  have gX : ∀ j,j ≠ 6 → X.get j = N.get j:=fun j hj=>by rw [← hX]; exact zA4 wf _ _ _ (fun e=>hj e.symm)
  have x0:=(gX 0 (by omega)).trans h.g0
  have x5:=(gX 5 (by omega)).trans h.g5
  have hd : decide (Ord (elsL l)) = false:=decide_eq_false ho
  rw [hd]
  simp (maxSteps:=2000000) (disch:=first | omega | assumption | (simp only [DS,Nat.reduceAdd, *]; done) | (simp only [DZ]; omega)) only [RUN,RU,Nat.reduceAdd,Option.getD_some]
  refine zJK (by simp (maxSteps:=2000000) (disch:=first | omega | assumption | (simp only [DS,Nat.reduceAdd, *]; done) | (simp only [DZ]; omega)) only [wX]) (by simp (maxSteps:=2000000) (disch:=first | omega | assumption | (simp only [DS,Nat.reduceAdd, *]; done) | (simp only [DZ]; omega)) only [x5]) ?_
  simp (maxSteps:=2000000) (disch:=first | omega | assumption | (simp only [DS,Nat.reduceAdd, *]; done) | (simp only [DZ]; omega)) only [RUN,RU,zA0,zAB,frzL,reduceIte,Nat.reduceEqDiff,x0]
end Go.Proofs.YteognbdgdcjeeaaGreat
