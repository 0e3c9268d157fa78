/-
  Texts joined: RgF TrA TrB TrC TrE TrF TpA TpB TpC TrD TpD TpE SwQ TpH RiA RiB RiC RiD RgI.
-/
import Derived.Test.YtmkkecnafjhdmaaGreatEg
import Derived.Test.YtmkkecnafjhdmaaGreatPa
set_option linter.unusedSimpArgs false
set_option linter.unusedVariables false
set_option maxHeartbeats 64000000
set_option maxRecDepth 100000
namespace Go.Proofs.YtmkkecnafjhdmaaGreat
open Go Go.Ax
variable {fuel : Nat} {M : Mem} {Q : AV → Mem → Prop} {d : Nat} {l : List Op} {a : AV} {x : Eid} {v : Lb}
theorem zMI {o:Op}(hm:o.may=true)(hk:o.kd=1):rofE o=0↔o.rn.may=true:=by
 unfold rofE
 rw[if_pos hm]
 by_cases h:o.rn.may=true
 ·rw[if_pos ⟨hk,h⟩];simp [h]
 ·rw[if_neg (fun k=>h k.2)];simp [h]
theorem zDP:∀ {pre l:List Op},zA1 pre l=true → ∀ o∈l,o.kd=1→o.rn.may=true
 | _,[],_,o,ho,_=>absurd ho (by simp)
 | pre,p::l,h,o,ho,hk=>by
  simp only[zA1,Bool.and_eq_true,decide_eq_true_eq] at h
  rcases List.mem_cons.1 ho with rfl | ho
  ·have h0:=zCM h.1.2
   unfold zBG at h0
   rw[if_pos hk] at h0
   unfold insE at h0
   split at h0
   ·cases h0
   ·split at h0
    ·cases h0
    ·rename_i h2
     exact(zMI h.1.1 hk).1 (Classical.byContradiction fun hne=>h2 (.inl hne))
  ·exact zDP h.2 o ho hk
theorem zN7 (l:List Op)(o:Op)(x:Eid):(decide (0≤whI (zAZ l) x)&&x.hd.lb.leq o.hd.lb)=zB9 l o x:=by unfold zB9;rw[zHT]
theorem zNV {o:Op}(hh:zA1 [] l=true)(hm:o.may=true):raiE l o=if allB l o then (if zAL l o then 0 else 2) else 6:=by
 have hc:=zB3 hh
 have h1:chfE l o=0:=by unfold chfE;rw[if_pos hc,hm];rfl
 unfold raiE chfB
 rw[h1]
 simp
theorem zFW {o:Op}{ra:AV}(hS:Sl 17 isOp a l)(hR:Sl 1 zA3 ra o.rs)(ho:o.ok)(hh:zA1 [] l=true)(hom:o.may=true)(hl:l.length≤10000)(hf:64*l.length+2000<fuel)(M:Mem):zCN fuel (d+6) 61 [a,.agg (opR o ra)] M=some (I64 (fitE l o),M):=by
 have ll:=hS.len
 have hsm:=may_sp hom
 have hb:=Spn.may_le hsm
 have hrnm:=zDP hh
 obtain⟨ro,hro,hon⟩:=zCF (fuel:=fuel) (d:=d+1) hS hrnm (by omega) (by omega)
 obtain⟨rn,hrn,hall⟩:=zE1 (fuel:=fuel) (d:=d+4) ho.2.2.2.1 hsm (by omega)
 have lro:=hro.len
 have lrn:=hrn.len
 have hom1:=zDD hrnm
 have hil:(o.sp.ids.length:Int)=o.sp.n:=by unfold Spn.ids;rw[List.length_map,List.length_range];omega
 have hiok:∀ y∈o.sp.ids,y.ok:=fun y hy=>by
  exact zB0I
 have hse:=fun y hy M=>zGO (fuel:=fuel) (d:=d+2) (x:=y) (v:=o.hd.lb) (o:=o) hro hy ho.2.1.1 (by omega) (by omega) M
 simp only[zN7 l o] at hse
 have hwh:=fun y M=>zBZ (fuel:=fuel) (d:=d+4) hro y (by omega) (by omega) M
 have hri:=fun M=>zFV (fuel:=fuel) (d:=d) hS hR ho (zBL hh) hom (by omega) (by omega) M
 have e2048:∀ b:Bool,(2048≤(l.length:Int)↔b=true)→(if 2048≤l.length then (4:Int) else 0)=if b=true then 4 else 0:=fun b h=>by
  by_cases q:2048≤l.length
  ·rw[if_pos q,if_pos (h.1 (by omega))]
  ·rw[if_neg q,if_neg (fun k=>q (by have:=h.2 k;omega))]
 apply w3_eq
 refine call_gc tf61 rfl (by simp only[icyL,fun M=>hS.icy M 12 (by omega),zC9 hR.fz]) (by simp [a61]) fun b' ht hx=>?_
 obtain⟨h0,h1⟩:=hx2 hx
 clear hx
 simp only[a61,c61] at ht ⊢
 unfold fitE zBG
 by_cases hk:o.kd=1
 ·have k1:=decide_eq_true hk
  have k2:decide (o.kd=2)=false:=DF
  have k3:decide (o.kd=3)=false:=DF
  rw[if_pos hk]
  have hsa:=fun M=>hse o.af ho.2.2.2.2.1 M
  have h16:∀ M,zCN fuel (d+5) 93 [.agg [U8 o.sp.f.hd.lb.lv,U32 o.sp.f.hd.lb.cats,U8 o.sp.f.hd.num,I64 o.sp.f.c,I64 o.sp.n,U8 o.af.hd.lb.lv,U32 o.af.hd.lb.cats,U8 o.af.hd.num,I64 o.af.c,ra]] M=some (BL o.rn.may,M):=fun M=>zIB (fuel:=fuel) (d:=d) (o:=o.rn) hR ho.2.2.2.2.2.2 (by omega) M
  have hro1:=zMI hom hk
  unfold insE
  by_cases z:o.af≠Eid.z∧zB9 l o o.af=false
  ·rw[if_pos z]
   have z1:decide (o.af=Eid.z)=false:=decide_eq_false z.1
   rw[z.2] at hsa
   simp (disch:=try exact SX) only[RV,seval,fillA,h0,h1,hon,hall,k1,↓pIdN,zA4,ETA,z1,hsa]
   all_goals rfl
  ·rw[if_neg z]
   have zz:decide (o.af=Eid.z)=true∨(decide (o.af=Eid.z)=false∧zB9 l o o.af=true):=by
    by_cases z1:o.af=Eid.z
    ·exact .inl (decide_eq_true z1)
    ·refine .inr ⟨decide_eq_false z1, ?_⟩
     cases h:zB9 l o o.af with
     | true=>rfl
     | false=>exact absurd ⟨z1,h⟩ z
   by_cases hr1:o.rn.may=true
   ·rw[hr1] at h16
    have hro0:=hro1.2 hr1
    have st1:True:=trivial
    generalize hI:o.sp.ids=I at *
    rcases zz with z1 | ⟨z1,z2⟩
    all_goals (try rw[z2] at hsa)
    all_goals simp (disch:=try exact SX) only[RV,seval,fillA,h0,h1,hR.fz.cells,hon,hall,k1,↓pIdN,zA4,ETA,z1,hsa,h16]
    all_goals
     refine w_loop (I:=fun n t N => ∃ (i:Nat),n=I.length - i∧i≤I.length∧nth undefA t 0=a∧nth undefA t 3 = .ptr 0 0∧nth undefA t 5=ro∧nth undefA t 6=rn∧nth undefA t 7=I64 i∧Wf N∧N.get 0=some (.row false (opR o ra))∧(I.take i).any (fun x=>decide (x∈zA2 l))=false) (n:=I.length) (by omega) ?_ ?_
     ·exact zB0i
     ·rintro n t N hlt ⟨i,rfl,hi,g0,g3,g5,g6,g7,w,g,hj⟩
      simp only[ht] at hlt ⊢
      have lg:=Mem.get_lt g
      by_cases hc:i<I.length
      ·have q1:decide ((i:Int)<I.length)=true:=DT
       have w1:IntKind.i64.wrap ((i:Int)+1)=((i+1:Nat):Int):=WI
       obtain⟨r,hiad,⟨hr1,_⟩,_⟩:=hrn.iad i hc
       subst hr1
       have hsn:=take_snoc I i hc
       have hmem:=List.getElem_mem hc
       generalize I[i]=y at *
       have hw0:=zHT l y
       have hwy:=fun M=>hwh y M
       cases q2:decide (0≤whI (zAZ l) y) with
       | true =>
        rw[q2] at hw0
        have e:(I.any fun x=>decide (x∈zA2 l))=true:=List.any_eq_true.2 ⟨y,hmem,hw0.symm⟩
        simp (disch:=try exact SX) only[RV,seval,g5,g6,g7,lrn,q1,hiad,hwy,q2]
        rw[if_pos (Or.inr e)]
        rfl
       | false =>
        rw[q2] at hw0
        simp (disch:=try exact SX) only[RV,seval,g0,g3,g5,g6,g7,lrn,q1,hiad,hwy,q2,w1]
        exact⟨hlt,I.length - (i+1),by omega,i+1,rfl,by omega,rfl,w,g,by rw[hsn,List.any_append,hj];simp [← hw0]⟩
      ·obtain rfl:i=I.length:=by omega
       have q1:decide ((I.length:Int)<I.length)=false:=DF
       rw[List.take_length] at hj
       rw[if_neg (show ¬(rofE o≠0∨(I.any fun x=>decide (x∈zA2 l))=true) from fun h=>h.elim (fun h=>h hro0) (fun h=>by rw[hj] at h;cases h))]
       have hlo:=zLD l
       have w2:IntKind.i64.wrap (((zAZ l).length:Int)+I.length)=((zA2 l).length:Int)+o.sp.n:=by rw[hlo,hil,wrap_i64] <;> omega
       by_cases q3:8192<((zA2 l).length:Int)+o.sp.n
       ·have q3':=decide_eq_true q3
        rw[if_pos q3]
        simp (disch:=try exact SX) only[RV,seval,g5,g6,g7,lrn,lro,w2,q3']
        all_goals rfl
       ·have q3':=decide_eq_false q3
        rw[if_neg q3]
        simp (disch:=try exact SX) only[RV,seval,g5,g6,g7,lrn,lro,w2,q3']
        refine w_un (by omega) ?_
        have q4:decide ((0:Int)<I.length)=true:=DT
        by_cases q5:2048≤l.length
        ·have q5':decide ((2048:Int)≤l.length)=true:=DT
         simp (disch:=try exact SX) only[RV,seval,g0,g3,g6,lrn,q4,g,k1,k2,k3,ll,q5',lq_exit]
         rw[if_pos q5]
        ·have q5':decide ((2048:Int)≤l.length)=false:=DF
         simp (disch:=try exact SX) only[RV,seval,g0,g3,g6,lrn,q4,g,k1,k2,k3,ll,q5',lq_exit]
         rw[if_neg q5]
   ·have hr2:o.rn.may=false:=by cases h:o.rn.may with
     | true=>exact absurd h hr1
     | false=>rfl
    rw[hr2] at h16
    rw[if_pos (show rofE o≠0∨_ from .inl fun h=>hr1 (hro1.1 h))]
    rcases zz with z1 | ⟨z1,z2⟩
    all_goals (try rw[z2] at hsa)
    all_goals simp (disch:=try exact SX) only[RV,seval,fillA,h0,h1,hR.fz.cells,hon,hall,k1,↓pIdN,zA4,ETA,z1,hsa,h16]
    all_goals rfl
 ·have k1:=decide_eq_false hk
  rw[if_neg hk]
  have hk23:=(zMF hom ho).resolve_left hk
  have eK:(if o.kd=2 then remE l o else raiE l o)=if allB l o then (if (o.kd=2∧o.sp.f.hd.lb≠o.hd.lb)∨(o.kd=3∧zAL l o=false) then 2 else 0) else 6:=by
   rcases hk23 with h2 | h3
   ·rw[if_pos h2]
    unfold remE
    by_cases q:o.sp.f.hd.lb=o.hd.lb
    ·rw[if_pos q,if_neg (c:=_∨_) (fun h=>h.elim (fun h=>h.2 q) (fun h=>by omega))]
    ·rw[if_neg q,if_pos (c:=_∨_) (.inl ⟨h2,q⟩)]
   ·rw[if_neg (by omega),zNV hh hom]
    cases hri':zAL l o with
    | true=>rw[if_pos rfl,if_neg (c:=_∨_) (fun h=>h.elim (fun h=>by omega) (fun h=>by cases h.2))]
    | false =>
     rw[if_pos (c:=_∨_) (.inr ⟨h3,rfl⟩)]
     simp
  rw[eK]
  unfold allB
  generalize hI:o.sp.ids=I at *
  simp (disch:=try exact SX) only[RV,seval,h0,h1,hon,hall,k1]
  refine w_loop (I:=fun n t N => ∃ (i:Nat),n=I.length - i∧i≤I.length∧nth undefA t 0=a∧nth undefA t 3 = .ptr 0 0∧nth undefA t 5=ro∧nth undefA t 6=rn∧nth undefA t 8=I64 i∧Wf N∧N.get 0=some (.row false (opR o ra))∧(I.take i).all (fun x=>zB9 l o x)=true) (n:=I.length) (by omega) ?_ ?_
  ·exact zB0i
  ·rintro n t N hlt ⟨i,rfl,hi,g0,g3,g5,g6,g8,w,g,hj⟩
   simp only[ht] at hlt ⊢
   have lg:=Mem.get_lt g
   by_cases hc:i<I.length
   ·have q1:decide ((i:Int)<I.length)=true:=DT
    have w1:IntKind.i64.wrap ((i:Int)+1)=((i+1:Nat):Int):=WI
    obtain⟨r,hiad,⟨hr1,_⟩,_⟩:=hrn.iad i hc
    subst hr1
    have hsn:=take_snoc I i hc
    have hmem:=List.getElem_mem hc
    generalize I[i]=y at *
    have hsy:=fun M=>hse y (hiok y hmem) M
    cases q2:zB9 l o y with
    | true =>
     rw[q2] at hsy
     simp (disch:=try exact SX) only[RV,seval,g0,g3,g5,g6,g8,lrn,q1,g,k1,hiad,hsy,w1]
     exact zB0O
    | false =>
     rw[q2] at hsy
     have e:(I.all fun x=>zB9 l o x)=false:=by
      exact zB0F
     simp (disch:=try exact SX) only[RV,seval,g3,g5,g6,g8,lrn,q1,g,k1,hiad,hsy]
     rw[e]
     rfl
   ·obtain rfl:i=I.length:=by omega
    have q1:decide ((I.length:Int)<I.length)=false:=DF
    rw[List.take_length] at hj
    rw[hj,if_pos rfl]
    by_cases q5:2048≤l.length
    ·have q5':decide ((2048:Int)≤l.length)=true:=DT
     rcases hk23 with h2 | h3
     ·have k2:=decide_eq_true h2
      have k3:decide (o.kd=3)=false:=DF
      cases q6:decide (o.sp.f.hd.lb=o.hd.lb) with
      | true =>
       rw[if_neg (c:=_∨_) (fun h=>h.elim (fun h=>h.2 (of_decide_eq_true q6)) (fun h=>by omega)),if_pos rfl,if_pos q5]
       simp (disch:=try exact SX) only[RV,seval,g0,g3,g6,g8,lrn,g,k2,k3,↓pLbN,zB0,ETA,q6,ll,q5']
      | false =>
       exact zB0n
     ·have k2:decide (o.kd=2)=false:=DF
      have k3:=decide_eq_true h3
      cases q6:zAL l o with
      | true =>
       rw[q6] at hri
       rw[if_neg (c:=_∨_) (fun h=>h.elim (fun h=>by omega) (fun h=>by cases h.2)),if_pos rfl,if_pos q5]
       simp (disch:=try exact SX) only[RV,seval,g0,g3,g6,g8,lrn,g,k2,k3,hri,ll,q5']
      | false =>
       exact zB0o
    ·have q5':decide ((2048:Int)≤l.length)=false:=DF
     rcases hk23 with h2 | h3
     ·have k2:=decide_eq_true h2
      have k3:decide (o.kd=3)=false:=DF
      cases q6:decide (o.sp.f.hd.lb=o.hd.lb) with
      | true =>
       rw[if_neg (c:=_∨_) (fun h=>h.elim (fun h=>h.2 (of_decide_eq_true q6)) (fun h=>by omega)),if_pos rfl,if_neg q5]
       simp (disch:=try exact SX) only[RV,seval,g0,g3,g6,g8,lrn,g,k2,k3,↓pLbN,zB0,ETA,q6,ll,q5']
      | false =>
       exact zB0n
     ·have k2:decide (o.kd=2)=false:=DF
      have k3:=decide_eq_true h3
      cases q6:zAL l o with
      | true =>
       rw[q6] at hri
       rw[if_neg (c:=_∨_) (fun h=>h.elim (fun h=>by omega) (fun h=>by cases h.2)),if_pos rfl,if_neg q5]
       simp (disch:=try exact SX) only[RV,seval,g0,g3,g6,g8,lrn,g,k2,k3,hri,ll,q5']
      | false =>
       exact zB0o
theorem zI5 (l:List Op)(o:Op):zA1 [] (l++[o])=(zA1 [] l&&(o.may&&decide (fitE l o=0))):=by
 have key:∀ (l pre:List Op),zA1 pre (l++[o])=(zA1 pre l&&(o.may&&decide (fitE (pre++l) o=0))):=by
  intro l
  induction l with
  | nil=>intro pre;simp [zA1]
  | cons p l ih=>intro pre;simp only[List.cons_append,zA1,ih];simp [Bool.and_assoc]
 simpa using key l []
theorem zEG:∀ {pre l m:List Op},zA1 pre (l++m)=true→zA1 pre l=true
 | _,[],_,_=>rfl
 | pre,o::l,m,h=>by
  simp only[List.cons_append,zA1,Bool.and_eq_true] at h ⊢
  exact⟨h.1,zEG h.2⟩
theorem zEI (hS:Sl 17 isOp a l)(hl:l.length≤10000)(hf:64*l.length+2000<fuel)(M:Mem):zCN fuel (d+7) 35 [a] M=some (BL (zA1 [] l),M):=by
 have ll:=hS.len
 apply w3_eq
 refine call_gc tf35 rfl (by simp only[icyL,fun M=>hS.icy M 12 (by omega)]) (by simp [a35]) fun b' ht hx=>?_
 have h0:=hx 0 _ rfl
 clear hx
 simp only[a35,c35] at ht ⊢
 simp (disch:=try exact SX) only[RV]
 refine w_loop (I:=fun n t N => ∃ (i:Nat),n=l.length - i∧i≤l.length∧nth undefA t 0=a∧nth undefA t 3=I64 i∧Wf N∧zA1 [] (l.take i)=true) (n:=l.length) (by omega) ?_ ?_
 ·refine⟨0,rfl,Nat.zero_le _, ?_, ?_,Wf.mem0,rfl⟩ <;> simp (disch:=try exact SX) only[RV,seval,h0]
  all_goals first | rfl | assumption | done
 ·rintro n t N hlt ⟨i,rfl,hi,g0,g3,w,hj⟩
  simp only[ht] at hlt ⊢
  by_cases hc:i<l.length
  ·have q1:decide ((i:Int)<l.length)=true:=DT
   have w1:IntKind.i64.wrap ((i:Int)+1)=((i+1:Nat):Int):=WI
   obtain⟨r,hiad,hri,_⟩:=hS.iad i hc
   obtain⟨at1,hsl,hst⟩:=sl_to hS (j:=i) (by omega)
   have hsn:=zI5 (l.take i) l[i]
   rw[← take_snoc l i hc,hj,Bool.true_and] at hsn
   have hlt1:(l.take i).length≤i:=by rw[List.length_take];omega
   have hbad:zA1 [] (l.take (i+1))=false→zA1 [] l=false:=fun h=>by
    cases k:zA1 [] l with
    | false=>rfl
    | true =>
     have e:l=l.take (i+1)++l.drop (i+1):=(List.take_append_drop _ _).symm
     rw[e] at k
     rw[zEG k] at h
     cases h
   generalize l[i]=e at *
   obtain⟨ra,rfl,hra,hok⟩:=hri
   have ora:=hra.one
   have hm9:=fun M=>zK0 (fuel:=fuel) (d:=d+1) hra hok (by omega) M
   cases q2:e.may with
   | false =>
    rw[q2] at hm9 hsn
    rw[hbad (by rw[hsn,Bool.false_and])]
    simp (disch:=try exact SX) only[RV,seval,g0,g3,ll,q1,hiad,hm9]
   | true =>
    have her:=fun M=>zFW (fuel:=fuel) (d:=d) hst hra hok hj q2 (by omega) (by omega) M
    rw[q2] at hm9 hsn
    by_cases q3:fitE (l.take i) e=0
    ·have q3':=decide_eq_true q3
     rw[q3',Bool.true_and] at hsn
     simp (disch:=try exact SX) only[RV,seval,g0,g3,ll,q1,hiad,hS.fz.rows,hm9,hsl,her,q3',w1]
     exact⟨hlt,l.length - (i+1),by omega,i+1,rfl,by omega,rfl,w,hsn⟩
    ·have q3':=decide_eq_false q3
     rw[q3',Bool.true_and] at hsn
     rw[hbad hsn]
     simp (disch:=try exact SX) only[RV,seval,g0,g3,ll,q1,hiad,hS.fz.rows,hm9,hsl,her,q3']
  ·obtain rfl:i=l.length:=by omega
   have q1:decide ((l.length:Int)<l.length)=false:=DF
   rw[List.take_length] at hj
   rw[hj]
   simp (disch:=try exact SX) only[RV,seval,g0,g3,ll]
def Lb.ahead (a b:Lb):Bool:=decide (a.lv<b.lv) || (decide (a.lv=b.lv)&&decide (a.cats<b.cats))
def Eid.less (x y:Eid):Bool:=if x.c=y.c then (if x.hd.lb=y.hd.lb then decide (x.hd.num<y.hd.num) else x.hd.lb.ahead y.hd.lb) else decide (x.c<y.c)
theorem zIQ (a b:Lb)(M:Mem):zCN fuel (d+1) 106 [lbA a,lbA b] M=some (BL (a.ahead b),M):=by
 have pLbE:=@pLbE
 apply w3_eq
 refine call_gc tf106 rfl (by simp (disch:=try exact SX) only[RV,seval]) (by simp [a106]) fun b' ht hx=>?_
 obtain⟨h0,h1⟩:=hx2 hx
 clear hx
 simp only[a106,c106] at ht ⊢
 unfold Lb.ahead
 cases q1:decide (a.lv<b.lv) with
 | true=>simp (disch:=try exact SX) only[RV,seval,fillA,h0,h1,q1]
 | false =>
  have e:decide (a=(⟨b.lv,a.cats⟩:Lb))=decide (a.lv=b.lv):=by
   rw[Bool.eq_iff_iff,decide_eq_true_iff,decide_eq_true_iff]
   constructor
   ·intro h;rw[h]
   ·intro h
    obtain⟨x,y⟩:=a
    simp only at h ⊢
    rw[h]
  cases q2:decide (a.lv=b.lv) with
  | true =>
   rw[q2] at e
   simp (disch:=try exact SX) only[RV,seval,fillA,h0,h1,q1,↓pLbE,zA5,ETA,e]
  | false =>
   rw[q2] at e
   simp (disch:=try exact SX) only[RV,seval,fillA,h0,h1,q1,↓pLbE,zA5,ETA,e,Bool.false_and]
theorem zC4 (x y:Eid)(M:Mem):zCN fuel (d+2) 72 [idA x,idA y] M=some (BL (x.less y),M):=by
 have pLbN:=@pLbN
 have ha:=fun M=>@zIQ fuel d x.hd.lb y.hd.lb M
 apply w3_eq
 refine call_gc tf72 rfl (by simp (disch:=try exact SX) only[RV,seval]) (by simp [a72]) fun b' ht hx=>?_
 obtain⟨h0,h1⟩:=hx2 hx
 clear hx
 simp only[a72,c72] at ht ⊢
 unfold Eid.less
 by_cases q1:x.c=y.c
 ·have q1':decide (x.c=y.c)=true:=decide_eq_true q1
  by_cases q2:x.hd.lb=y.hd.lb
  ·have q2':decide (x.hd.lb=y.hd.lb)=true:=decide_eq_true q2
   simp only[if_pos q1,if_pos q2]
   simp (disch:=try exact SX) only[RV,seval,h0,h1,q1',↓pLbN,zB0,ETA,q2']
  ·have q2':decide (x.hd.lb=y.hd.lb)=false:=decide_eq_false q2
   simp only[if_pos q1,if_neg q2]
   simp (disch:=try exact SX) only[RV,seval,h0,h1,q1',↓pLbN,zB0,ETA,q2',ha]
 ·have q1':decide (x.c=y.c)=false:=decide_eq_false q1
  simp only[if_neg q1]
  simp (disch:=try exact SX) only[RV,seval,h0,h1,q1']
def cutE (s:Spn)(n:Int):Int:=if s.may then (if n≤0∨s.n≤n then 2 else 0) else 8
def spZ:Spn:=⟨Eid.z,0⟩
theorem zI6 (s:Spn)(n:Int)(M:Mem):zCN fuel (d+6) 142 [spA s,I64 n] M=some (if cutE s n=0 then .tup [spA ⟨s.f,n⟩,spA ⟨s.at n,s.n - n⟩,I64 0] else .tup [spA spZ,spA spZ,I64 (cutE s n)],M):=by
 have hat:=fun M=>@zDR fuel d s n M
 apply w3_eq
 refine call_gc tf142 rfl (by simp (disch:=try exact SX) only[RV,seval]) (by simp [a142]) fun b' ht hx=>?_
 obtain⟨h0,h1⟩:=hx2 hx
 clear hx
 simp only[a142,c142] at ht ⊢
 unfold cutE spZ
 cases hm:s.may with
 | false =>
  simp only[hm,Bool.false_eq_true,if_false] at hat
  simp (disch:=try exact SX) only[RV,seval,h0,h1,hat,Bool.false_eq_true,if_false]
  all_goals rfl
 | true =>
  simp only[hm,if_true] at hat
  have hb:=Spn.may_le hm
  by_cases q0:n<0∨s.n≤n
  ·simp only[q0,if_true] at hat
   have q2:n≤0∨s.n≤n:=by omega
   simp (disch:=try exact SX) only[RV,seval,h0,h1,hat,q2,if_true]
   all_goals rfl
  ·simp only[q0,if_false] at hat
   by_cases q3:n=0
   ·have q3':decide (n=0)=true:=decide_eq_true q3
    have q2:n≤0∨s.n≤n:=by omega
    simp (disch:=try exact SX) only[RV,seval,h0,h1,hat,q2,q3',if_true]
    all_goals rfl
   ·have q3':decide (n=0)=false:=decide_eq_false q3
    have q2:¬(n≤0∨s.n≤n):=by omega
    have w1:IntKind.i64.wrap (s.n - n)=s.n - n:=wrap_i64 (by omega) (by omega)
    simp (disch:=try exact SX) only[RV,seval,fillA,h0,h1,hat,q2,q3',if_true,if_false,w1]
    rfl
theorem zJ4 {a b:AV}{l m:List Int}(ha:Sl 1 zA3 a l)(hb:Sl 1 zA3 b m)(hf:l.length<fuel)(hl:l.length≤1000000000)(M:Mem) :
  zCN fuel (d+1) 155 [a,b] M=some (BL (decide (l=m)),M):=by
 have hla:=ha.len
 have hlb:=hb.len
 apply w3_eq
 refine call_gc tf155 rfl (by simp (disch:=try exact SX) only[icyL,ha.fz.icy,hb.fz.icy]) (by simp [a155]) fun b' ht hx=>?_
 obtain⟨h0,h1⟩:=hx2 hx
 clear hx
 simp only[a155,c155] at ht ⊢
 by_cases hll:l.length=m.length
 ·have q1:decide ((l.length:Int)=m.length)=true:=by simp;omega
  simp (disch:=try exact SX) only[RV,seval,h0,h1,hla,hlb,q1]
  refine w_loop (I:=fun n t N => ∃ (i:Nat),n=l.length - i∧i≤l.length∧nth undefA t 0=a∧nth undefA t 1=b∧nth undefA t 11=a∧nth undefA t 12=I64 l.length∧nth undefA t 13=I64 i∧l.take i=m.take i) (n:=l.length) (by omega) ?_ ?_
  ·refine⟨0,rfl,Nat.zero_le _, ?_, ?_, ?_, ?_, ?_,rfl⟩ <;> simp (disch:=try exact SX) only[RV,seval,h0,h1]
   all_goals first | rfl | assumption | done
  ·rintro n t N hlt ⟨i,rfl,hi,g0,g1,g11,g12,g13,tk⟩
   simp only[ht] at hlt ⊢
   by_cases hlt':i<l.length
   ·have hc':decide ((i:Int)<l.length)=true:=by simp;omega
    have hmt:i<m.length:=by omega
    have w1:IntKind.i64.wrap ((i:Int)+1)=((i+1:Nat):Int):=WI
    obtain⟨r,hr,rfl,_⟩:=ha.iad i hlt'
    obtain⟨r2,hr2,rfl,_⟩:=hb.iad i hmt
    by_cases he:l[i]=m[i]
    ·have q2:decide (l[i]=m[i])=true:=by simp [he]
     simp (disch:=try exact SX) only[RV,seval,g0,g1,g11,g12,g13,hc',hr,hr2,w1,q2]
     exact zB0c
    ·have q2:decide (l[i]=m[i])=false:=by simp [he]
     simp (disch:=try exact SX) only[RV,seval,g0,g1,g12,g13,hc',hr,hr2,q2]
     exact zB0h
   ·have hc':decide ((i:Int)<l.length)=false:=by simp;omega
    simp (disch:=try exact SX) only[RV,seval,g12,g13,hc']
    exact zB0a
 ·exact zB0g
def rnEq (o p:Rn):Bool:=decide (o.sp=p.sp)&&decide (o.af=p.af)&&decide (o.rs=p.rs)
theorem zCU (o p:Rn):rnEq o p=true↔o=p:=by
 obtain⟨a1,a2,a3⟩:=o
 obtain⟨b1,b2,b3⟩:=p
 simp [rnEq,and_assoc]
theorem zCH {o p:Rn}{ra rb:AV}(hR:Sl 1 zA3 ra o.rs)(hP:Sl 1 zA3 rb p.rs)(hl:o.rs.length≤1000000000)(hf:o.rs.length<fuel)(M:Mem):zCN fuel (d+2) 141 [.agg (rnR o ra),.agg (rnR p rb)] M=some (BL (rnEq o p),M):=by
 have hs:=fun M=>zJ4 (fuel:=fuel) (d:=d) hR hP hf hl M
 apply w3_eq
 refine call_gc tf141 rfl (by simp only[icyL,zAP hR.fz,zAP hP.fz]) (by simp [a141]) fun b' ht hx=>?_
 obtain⟨h0,h1⟩:=hx2 hx
 clear hx
 simp only[a141,c141] at ht ⊢
 unfold rnEq
 cases q1:decide (o.sp=p.sp)
 ·simp (disch:=try exact SX) only[RV,seval,h0,h1,↓pSpE,zB5,ETA,q1,Bool.false_and]
 ·cases q2:decide (o.af=p.af)
  ·simp (disch:=try exact SX) only[RV,seval,h0,h1,↓pIdE,zA0,↓pSpE,zB5,ETA,q1,q2,Bool.false_and]
  ·simp (disch:=try exact SX) only[RV,seval,h0,h1,↓pIdE,zA0,↓pSpE,zB5,ETA,q1,q2,hs]
theorem zE8 {o:Rn}{ra:AV}(hR:Sl 1 zA3 ra o.rs)(hl:o.rs.length≤1000000000):∃ r,Sl 1 zA3 r o.rs ∧ ∀ M,zCN fuel (d+2) 109 [.agg (rnR o ra)] M=some (.agg (rnR o r),M):=by
 refine gc_ex tf109 rfl (fun M=>by simp only[icyL,zAP hR.fz]) ?_
 refine call_gc tf109 rfl (by simp only[icyL,zAP hR.fz]) (by simp [a109]) fun b' ht hx=>?_
 have h0:=hx 0 _ rfl
 clear hx
 simp only[a109,c109] at ht ⊢
 simp (disch:=try exact SX) only[RV,seval,h0]
 refine zF5 hR hl (by simp (disch:=try exact SX) only[RV]) fun a' M' wf' le' kp' sm' new' wm' di'=>?_
 have hsz:2≤M'.size:=le'
 have g0:M'.get 0=some (.row false (rnR o ra)):=by rw[kp' 0 (by show 0<2;omega)];simp (disch:=try exact SX) only[RV]
 have g1:M'.get 1=some (.row false (rnR ⟨⟨Eid.z,0⟩,Eid.z,[]⟩ NIL)):=by rw[kp' 1 (by show 1<2;omega)];simp (disch:=try exact SX) only[RV]
 have oa:=sm'.one
 have ca:=sm'.cells
 have nr:∀ j,rowOf a'=some j→2≤j:=new'
 obtain⟨ro,hro,hfr⟩:=slm_frz2 sm' zCP.cel 11 (by omega)
 have hfr:=hfr ((M'.upd 0 (.row false (rnR o a'))).upd 1 (.row false (rnR o a'))) fun id h=>by
  have:=nr id h
  rw[get_upd_ne (wf'.upd _ _) _ _ _ (by omega),get_upd_ne wf' _ _ _ (by omega)]
 simp (disch:=try exact SX) only[RV,seval,g0,g1,ca,hfr]
 exact⟨_,hro,rfl⟩
def Rn.last (r:Rn):Eid:=if r.sp.may then r.sp.at (r.sp.n - 1) else Eid.z
theorem zL8 {o:Rn}{ra:AV}(hR:Sl 1 zA3 ra o.rs)(ho:o.ok)(M:Mem):zCN fuel (d+6) 107 [.agg (rnR o ra)] M=some (idA o.last,M):=by
 have hat:=fun M=>@zDR fuel d o.sp (IntKind.i64.wrap (o.sp.n - 1)) M
 apply w3_eq
 refine call_gc tf107 rfl (by simp only[icyL,zAP hR.fz]) (by simp [a107]) fun b' ht hx=>?_
 have h0:=hx 0 _ rfl
 clear hx
 simp only[a107,c107] at ht ⊢
 unfold Rn.last
 cases hm:o.sp.may with
 | false =>
  simp only[hm,Bool.false_eq_true,if_false] at hat
  simp (disch:=try exact SX) only[RV,seval,h0,hat,Bool.false_eq_true,if_false]
 | true =>
  have hb:=Spn.may_le hm
  rw[wrap_i64 (by omega) (by omega)] at hat
  have w1:IntKind.i64.wrap (o.sp.n - 1)=o.sp.n - 1:=wrap_i64 (by omega) (by omega)
  simp only[hm,if_true,if_neg (show ¬(o.sp.n - 1<0∨o.sp.n≤o.sp.n - 1) by omega)] at hat
  simp (disch:=try exact SX) only[RV,seval,h0,hat,w1,if_true]
def Rn.z:Rn:=⟨⟨Eid.z,0⟩,Eid.z,[]⟩
theorem part_run {o:Rn}{ra:AV}(hR:Sl 1 zA3 ra o.rs)(hl:o.rs.length≤1000000000):∃ r,Sl 1 zA3 r o.rs ∧ ∀ M,zCN fuel (d+2) 143 [.agg (rnR o ra)] M=some (.agg (rnR o r),M):=by
 refine gc_ex tf143 rfl (fun M=>by simp only[icyL,zAP hR.fz]) ?_
 refine call_gc tf143 rfl (by simp only[icyL,zAP hR.fz]) (by simp [a143]) fun b' ht hx=>?_
 have h0:=hx 0 _ rfl
 clear hx
 simp only[a143,c143] at ht ⊢
 simp (disch:=try exact SX) only[RV,seval,h0]
 refine zF5 hR hl (by simp (disch:=try exact SX) only[RV]) fun a' M' wf' le' kp' sm' new' wm' di'=>?_
 have hd:M'.dirty=false:=di'
 have hsz:2≤M'.size:=le'
 have g1:M'.get 1=some (.row false (rnR ⟨⟨Eid.z,0⟩,Eid.z,[]⟩ NIL)):=by rw[kp' 1 (by show 1<2;omega)];simp (disch:=try exact SX) only[RV]
 have oa:=sm'.one
 have ca:=sm'.cells
 have nr:∀ j,rowOf a'=some j→2≤j:=new'
 obtain⟨ro,hro,hfr⟩:=slm_frz2 sm' zCP.cel 11 (by omega)
 have hfr:=hfr ((((mem0.add (.row false (rnR o ra))).add (.row false (rnR ⟨⟨Eid.z,0⟩,Eid.z,[]⟩ NIL))).bk M').upd 1 (.row false (rnR o a'))) fun id h=>by
  have:=nr id h
  exact zB04
 simp (disch:=try exact SX) only[RV,seval,fillA,hd,g1,ca,hfr]
 exact⟨_,hro,rfl⟩
def Rn.cutE (r:Rn)(n:Int):Int:=if r.may then Go.Proofs.YtmkkecnafjhdmaaGreat.cutE r.sp n else 8
def Rn.fst (r:Rn)(n:Int):Rn:=⟨⟨r.sp.f,n⟩,r.af,r.rs.take n.toNat⟩
def Rn.snd (r:Rn)(n:Int):Rn:=⟨⟨r.sp.at n,r.sp.n - n⟩,r.sp.at (n - 1),r.rs.drop n.toNat⟩
def Rn.cutA (r:Rn)(n:Int):Rn:=if r.cutE n=0 then r.fst n else Rn.z
def Rn.cutB (r:Rn)(n:Int):Rn:=if r.cutE n=0 then r.snd n else Rn.z
theorem cutE_iff {s:Spn}{n:Int}:cutE s n=0↔s.may=true∧0<n∧n<s.n:=by
 unfold cutE
 cases s.may <;> simp
theorem Rn.cutE_iff {r:Rn}{n:Int}:r.cutE n=0↔r.may=true∧0<n∧n<r.sp.n:=by
 unfold Rn.cutE
 cases h:r.may
 ·simp
 ·rw[if_pos rfl,Go.Proofs.YtmkkecnafjhdmaaGreat.cutE_iff]
  unfold Rn.may at h
  simp only[Bool.and_eq_true] at h
  simp [h.1.1.1]
theorem Rn.may_sp {r:Rn}(h:r.may=true):r.sp.may=true:=by
 unfold Rn.may at h
 simp only[Bool.and_eq_true] at h
 exact h.1.1.1
theorem Rn.may_len {r:Rn}(h:r.may=true):(r.rs.length:Int)=r.sp.n:=by
 unfold Rn.may at h
 simp only[Bool.and_eq_true,decide_eq_true_eq] at h
 exact h.1.2
theorem zMT {s:Spn}{n:Int}(h:s.may=true)(h0:0<n)(h1:n≤s.n):(⟨s.f,n⟩:Spn).may=true:=by
 have:=Spn.may_le h
 unfold Spn.may at *
 simp only[Bool.and_eq_true,decide_eq_true_eq] at *
 exact⟨⟨⟨h.1.1.1,by omega⟩,by omega⟩,by omega⟩
def cutK (r:Rn)(n:Int)(v:AV):Prop:=∃ ra rb,v = .tup [.agg (rnR (r.cutA n) ra),.agg (rnR (r.cutB n) rb),I64 (r.cutE n)]∧Sl 1 zA3 ra (r.cutA n).rs∧Sl 1 zA3 rb (r.cutB n).rs
theorem zD1 {o:Rn}{ra:AV}{n:Int}(hR:Sl 1 zA3 ra o.rs)(hf:100<fuel):∃ v,cutK o n v ∧ ∀ M,zCN fuel (d+7) 104 [.agg (rnR o ra),I64 n] M=some (v,M):=by
 have hck:=fun M=>@zAM fuel d o ra hR hf M
 have hic:=fun M=>@zI6 fuel d o.sp n M
 unfold cutK Rn.cutA Rn.cutB Rn.cutE
 refine gc_ex tf104 rfl (fun M=>by simp only[icyL,zAP hR.fz,icy12]) ?_
 refine call_gc tf104 rfl (by simp only[icyL,zAP hR.fz,icy12]) (by simp [a104]) fun b' ht hx=>?_
 obtain⟨h0,h1⟩:=hx2 hx
 clear hx
 simp only[a104,c104] at ht ⊢
 cases hm:o.may with
 | false =>
  rw[hm] at hck
  simp only[Bool.false_eq_true,if_false]
  simp (disch:=try exact SX) only[RV,seval,h0,hck,zAD]
  exact⟨rfl,_,⟨NIL,NIL,rfl,.inl ⟨rfl,rfl⟩,.inl ⟨rfl,rfl⟩⟩,rfl⟩
 | true =>
  rw[hm] at hck
  simp only[if_true]
  by_cases q:cutE o.sp n=0
  ·simp only[q,if_true] at hic ⊢
   obtain⟨c1,c2,c3⟩:=cutE_iff.1 q
   have hb:=Spn.may_le c1
   have hml:=Rn.may_len hm
   obtain⟨m,rfl⟩:∃ m:Nat,n=m:=⟨n.toNat,by omega⟩
   have hat:=fun M=>@zDR fuel (d+1) ⟨o.sp.f,m⟩ ((m:Int) - 1) M
   rw[if_pos (zMT c1 c2 (by omega))] at hat
   simp only[if_neg (show ¬((m:Int) - 1<0∨(m:Int)≤(m:Int) - 1) by omega)] at hat
   have w1:IntKind.i64.wrap ((m:Int) - 1)=(m:Int) - 1:=wrap_i64 (by omega) (by omega)
   obtain⟨r1,s1,b1⟩:=sl_to hR (j:=m) (by omega)
   obtain⟨r2,s2,b2⟩:=sl_from hR (i:=m) (by omega)
   have o1:=b1.one
   have o2:=b2.one
   obtain⟨p1,hp1,hr1⟩:=part_run (fuel:=fuel) (d:=d+4) (o:=o.fst m) b1 (by simp only[Rn.fst,List.length_take,Int.toNat_natCast];omega)
   obtain⟨p2,hp2,hr2⟩:=part_run (fuel:=fuel) (d:=d+4) (o:=o.snd m) b2 (by simp only[Rn.snd,List.length_drop,Int.toNat_natCast];omega)
   have op1:=hp1.one
   have op2:=hp2.one
   unfold Rn.fst at hr1 hp1
   unfold Rn.snd at hr2 hp2
   have e1:(⟨o.sp.f,(m:Int)⟩:Spn).at ((m:Int) - 1)=o.sp.at ((m:Int) - 1):=rfl
   rw[e1] at hat
   simp (disch:=try exact SX) only[RV,seval,fillA,h0,h1,hR.fz.rows,hck,zA6,hic,hat,w1,s1,s2,b1.fz.cells,b2.fz.cells,hr1,hr2,hp1.fz.frz,hp2.fz.frz]
   exact⟨_,⟨p1,p2,rfl,hp1,hp2⟩,rfl⟩
  ·simp only[q,if_false] at hic ⊢
   have q':decide (cutE o.sp n=0)=false:=decide_eq_false q
   simp (disch:=try exact SX) only[RV,seval,h0,h1,hck,zA6,hic,q']
   exact⟨rfl,_,⟨NIL,NIL,rfl,.inl ⟨rfl,rfl⟩,.inl ⟨rfl,rfl⟩⟩,rfl⟩
theorem zAF {α:Type}(l:List α)(i:Nat)(h:i<l.length):l.take (i+1)=l.take i++[l[i]]:=by
 rw[List.take_add_one,List.getElem?_eq_getElem h];rfl
def rowL (l:List Rn):List Int:=l.flatMap (·.rs)
theorem zK3 (l:List Rn)(x:Rn):rowL (l++[x])=rowL l++x.rs:=by simp [rowL]
theorem row_0 {a:AV}{l:List Rn}(hS:SlM M 10 isRn a l)(hl:l.length≤10)(hd:∀ r∈l,r.rs.length≤1000000)(hf:100<fuel)(wf:Wf M)(hw:M.wm≤M.size)(k:∀ o N,Kept M N→SlM N 1 zA3 o (rowL l)→(∀ j,rowOf o=some j→M.size≤j)→Q o N) :
  W3 (zCN fuel (d+1) 145 [a] M) Q:=by
 have ll:=hS.len
 refine call_0 tf145 rfl (by simp [a145]) fun b' ht hx=>?_
 have h0:=hx 0 _ rfl
 clear hx
 simp only[a145,c145] at ht ⊢
 simp (disch:=try exact SX) only[RV,seval,h0,ll]
 refine w_loop (I:=fun n t N => ∃ (i:Nat) (o:AV),n=l.length - i∧i≤l.length∧nth undefA t 2=o∧nth undefA t 5=a∧nth undefA t 6=I64 l.length∧nth undefA t 7=I64 i∧Kept M N∧SlM N 1 zA3 o (rowL (l.take i))∧(∀ j,rowOf o=some j→M.size≤j)∧(rowL (l.take i)).length≤1000000*i) (n:=l.length) (by omega) ?_ ?_
 ·refine⟨0,NIL,rfl,Nat.zero_le _, ?_, ?_, ?_, ?_,Kept.refl wf,SlM.nil,(fun _ h=>by cases h),Nat.le_refl 0⟩ <;> simp (disch:=try exact SX) only[RV,seval]
  all_goals first | rfl | assumption | done
 ·rintro n t N hlt ⟨i,o,rfl,hi,g2,g5,g6,g7,kN,sm,nr,bd⟩
  simp only[ht] at hlt ⊢
  have w:=kN.wf
  have le:=kN.le
  have wm:=kN.wm
  by_cases hc:i<l.length
  ·have q1:decide ((i:Int)<l.length)=true:=DT
   have w1:IntKind.i64.wrap ((i:Int)+1)=((i+1:Nat):Int):=WI
   obtain⟨id,cs,r,hrow,lid,hg,hcs,hiad,hr,hrl,hpt,_⟩:=hS.atS hc
   have gN:=(kN.get id lid).trans hg
   have hts:=zK3 (l.take i) l[i]
   rw[← zAF l i hc] at hts
   have hde:=hd l[i] (List.getElem_mem hc)
   generalize l[i]=e at *
   obtain⟨ra,rfl,hra,hok⟩:=hr
   have ora:=hra.one
   have lid':id<N.size:=by omega
   have rlo:=rows_lt sm.rl (show N.size≤N.size+1 by omega)
   simp (disch:=try exact SX) only[RV,seval,g2,g5,g6,g7,q1,hiad,gN,hpt,hra.fz.rows,rlo]
   refine w3_dirt (fun j hj=>by have:=nr j hj;simp only[upd_wm,add_wm];omega) (w3_app (bytes:=4) (by simp (disch:=try exact SX) only[RV,w]) (sm.keep fun j hj=>?_) zCP.cel hra (by omega) (by omega) (by omega) fun o' M' sm' w' le1 le2 kp nw wm' rl on oc' di'=>?_)
   ·have:=sm.lt j hj
    exact zB04
   simp only[upd_size,add_size] at le1 le2 kp nw
   simp (disch:=try exact SX) only[RV,seval,g2,g5,g6,g7,w1]
   refine⟨hlt,l.length - (i+1),by omega,i+1,o',rfl,by omega,rfl,rfl,⟨w',by omega,fun j hj=>?_,wm'.trans wm,di'.trans ((kN.add _).upd hw le _).di⟩,by rw[hts];exact sm',fun j hj=>(nw j hj).elim (nr j) (fun h=>by omega), ?_⟩
   ·rw[kp j (by omega) (fun h=>by have:=nr j h;omega),get_upd_ne (w.add _) _ _ _ (by omega),get_add w _ _ (by omega)]
    exact kN.get j hj
   ·rw[hts,List.length_append];omega
  ·obtain rfl:i=l.length:=by omega
   have q1:decide ((l.length:Int)<l.length)=false:=DF
   rw[List.take_length] at sm
   simp (disch:=try exact SX) only[RV,seval,g2,g6,g7]
   exact k o N kN sm nr
def Rn.both (a b:Rn):Rn:=⟨⟨a.sp.f,a.sp.n+b.sp.n⟩,a.af,a.rs++b.rs⟩
def zD7 (a b:Rn):Int:=if a.may=true∧b.may=true then (if (a.both b).cutE a.sp.n=0∧(a.both b).fst a.sp.n=a∧(a.both b).snd a.sp.n=b then 0 else 2) else 8
def zBX (a b:Rn):Rn:=if zD7 a b=0 then a.both b else Rn.z
def zNN (a b:Rn)(v:AV):Prop:=∃ r,v = .tup [.agg (rnR (zBX a b) r),I64 (zD7 a b)]∧Sl 1 zA3 r (zBX a b).rs
theorem zKO (r:Rn)(n:Int):(r.cutA n).rs.length≤r.rs.length:=by
 unfold Rn.cutA
 split
 ·simp only[Rn.fst,List.length_take];omega
 ·exact Nat.zero_le _
theorem zKP (r:Rn)(n:Int):(r.cutB n).rs.length≤r.rs.length:=by
 unfold Rn.cutB
 split
 ·simp only[Rn.snd,List.length_drop];omega
 ·exact Nat.zero_le _
theorem zH9 {a b:Rn}{ra rb:AV}(hA:Sl 1 zA3 ra a.rs)(hB:Sl 1 zA3 rb b.rs)(ha:a.ok)(hb:b.ok):All2 isRn [rnR a ra,rnR b rb] [a,b]:=.cons ⟨ra,rfl,hA,ha⟩ (.cons ⟨rb,rfl,hB,hb⟩ .nil)
theorem zE7 {a b:Rn}{ra rb:AV}(hA:Sl 1 zA3 ra a.rs)(hB:Sl 1 zA3 rb b.rs)(ha:a.ok)(hb:b.ok)(hla:a.rs.length≤1000000)(hlb:b.rs.length≤1000000)(hf:2000000<fuel):∃ v,zNN a b v ∧ ∀ M,zCN fuel (d+8) 108 [.agg (rnR a ra),.agg (rnR b rb)] M=some (v,M):=by
 have hca:=fun M=>@zAM fuel (d+1) a ra hA (by omega) M
 have hcb:=fun M=>@zAM fuel (d+1) b rb hB (by omega) M
 refine gc_ex tf108 rfl (fun M=>by simp only[icyL,zAP hA.fz,zAP hB.fz]) ?_
 refine call_gc tf108 rfl (by simp only[icyL,zAP hA.fz,zAP hB.fz]) (by simp [a108]) fun b' ht hx=>?_
 obtain⟨h0,h1⟩:=hx2 hx
 clear hx
 simp only[a108,c108] at ht ⊢
 unfold zNN zBX zD7
 by_cases hm:a.may=true∧b.may=true
 ·obtain⟨ma,mb⟩:=hm
  rw[ma] at hca
  rw[mb] at hcb
  simp only[ma,mb,and_self,if_true]
  have ba:=Spn.may_le (Rn.may_sp ma)
  have bb:=Spn.may_le (Rn.may_sp mb)
  have w1:IntKind.i64.wrap (a.sp.n+b.sp.n)=a.sp.n+b.sp.n:=wrap_i64 (by omega) (by omega)
  simp (disch:=try exact SX) only[RV,seval,fillA,h0,h1,hca,hcb,zA6,IMX,pB_max2,BMM,w1]
  refine row_0 (d:=d+6) (l:=[a,b]) (slm_lit (zH9 hA hB ha hb) (by simp) rfl (.inr rfl) (by simp (disch:=try exact SX) only[RV];rfl)) (by simp) (by simp;exact⟨hla,hlb⟩) (by omega) (by simp (disch:=try exact SX) only[RV]) (by simp (disch:=try exact SX) only[RV,seval];exact Nat.le_refl _) fun o X kX sm nr=>?_
  have wX:=kX.wf
  have hd:X.dirty=false:=kX.di
  have hsX:4≤X.size:=kX.le
  have k0:=kX.get 0 (by show 0<4;omega)
  have k1:=kX.get 1 (by show 1<4;omega)
  have k2:=kX.get 2 (by show 2<4;omega)
  simp (disch:=try exact SX) only[RV] at k0 k1 k2
  have oo:=sm.one
  have oc:=sm.cells
  have nr':∀ j,rowOf o=some j→4≤j:=nr
  have sm':SlM X 1 zA3 o (a.rs++b.rs):=by simpa [rowL] using sm
  simp (disch:=try exact SX) only[RV,seval,fillA,hd,k0,oc]
  refine⟨rfl, ?_⟩
  have kY:=((kX.bk.add (.row false (rnR Rn.z NIL))).upd (Nat.zero_le _) (show _≤X.size from kX.le) (.row false (rnR (a.both b) o)))
  have wY:=kY.wf
  refine w3_handrowR (n:=d+6) (R:=cutK (a.both b) a.sp.n) (spR (a.both b).sp++idR a.af) o (rest:=[I64 a.sp.n]) (l:=(a.both b).rs) tf104 rfl (fun y hy=>(List.mem_append.1 hy).elim (zDN _ y) (zAQ _ y)) (sm'.keep fun j hj=>?_) (by simp (disch:=try exact SX) only[RV,wX]) zCP (fun M=>by simp only[icyL,icy12]) (fun a2 b2=>?_) fun v a2 N2 hv b2 w2 s2 k2' r2 f2=>?_
  ·have:=sm'.lt j hj
   exact zB04
  ·exact zD1 (o:=a.both b) (d:=d) b2 (by omega)
  obtain⟨ca,cb,rfl,hca',hcb'⟩:=hv
  have oca:=hca'.one
  have ocb:=hcb'.one
  have j0:=k2' 0 (fun h=>by have:=nr' 0 h;omega)
  have j1:=k2' 1 (fun h=>by have:=nr' 1 h;omega)
  have j2:=k2' 2 (fun h=>by have:=nr' 2 h;omega)
  have j3:=k2' X.size (fun h=>by have:=sm'.lt _ h;omega)
  simp only[upd_size,add_size,bk_size] at s2
  simp (disch:=try exact SX) only[RV,k0,k1,k2] at j0 j1 j2 j3
  have z0:=Mem.get_lt j0
  have z1:=Mem.get_lt j1
  have z2:=Mem.get_lt j2
  have z3:=Mem.get_lt j3
  clear kY wY k2' kX k0 k1 k2 nr
  have bl:(a.both b).rs.length≤2000000:=by show (a.rs++b.rs).length≤_;rw[List.length_append];omega
  have la:=zKO (a.both b) a.sp.n
  have lb:=zKP (a.both b) a.sp.n
  have hsa:=fun M=>zCH (fuel:=fuel) (d:=d+5) (o:=(a.both b).cutA a.sp.n) (p:=a) hca' hA (by omega) (by omega) M
  have hsb:=fun M=>zCH (fuel:=fuel) (d:=d+5) (o:=(a.both b).cutB a.sp.n) (p:=b) hcb' hB (by omega) (by omega) M
  have hfr:=fun N7 hN=>f2 N7 11 (by omega) hN
  clear f2
  have eA:∀ (q:(a.both b).cutE a.sp.n=0),(a.both b).cutA a.sp.n=(a.both b).fst a.sp.n:=fun q=>by unfold Rn.cutA;rw[if_pos q]
  have eB:∀ (q:(a.both b).cutE a.sp.n=0),(a.both b).cutB a.sp.n=(a.both b).snd a.sp.n:=fun q=>by unfold Rn.cutB;rw[if_pos q]
  generalize hA':(a.both b).cutA a.sp.n=cA at *
  generalize hB':(a.both b).cutB a.sp.n=cB at *
  by_cases q1:(a.both b).cutE a.sp.n=0
  ·have q1':decide ((a.both b).cutE a.sp.n=0)=true:=decide_eq_true q1
   rw[← eA q1,← eB q1]
   cases q2:rnEq cA a with
   | false =>
    have q2':¬(cA=a):=fun h=>by rw[(zCU cA a).2 h] at q2;cases q2
    rw[q2] at hsa
    simp only[q2',false_and,and_false,if_false]
    simp (disch:=try exact SX) only[RV,seval,fillA,j0,j2,q1',hsa]
    exact zB06
   | true =>
    have q2':=(zCU cA a).1 q2
    rw[q2] at hsa
    cases q3:rnEq cB b with
    | false =>
     have q3':¬(cB=b):=fun h=>by rw[(zCU cB b).2 h] at q3;cases q3
     rw[q3] at hsb
     simp only[q3',and_false,if_false]
     simp (disch:=try exact SX) only[RV,seval,fillA,j0,j1,j2,q1',hsa,hsb]
     exact zB06
    | true =>
     have q3':=(zCU cB b).1 q3
     rw[q3] at hsb
     simp only[eq_true (show (a.both b).cutE a.sp.n=0∧cA=a∧cB=b from⟨q1,q2',q3'⟩),if_true]
     simp (disch:=try exact SX) only[RV,seval,j0,j1,j2,j3,q1',hsa,hsb]
     have lo:∀ j,rowOf o=some j→j<N2.size:=fun j hj=>by have:=sm'.lt j hj;omega
     rw[hfr _ (fun j hj=>by
      have u1:=lo j hj
      have u2:=nr' j hj
      simp (disch:=try exact SX) only[RV])]
     exact⟨_,⟨a2,rfl,b2⟩,rfl⟩
  ·have q1':decide ((a.both b).cutE a.sp.n=0)=false:=decide_eq_false q1
   simp only[q1,false_and,if_false]
   simp (disch:=try exact SX) only[RV,seval,fillA,j2,q1']
   exact zB06
 ·have hz:imax (err a.may) (err b.may)=8:=by
   cases ma:a.may <;> cases mb:b.may <;> first | rfl | exact absurd ⟨ma,mb⟩ hm
  simp only[hm,if_false]
  have q8:((8:Int)=0)=False:=by decide
  simp (disch:=try exact SX) only[RV,seval,fillA,h0,h1,hca,hcb,hz,pB_max2,BMM,q8,if_false]
  exact zB06
def atE (r:Rn)(n:Int):Int:=if r.may=true then (if n<0∨r.sp.n≤n then 2 else 0) else 8
def Rn.afAt (r:Rn)(n:Int):Eid:=if 0<n then r.sp.at (n - 1) else r.af
theorem zFZ {o:Rn}{ra:AV}{n:Int}(hR:Sl 1 zA3 ra o.rs)(hf:100<fuel)(M:Mem):zCN fuel (d+7) 44 [.agg (rnR o ra),I64 n] M=some (if atE o n=0 then .tup [idA (o.sp.at n),idA (o.afAt n),I32 (o.rs.getD n.toNat 0),I64 0] else .tup [idA Eid.z,idA Eid.z,I32 0,I64 (atE o n)],M):=by
 have hck:=fun M=>@zAM fuel d o ra hR hf M
 have hat:=fun n M=>@zDR fuel (d+1) o.sp n M
 apply w3_eq
 refine call_gc tf44 rfl (by simp only[icyL,zAP hR.fz,icy12]) (by simp [a44]) fun b' ht hx=>?_
 obtain⟨h0,h1⟩:=hx2 hx
 clear hx
 simp only[a44,c44] at ht ⊢
 unfold atE
 cases hm:o.may with
 | false =>
  rw[hm] at hck
  have q8:((8:Int)=0)=False:=by decide
  simp only[Bool.false_eq_true,if_false,q8]
  simp (disch:=try exact SX) only[RV,seval,h0,hck,zAD]
  all_goals rfl
 | true =>
  rw[hm] at hck
  have hs:=Rn.may_sp hm
  have hb:=Spn.may_le hs
  have hml:=Rn.may_len hm
  simp only[hs,if_true] at hat ⊢
  by_cases q:n<0∨o.sp.n≤n
  ·have hat:=hat n
   simp only[q,if_true] at hat ⊢
   have q2:((2:Int)=0)=False:=by decide
   simp only[q2,if_false]
   simp (disch:=try exact SX) only[RV,seval,h0,h1,hck,hat,zA6]
   all_goals rfl
  ·obtain⟨m,rfl⟩:∃ m:Nat,n=m:=⟨n.toNat,by omega⟩
   have hat0:=hat (m:Int)
   simp only[q,if_false] at hat0 ⊢
   simp only[if_true]
   obtain⟨r,hr,rfl,_⟩:=hR.iad m (by omega)
   have eg:o.rs.getD (m:Int).toNat 0=o.rs[m]:=by
    rw[Int.toNat_natCast,List.getD_eq_getElem?_getD,List.getElem?_eq_getElem (by omega)];rfl
   rw[eg]
   unfold Rn.afAt
   by_cases q0:(0:Int)<m
   ·have hat1:=hat ((m:Int) - 1)
    simp only[show ¬((m:Int) - 1<0∨o.sp.n≤(m:Int) - 1) by omega,if_false] at hat1
    have w1:IntKind.i64.wrap ((m:Int) - 1)=(m:Int) - 1:=wrap_i64 (by omega) (by omega)
    simp (disch:=try exact SX) only[RV,seval,h0,h1,hck,hat0,hat1,zA6,q0,w1,hr,if_true]
    all_goals exact⟨rfl,rfl⟩
   ·simp (disch:=try exact SX) only[RV,seval,h0,h1,hck,hat0,zA6,q0,hr,if_false]
    all_goals exact⟨rfl,rfl⟩
def zA7:List Rn→Int
 | []=>0
 | r::l=>r.sp.n+zA7 l
theorem zHX (l m:List Rn):zA7 (l++m)=zA7 l+zA7 m:=by
 induction l with
 | nil=>simp [zA7]
 | cons r l ih=>simp only[List.cons_append,zA7,ih];omega
theorem zG9 (l:List Rn)(r:Rn):zA7 (l++[r])=zA7 l+r.sp.n:=by rw[zHX];simp [zA7]
theorem zBT {l:List Rn}(h:∀ r∈l,r.may=true):0≤zA7 l∧zA7 l≤64*l.length:=by
 induction l with
 | nil=>simp [zA7]
 | cons r l ih =>
  have:=Spn.may_le (Rn.may_sp (h r List.mem_cons_self))
  have:=ih fun r hr=>h r (List.mem_cons_of_mem _ hr)
  simp only[zA7,List.length_cons]
  omega
theorem zDL {a:AV}{l:List Rn}(hS:Sl 10 isRn a l)(hm:∀ r∈l,r.may=true)(hl:l.length≤1000000)(hf:l.length<fuel)(M:Mem):zCN fuel (d+1) 70 [a] M=some (I64 (zA7 l),M):=by
 have ll:=hS.len
 apply w3_eq
 refine call_gc tf70 rfl (by simp only[icyL,fun M=>hS.icy M 12 (by omega)]) (by simp [a70]) fun b' ht hx=>?_
 have h0:=hx 0 _ rfl
 clear hx
 simp only[a70,c70] at ht ⊢
 simp (disch:=try exact SX) only[RV,seval,h0,ll]
 refine w_loop (I:=fun n t N => ∃ (i:Nat),n=l.length - i∧i≤l.length∧nth undefA t 2=I64 (zA7 (l.take i))∧nth undefA t 5=a∧nth undefA t 6=I64 l.length∧nth undefA t 7=I64 i∧Wf N) (n:=l.length) (by omega) ?_ ?_
 ·refine⟨0,rfl,Nat.zero_le _, ?_, ?_, ?_, ?_,Wf.mem0⟩ <;> simp (disch:=try exact SX) only[RV,seval,zA7]
  all_goals first | rfl | assumption | done
 ·rintro n t N hlt ⟨i,rfl,hi,g2,g5,g6,g7,w⟩
  simp only[ht] at hlt ⊢
  by_cases hc:i<l.length
  ·have q1:decide ((i:Int)<l.length)=true:=DT
   have w1:IntKind.i64.wrap ((i:Int)+1)=((i+1:Nat):Int):=WI
   obtain⟨r,hiad,hr,hrl⟩:=hS.iad i hc
   have hts:=zG9 (l.take i) l[i]
   rw[← zAF l i hc] at hts
   have hb:=Spn.may_le (Rn.may_sp (hm l[i] (List.getElem_mem hc)))
   have hcl:=zBT (l:=l.take i) (fun r hr=>hm r (List.mem_of_mem_take hr))
   rw[List.length_take] at hcl
   generalize l[i]=e at *
   obtain⟨ra,rfl,hra,hok⟩:=hr
   have ora:=hra.one
   have w2:IntKind.i64.wrap (zA7 (l.take i)+e.sp.n)=zA7 (l.take (i+1)):=by rw[hts,wrap_i64] <;> omega
   simp (disch:=try exact SX) only[RV,seval,g2,g5,g6,g7,q1,hiad,w,w1,w2]
   exact⟨hlt,l.length - (i+1),by omega,i+1,rfl,by omega,rfl,rfl⟩
  ·obtain rfl:i=l.length:=by omega
   have q1:decide ((l.length:Int)<l.length)=false:=DF
   rw[List.take_length] at g2
   simp (disch:=try exact SX) only[RV,seval,g2,g6,g7]
def zF6 (l m:List Rn):Bool:=eqL rnEq l m
theorem zG1 {l m:List Rn}:zF6 l m=true↔l=m:=eqL_eq zCU
theorem zI2 {a b:AV}{l m:List Rn}(h1':Sl 10 isRn a l)(h2':Sl 10 isRn b m)(hl:l.length≤1000000)(hc:∀ e∈l,e.rs.length≤1000000∧e.rs.length<fuel)(hf:l.length<fuel)(M:Mem):zCN fuel (d+3) 140 [a,b,.fn 141 [] []] M=some (BL (zF6 l m),M):=by
 have la:=h1'.len
 have lb:=h2'.len
 apply w3_eq
 refine call_gc tf140 rfl (by simp (disch:=try exact SX) only[RV,h1'.fz.icy,h2'.fz.icy]) (by simp [a140]) fun b' ht hx=>?_
 obtain⟨h0,h1,h2⟩:=hx3 hx
 clear hx
 simp only[a140,c140] at ht ⊢
 by_cases q:l.length=m.length
 ·have q0:decide ((l.length:Int)=m.length)=true:=DT
  simp (disch:=try exact SX) only[RV,seval,h0,h1,la,lb,q0]
  refine w_loop (I:=fun n t N => ∃ (i:Nat),n=l.length - i∧i≤l.length∧nth undefA t 0=a∧nth undefA t 1=b∧nth undefA t 2 = .fn 141 [] []∧nth undefA t 15=a∧nth undefA t 16=I64 l.length∧nth undefA t 17=I64 i∧Wf N∧(∀ j (x1:j<l.length) (x2:j<m.length),j<i→rnEq l[j] m[j]=true)) (n:=l.length) (by omega) ?_ ?_
  ·refine⟨0,rfl,Nat.zero_le _, ?_, ?_, ?_, ?_, ?_, ?_,Wf.mem0,(fun _ _ _ h=>absurd h (by omega))⟩ <;> simp (disch:=try exact SX) only[RV,seval,h0,h1,h2]
   all_goals first | rfl | assumption | done
  ·rintro n t N hlt ⟨i,rfl,hi,g0,g1,g2,g15,g16,g17,wN,hj⟩
   simp only[ht] at hlt ⊢
   by_cases hc':i<l.length
   ·have q1:decide ((i:Int)<l.length)=true:=DT
    have hc2:i<m.length:=by omega
    obtain⟨r1,i1,hr1,hl1⟩:=h1'.iad i hc'
    obtain⟨r2,i2,hr2,hl2⟩:=h2'.iad i hc2
    have hcr:=hc l[i] (List.getElem_mem hc')
    have w1:IntKind.i64.wrap ((i:Int)+1)=((i+1:Nat):Int):=WI
    have qat:=fun q2=>eqL_at (p:=rnEq) hc' hc2 q2
    have hj':=hj
    have key:rnEq l[i] m[i]=true → ∀ j (x1:j<l.length) (x2:j<m.length),j<i+1→rnEq l[j] m[j]=true:=fun q2 j x1 x2 hj'=>by
     rcases Nat.lt_succ_iff_lt_or_eq.1 hj' with h | rfl
     ·exact hj j x1 x2 h
     ·exact q2
    generalize l[i]=e1 at *
    generalize m[i]=e2 at *
    obtain⟨ra1,rfl,b1,_⟩:=hr1
    obtain⟨ra2,rfl,b2,_⟩:=hr2
    have hp:=fun M=>zCH (fuel:=fuel) (d:=d) b1 b2 (by omega) hcr.2 M
    have o1:=b1.one
    have o3:=b2.one
    cases q2:rnEq e1 e2 with
    | true =>
     rw[q2] at hp
     simp (disch:=try exact SX) only[RV,seval,g0,g1,g2,g15,g16,g17,q1,i1,i2,w1,hp,wN]
     exact⟨hlt,l.length - (i+1),by omega,i+1,rfl,by omega,rfl,key q2⟩
    | false =>
     rw[q2] at hp
     have e:zF6 l m=false:=qat q2
     simp (disch:=try exact SX) only[RV,seval,g1,g2,g15,g16,g17,q1,i1,i2,hp,e]
   ·obtain rfl:i=l.length:=by omega
    have e:zF6 l m=true:=eqL_all q fun j x1 x2 _=>hj j x1 x2 x1
    simp (disch:=try exact SX) only[RV,seval,g16,g17,e]
 ·have q0:decide ((l.length:Int)=m.length)=false:=DF
  have e:zF6 l m=false:=eqL_ne q
  simp (disch:=try exact SX) only[RV,seval,h0,h1,la,lb,q0,e]
theorem zKB {a b:AV}{l m:List Rn}(h1':Sl 10 isRn a l)(h2':Sl 10 isRn b m)(hl:l.length≤1000000)(hc:∀ e∈l,e.rs.length≤1000000∧e.rs.length<fuel)(hf:l.length<fuel)(M:Mem):zCN fuel (d+4) 103 [a,b] M=some (BL (zF6 l m),M):=by
 have he:=fun M=>@zI2 fuel d a b l m h1' h2' hl hc hf M
 apply w3_eq
 refine call_gc tf103 rfl (by simp (disch:=try exact SX) only[icyL,h1'.fz.icy,h2'.fz.icy]) (by simp [a103]) fun b' ht hx=>?_
 obtain⟨h0,h1⟩:=hx2 hx
 clear hx
 simp only[a103,c103] at ht ⊢
 simp (disch:=try exact SX) only[RV,seval,h0,h1,he]
def zAA:List Rn→Eid→Option (Nat × Int)
 | [],_=>none
 | r::l,x=>match r.sp.has x with
  | some k=>some (0,k)
  | none=>(zAA l x).map fun p=>(p.1+1,p.2)
theorem zIM {l:List Rn}{x:Eid}(h:∀ r∈l,r.sp.has x=none):zAA l x=none:=by
 induction l with
 | nil=>rfl
 | cons r l ih =>
  unfold zAA
  rw[h r List.mem_cons_self,ih fun r hr=>h r (List.mem_cons_of_mem _ hr)]
  rfl
theorem zLZ {l:List Rn}{x:Eid}{i:Nat}{k:Int}(hi:i<l.length)(hk:l[i].sp.has x=some k)(h:∀ j (hj:j<i),l[j].sp.has x=none):zAA l x=some (i,k):=by
 induction l generalizing i with
 | nil=>exact absurd hi (by simp)
 | cons r l ih =>
  unfold zAA
  cases i with
  | zero=>rw[show r.sp.has x=some k from hk]
  | succ i =>
   rw[show r.sp.has x=none from h 0 (by omega),ih (i:=i) (by simpa using hi) hk fun j hj=>h (j+1) (by omega)]
   rfl
def wN (p:Option (Nat × Int)):Int:=match p with
 | some p=>p.1
 | none => -1
def wK (p:Option (Nat × Int)):Int:=match p with
 | some p=>p.2
 | none=>0
theorem zG7 {a:AV}{l:List Rn}{x:Eid}(hS:Sl 10 isRn a l)(hl:l.length≤1000000)(hf:l.length<fuel)(M:Mem):zCN fuel (d+6) 68 [a,idA x] M=some (.tup [I64 (wN (zAA l x)),I64 (wK (zAA l x))],M):=by
 have ll:=hS.len
 apply w3_eq
 refine call_gc tf68 rfl (by simp only[icyL,fun M=>hS.icy M 12 (by omega),fz_icyA (zAQ x) (show 1<12 by omega)]) (by simp [a68]) fun b' ht hx=>?_
 obtain⟨h0,h1⟩:=hx2 hx
 clear hx
 simp only[a68,c68] at ht ⊢
 simp (disch:=try exact SX) only[RV,seval,h0,h1,ll]
 refine w_loop (I:=fun n t N => ∃ (i:Nat),n=l.length - i∧i≤l.length∧nth undefA t 3 = .ptr 0 0∧nth undefA t 10=a∧nth undefA t 11=I64 l.length∧nth undefA t 12=I64 i∧Wf N∧N.get 0=some (.row false (idR x))∧(∀ j (h:j<l.length),j<i→l[j].sp.has x=none)) (n:=l.length) (by omega) ?_ ?_
 ·refine⟨0,rfl,Nat.zero_le _, ?_, ?_, ?_, ?_,Wf.mem0.add _,by simp (disch:=try exact SX) only[RV],(fun _ _ h=>absurd h (by omega))⟩ <;> simp (disch:=try exact SX) only[RV,seval]
  all_goals first | rfl | assumption | done
 ·rintro n t N hlt ⟨i,rfl,hi,g3,g10,g11,g12,w,g,hj⟩
  simp only[ht] at hlt ⊢
  have lN:=Mem.get_lt g
  by_cases hc:i<l.length
  ·have q1:decide ((i:Int)<l.length)=true:=DT
   have w1:IntKind.i64.wrap ((i:Int)+1)=((i+1:Nat):Int):=WI
   obtain⟨r,hiad,hr,hrl⟩:=hS.iad i hc
   have wat:=fun k (hk:l[i].sp.has x=some k)=>zLZ hc hk fun j hj'=>hj j (by omega) hj'
   have key:l[i].sp.has x=none → ∀ j (h:j<l.length),j<i+1→l[j].sp.has x=none:=fun q2 j h hj'=>by
    rcases Nat.lt_succ_iff_lt_or_eq.1 hj' with h' | rfl
    ·exact hj j h h'
    ·exact q2
   generalize l[i]=e at *
   obtain⟨ra,rfl,hra,hok⟩:=hr
   have ora:=hra.one
   have hh:=fun M=>@zEU fuel d e.sp x M
   cases q:e.sp.has x with
   | none =>
    rw[q] at hh
    simp only[Option.getD_none,Option.isSome_none] at hh
    simp (disch:=try exact SX) only[RV,seval,g3,g10,g11,g12,q1,hiad,w,g,w1,hh]
    exact⟨hlt,l.length - (i+1),by omega,i+1,rfl,by omega,rfl,key q⟩
   | some k =>
    rw[q] at hh
    simp only[Option.getD_some,Option.isSome_some] at hh
    rw[wat k q]
    simp (disch:=try exact SX) only[RV,seval,g3,g10,g11,g12,q1,hiad,g,hh,wN,wK]
  ·obtain rfl:i=l.length:=by omega
   have e:zAA l x=none:=zIM fun r hr=>by
    obtain⟨j,hj',rfl⟩:=List.getElem_of_mem hr
    exact hj j hj' hj'
   rw[e]
   simp (disch:=try exact SX) only[RV,seval,g11,g12,wN,wK]
def Rn.els (r:Rn):List (Eid × Eid):=(List.range r.sp.n.toNat).map fun (i:Nat)=>(r.sp.at i,r.afAt i)
def elsL (l:List Rn):List (Eid × Eid):=l.flatMap Rn.els
theorem zKT (l:List Rn)(r:Rn):elsL (l++[r])=elsL l++r.els:=by simp [elsL]
theorem zJ3 {l:List Rn}{i k:Nat}(hi:i<l.length)(hk:k<l[i].sp.n.toNat):∃ post,elsL l=(elsL (l.take i)++l[i].els.take k)++(l[i].sp.at k,l[i].afAt k)::post:=by
 refine⟨l[i].els.drop (k+1)++elsL (l.drop (i+1)), ?_⟩
 have h1:l=l.take i++l[i]::l.drop (i+1):=by rw[← List.drop_eq_getElem_cons hi,List.take_append_drop]
 have hkl:k<l[i].els.length:=by unfold Rn.els;simpa using hk
 have h2:l[i].els=l[i].els.take k++l[i].els[k]::l[i].els.drop (k+1):=by rw[← List.drop_eq_getElem_cons hkl,List.take_append_drop]
 have h3:l[i].els[k]=(l[i].sp.at k,l[i].afAt k):=by simp [Rn.els]
 rw[h3] at h2
 refine(congrArg elsL h1).trans ?_
 have h4:elsL (l.take i++l[i]::l.drop (i+1))=elsL (l.take i)++(l[i].els++elsL (l.drop (i+1))):=by
  unfold elsL
  rw[List.flatMap_append,List.flatMap_cons]
 rw[h4,List.append_assoc,← List.cons_append,← List.append_assoc (l[i].els.take k),← h2]
theorem zJ1 (r:Rn):r.els.length=r.sp.n.toNat:=by simp [Rn.els]
theorem zJ2 (r:Rn)(k:Nat)(hk:k<r.sp.n.toNat):r.els.take (k+1)=r.els.take k++[(r.sp.at k,r.afAt k)]:=by
 rw[zAF _ _ (by rw[zJ1];exact hk)]
 simp [Rn.els]
structure Yl (J:List (Eid × Eid)→(Nat→Prop)→Mem→Prop) (pre:List (Eid × Eid)) (O:Nat→Prop) (B:Nat) (N N':Mem):Prop where
 ok:∃ O',J pre O' N'∧(∀ j,O' j→O j∨N.size≤j)
 wf:Wf N'
 le:N.size≤N'.size
 kp:∀ j,j<N.size → ¬O j→N'.get j=N.get j
theorem zKR {J:List (Eid × Eid)→(Nat→Prop)→Mem→Prop}{S:Mem→Prop}{O:Nat→Prop}{a:AV}{l:List Rn}{p id:Nat}(hS:Sl 10 isRn a l)(hl:l.length≤100000)(hm:∀ r∈l,r.may=true)(hf:l.length+100<fuel)(wf:Wf M)(hg:M.get p=some (.row false [a]))
  (hJ0:J [] O M)
  (hJ:∀ pre O N N',J pre O N→Wf N'→N.size≤N'.size→(∀ j,j<N.size→N'.get j=N.get j)→J pre O N')
  (hJl:∀ pre O N,J pre O N → ∀ j,O j→j<N.size)
  (hy:∀ pre x post O N,elsL l=pre++x::post→J pre O N→Wf N→M.size≤N.size→W3 (callN Tryz.prog (fsT tbl) fuel (d+7) (.yl id) [idA x.1,idA x.2] N) (fun v N'=>(v=BL true∧Yl J (pre++[x]) O M.size N N')∨(v=BL false∧S N')))
  (kk:∀ u N O,J (elsL l) O N→Wf N→M.size≤N.size→Q u N) (ks:∀ u N,S N→Q u N) :
  W3 (zCN fuel (d+8) 154 [.yl id,.ptr p 0] M) Q:=by
 have ll:=hS.len
 have lp:=Mem.get_lt hg
 refine call_0 tf154 rfl (by simp [a154]) fun b' ht hx=>?_
 obtain⟨h0,h1⟩:=hx2 hx
 clear hx
 simp only[a154,c154] at ht ⊢
 simp (disch:=try exact SX) only[RV,seval,h1,ll,hg]
 refine w_loop (I:=fun n t N => ∃ (i:Nat) (O':Nat→Prop),n=l.length - i∧i≤l.length∧nth undefA t 0 = .yl id∧nth undefA t 10=a∧nth undefA t 11=I64 l.length∧nth undefA t 12=I64 i∧Wf N∧M.size≤N.size∧J (elsL (l.take i)) O' N) (n:=l.length) (by omega) ?_ ?_
 ·refine⟨0,O,rfl,Nat.zero_le _, ?_, ?_, ?_, ?_,wf,Nat.le_refl _,hJ0⟩ <;> simp (disch:=try exact SX) only[RV,seval,h0]
  all_goals first | rfl | assumption | done
 ·rintro n t N hlt ⟨i,O',rfl,hi,g0,g10,g11,g12,w,le,hj⟩
  simp only[ht] at hlt ⊢
  by_cases hc:i<l.length
  ·have q1:decide ((i:Int)<l.length)=true:=DT
   have w1:IntKind.i64.wrap ((i:Int)+1)=((i+1:Nat):Int):=WI
   obtain⟨r,hiad,hr,hrl⟩:=hS.iad i hc
   have hts:=zKT (l.take i) l[i]
   rw[← zAF l i hc] at hts
   have hsp:=fun k=>@zJ3 l i k hc
   have hme:=hm l[i] (List.getElem_mem hc)
   generalize l[i]=e at *
   obtain⟨ra,rfl,hra,hok⟩:=hr
   have ora:=hra.one
   have hb:=Spn.may_le (Rn.may_sp hme)
   obtain⟨m,hmn⟩:∃ m:Nat,e.sp.n=m:=⟨e.sp.n.toNat,by omega⟩
   have hmt:e.sp.n.toNat=m:=by omega
   have hes:=zJ2 e
   have hel:=zJ1 e
   have wX:Wf ((N.add (.row false (rnR Rn.z NIL))).upd N.size (.row false (rnR e ra))):=(w.add _).upd _ _
   have jX:=hJ _ _ _ _ hj wX (by rw[upd_size,add_size];omega) (fun j hj'=>by rw[get_upd_ne (w.add _) _ _ _ (by omega),get_add w _ _ hj'])
   have gX:((N.add (.row false (rnR Rn.z NIL))).upd N.size (.row false (rnR e ra))).get N.size=some (.row false (rnR e ra)):=get_upd_eq (w.add _) _ _ (by rw[add_size];omega)
   have nX:N.size<((N.add (.row false (rnR Rn.z NIL))).upd N.size (.row false (rnR e ra))).size:=by rw[upd_size,add_size];omega
   have nO:¬O' N.size:=fun h=>by have:=hJl _ _ _ hj _ h;omega
   simp (disch:=try exact SX) only[RV,seval,g10,g11,g12,q1,hiad]
   refine w_loop (I:=fun nk tk Nk => ∃ (ik:Nat) (O2:Nat→Prop),nk=m - ik∧ik≤m∧nth undefA tk 0 = .yl id∧nth undefA tk 4 = .ptr N.size 0∧nth undefA tk 10=a∧nth undefA tk 11=I64 l.length∧nth undefA tk 12=I64 i∧nth undefA tk 18=I64 e.sp.n∧nth undefA tk 19=I64 ik∧Wf Nk∧N.size<Nk.size∧J (elsL (l.take i)++e.els.take ik) O2 Nk∧Nk.get N.size=some (.row false (rnR e ra)) ∧ ¬O2 N.size) (n:=m) (by omega) ?_ ?_
   ·refine⟨0,O',rfl,Nat.zero_le _, ?_, ?_, ?_, ?_, ?_, ?_, ?_,wX,nX,(by rw[List.take_zero,List.append_nil];exact jX),gX,nO⟩ <;> simp (disch:=try exact SX) only[RV,seval,g0,g10,g11,g12]
    all_goals first | rfl | assumption | done
   ·rintro nk tk Nk hltk ⟨ik,O2,rfl,hik,gk0,gk4,gk10,gk11,gk12,gk18,gk19,wk,lk,jk,gk,nk⟩
    simp only[hlt] at hltk ⊢
    have kX:∀ p q,Wf ((((Nk.add p).add q).upd Nk.size (.row false (idR (e.sp.at ik)))).upd (Nk.size+1) (.row false (idR (e.afAt ik)))):=fun p q=>(((wk.add _).add _).upd _ _).upd _ _
    by_cases hck:ik<m
    ·have q2:decide ((ik:Int)<e.sp.n)=true:=DT
     have w2:IntKind.i64.wrap ((ik:Int)+1)=((ik+1:Nat):Int):=WI
     have hatE:atE e ik=0:=by
      unfold atE
      rw[if_pos hme,if_neg (by omega)]
     have hat:=fun M=>@zFZ fuel d e ra (ik:Int) hra (by omega) M
     simp only[hatE,if_true] at hat
     obtain⟨post,hsp⟩:=hsp ik (by omega)
     have hes:=hes ik (by omega)
     rw[hmt] at hel
     simp (disch:=try exact SX) only[RV,seval,gk0,gk4,gk18,gk19,q2,gk,hat]
     have jY:=hJ _ _ _ _ jk (kX (.row false (idR Eid.z)) (.row false (idR Eid.z))) (by simp only[upd_size,add_size];omega) (fun j hj'=>by
      rw[get_upd_ne (((wk.add _).add _).upd _ _) _ _ _ (by omega),get_upd_ne ((wk.add _).add _) _ _ _ (by omega),get_add (wk.add _) _ _ (by rw[add_size];omega),get_add wk _ _ hj'])
     obtain⟨v,N',hcall,hv⟩:=hy _ _ _ _ _ hsp jY (kX _ _) (by simp only[upd_size,add_size];omega)
     refine⟨v,N',hcall, ?_⟩
     rcases hv with⟨rfl,⟨O3,jO,hO3⟩,wY,lY,kY⟩ | ⟨rfl,hst⟩
     ·simp only[upd_size,add_size] at lY kY hO3
      have g3:N'.get N.size=some (.row false (rnR e ra)):=by
       rw[kY _ (by omega) nk,get_upd_ne (((wk.add _).add _).upd _ _) _ _ _ (by omega),get_upd_ne ((wk.add _).add _) _ _ _ (by omega),get_add (wk.add _) _ _ (by rw[add_size];omega),get_add wk _ _ (by omega)]
       exact gk
      rw[List.append_assoc,← hes] at jO
      simp (disch:=try exact SX) only[RV,seval,gk0,gk4,gk10,gk11,gk12,gk18,gk19,w2]
      exact⟨hltk,m - (ik+1),by omega,ik+1,O3,rfl,by omega,rfl,wY,by omega,jO,g3,fun h=>(hO3 _ h).elim nk (fun h=>by omega)⟩
     ·simp (disch:=try exact SX) only[RV,seval]
      exact ks _ _ hst
    ·obtain rfl:ik=m:=by omega
     have q2:decide ((ik:Int)<e.sp.n)=false:=DF
     rw[List.take_of_length_le (l:=e.els) (by omega)] at jk
     simp (disch:=try exact SX) only[RV,seval,gk0,gk10,gk11,gk12,gk18,gk19,q2,w1]
     exact⟨hltk,l.length - (i+1),by omega,i+1,O2,rfl,by omega,rfl,wk,by omega,by rw[hts];exact jk⟩
  ·obtain rfl:i=l.length:=by omega
   have q1:decide ((l.length:Int)<l.length)=false:=DF
   rw[List.take_length] at hj
   simp (disch:=try exact SX) only[RV,seval,g11,g12]
   exact kk _ _ _ hj w le
theorem zBB (x y:Eid):x.less y=true↔x.c<y.c∨(x.c=y.c∧(x.hd.lb.lv<y.hd.lb.lv∨(x.hd.lb.lv=y.hd.lb.lv∧(x.hd.lb.cats<y.hd.lb.cats∨(x.hd.lb.cats=y.hd.lb.cats∧x.hd.num<y.hd.num))))):=by
 obtain⟨⟨⟨a,b⟩,c⟩,e⟩:=x
 obtain⟨⟨⟨a',b'⟩,c'⟩,e'⟩:=y
 unfold Eid.less Lb.ahead
 by_cases h1:e=e'
 ·subst h1
  by_cases h2:(⟨a,b⟩:Lb)=⟨a',b'⟩
  ·injection h2 with h2 h3
   subst h2;subst h3
   simp
  ·have h3:¬(a=a'∧b=b'):=fun h=>h2 (by rw[h.1,h.2])
   simp only[h2,if_true,if_false,Bool.or_eq_true,Bool.and_eq_true,decide_eq_true_eq,Int.lt_irrefl,true_and,false_or]
   omega
 ·simp only[h1,if_false,decide_eq_true_eq,false_and,or_false]
theorem zDC (x:Eid):x.less x=false:=by
 rw[← Bool.not_eq_true,zBB];omega
theorem zEH {x y z:Eid}(h1:x.less y=true)(h2:y.less z=true):x.less z=true:=by
 rw[zBB] at *;omega
theorem zJJ {x y:Eid}(h1:x.less y=true):y.less x=false:=by
 rw[← Bool.not_eq_true];rw[zBB] at *;omega
theorem zHD {x y:Eid}(h:x≠y):x.less y=true∨y.less x=true:=by
 rw[zBB,zBB]
 obtain⟨⟨⟨a,b⟩,c⟩,e⟩:=x
 obtain⟨⟨⟨a',b'⟩,c'⟩,e'⟩:=y
 simp only
 have:¬(a=a'∧b=b'∧c=c'∧e=e'):=fun k=>h (by rw[k.1,k.2.1,k.2.2.1,k.2.2.2])
 omega
theorem zJK {x y:Eid}(h:x.less y=true):x.c≤y.c:=by
 rw[zBB] at h;omega
theorem zFL {x y:Eid}(h:x.c<y.c):x.less y=true:=by
 rw[zBB];omega
def ahd:List Eid→List Eid→Prop
 | [],[]=>False
 | [],_::_=>True
 | _::_,[]=>False
 | a::p,b::q=>b.less a=true∨(a=b∧ahd p q)
theorem zCW:∀ p:List Eid,¬ahd p p
 | []=>fun h=>h
 | a::p=>fun h=>by
  rcases h with h | ⟨_,h⟩
  ·rw[zDC] at h;cases h
  ·exact zCW p h
theorem zBS:∀ {p q r:List Eid},ahd p q→ahd q r→ahd p r
 | [],[],_=>fun h _=>h.elim
 | [],_::_,[]=>fun _ h=>h.elim
 | [],_::_,_::_=>fun _ _=>trivial
 | _::_,[],_=>fun h _=>h.elim
 | _::_,_::_,[]=>fun _ h=>h.elim
 | a::p,b::q,c::r=>fun h1 h2=>by
  rcases h1 with h1 | ⟨rfl,h1⟩ <;> rcases h2 with h2 | ⟨rfl,h2⟩
  ·exact .inl (zEH h2 h1)
  ·exact .inl h1
  ·exact .inl h2
  ·exact .inr ⟨rfl,zBS h1 h2⟩
theorem zBR (p:List Eid)(x:Eid)(q:List Eid):ahd p (p++x::q):=by
 induction p with
 | nil=>trivial
 | cons a p ih=>exact .inr ⟨rfl,ih⟩
theorem zFD (p:List Eid){a b:Eid}(q r:List Eid)(h:b.less a=true):ahd (p++a::q) (p++b::r):=by
 induction p with
 | nil=>exact .inl h
 | cons a p ih=>exact .inr ⟨rfl,ih⟩
theorem zEP:∀ {p q:List Eid},ahd p q→(∃ x r,q=p++x::r) ∨ ∃ c a b s t,p=c++a::s∧q=c++b::t∧b.less a=true
 | [],[]=>fun h=>h.elim
 | [],x::r=>fun _ => .inl ⟨x,r,rfl⟩
 | _::_,[]=>fun h=>h.elim
 | a::p,b::q=>fun h=>by
  rcases h with h | ⟨rfl,h⟩
  ·exact .inr ⟨[],a,b,p,q,rfl,rfl,h⟩
  ·rcases zEP h with⟨x,r,rfl⟩ | ⟨c,x,y,s,t,rfl,rfl,k⟩
   ·exact .inl ⟨x,r,rfl⟩
   ·exact .inr ⟨a::c,x,y,s,t,rfl,rfl,k⟩
theorem zIP:∀ {p q:List Eid},p≠q→ahd p q∨ahd q p
 | [],[]=>fun h=>absurd rfl h
 | [],_::_=>fun _ => .inl trivial
 | _::_,[]=>fun _ => .inr trivial
 | a::p,b::q=>fun h=>by
  by_cases e:a=b
  ·subst e
   rcases zIP (p:=p) (q:=q) (fun k=>h (by rw[k])) with k | k
   ·exact .inl (.inr ⟨rfl,k⟩)
   ·exact .inr (.inr ⟨rfl,k⟩)
  ·rcases zHD e with k | k
   ·exact .inr (.inl k)
   ·exact .inl (.inl k)
inductive Pth (E:List El):Eid→List Eid→Prop
 | root {x:El}:x∈E→x.af=Eid.z→Pth E x.id [x.id]
 | step {x:El} {p:List Eid}:x∈E→Pth E x.af p→Pth E x.id (p++[x.id])
theorem Pth.mono {E F:List El}(h:∀ x∈E,x∈F){x:Eid}{p:List Eid}(k:Pth E x p):Pth F x p:=by
 induction k with
 | root m e=>exact .root (h _ m) e
 | step m _ ih=>exact .step (h _ m) ih
theorem Pth.mem {E:List El}{x:Eid}{p:List Eid}(k:Pth E x p):∃ e∈E,e.id=x:=by
 cases k with
 | root m _=>exact⟨_,m,rfl⟩
 | step m _=>exact⟨_,m,rfl⟩
theorem Pth.last {E:List El}{x:Eid}{p:List Eid}(k:Pth E x p):∃ q,p=q++[x]:=by
 cases k with
 | root m _=>exact⟨[],rfl⟩
 | step m _=>exact⟨_,rfl⟩
theorem Pth.pre {E:List El}{x:Eid}{p:List Eid}(k:Pth E x p):∀ {q y r},p=q++y::r→Pth E y (q++[y]):=by
 induction k with
 | root m e =>
  intro q y r h
  cases q with
  | nil=>cases h;exact .root m e
  | cons a q=>simp at h
 | @step x p m kp ih =>
  intro q y r h
  rcases List.eq_nil_or_concat r with rfl | ⟨r',b,rfl⟩
  ·have h2:=List.append_inj' h rfl
   rw[← h2.1]
   injection h2.2 with h3
   rw[← h3]
   exact .step m kp
  ·have h':p++[x.id]=(q++y::r')++[b]:=by rw[h];simp
   exact ih (List.append_inj' h' rfl).1
structure Set1 (E:List El):Prop where
 nd:(E.map (·.id)).Nodup
 ct:∀ x∈E,x.af.c<x.id.c∧0<x.id.c
 rt:∀ x∈E,x.af=Eid.z ∨ ∃ y∈E,y.id=x.af
theorem zFO {E:List El}(h:(E.map (·.id)).Nodup){x y:El}(hx:x∈E)(hy:y∈E)(e:x.id=y.id):x=y:=by
 induction E with
 | nil=>cases hx
 | cons a E ih =>
  rw[List.map_cons,List.nodup_cons] at h
  rcases List.mem_cons.1 hx with rfl | hx' <;> rcases List.mem_cons.1 hy with rfl | hy'
  ·rfl
  ·exact absurd (List.mem_map.2 ⟨y,hy',e.symm⟩) h.1
  ·exact absurd (List.mem_map.2 ⟨x,hx',e⟩) h.1
  ·exact ih h.2 hx' hy'
theorem Pth.nz {E:List El}(h:∀ x∈E,0<x.id.c){x:Eid}{p:List Eid}(k:Pth E x p):x≠Eid.z:=by
 obtain⟨e,he,rfl⟩:=k.mem
 intro hz
 have:=h e he
 rw[hz] at this
 exact absurd this (by decide)
theorem Pth.fn {E:List El}(h:Set1 E){x:Eid}{p:List Eid}(k:Pth E x p):∀ {q},Pth E x q→p=q:=by
 have hz:=fun x hx=>(h.ct x hx).2
 induction k with
 | @root x m e =>
  intro q k'
  generalize hx:x.id=i at k'
  cases k' with
  | root m' e'=>rfl
  | @step x' p' m' kp' =>
   have:=zFO h.nd m m' hx
   subst this
   exact absurd e (kp'.nz hz)
 | @step x p m kp ih =>
  intro q k'
  generalize hx:x.id=i at k'
  cases k' with
  | @root x' m' e' =>
   have:=zFO h.nd m m' hx
   subst this
   exact absurd e' (kp.nz hz)
  | @step x' p' m' kp' =>
   have:=zFO h.nd m m' hx
   subst this
   rw[ih kp']
theorem Pth.ex {E:List El}(h:Set1 E):∀ (n:Nat) (x:El),x∈E→x.id.c≤n → ∃ p,Pth E x.id p
 | 0,x,hx,hn=>absurd (h.ct x hx).2 (by omega)
 | n+1,x,hx,hn=>by
  rcases h.rt x hx with e | ⟨y,hy,e⟩
  ·exact⟨_,.root hx e⟩
  ·have hc:=h.ct x hx
   obtain⟨p,hp⟩:=Pth.ex h n y hy (by rw[e];omega)
   rw[e] at hp
   exact⟨_,.step hx hp⟩
theorem Set1.path {E:List El}(h:Set1 E){x:El}(hx:x∈E):∃ p,Pth E x.id p:=Pth.ex h x.id.c.toNat x hx (by have:=h.ct x hx;omega)
theorem Pth.grow {E:List El}(h:∀ x∈E,x.af.c<x.id.c){x:Eid}{p:List Eid}(k:Pth E x p):∀ y∈p,y.c≤x.c:=by
 induction k with
 | root m e=>intro y hy;rw[List.mem_singleton] at hy;subst hy;exact Int.le_refl _
 | @step x p m kp ih =>
  intro y hy
  rcases List.mem_append.1 hy with hy | hy
  ·have:=ih y hy
   have:=h _ m
   omega
  ·rw[List.mem_singleton] at hy;subst hy;exact Int.le_refl _
def Ah (E:List El)(x y:El):Prop:=∃ p q,Pth E x.id p∧Pth E y.id q∧ahd p q
theorem Ah.irr {E:List El}(h:Set1 E)(x:El):¬Ah E x x:=fun⟨p,q,hp,hq,k⟩=>by
 rw[hp.fn h hq] at k
 exact zCW _ k
theorem Ah.trans {E:List El}(h:Set1 E){x y z:El}(h1:Ah E x y)(h2:Ah E y z):Ah E x z:=by
 obtain⟨p,q,hp,hq,k⟩:=h1
 obtain⟨q',r,hq',hr,k'⟩:=h2
 rw[hq'.fn h hq] at k'
 exact⟨p,r,hp,hr,zBS k k'⟩
theorem Ah.mono {E F:List El}(h:∀ x∈E,x∈F){x y:El}(k:Ah E x y):Ah F x y:=by
 obtain⟨p,q,hp,hq,k⟩:=k
 exact⟨p,q,hp.mono h,hq.mono h,k⟩
structure Txt (E:List El):Prop where
 s1:Set1 E
 pw:E.Pairwise (Ah E)
theorem zNU {α:Type}{R:α→α→Prop}:∀ {l m:List α},(∀ x y,R x y → ¬R y x)→l.Pairwise R→m.Pairwise R→(∀ x,x∈l↔x∈m)→l=m
 | [],[],_,_,_,_=>rfl
 | [],b::m,_,_,_,h=>absurd ((h b).2 List.mem_cons_self) (by simp)
 | a::l,[],_,_,_,h=>absurd ((h a).1 List.mem_cons_self) (by simp)
 | a::l,b::m,hR,hl,hm,h=>by
  have hl':=List.pairwise_cons.1 hl
  have hm':=List.pairwise_cons.1 hm
  have e:a=b:=by
   rcases List.mem_cons.1 ((h a).1 List.mem_cons_self) with e | ha
   ·exact e
   ·rcases List.mem_cons.1 ((h b).2 List.mem_cons_self) with e | hb
    ·exact e.symm
    ·exact absurd (hm'.1 a ha) (hR _ _ (hl'.1 b hb))
  subst e
  rw[zNU hR hl'.2 hm'.2 fun x=>?_]
  have na:a ∉ l:=fun k=>(hR _ _ (hl'.1 a k)) (hl'.1 a k)
  have nb:a ∉ m:=fun k=>(hR _ _ (hm'.1 a k)) (hm'.1 a k)
  have hx:=h x
  simp only[List.mem_cons] at hx
  by_cases k:x=a
  ·subst k;exact⟨fun k=>absurd k na,fun k=>absurd k nb⟩
  ·simpa [k] using hx
theorem Txt.eq {E F:List El}(hE:Txt E)(hF:Txt F)(h:∀ x,x∈E↔x∈F):E=F:=by
 refine zNU (R:=Ah E) (fun x y h1 h2=>Ah.irr hE.s1 x (Ah.trans hE.s1 h1 h2)) hE.pw (hF.pw.imp fun k=>k.mono fun x=>(h x).2) h
theorem Txt.nil:Txt []:=⟨⟨List.nodup_nil,fun _ h=>absurd h (by simp),fun _ h=>absurd h (by simp)⟩,.nil⟩
theorem Txt.filter {E:List El}(hE:Txt E)(f:El→Bool)(hf:∀ x∈E,∀ y∈E,f x=true→y.id=x.af→f y=true):Txt (E.filter f):=by
 have hs:Set1 (E.filter f):=by
  refine⟨?_,fun x hx=>hE.s1.ct x (List.mem_filter.1 hx).1,fun x hx=>?_⟩
  ·exact(hE.s1.nd.sublist (List.Sublist.map _ List.filter_sublist))
  ·obtain⟨h1,h2⟩:=List.mem_filter.1 hx
   rcases hE.s1.rt x h1 with e | ⟨y,hy,e⟩
   ·exact .inl e
   ·exact .inr ⟨y,List.mem_filter.2 ⟨hy,hf x h1 y hy h2 e⟩,e⟩
 refine⟨hs, ?_⟩
 have h1:=hE.pw.sublist (List.filter_sublist (p:=f))
 refine List.Pairwise.imp_of_mem (fun {a b} ha hb k=>?_) h1
 obtain⟨p,q,hp,hq,k⟩:=k
 obtain⟨p',hp'⟩:=hs.path ha
 obtain⟨q',hq'⟩:=hs.path hb
 rw[(hp'.mono fun x hx=>(List.mem_filter.1 hx).1).fn hE.s1 hp] at hp'
 rw[(hq'.mono fun x hx=>(List.mem_filter.1 hx).1).fn hE.s1 hq] at hq'
 exact⟨p,q,hp',hq',k⟩
theorem zIO (p:List Eid):¬ahd p []:=by
 cases p <;> exact fun h=>h
theorem zBC {α:Type}(l:List α):l=[] ∨ ∃ q b,l=q++[b]:=by
 rcases List.eq_nil_or_concat l with h | ⟨q,b,h⟩
 ·exact .inl h
 ·exact .inr ⟨q,b,by rw[h,List.concat_eq_append]⟩
def popT (af:Eid):List Eid→Eid→Eid × List Eid
 | [],el=>(el,[])
 | t::s,el=>if t=af then (el,t::s) else popT af s t
def ordS (x:Eid × Eid)(s seen:List Eid):Bool:=!((decide ((popT x.2 s Eid.z).2=[]) && !decide (x.2=Eid.z)) || (!decide ((popT x.2 s Eid.z).1=Eid.z) && !x.1.less (popT x.2 s Eid.z).1) || decide (x.1∈seen))
def stk (l:List (Eid × Eid)):List Eid:=l.foldl (fun s x=>x.1::(popT x.2 s Eid.z).2) []
theorem zBO (l:List (Eid × Eid))(x:Eid × Eid):stk (l++[x])=x.1::(popT x.2 (stk l) Eid.z).2:=by simp [stk]
def Ord (l:List (Eid × Eid)):Prop:=∀ pre x post,l=pre++x::post→ordS x (stk pre) (pre.map (·.1))=true
theorem Ord.nil:Ord []:=fun pre x post h=>absurd h (by simp)
theorem Ord.pre {l m:List (Eid × Eid)}(h:Ord (l++m)):Ord l:=fun pre x post e=>h pre x (post++m) (by rw[e];simp)
theorem Ord.snoc {l:List (Eid × Eid)}{x:Eid × Eid}(h:Ord l)(k:ordS x (stk l) (l.map (·.1))=true):Ord (l++[x]):=by
 intro pre y post e
 rcases zBC post with rfl | ⟨q,b,rfl⟩
 ·have:=List.append_inj' e rfl
  obtain⟨rfl,h2⟩:=this
  injection h2 with h2
  subst h2
  exact k
 ·have e':l++[x]=(pre++y::q)++[b]:=by rw[e];simp
  exact h pre y q (List.append_inj' e' rfl).1
theorem zDX {af:Eid}:∀ {m:List Eid} {q:List Eid} {el:Eid},(∀ t∈m,t≠af)→(q=[] ∨ ∃ t,q=af::t)→popT af (m++q) el=(m.getLast?.getD el,q)
 | [],q,el,_,hq=>by
  rcases hq with rfl | ⟨t,rfl⟩
  ·rfl
  ·show popT af (af::t) el=_
   rw[popT,if_pos rfl];rfl
 | a::m,q,el,hm,hq=>by
  rw[List.cons_append,popT,if_neg (hm a List.mem_cons_self),zDX (fun t ht=>hm t (List.mem_cons_of_mem _ ht)) hq]
  cases m with
  | nil=>rfl
  | cons b m=>simp [List.getLast?_cons]
theorem zMH (af:Eid):∀ s:List Eid,∃ m q,s=m++q∧(∀ t∈m,t≠af)∧(q=[] ∨ ∃ t,q=af::t)
 | []=>⟨[],[],rfl,(fun _ h=>absurd h (by simp)),.inl rfl⟩
 | a::s=>by
  by_cases h:a=af
  ·subst h
   exact⟨[],a::s,rfl,(fun _ h=>absurd h (by simp)),.inr ⟨s,rfl⟩⟩
  ·obtain⟨m,q,rfl,hm,hq⟩:=zMH af s
   exact⟨a::m,q,rfl,fun t ht=>(List.mem_cons.1 ht).elim (fun e=>e ▸ h) (hm t),hq⟩
def prs (E:List El):List (Eid × Eid):=E.map fun x=>(x.id,x.af)
theorem zJU (E:List El):(prs E).map (·.1)=E.map (·.id):=by simp [prs]
theorem Txt.ins {A R B:List El}(h:Txt (A++B))(hs:Set1 (A++R++B))(h1:∀ a∈A,∀ r∈R,Ah (A++R++B) a r)(h2:R.Pairwise (Ah (A++R++B)))(h3:∀ r∈R,∀ b∈B,Ah (A++R++B) r b):Txt (A++R++B):=by
 refine⟨hs, ?_⟩
 have hm:∀ x∈A++B,x∈A++R++B:=fun x hx=>by
  rcases List.mem_append.1 hx with h | h
  ·exact List.mem_append.2 (.inl (List.mem_append.2 (.inl h)))
  ·exact List.mem_append.2 (.inr h)
 have hp:=h.pw.imp (fun k=>Ah.mono hm k)
 obtain⟨pA,pB,pAB⟩:=List.pairwise_append.1 hp
 refine List.pairwise_append.2 ⟨List.pairwise_append.2 ⟨pA,h2,h1⟩,pB,fun a ha b hb=>?_⟩
 rcases List.mem_append.1 ha with ha | ha
 ·exact pAB a ha b hb
 ·exact h3 a ha b hb
def Stk (E:List El)(s:List Eid):Prop:=(E=[]∧s=[]) ∨ ∃ E' y,E=E'++[y]∧Pth E y.id s.reverse
theorem zAN {α:Type}{P:List α→Prop}(h0:P [])(h1:∀ l x,P l→P (l++[x]))(l:List α):P l:=by
 suffices h:∀ n (l:List α),l.length=n→P l from h _ l rfl
 intro n
 induction n with
 | zero=>intro l hl;rw[List.eq_nil_of_length_eq_zero hl];exact h0
 | succ n ih =>
  intro l hl
  rcases zBC l with rfl | ⟨q,b,rfl⟩
  ·exact h0
  ·exact h1 q b (ih q (by simpa using hl))
theorem Stk.pos {E:List El}{s:List Eid}(hs:Set1 E)(h:Stk E s):∀ t∈s,t≠Eid.z:=by
 rcases h with⟨_,rfl⟩ | ⟨E',y,rfl,hp⟩
 ·exact fun _ h=>absurd h (by simp)
 ·intro t ht
  obtain⟨q,r,e⟩:=List.append_of_mem (List.mem_reverse.2 ht)
  exact(hp.pre e).nz fun x hx=>(hs.ct x hx).2
theorem zN2 (E:List El):(∀ x∈E,x.af.c<x.id.c∧0<x.id.c)→Ord (prs E)→Txt E∧Stk E (stk (prs E)):=by
 refine zAN (P:=fun E=>(∀ x∈E,x.af.c<x.id.c∧0<x.id.c)→Ord (prs E)→Txt E∧Stk E (stk (prs E))) (fun _ _=>⟨Txt.nil,.inl ⟨rfl,rfl⟩⟩) (fun E x ih hc ho=>?_) E
 have he:prs (E++[x])=prs E++[(x.id,x.af)]:=by simp [prs]
 rw[he] at ho ⊢
 obtain⟨hT,hS⟩:=ih (fun y hy=>hc y (List.mem_append_left _ hy)) ho.pre
 have hx:=hc x (List.mem_append_right _ List.mem_cons_self)
 have hst:=ho (prs E) (x.id,x.af) [] rfl
 obtain⟨m,q,hmq,hm,hq⟩:=zMH x.af (stk (prs E))
 have hpe:=zDX (el:=Eid.z) hm hq
 rw[← hmq] at hpe
 unfold ordS at hst
 rw[hpe,zJU] at hst
 simp only[Bool.not_eq_true',Bool.or_eq_false_iff,Bool.and_eq_false_iff,Bool.not_eq_false',decide_eq_false_iff_not,decide_eq_true_eq] at hst
 obtain⟨⟨h1,h2⟩,h3⟩:=hst
 rw[zBO,hpe]
 have hmem:∀ y∈E,y∈E++[x]:=fun y hy=>List.mem_append_left _ hy
 have hxm:x∈E++[x]:=List.mem_append_right _ List.mem_cons_self
 have hpos:=hS.pos hT.s1
 -- the path of the new one
 have hrt:x.af=Eid.z ∨ ∃ y∈E,y.id=x.af:=by
  rcases hq with rfl | ⟨t,rfl⟩
  ·rcases h1 with h1 | h1
   ·exact absurd rfl h1
   ·exact .inl h1
  ·rcases hS with⟨_,h⟩ | ⟨E',y,rfl,hp⟩
   ·rw[h] at hmq
    exact absurd hmq.symm (by simp)
   ·rw[hmq] at hp
    exact .inr (hp.pre (q:=t.reverse) (y:=x.af) (r:=m.reverse) (by simp)).mem
 have hs1:Set1 (E++[x]):=by
  refine⟨?_,hc,fun y hy=>?_⟩
  ·rw[List.map_append,List.nodup_append]
   refine⟨hT.s1.nd,by simp,fun a ha b hb e=>?_⟩
   simp at hb
   subst hb
   subst e
   exact h3 ha
  ·rcases List.mem_append.1 hy with hy | hy
   ·rcases hT.s1.rt y hy with e | ⟨w,hw,e⟩
    ·exact .inl e
    ·exact .inr ⟨w,hmem w hw,e⟩
   ·rw[List.mem_singleton] at hy;subst hy
    rcases hrt with e | ⟨w,hw,e⟩
    ·exact .inl e
    ·exact .inr ⟨w,hmem w hw,e⟩
 have hpx:Pth (E++[x]) x.id (x.id::q).reverse:=by
  rcases hq with rfl | ⟨t,rfl⟩
  ·rcases h1 with h1 | h1
   ·exact absurd rfl h1
   ·exact .root hxm h1
  ·rcases hS with⟨_,h⟩ | ⟨E',y,rfl,hp⟩
   ·rw[h] at hmq
    exact absurd hmq.symm (by simp)
   ·rw[hmq] at hp
    have:=hp.pre (q:=t.reverse) (y:=x.af) (r:=m.reverse) (by simp)
    have:=Pth.step hxm (this.mono hmem)
    simpa using this
 refine⟨?_,.inr ⟨E,x,rfl,hpx⟩⟩
 have hT':Txt (E++[]):=by rw[List.append_nil];exact hT
 have:=hT'.ins (R:=[x]) (by rw[List.append_nil];exact hs1) (fun a ha r hr=>?_) (List.pairwise_singleton _ _) (fun r hr b hb=>absurd hb (by simp))
 ·rwa [List.append_nil] at this
 ·rw[List.mem_singleton] at hr;subst hr
  rw[List.append_nil]
  rcases hS with⟨rfl,h⟩ | ⟨E',y,rfl,hp⟩
  ·exact absurd ha (by simp)
  ·have hyx:Ah (E'++[y]++[r]) y r:=by
    refine⟨_,_,hp.mono hmem,hpx, ?_⟩
    rw[hmq,List.reverse_append,List.reverse_cons]
    rcases zBC m with rfl | ⟨m',e,rfl⟩
    ·rw[List.reverse_nil,List.append_nil];exact zBR _ _ _
    ·rw[List.reverse_append]
     have hle:(m'++[e]).getLast?.getD Eid.z=e:=by simp
     rw[hle] at h2
     have hez:e≠Eid.z:=hpos e (by rw[hmq];simp)
     rcases h2 with h2 | h2
     ·exact absurd h2 hez
     ·exact zFD _ _ _ h2
   rcases List.mem_append.1 ha with ha | ha
   ·have:=(List.pairwise_append.1 hT.pw).2.2 a ha y List.mem_cons_self
    exact(this.mono hmem).trans hs1 hyx
   ·rw[List.mem_singleton] at ha;subst ha;exact hyx
theorem zDH:∀ {c p q:List Eid},ahd (c++p) (c++q)→ahd p q
 | [],_,_,h=>h
 | a::c,p,q,h=>by
  rcases h with h | ⟨_,h⟩
  ·rw[zDC] at h;cases h
  ·exact zDH h
theorem Txt.pre {E:List El}{x:El}(h:Txt (E++[x])):Txt E:=by
 have hmem:∀ y∈E,y∈E++[x]:=fun y hy=>List.mem_append_left _ hy
 have hxm:x∈E++[x]:=List.mem_append_right _ List.mem_cons_self
 have hp:=List.pairwise_append.1 h.pw
 have hcl:∀ y∈E,y.af≠x.id:=fun y hy e=>by
  have h1:=hp.2.2 y hy x List.mem_cons_self
  obtain⟨p,hpx⟩:=h.s1.path hxm
  have hpx':=hpx
  rw[← e] at hpx'
  have h2:Ah (E++[x]) x y:=⟨_,_,hpx,.step (hmem y hy) hpx',zBR _ _ _⟩
  exact Ah.irr h.s1 x (h2.trans h.s1 h1)
 have hs:Set1 E:=by
  refine⟨?_,fun y hy=>h.s1.ct y (hmem y hy),fun y hy=>?_⟩
  ·have:=h.s1.nd
   rw[List.map_append,List.nodup_append] at this
   exact this.1
  ·rcases h.s1.rt y (hmem y hy) with e | ⟨w,hw,e⟩
   ·exact .inl e
   ·rcases List.mem_append.1 hw with hw | hw
    ·exact .inr ⟨w,hw,e⟩
    ·rw[List.mem_singleton] at hw;subst hw
     exact absurd e.symm (hcl y hy)
 refine⟨hs,List.Pairwise.imp_of_mem (fun {a b} ha hb k=>?_) hp.1⟩
 obtain⟨p,q,k1,k2,k⟩:=k
 obtain⟨p',hp'⟩:=hs.path ha
 obtain⟨q',hq'⟩:=hs.path hb
 rw[(hp'.mono hmem).fn h.s1 k1] at hp'
 rw[(hq'.mono hmem).fn h.s1 k2] at hq'
 exact⟨p,q,hp',hq',k⟩
theorem zNC (E:List El):Txt E→Ord (prs E)∧Stk E (stk (prs E)):=by
 refine zAN (P:=fun E=>Txt E→Ord (prs E)∧Stk E (stk (prs E))) (fun _=>⟨Ord.nil,.inl ⟨rfl,rfl⟩⟩) (fun E x ih hT=>?_) E
 have he:prs (E++[x])=prs E++[(x.id,x.af)]:=by simp [prs]
 rw[he]
 have hE:=hT.pre
 obtain⟨hO,hS⟩:=ih hE
 have hmem:∀ y∈E,y∈E++[x]:=fun y hy=>List.mem_append_left _ hy
 have hxm:x∈E++[x]:=List.mem_append_right _ List.mem_cons_self
 have hpos:=hS.pos hE.s1
 have hps:=List.pairwise_append.1 hT.pw
 have hnx:x.id ∉ E.map (·.id):=by
  have:=hT.s1.nd
  rw[List.map_append,List.nodup_append] at this
  exact fun k=>this.2.2 _ k x.id (by simp) rfl
 have key:∃ m q,stk (prs E)=m++q∧(∀ t∈m,t≠x.af)∧((q=[]∧x.af=Eid.z) ∨ ∃ t,q=x.af::t)∧(m=[]∨x.id.less (m.getLast?.getD Eid.z)=true)∧Pth (E++[x]) x.id (q.reverse++[x.id]):=by
  rcases hT.s1.rt x hxm with e | ⟨w,hw,e⟩
  ·refine⟨stk (prs E),[],by simp,fun t ht=>e ▸ hpos t ht,.inl ⟨rfl,e⟩, ?_,.root hxm e⟩
   rcases hS with⟨rfl,h⟩ | ⟨E',y,rfl,hp⟩
   ·exact .inl h
   ·right
    obtain⟨p,q,k1,k2,k⟩:=hps.2.2 y (List.mem_append_right _ List.mem_cons_self) x List.mem_cons_self
    rw[(hp.mono hmem).fn hT.s1 k1 |>.symm,k2.fn hT.s1 (.root hxm e)] at k
    generalize stk (prs (E'++[y]))=s at *
    rcases zBC s with rfl | ⟨s',a,rfl⟩
    ·obtain⟨z,hz⟩:=hp.last
     exact absurd hz (by simp)
    ·rw[List.reverse_append] at k
     simp only[List.reverse_cons,List.reverse_nil,List.nil_append,List.singleton_append] at k
     rcases k with k | ⟨_,k⟩
     ·simpa using k
     ·exact absurd k (zIO _)
  ·have hwE:w∈E:=by
    rcases List.mem_append.1 hw with h | h
    ·exact h
    ·rw[List.mem_singleton] at h;subst h
     have:=hT.s1.ct w hxm
     rw[e] at this
     omega
   obtain⟨pw,hpw⟩:=hT.s1.path hw
   have hpx:Pth (E++[x]) x.id (pw++[x.id]):=.step hxm (e ▸ hpw)
   rcases hS with⟨rfl,h⟩ | ⟨E',y,rfl,hp⟩
   ·exact absurd hwE (by simp)
   ·have hyx:=hps.2.2 y (List.mem_append_right _ List.mem_cons_self) x List.mem_cons_self
    obtain⟨p,q,k1,k2,k⟩:=hyx
    rw[(hp.mono hmem).fn hT.s1 k1 |>.symm,k2.fn hT.s1 hpx] at k
    have hpm:=hp.mono hmem
    generalize hsp:stk (prs (E'++[y]))=s at *
    have hpre:∃ r,s.reverse=pw++r:=by
     rcases List.mem_append.1 hwE with h | h
     ·obtain⟨p',q',j1,j2,j⟩:=(List.pairwise_append.1 hE.pw).2.2 w h y List.mem_cons_self
      rw[(j1.mono hmem).fn hT.s1 hpw,(j2.mono hmem).fn hT.s1 hpm] at j
      rcases zEP j with⟨b,r,e2⟩ | ⟨c,a,b,s1,t1,e1,e2,hl⟩
      ·exact⟨_,e2⟩
      ·rw[e1,e2,List.append_assoc] at k
       have k:=zDH k
       rcases k with k | ⟨k,_⟩
       ·rw[zJJ hl] at k;cases k
       ·rw[k,zDC] at hl;cases hl
     ·rw[List.mem_singleton] at h;subst h
      exact⟨[],by rw[hpm.fn hT.s1 hpw];simp⟩
    obtain⟨r,hr⟩:=hpre
    obtain⟨p0,hp0⟩:=hpw.last
    rw[e] at hp0
    have hs:s=r.reverse++pw.reverse:=by rw[← List.reverse_append,← hr,List.reverse_reverse]
    refine⟨r.reverse,pw.reverse,hs,fun t ht et=>?_,.inr ⟨p0.reverse,by rw[hp0];simp⟩, ?_,by rw[List.reverse_reverse];exact hpx⟩
    ·subst et
     obtain⟨a1,b1,e1⟩:=List.append_of_mem (List.mem_reverse.1 ht)
     have g1:=hpm.pre (q:=p0) (y:=x.af) (r:=r) (by rw[hr,hp0];simp)
     have g2:=hpm.pre (q:=pw++a1) (y:=x.af) (r:=b1) (by rw[hr,e1];simp)
     have g3:=congrArg List.length (g1.fn hT.s1 g2)
     rw[hp0] at g3
     simp at g3
    ·rw[hr] at k
     cases r with
     | nil=>exact .inl rfl
     | cons a r =>
      right
      have k:=zDH k
      rcases k with k | ⟨_,k⟩
      ·simpa using k
      ·exact absurd k (zIO _)
 obtain⟨m,q,hmq,hm,hq,hl,hp⟩:=key
 have hpe:=zDX (el:=Eid.z) (q:=q) hm (hq.elim (fun h => .inl h.1) .inr)
 rw[← hmq] at hpe
 refine⟨hO.snoc ?_, ?_⟩
 ·unfold ordS
  rw[hpe,zJU]
  simp only[Bool.not_eq_true',Bool.or_eq_false_iff,Bool.and_eq_false_iff,Bool.not_eq_false',decide_eq_false_iff_not,decide_eq_true_eq]
  refine⟨⟨?_, ?_⟩,hnx⟩
  ·rcases hq with⟨_,h⟩ | ⟨t,rfl⟩
   ·exact .inr h
   ·exact .inl (by simp)
  ·rcases hl with rfl | h
   ·exact .inl rfl
   ·exact .inr h
 ·rw[zBO,hpe]
  exact .inr ⟨E,x,rfl,by simpa using hp⟩
theorem zJS {E:List El}(h:∀ x∈E,x.af.c<x.id.c∧0<x.id.c):Ord (prs E)↔Txt E:=⟨fun k=>(zN2 E h k).1,fun k=>(zNC E k).1⟩
def Chn:Eid→List El→Prop
 | _,[]=>True
 | a,x::R=>x.af=a∧a.c<x.id.c∧Chn x.id R
theorem Chn.path {F:List El}:∀ {R:List El} {a:Eid} {p:List Eid},Chn a R→(∀ x∈R,x∈F)→((a=Eid.z∧p=[])∨Pth F a p) → ∀ x∈R,∃ q,Pth F x.id (p++q) ∧ ∀ y R',R=y::R' → ∃ q',q=y.id::q'
 | [],_,_,_,_,_=>fun x hx=>absurd hx (by simp)
 | y::R,a,p,hC,hm,ha=>by
  intro x hx
  obtain⟨h1,h2,h3⟩:=hC
  have hy:Pth F y.id (p++[y.id]):=by
   exact zB0A
  rcases List.mem_cons.1 hx with rfl | hx
  ·exact⟨[x.id],hy,fun y' R' e=>by injection e with e1 e2;subst e1;exact⟨[],rfl⟩⟩
  ·obtain⟨q,hq,_⟩:=Chn.path h3 (fun x hx=>hm x (List.mem_cons_of_mem _ hx)) (.inr hy) x hx
   rw[List.append_assoc] at hq
   exact⟨_,hq,fun y' R' e=>by injection e with e1 e2;subst e1;exact⟨q,rfl⟩⟩
theorem Chn.pw {F:List El}:∀ {R:List El} {a:Eid} {p:List Eid},Chn a R→(∀ x∈R,x∈F)→((a=Eid.z∧p=[])∨Pth F a p)→R.Pairwise (Ah F)
 | [],_,_,_,_,_ => .nil
 | y::R,a,p,hC,hm,ha=>by
  obtain⟨h1,h2,h3⟩:=hC
  have hy:Pth F y.id (p++[y.id]):=by
   exact zB0A
  refine List.pairwise_cons.2 ⟨fun x hx=>?_,Chn.pw h3 (fun x hx=>hm x (List.mem_cons_of_mem _ hx)) (.inr hy)⟩
  obtain⟨q,hq,hh⟩:=Chn.path h3 (fun x hx=>hm x (List.mem_cons_of_mem _ hx)) (.inr hy) x hx
  cases R with
  | nil=>exact absurd hx (by simp)
  | cons w R =>
   obtain⟨q',rfl⟩:=hh w R rfl
   exact⟨_,_,hy,hq,zBR _ _ _⟩
theorem Chn.grow:∀ {R:List El} {a:Eid},Chn a R → ∀ x∈R,a.c<x.id.c
 | [],_,_=>fun x hx=>absurd hx (by simp)
 | y::R,a,hC=>fun x hx=>by
  obtain⟨h1,h2,h3⟩:=hC
  rcases List.mem_cons.1 hx with rfl | hx
  ·exact h2
  ·have:=h3.grow x hx
   omega
theorem Chn.ct:∀ {R:List El} {a:Eid},Chn a R→0≤a.c → ∀ x∈R,x.af.c<x.id.c∧0<x.id.c
 | [],_,_,_=>fun x hx=>absurd hx (by simp)
 | y::R,a,hC,ha=>fun x hx=>by
  obtain⟨h1,h2,h3⟩:=hC
  rcases List.mem_cons.1 hx with rfl | hx
  ·rw[h1];omega
  ·exact h3.ct (by omega) x hx
theorem Chn.rt:∀ {R:List El} {a:Eid},Chn a R → ∀ x∈R,x.af=a ∨ ∃ y∈R,y.id=x.af
 | [],_,_=>fun x hx=>absurd hx (by simp)
 | y::R,a,hC=>fun x hx=>by
  obtain⟨h1,h2,h3⟩:=hC
  rcases List.mem_cons.1 hx with rfl | hx
  ·exact .inl h1
  ·rcases h3.rt x hx with e | ⟨w,hw,e⟩
   ·exact .inr ⟨y,List.mem_cons_self,e.symm⟩
   ·exact .inr ⟨w,List.mem_cons_of_mem _ hw,e⟩
theorem Chn.nd:∀ {R:List El} {a:Eid},Chn a R→(R.map (·.id)).Nodup
 | [],_,_=>List.nodup_nil
 | y::R,a,hC=>by
  obtain⟨h1,h2,h3⟩:=hC
  rw[List.map_cons,List.nodup_cons]
  refine⟨fun h=>?_,h3.nd⟩
  obtain⟨x,hx,e⟩:=List.mem_map.1 h
  have:=h3.grow x hx
  rw[e] at this
  omega
theorem Txt.put {A0 A1 B R:List El}{r:El}{R':List El}(hT:Txt (A0++A1++B))(hR:R=r::R')(hC:Chn r.af R)
  (ha:(r.af=Eid.z∧A0=[]) ∨ ∃ A00 w,A0=A00++[w]∧w.id=r.af)
  (hf:∀ x∈R,∀ y∈A0++A1++B,x.id≠y.id)
  (h1:∀ x∈A1,r.id.less x.id=true)
  (h2:∀ b B',B=b::B'→r.id.less b.id=false):Txt (A0++A1++R++B):=by
 have hrc:0≤r.af.c:=by
  rcases ha with⟨h,_⟩ | ⟨A00,w,rfl,h⟩
  ·rw[h];decide
  ·have:=(hT.s1.ct w (by simp)).2
   rw[h] at this
   omega
 have hrm:r∈R:=by rw[hR];exact List.mem_cons_self
 have hm:∀ x∈A0++A1++B,x∈A0++A1++R++B:=fun x hx=>by
  rcases List.mem_append.1 hx with h | h
  ·exact List.mem_append_left _ (List.mem_append_left _ h)
  ·exact List.mem_append_right _ h
 have hmR:∀ x∈R,x∈A0++A1++R++B:=fun x hx=>List.mem_append_left _ (List.mem_append_right _ hx)
 have hs:Set1 (A0++A1++R++B):=by
  refine⟨?_,fun x hx=>?_,fun x hx=>?_⟩
  ·have hn:=hT.s1.nd
   have hd:∀ x∈R,x.id ∉ (A0++A1++B).map (·.id):=fun x hx k=>by
    obtain⟨y,hy,e⟩:=List.mem_map.1 k
    exact hf x hx y hy e.symm
   rw[List.map_append,List.nodup_append] at hn
   rw[List.map_append,List.map_append,List.nodup_append,List.nodup_append]
   refine⟨⟨hn.1,hC.nd,fun a ha b hb e=>?_⟩,hn.2.1,fun a ha b hb e=>?_⟩
   ·obtain⟨x,hx,rfl⟩:=List.mem_map.1 hb
    subst e
    exact hd x hx (by rw[List.map_append];exact List.mem_append_left _ ha)
   ·rcases List.mem_append.1 ha with ha | ha
    ·exact hn.2.2 a ha b hb e
    ·obtain⟨x,hx,rfl⟩:=List.mem_map.1 ha
     subst e
     exact hd x hx (by rw[List.map_append];exact List.mem_append_right _ hb)
  ·rcases List.mem_append.1 hx with h | h
   ·rcases List.mem_append.1 h with h | h
    ·exact hT.s1.ct x (List.mem_append_left _ h)
    ·exact hC.ct hrc x h
   ·exact hT.s1.ct x (List.mem_append_right _ h)
  ·have old:x∈A0++A1++B→x.af=Eid.z ∨ ∃ y∈A0++A1++R++B,y.id=x.af:=fun h=>by
    rcases hT.s1.rt x h with e | ⟨y,hy,e⟩
    ·exact .inl e
    ·exact .inr ⟨y,hm y hy,e⟩
   rcases List.mem_append.1 hx with h | h
   ·rcases List.mem_append.1 h with h | h
    ·exact old (List.mem_append_left _ h)
    ·rcases hC.rt x h with e | ⟨y,hy,e⟩
     ·rcases ha with⟨h7,_⟩ | ⟨A00,w,rfl,h7⟩
      ·exact .inl (e.trans h7)
      ·exact .inr ⟨w,by simp,h7.trans e.symm⟩
     ·exact .inr ⟨y,hmR y hy,e⟩
   ·exact old (List.mem_append_right _ h)
 -- the path of the one that it names
 have hpa:∃ p,((r.af=Eid.z∧p=[])∨Pth (A0++A1++R++B) r.af p)∧(∀ u∈p,u.c≤r.af.c)∧(∀ x∈A0,∀ q,Pth (A0++A1++R++B) x.id q→q=p∨ahd q p)∧(∀ x∈A1++B,∀ q,Pth (A0++A1++R++B) x.id q→ahd p q):=by
  rcases ha with⟨h,rfl⟩ | ⟨A00,w,rfl,h⟩
  ·refine⟨[],.inl ⟨h,rfl⟩,(fun _ h=>absurd h (by simp)),(fun _ h=>absurd h (by simp)),fun x hx q hq=>?_⟩
   obtain⟨q0,rfl⟩:=hq.last
   cases q0 <;> trivial
  ·have hw:w∈A00++[w]++A1++B:=by simp
   obtain⟨p,hp⟩:=hT.s1.path hw
   have hpF:=hp.mono hm
   have hpw:=hT.pw
   have hpw':(A00++([w]++(A1++B))).Pairwise (Ah (A00++[w]++A1++B)):=by simpa using hpw
   have q1:=List.pairwise_append.1 hpw'
   have q2:=List.pairwise_append.1 q1.2.1
   refine⟨p,.inr (h ▸ hpF),fun u hu=>?_,fun x hx q hq=>?_,fun x hx q hq=>?_⟩
   ·have:=hp.grow (fun x hx=>(hT.s1.ct x hx).1) u hu
    rw[h] at this
    exact this
   ·rcases List.mem_append.1 hx with hx | hx
    ·obtain⟨p1,p2,k1,k2,k⟩:=q1.2.2 x hx w (by simp)
     rw[(k1.mono hm).fn hs hq,(k2.mono hm).fn hs hpF] at k
     exact .inr k
    ·rw[List.mem_singleton] at hx;subst hx
     exact .inl (hq.fn hs hpF)
   ·obtain⟨p1,p2,k1,k2,k⟩:=q2.2.2 w (by simp) x hx
    rw[(k1.mono hm).fn hs hpF,(k2.mono hm).fn hs hq] at k
    exact k
 obtain⟨p,hp,hpc,hA0,hAB⟩:=hpa
 have hCp:=hC.path hmR hp
 have hpr:∀ x∈R,∃ q',Pth (A0++A1++R++B) x.id (p++r.id::q'):=fun x hx=>by
  obtain⟨q,hq,hh⟩:=hCp x hx
  obtain⟨q',rfl⟩:=hh r R' hR
  exact⟨q',hq⟩
 have hrl:r.af.c<r.id.c:=hC.grow r hrm
 refine hT.ins hs (fun a ha x hx=>?_) (hC.pw hmR hp) (fun x hx b hb=>?_)
 ·-- what stands ahead
  obtain⟨q',hq'⟩:=hpr x hx
  have haE:a∈A0++A1++B:=List.mem_append_left _ ha
  obtain⟨pa,hpa⟩:=hs.path (hm a haE)
  refine⟨_,_,hpa,hq', ?_⟩
  rcases List.mem_append.1 ha with ha | ha
  ·rcases hA0 a ha pa hpa with rfl | k
   ·exact zBR _ _ _
   ·exact zBS k (zBR _ _ _)
  ·-- those behind it that are greater
   have mid:∀ e:Eid,∀ pe,Pth (A0++A1++R++B) e pe→ahd p pe→(pe=pa∨ahd pe pa)→(∃ y∈A0++A1++B,y.id=e)→r.id.less e=true:=by
    rintro e pe hpe k1 k2 ⟨y,hy,rfl⟩
    rcases List.mem_append.1 hy with hy | hy
    ·rcases List.mem_append.1 hy with hy | hy
     ·rcases hA0 y hy pe hpe with rfl | k
      ·exact absurd k1 (zCW _)
      ·exact absurd (zBS k k1) (zCW _)
     ·exact h1 y hy
    ·have hAh:=(List.pairwise_append.1 hT.pw).2.2 a (List.mem_append_right _ ha) y hy
     obtain⟨p1,p2,j1,j2,j⟩:=hAh
     rw[(j1.mono hm).fn hs hpa,(j2.mono hm).fn hs hpe] at j
     rcases k2 with rfl | k2
     ·exact absurd j (zCW _)
     ·exact absurd (zBS j k2) (zCW _)
   -- a path of a: over elements of the old ones
   obtain⟨pa',hpa'⟩:=hT.s1.path haE
   have hpaE:pa'=pa:=(hpa'.mono hm).fn hs hpa
   subst hpaE
   have k:=hAB a (List.mem_append_left _ ha) _ hpa
   rcases zEP k with⟨e,t,he⟩ | ⟨c,u,w,s,t,e1,e2,hl⟩
   ·have hpe:=hpa'.pre he
    have hle:r.id.less e=true:=mid e _ (hpe.mono hm) (zBR _ _ _) (by
     cases t with
     | nil=>exact .inl he.symm
     | cons b t=>rw[he];exact .inr (by have:=zBR (p++[e]) b t;simpa using this)) hpe.mem
    rw[he]
    exact zFD _ _ _ hle
   ·have hpe:=hpa'.pre e2
    have hle:r.id.less w=true:=mid w _ (hpe.mono hm) (by rw[e1];exact zFD _ _ _ hl) (by
     cases t with
     | nil=>exact .inl e2.symm
     | cons b t=>rw[e2];exact .inr (by have:=zBR (c++[w]) b t;simpa using this)) hpe.mem
    have:=zJK hle
    have:=zJK hl
    have:=hpc u (by rw[e1];simp)
    omega
 ·-- what stands behind
  obtain⟨q',hq'⟩:=hpr x hx
  cases B with
  | nil=>exact absurd hb (by simp)
  | cons b0 B' =>
   have hb0:Ah (A0++A1++R++b0::B') x b0:=by
    have hbm:b0∈A0++A1++b0::B':=by simp
    obtain⟨pb,hpb⟩:=hT.s1.path hbm
    refine⟨_,_,hq',hpb.mono hm, ?_⟩
    have k:=hAB b0 (by simp) _ (hpb.mono hm)
    have hlt:b0.id.less r.id=true:=by
     rcases zHD (hf r hrm b0 hbm) with h | h
     ·rw[h2 b0 B' rfl] at h;cases h
     ·exact h
    rcases zEP k with⟨e,t,he⟩ | ⟨c,u,w,s,t,e1,e2,hl⟩
    ·rw[he]
     refine zFD _ _ _ ?_
     rcases zBC t with rfl | ⟨t',z,rfl⟩
     ·obtain⟨q0,e0⟩:=hpb.last
      rw[he] at e0
      have:=(List.append_inj' e0 rfl).2
      injection this with this
      rw[this];exact hlt
     ·have hpe:=hpb.pre he
      obtain⟨q0,e0⟩:=hpb.last
      have he2:pb=(p++e::t')++[z]:=by rw[he];simp
      rw[he2] at e0
      have e3:=(List.append_inj' e0 rfl).2
      injection e3 with e3
      subst e3
      -- the one ahead of the last one of a path is lesser
      have hlast:e.c<b0.id.c:=by
       rw[he2] at hpb
       generalize hbi:b0.id=i at hpb
       generalize hpp:(p++e::t')++[i]=pp at hpb
       cases hpb with
       | root m e4=>exact absurd (congrArg List.length hpp) (by simp;omega)
       | @step x0 p0 m kp =>
        have e5:=(List.append_inj' hpp rfl).1
        have g:=kp.grow (fun x hx=>(hT.s1.ct x hx).1) e (by rw[← e5];simp)
        have:=(hT.s1.ct x0 m).1
        omega
      have:=zJK hlt
      exact zFL (by omega)
    ·rw[e1,e2,List.append_assoc,List.cons_append]
     exact zFD _ _ _ hl
   rcases List.mem_cons.1 hb with rfl | hb
   ·exact hb0
   ·have:=List.pairwise_cons.1 (List.pairwise_append.1 hT.pw).2.1
    exact hb0.trans hs ((this.1 b hb).mono hm)
def zFP (q r:Rn):Bool:=decide (r.af=q.last)&&decide (r.sp.f=(⟨r.af.hd,IntKind.i64.wrap (r.af.c+1)⟩:Eid))
def room (q:Rn):Int:=IntKind.i64.wrap (64 - q.sp.n)
def addR (out : List Rn) (r : Rn) : List Rn :=
  match out.getLast? with
  | none=>out ++ [r]
  | some q=>if zFP q r = true then
      (if r.cutE (room q) = 0 then out.set (out.length - 1) (zBX q (r.fst (room q))) ++ [r.snd (room q)]
       else if zD7 q r = 0 then out.set (out.length - 1) (zBX q r)
       else out ++ [r])
    else out ++ [r]
def zAJ (l:List Rn):List Rn:=l.foldl addR []
theorem zFM (l:List Rn)(r:Rn):zAJ (l++[r])=addR (zAJ l) r:=by simp [zAJ]
theorem zGX (out:List Rn)(r:Rn):(addR out r).length≤out.length+1:=by
 unfold addR
 split
 ·simp
 ·split
  ·split
   ·simp
   ·split <;> simp
  ·simp
theorem Rn.z_ok:Rn.z.ok:=⟨⟨Eid.z_ok,by decide,by decide⟩,Eid.z_ok,fun _ h=>by cases h⟩
theorem zCR {a b:Rn}:zD7 a b=0↔a.may=true∧b.may=true∧(a.both b).cutE a.sp.n=0∧(a.both b).fst a.sp.n=a∧(a.both b).snd a.sp.n=b:=by
 unfold zD7
 by_cases h:a.may=true∧b.may=true
 ·rw[if_pos h]
  by_cases k:(a.both b).cutE a.sp.n=0∧(a.both b).fst a.sp.n=a∧(a.both b).snd a.sp.n=b
  ·rw[if_pos k];exact⟨fun _=>⟨h.1,h.2,k⟩,fun _=>rfl⟩
  ·rw[if_neg k];exact⟨fun e=>(by cases e),fun e=>absurd e.2.2 k⟩
 ·rw[if_neg h];exact⟨fun e=>(by cases e),fun e=>absurd ⟨e.1,e.2.1⟩ h⟩
theorem zHA {a b:Rn}(ha:a.ok)(hb:b.ok):(zBX a b).ok:=by
 unfold zBX
 split
 ·rename_i h
  obtain⟨ma,mb,_⟩:=zCR.1 h
  have ba:=Spn.may_le (Rn.may_sp ma)
  have bb:=Spn.may_le (Rn.may_sp mb)
  refine⟨⟨ha.1.1, ?_⟩,ha.2.1,fun x hx=>?_⟩
  ·show i64R (a.sp.n+b.sp.n)
   unfold i64R;omega
  ·rcases List.mem_append.1 hx with h | h
   ·exact ha.2.2 x h
   ·exact hb.2.2 x h
 ·exact Rn.z_ok
theorem zFK (a b:Rn):(zBX a b).rs.length≤1000:=by
 unfold zBX
 split
 ·rename_i h
  obtain⟨ma,mb,_⟩:=zCR.1 h
  have ba:=Spn.may_le (Rn.may_sp ma)
  have bb:=Spn.may_le (Rn.may_sp mb)
  have la:=Rn.may_len ma
  have lb:=Rn.may_len mb
  show (a.rs++b.rs).length≤_
  rw[List.length_append];omega
 ·exact Nat.zero_le _
theorem zM1 {r:Rn}{n:Int}(h:r.ok)(hc:r.cutE n=0):(r.fst n).ok:=by
 obtain⟨hm,h0,h1⟩:=Rn.cutE_iff.1 hc
 have hb:=Spn.may_le (Rn.may_sp hm)
 exact⟨⟨h.1.1,by show i64R n;unfold i64R;omega⟩,h.2.1,fun x hx=>h.2.2 x (List.mem_of_mem_take hx)⟩
theorem zML {r:Rn}{n:Int}(h:r.ok)(hc:r.cutE n=0):(r.snd n).ok:=by
 obtain⟨hm,h0,h1⟩:=Rn.cutE_iff.1 hc
 have hb:=Spn.may_le (Rn.may_sp hm)
 exact⟨⟨⟨h.1.1.1,by show i64R (r.sp.f.c+n);unfold i64R;omega⟩,by show i64R (r.sp.n - n);unfold i64R;omega⟩,⟨h.1.1.1,by show i64R (r.sp.f.c+(n - 1));unfold i64R;omega⟩,fun x hx=>h.2.2 x (List.mem_of_mem_drop hx)⟩
theorem zCS {a:AV}{l:List Rn}(hS:Sl 10 isRn a l)(hl:l.length≤100000)(hd:∀ r∈l,r.rs.length≤1000000)(hf:l.length+3000000<fuel):∃ r,Sl 10 isRn r (zAJ l) ∧ ∀ M,zCN fuel (d+9) 73 [a] M=some (r,M):=by
 have ll:=hS.len
 refine gc_ex tf73 rfl (fun M=>by simp only[icyL,fun M=>hS.icy M 12 (by omega)]) ?_
 refine call_gc tf73 rfl (by simp only[icyL,fun M=>hS.icy M 12 (by omega)]) (by simp [a73]) fun b' ht hx=>?_
 have h0:=hx 0 _ rfl
 clear hx
 simp only[a73,c73] at ht ⊢
 simp (disch:=try exact SX) only[RV,seval,h0,ll]
 refine w_loop (I:=fun n t N => ∃ (i:Nat) (o:AV),n=l.length - i∧i≤l.length∧nth undefA t 2=o∧nth undefA t 13=a∧nth undefA t 14=I64 l.length∧nth undefA t 15=I64 i∧Wf N∧SlM N 10 isRn o (zAJ (l.take i))∧(zAJ (l.take i)).length≤i∧(∀ q∈zAJ (l.take i),q.rs.length≤1000000)) (n:=l.length) (by omega) ?_ ?_
 ·refine⟨0,NIL,rfl,Nat.zero_le _, ?_, ?_, ?_, ?_,Wf.mem0,SlM.nil,Nat.le_refl 0,(fun _ h=>by cases h)⟩ <;> simp (disch:=try exact SX) only[RV,seval]
  all_goals first | rfl | assumption | done
 ·rintro n t N hlt ⟨i,o,rfl,hi,g2,g13,g14,g15,w,sm,bl,bd⟩
  simp only[ht] at hlt ⊢
  by_cases hc:i<l.length
  ·have q1:decide ((i:Int)<l.length)=true:=DT
   have w1:IntKind.i64.wrap ((i:Int)+1)=((i+1:Nat):Int):=WI
   obtain⟨r,hiad,hr,hrl⟩:=hS.iad i hc
   have hts:=zFM (l.take i) l[i]
   rw[← zAF l i hc] at hts
   have hal:=zGX (zAJ (l.take i)) l[i]
   have hde:=hd l[i] (List.getElem_mem hc)
   generalize l[i]=e at *
   generalize zAJ (l.take i)=out at *
   obtain⟨ra,rfl,hra,hok⟩:=hr
   have ora:=hra.one
   have olen:=sm.len
   have rlo:∀ m,N.size≤m→((rowsOf o).all fun i=>Nat.blt i m)=true:=fun m h=>rows_lt sm.rl h
   obtain⟨rt,hrt,htw⟩:=zE8 (fuel:=fuel) (d:=d+6) hra (by omega)
   by_cases hz:out.length=0
   ·have ho:out=[]:=List.eq_nil_of_length_eq_zero hz
    subst ho
    have olen':∀ N,lenO N o=some (I64 0,N):=olen
    have w2:IntKind.i64.wrap (-1) = -1:=by decide
    have q2:decide ((0:Int) ≤ -1)=false:=by decide
    have eA:addR [] e=[]++[e]:=rfl
    rw[eA] at hts hal
    simp (disch:=try exact SX) only[RV,seval,fillA,g2,g13,g14,g15,q1,hiad,rlo,olen',w2,htw]
    refine app1 (bytes:=80) (x:=e) ((w.add _).upd _ _) (sm.keep fun j hj=>?_) zB1 ⟨rt,rfl,hrt,hok⟩ rfl (by omega) (by simp) (by simp) fun o' M' sm' w' le' kp nw wm' rl on oc'=>?_
    ·have:=sm.lt j hj
     rw[get_upd_ne (w.add _) _ _ _ (by omega),get_add w _ _ this]
    simp (disch:=try exact SX) only[RV,seval,g2,g13,g14,g15,w1]
    refine⟨hlt,l.length - (i+1),by omega,i+1,o',rfl,by omega,rfl,rfl,w',by rw[hts];exact sm',by rw[hts];simp,fun q hq=>?_⟩
    rw[hts] at hq
    simp at hq
    subst hq
    exact hde
   ·obtain⟨n,hn⟩:∃ n:Nat,out.length=n+1:=⟨out.length - 1,by omega⟩
    have hnl:n<out.length:=by omega
    have w2:IntKind.i64.wrap ((out.length:Int) - 1)=(n:Int):=WI
    have q2:decide ((0:Int)≤(n:Int))=true:=DT
    obtain⟨id,cs,r,hrow,lid,hg,hcs,hoad,hr2,hrl2,hpt,hgt,hpp,hset⟩:=sm.atS hnl
    have hgl:out.getLast? = some out[n]:=by rw[List.getLast?_eq_getElem?,hn,Nat.add_sub_cancel,List.getElem?_eq_getElem hnl]
    have hqd:=bd out[n] (List.getElem_mem hnl)
    have hon1:out.length - 1=n:=by omega
    unfold addR at hts hal
    rw[hgl] at hts hal
    simp only[hon1] at hts hal
    generalize out[n]=q at *
    obtain⟨rq,rfl,hrq,hqok⟩:=hr2
    have orq:=hrq.one
    have hla:=fun M=>@zL8 fuel (d+2) q rq hrq hqok M
    have idN:id≠N.size:=by omega
    have hn10:(n:Nat)*10+10≤cs.length:=by omega
    have fin:∀ (x:Rn) (o':AV) (M':Mem),zAJ (l.take (i+1))=out++[x]→x=e→SlM M' 10 isRn o' (out++[x])→Wf M'→Wf M'∧SlM M' 10 isRn o' (zAJ (l.take (i+1)))∧(zAJ (l.take (i+1))).length≤i+1 ∧ ∀ q∈zAJ (l.take (i+1)),q.rs.length≤1000000:=by
     intro x o' M' h1 h2 h3 h4
     subst h2
     rw[h1]
     refine⟨h4,h3,by simp;omega,fun q hq=>?_⟩
     rcases List.mem_append.1 hq with h | h
     ·exact bd q h
     ·rw[List.mem_singleton] at h;subst h;exact hde
    cases c1:zFP q e with
    | false =>
     rw[c1] at hts hal
     simp only[Bool.false_eq_true,if_false] at hts hal
     unfold zFP at c1
     cases c2:decide (e.af=q.last) with
     | false =>
      simp (disch:=try exact SX) only[RV,seval,fillA,g2,g13,g14,g15,q1,hiad,rlo,olen,w2,q2,htw,hoad,hg,hpt,hla,↓pIdE,zA0,ETA,c2]
      exact zB08
     | true =>
      rw[c2,Bool.true_and] at c1
      simp (disch:=try exact SX) only[RV,seval,fillA,g2,g13,g14,g15,q1,hiad,rlo,olen,w2,q2,htw,hoad,hg,hpt,hla,↓pIdE,zA0,ETA,c2,c1]
      exact zB08
    | true =>
     rw[c1] at hts hal
     simp only[if_true] at hts hal
     unfold zFP at c1
     simp only[Bool.and_eq_true] at c1
     obtain⟨c1,c2⟩:=c1
     obtain⟨v,⟨ca,cb,rfl,hca,hcb⟩,hcut⟩:=zD1 (fuel:=fuel) (d:=d+1) (n:=room q) hra (by omega)
     have oca:=hca.one
     have ocb:=hcb.one
     have hpn:=hgt 4 (by omega)
     have hnx:decide (e.sp.f=(⟨e.af.hd,IntKind.i64.wrap (e.af.c+1)⟩:Eid))=true:=c2
     have wA:∀ (M:Mem) p q,Wf M→Wf ((M.add p).upd M.size q):=fun M p q h=>(h.add p).upd _ _
     have hzR:(rnR (⟨⟨Eid.z,0⟩,Eid.z,[]⟩:Rn) NIL).length=10:=rfl
     by_cases q3:e.cutE (room q)=0
     ·have q3':decide (e.cutE (room q)=0)=true:=decide_eq_true q3
      have eA:e.cutA (room q)=e.fst (room q):=by unfold Rn.cutA;rw[if_pos q3]
      have eB:e.cutB (room q)=e.snd (room q):=by unfold Rn.cutB;rw[if_pos q3]
      simp only[q3,if_true] at hts hal
      rw[eA] at hca hcut
      rw[eB] at hcb hcut
      have okA:=zM1 hok q3
      have okB:=zML hok q3
      have lA:(e.fst (room q)).rs.length≤1000000:=by simp only[Rn.fst,List.length_take];omega
      have lB:(e.snd (room q)).rs.length≤1000000:=by simp only[Rn.snd,List.length_drop];omega
      have hjl:=zFK q (e.fst (room q))
      have hjok:=zHA hqok okA
      obtain⟨v2,⟨jr,rfl,hjr⟩,hjoin⟩:=zE7 (fuel:=fuel) (d:=d) hrq hca hqok okA hqd lA (by omega)
      obtain⟨bt,hbt,hbw⟩:=zE8 (fuel:=fuel) (d:=d+6) hcb (by omega)
      have ojr:=hjr.one
      generalize e.fst (room q)=eF at *
      generalize e.snd (room q)=eS at *
      generalize zBX q eF=jj at *
      unfold room at hcut q3 q3'
      clear hpp
      simp (disch:=try exact SX) only[RV,seval,fillA,g2,g13,g14,g15,q1,hiad,rlo,olen,w2,q2,hoad,hg,hpt,hla,↓pIdE,zA0,ETA,c1,hnx,hpn,hcut,q3',hjoin,hbw]
      refine app1 (bytes:=80) (x:=eS) (by simp (disch:=try exact SX) only[RV,w]) (hset (rnR jj jr) jj ⟨jr,rfl,hjr,hjok⟩ rfl _ ?hgX) zB1 ⟨bt,rfl,hbt,okB⟩ rfl (by omega) (by rw[List.length_set];omega) (by rw[List.length_set];omega) fun o' M' sm' w' le' kp nw wm' rl on oc'=>?mainX
      case hgX=>simp (disch:=try exact SX) only[RV,seval]
      case mainX =>
       simp (disch:=try exact SX) only[RV,seval,g2,g13,g14,g15,w1]
       refine⟨hlt,l.length - (i+1),by omega,i+1,o',rfl,by omega,rfl,rfl,w',by rw[hts];exact sm',by rw[hts];simp;omega,fun q' hq=>?_⟩
       rw[hts] at hq
       rcases List.mem_append.1 hq with h | h
       ·rcases List.mem_or_eq_of_mem_set h with h | rfl
        ·exact bd q' h
        ·omega
       ·rw[List.mem_singleton] at h;subst h;exact lB
     ·have q3':decide (e.cutE (room q)=0)=false:=decide_eq_false q3
      simp only[q3,if_false] at hts hal
      have hjl:=zFK q e
      have hjok:=zHA hqok hok
      obtain⟨v2,⟨jr,rfl,hjr⟩,hjoin⟩:=zE7 (fuel:=fuel) (d:=d) hrq hra hqok hok hqd hde (by omega)
      have ojr:=hjr.one
      generalize zBX q e=jj at *
      unfold room at q3 q3'
      generalize e.cutA (room q)=eF at *
      generalize e.cutB (room q)=eS at *
      unfold room at hcut
      clear hpp
      by_cases q4:zD7 q e=0
      ·have q4':decide (zD7 q e=0)=true:=decide_eq_true q4
       simp only[q4,if_true] at hts hal
       simp (disch:=try exact SX) only[RV,seval,fillA,g2,g13,g14,g15,q1,hiad,w,olen,w2,q2,hoad,hg,hpt,hla,↓pIdE,zA0,ETA,c1,hnx,hpn,hcut,q3',hjoin,q4',w1]
       refine⟨hlt,l.length - (i+1),by omega,i+1,o,rfl,by omega,rfl,by simp (disch:=try exact SX) only[], ?_,by rw[hts];simp;omega,fun q' hq=>?_⟩
       ·rw[hts]
        refine hset (rnR jj jr) jj ⟨jr,rfl,hjr,hjok⟩ rfl _ ?_
        exact zB0f
       ·rw[hts] at hq
        rcases List.mem_or_eq_of_mem_set hq with h | rfl
        ·exact bd q' h
        ·omega
      ·have q4':decide (zD7 q e=0)=false:=decide_eq_false q4
       simp only[q4,if_false] at hts hal
       simp (disch:=try exact SX) only[RV,seval,fillA,g2,g13,g14,g15,q1,hiad,rlo,olen,w2,q2,htw,hoad,hg,hpt,hla,↓pIdE,zA0,ETA,c1,hnx,hpn,hcut,q3',hjoin,q4']
       refine app1 (bytes:=80) (x:=e) (by simp (disch:=try exact SX) only[RV,w]) (sm.keep fun j hj=>?_) zB1 ⟨rt,rfl,hrt,hok⟩ rfl (by omega) (by omega) (by omega) fun o' M' sm' w' le' kp nw wm' rl on oc'=>?_
       ·have:=sm.lt j hj
        exact zB04
       simp (disch:=try exact SX) only[RV,seval,g2,g13,g14,g15,w1]
       exact⟨hlt,l.length - (i+1),by omega,i+1,o',rfl,by omega,rfl,rfl,fin e o' M' hts rfl sm' w'⟩
  ·obtain rfl:i=l.length:=by omega
   have q1:decide ((l.length:Int)<l.length)=false:=DF
   rw[List.take_length] at sm
   obtain⟨ro,hro,hfr⟩:=slm_frz2 sm zB1.cel 12 (by omega)
   have hfr:=hfr N (fun _ _=>rfl)
   simp (disch:=try exact SX) only[RV,seval,g2,g14,g15,hfr]
   exact⟨_,hro,rfl⟩
def Rn.elR (r:Rn):List El:=(List.range r.sp.n.toNat).map fun (i:Nat)=>⟨r.sp.at i,r.afAt i,r.rs.getD i 0⟩
def elsR (l:List Rn):List El:=l.flatMap Rn.elR
theorem zC2 (l m:List Rn):elsR (l++m)=elsR l++elsR m:=by simp [elsR]
theorem zAX (l:List Rn)(r:Rn):elsR (l++[r])=elsR l++r.elR:=by simp [elsR]
theorem zN4 (r:Rn):prs r.elR=r.els:=by simp [prs,Rn.elR,Rn.els,Function.comp_def]
theorem zF2 (l:List Rn):prs (elsR l)=elsL l:=by
 induction l with
 | nil=>rfl
 | cons r l ih =>
  have:elsR (r::l)=r.elR++elsR l:=by simp [elsR]
  rw[this]
  unfold prs at *
  rw[List.map_append,ih]
  have:=zN4 r
  unfold prs at this
  rw[this]
  simp [elsL]
theorem zA9 (r:Rn):r.elR.length=r.sp.n.toNat:=by simp [Rn.elR]
theorem zAK (r:Rn)(i:Nat)(h:i<r.elR.length):r.elR[i]=⟨r.sp.at i,r.afAt i,r.rs.getD i 0⟩:=by simp [Rn.elR]
def goes (q:Rn)(x:El):Bool:=decide (q.sp.n<64)&&decide (x.af=q.sp.at (q.sp.n - 1))&&decide (x.id=q.sp.at q.sp.n)
def one (x:El):Rn:=⟨⟨x.id,1⟩,x.af,[x.ch]⟩
def more (q:Rn)(x:El):Rn:=⟨⟨q.sp.f,q.sp.n+1⟩,q.af,q.rs++[x.ch]⟩
def addX (out:List Rn)(x:El):List Rn :=
 match out.getLast? with
 | none=>out++[one x]
 | some q=>if goes q x then out.set (out.length - 1) (more q x) else out++[one x]
theorem zHM {α:Type}(o:List α)(q x:α):(o++[q]).set ((o++[q]).length - 1) x=o++[x]:=by simp
theorem zEO (x:El):addX [] x=[one x]:=rfl
theorem zBH (o:List Rn)(q:Rn)(x:El):addX (o++[q]) x=if goes q x then o++[more q x] else o++[q]++[one x]:=by
 unfold addX
 rw[List.getLast?_concat]
 simp only[zHM]
theorem zIN (o:List Rn)(q r:Rn):addR (o++[q]) r=if zFP q r=true then (if r.cutE (room q)=0 then o++[zBX q (r.fst (room q))]++[r.snd (room q)] else if zD7 q r=0 then o++[zBX q r] else o++[q]++[r]) else o++[q]++[r]:=by
 unfold addR
 rw[List.getLast?_concat]
 simp only[zHM]
def zB2 (E:List El):List Rn:=E.foldl addX []
theorem at_at (s:Spn)(a b n:Int):(⟨s.at a,n⟩:Spn).at b=s.at (a+b):=by
 simp only[Spn.at]
 rw[Int.add_assoc]
theorem zKA {r:Rn}{k:Nat}(hk:0<k):(r.snd k).elR=r.elR.drop k:=by
 apply List.ext_getElem
 ·rw[List.length_drop,zA9,zA9]
  simp only[Rn.snd];omega
 ·intro i h1 h2
  rw[List.getElem_drop,zAK,zAK]
  have e1:(r.snd k).sp.at i=r.sp.at ((k+i:Nat):Int):=by
   simp only[Rn.snd,at_at];congr 1
  have e2:(r.snd k).afAt i=r.afAt ((k+i:Nat):Int):=by
   unfold Rn.afAt
   rw[if_pos (show (0:Int)<((k+i:Nat):Int) by omega)]
   by_cases h:(0:Int)<i
   ·rw[if_pos h]
    simp only[Rn.snd,at_at];congr 1;omega
   ·rw[if_neg h]
    simp only[Rn.snd];congr 1;omega
  have e3:(r.snd k).rs.getD i 0=r.rs.getD (k+i) 0:=by
   simp only[Rn.snd,Int.toNat_natCast,List.getD_eq_getElem?_getD,List.getElem?_drop]
  rw[e1,e2,e3]
theorem zJ8 {r:Rn}{k:Nat}(hk:(k:Int)≤r.sp.n):(r.fst k).elR=r.elR.take k:=by
 apply List.ext_getElem
 ·rw[List.length_take,zA9,zA9]
  simp only[Rn.fst];omega
 ·intro i h1 h2
  rw[List.length_take,zA9] at h2
  rw[List.getElem_take,zAK,zAK]
  have e3:(r.fst k).rs.getD i 0=r.rs.getD i 0:=by
   simp only[Rn.fst,Int.toNat_natCast,List.getD_eq_getElem?_getD]
   rw[List.getElem?_take_of_lt (by omega)]
  rw[e3]
  rfl
theorem zCX {α:Type}(l:List α)(i:Nat)(h:i<l.length):l.drop i=l[i]::l.drop (i+1):=List.drop_eq_getElem_cons h
theorem feed {q r:Rn}(o:List Rn)(n:Nat)(hn:r.sp.n=n)(hl:r.rs.length=n)(k:Nat):∀ (j:Nat),j+k≤n→q.sp.n+j+k≤64→0≤q.sp.n→(∀ i:Nat,j≤i→i<j+k→r.sp.at i=q.sp.at (q.sp.n+i)∧r.afAt i=q.sp.at (q.sp.n+i - 1)) →
  ((r.elR.drop j).take k).foldl addX (o++[⟨⟨q.sp.f,q.sp.n+j⟩,q.af,q.rs++r.rs.take j⟩])=o++[⟨⟨q.sp.f,q.sp.n+(j+k:Nat)⟩,q.af,q.rs++r.rs.take (j+k)⟩]:=by
 induction k with
 | zero=>intro j _ _ _ _;simp
 | succ k ih =>
  intro j h1 h2 h3 h4
  have hj:j<r.elR.length:=by rw[zA9];omega
  have hjr:j<r.rs.length:=by omega
  rw[zCX _ _ hj,List.take_succ_cons,List.foldl_cons,zBH,zAK]
  have hg:goes (⟨⟨q.sp.f,q.sp.n+j⟩,q.af,q.rs++r.rs.take j⟩:Rn) ⟨r.sp.at j,r.afAt j,r.rs.getD j 0⟩=true:=by
   unfold goes
   simp only[Bool.and_eq_true,decide_eq_true_eq]
   exact⟨⟨by omega,(h4 j (by omega) (by omega)).2⟩,(h4 j (by omega) (by omega)).1⟩
  rw[if_pos hg]
  have hm:more (⟨⟨q.sp.f,q.sp.n+j⟩,q.af,q.rs++r.rs.take j⟩:Rn) ⟨r.sp.at j,r.afAt j,r.rs.getD j 0⟩=⟨⟨q.sp.f,q.sp.n+(j+1:Nat)⟩,q.af,q.rs++r.rs.take (j+1)⟩:=by
   unfold more
   have e:r.rs.getD j 0=r.rs[j]:=by rw[List.getD_eq_getElem?_getD,List.getElem?_eq_getElem hjr];rfl
   rw[e,zAF _ _ hjr,List.append_assoc]
   simp only[Int.natCast_add,Int.natCast_one,Int.add_assoc]
  rw[hm,ih (j+1) (by omega) (by omega) h3 fun i hj' hi=>h4 i (by omega) (by omega)]
  rw[show j+1+k=j+(k+1) by omega]
theorem zAV {r:Rn}(h:1≤r.sp.n):r.elR=⟨r.sp.f,r.af,r.rs.getD 0 0⟩::r.elR.drop 1:=by
 have h0:0<r.elR.length:=by rw[zA9];omega
 have:=zCX r.elR 0 h0
 rw[List.drop_zero] at this
 refine this.trans ?_
 rw[zAK]
 simp [Spn.at,Rn.afAt]
theorem zKU {r:Rn}(o:List Rn)(n:Nat)(hn:r.sp.n=n)(hl:r.rs.length=n)(h1:1≤n)(h2:n≤64):(r.elR.drop 1).foldl addX (o++[one ⟨r.sp.f,r.af,r.rs.getD 0 0⟩])=o++[r]:=by
 have e:(r.elR.drop 1).take (n - 1)=r.elR.drop 1:=by
  rw[List.take_of_length_le]
  rw[List.length_drop,zA9];omega
 rw[← e]
 have:=feed (q:=⟨⟨r.sp.f,0⟩,r.af,[]⟩) (r:=r) o n hn hl (n - 1) 1 (by omega) (by simp only;omega) (Int.le_refl _) fun i hj hi=>?_
 ·have e1:(⟨⟨r.sp.f,0+(1:Nat)⟩,r.af,[]++r.rs.take 1⟩:Rn)=one ⟨r.sp.f,r.af,r.rs.getD 0 0⟩:=by
   unfold one
   have e0:r.rs.take 1=[r.rs.getD 0 0]:=by
    rw[zAF r.rs 0 (by omega),List.getD_eq_getElem?_getD,List.getElem?_eq_getElem (show 0<r.rs.length by omega)]
    simp
   rw[e0];rfl
  have e2:(⟨⟨r.sp.f,0+(1+(n - 1):Nat)⟩,r.af,[]++r.rs.take (1+(n - 1))⟩:Rn)=r:=by
   have:1+(n - 1)=n:=by omega
   rw[this,List.take_of_length_le (by omega),List.nil_append,Int.zero_add,← hn]
  simp only at this
  rw[e1,e2] at this
  exact this
 ·unfold Rn.afAt
  rw[if_pos (show (0:Int)<i by omega)]
  simp only[Spn.at,Int.zero_add,true_and]
theorem zMN {l:List Int}:chkR l=0↔l.length≤64∧l.all okR=true:=by
 unfold chkR
 by_cases h:64<l.length
 ·rw[if_pos h];simp;omega
 ·rw[if_neg h]
  cases l.all okR <;> simp [err]
  omega
theorem Rn.may_iff {r:Rn}:r.may=true↔r.sp.may=true∧(r.af=Eid.z∨(r.af.may=true∧r.af.c<r.sp.f.c))∧(r.rs.length:Int)=r.sp.n∧r.rs.length≤64∧r.rs.all okR=true:=by
 unfold Rn.may
 simp only[Bool.and_eq_true,Bool.or_eq_true,decide_eq_true_eq,zMN,and_assoc]
theorem Spn.may_iff {s:Spn}:s.may=true↔s.f.may=true∧1≤s.n∧s.n≤64∧s.f.c+s.n≤1099511627777:=by
 unfold Spn.may
 simp only[Bool.and_eq_true,decide_eq_true_eq,and_assoc]
theorem Eid.may_iff {x:Eid}:x.may=true↔x.hd.may=true∧1≤x.c∧x.c≤1099511627776:=by
 unfold Eid.may
 simp only[Bool.and_eq_true,decide_eq_true_eq,and_assoc]
theorem zD8 {q r:Rn}(hq:q.may=true)(hr:r.may=true)(h1:r.sp.f=q.sp.at q.sp.n)(h2:q.sp.n+r.sp.n≤64):(q.both r).may=true:=by
 rw[Rn.may_iff] at *
 obtain⟨a1,a2,a3,a4,a5⟩:=hq
 obtain⟨b1,b2,b3,b4,b5⟩:=hr
 rw[Spn.may_iff] at *
 rw[h1] at b1
 simp only[Rn.both,Spn.at,List.length_append,List.all_append,a5,b5,Bool.and_self,and_true,Int.natCast_add] at *
 exact⟨⟨a1.1,by omega,by omega,by omega⟩,a2,by omega,by omega⟩
theorem zH5 {r:Rn}{k:Nat}(hr:r.may=true)(h0:0<k)(h1:(k:Int)≤r.sp.n):(r.fst k).may=true:=by
 rw[Rn.may_iff] at *
 obtain⟨a1,a2,a3,a4,a5⟩:=hr
 rw[Spn.may_iff] at *
 simp only[Rn.fst,Int.toNat_natCast,List.length_take]
 refine⟨⟨a1.1,by omega,by omega,by omega⟩,a2,by omega,by omega, ?_⟩
 rw[List.all_eq_true] at *
 exact fun x hx=>a5 x (List.mem_of_mem_take hx)
theorem zHN {r:Rn}{k:Nat}(hr:r.may=true)(h0:0<k)(h1:(k:Int)<r.sp.n):(r.snd k).may=true:=by
 rw[Rn.may_iff] at *
 obtain⟨a1,a2,a3,a4,a5⟩:=hr
 rw[Spn.may_iff,Eid.may_iff] at *
 simp only[Rn.snd,Spn.at,Int.toNat_natCast,List.length_drop,Eid.may_iff]
 refine⟨⟨⟨a1.1.1,by omega,by omega⟩,by omega,by omega,by omega⟩,.inr ⟨⟨a1.1.1,by omega,by omega⟩,by omega⟩,by omega,by omega, ?_⟩
 rw[List.all_eq_true] at *
 exact fun x hx=>a5 x (List.mem_of_mem_drop hx)
theorem Rn.last_at {q:Rn}(h:q.may=true):q.last=q.sp.at (q.sp.n - 1):=by
 unfold Rn.last
 rw[if_pos (Rn.may_sp h)]
theorem zHH {q r:Rn}(hq:q.may=true):zFP q r=true↔r.af=q.sp.at (q.sp.n - 1)∧r.sp.f=q.sp.at q.sp.n:=by
 unfold zFP
 rw[Rn.last_at hq]
 simp only[Bool.and_eq_true,decide_eq_true_eq]
 have hb:=Spn.may_le (Rn.may_sp hq)
 constructor
 ·exact zB0B
 ·exact zB0B
theorem zEW {q r:Rn}(hq:q.may=true)(hr:r.may=true)(h1:r.af=q.sp.at (q.sp.n - 1))(h2:r.sp.f=q.sp.at q.sp.n)(h3:q.sp.n+r.sp.n≤64):zD7 q r=0:=by
 have bq:=Spn.may_le (Rn.may_sp hq)
 have br:=Spn.may_le (Rn.may_sp hr)
 have lq:=Rn.may_len hq
 rw[zCR,Rn.cutE_iff]
 refine⟨hq,hr,⟨zD8 hq hr h2 h3,by omega,by simp only[Rn.both];omega⟩, ?_, ?_⟩
 ·unfold Rn.both Rn.fst
  simp only
  rw[List.take_append_of_le_length (by omega),List.take_of_length_le (by omega)]
 ·unfold Rn.both Rn.snd
  simp only
  have e1:q.sp.n.toNat=q.rs.length:=by omega
  rw[e1,List.drop_left]
  have e2:(⟨q.sp.f,q.sp.n+r.sp.n⟩:Spn).at q.sp.n=r.sp.f:=h2.symm
  have e3:(⟨q.sp.f,q.sp.n+r.sp.n⟩:Spn).at (q.sp.n - 1)=r.af:=h1.symm
  rw[e2,e3,show q.sp.n+r.sp.n - q.sp.n=r.sp.n by omega]
theorem zKJ {o:List Rn}{q r:Rn}(hq:q.may=true)(hr:r.may=true):addR (o++[q]) r=r.elR.foldl addX (o++[q]) ∧ ∃ o' q',addR (o++[q]) r=o'++[q']∧(∀ x∈o',x∈o∨x.may=true)∧q'.may=true:=by
 have bq:=Spn.may_le (Rn.may_sp hq)
 have br:=Spn.may_le (Rn.may_sp hr)
 have lq:=Rn.may_len hq
 have lr:=Rn.may_len hr
 obtain⟨n,hn⟩:∃ n:Nat,r.sp.n=n:=⟨r.sp.n.toNat,by omega⟩
 have hrm:room q=64 - q.sp.n:=by unfold room;rw[wrap_i64 (by omega) (by omega)]
 have hqo:∀ x∈o++[q],x∈o∨x.may=true:=fun x hx=>by
  rcases List.mem_append.1 hx with h | h
  ·exact .inl h
  ·rw[List.mem_singleton] at h;subst h;exact .inr hq
 rw[zIN]
 by_cases h:zFP q r=true
 ·rw[if_pos h]
  rw[zHH hq] at h
  obtain⟨h1,h2⟩:=h
  have h4:∀ i:Nat,i<n→r.sp.at i=q.sp.at (q.sp.n+i)∧r.afAt i=q.sp.at (q.sp.n+i - 1):=fun i hi=>by
   have e:r.sp.at i=q.sp.at (q.sp.n+i):=by
    simp only[Spn.at] at h2 ⊢
    rw[h2]
    simp only[Int.add_assoc]
   refine⟨e, ?_⟩
   unfold Rn.afAt
   by_cases h0:(0:Int)<i
   ·rw[if_pos h0]
    simp only[Spn.at] at h2 ⊢
    rw[h2]
    simp only
    congr 1;omega
   ·have:(i:Int)=0:=by omega
    rw[if_neg h0,this,h1,Int.add_zero]
  have hq0:o++[q]=o++[⟨⟨q.sp.f,q.sp.n+(0:Nat)⟩,q.af,q.rs++r.rs.take 0⟩]:=by simp
  by_cases h5:q.sp.n+r.sp.n≤64
  ·have hc:¬r.cutE (room q)=0:=by rw[Rn.cutE_iff,hrm];omega
   rw[if_neg hc,if_pos (zEW hq hr h1 h2 h5)]
   have hj:zBX q r=q.both r:=by unfold zBX;rw[if_pos (zEW hq hr h1 h2 h5)]
   rw[hj]
   refine⟨?_,o,_,rfl,fun x hx => .inl hx,zD8 hq hr h2 h5⟩
   have:=feed (q:=q) (r:=r) o n hn (by omega) n 0 (by omega) (by omega) (by omega) fun i _ hi=>h4 i (by omega)
   rw[← hq0,List.drop_zero,List.take_of_length_le (by rw[zA9];omega)] at this
   rw[this]
   unfold Rn.both
   rw[Nat.zero_add,List.take_of_length_le (by omega),hn]
  ·by_cases h6:q.sp.n<64
   ·obtain⟨k,hk⟩:∃ k:Nat,room q=k:=⟨(room q).toNat,by omega⟩
    have hc:r.cutE (room q)=0:=by rw[Rn.cutE_iff,hrm];exact⟨hr,by omega,by omega⟩
    rw[if_pos hc,hk]
    have fm:=zH5 (k:=k) hr (by omega) (by omega)
    have sm:=zHN (k:=k) hr (by omega) (by omega)
    have je:=zEW hq fm h1 h2 (by simp only[Rn.fst];omega)
    have hj:zBX q (r.fst k)=q.both (r.fst k):=by unfold zBX;rw[if_pos je]
    rw[hj]
    refine⟨?_,_,_,rfl,fun x hx=>?_,sm⟩
    ·have:=feed (q:=q) (r:=r) o n hn (by omega) k 0 (by omega) (by omega) (by omega) fun i _ hi=>h4 i (by omega)
     rw[← hq0,List.drop_zero] at this
     rw[← List.take_append_drop k r.elR,List.foldl_append,this]
     have e1:(⟨⟨q.sp.f,q.sp.n+((0+k:Nat):Int)⟩,q.af,q.rs++r.rs.take (0+k)⟩:Rn)=q.both (r.fst k):=by
      unfold Rn.both Rn.fst
      rw[Nat.zero_add,Int.toNat_natCast]
     rw[e1,← zKA (by omega),zAV (Spn.may_le (Rn.may_sp sm)).2.2.1,List.foldl_cons,zBH,if_neg]
     ·have hsn:(r.snd k).sp.n=(n - k:Nat):=by simp only[Rn.snd];omega
      have hsl:(r.snd k).rs.length=n - k:=by have:=Rn.may_len sm;omega
      exact(zKU _ (n - k) hsn hsl (by omega) (by omega)).symm
     ·intro hg
      unfold goes at hg
      rw[Bool.and_eq_true,Bool.and_eq_true] at hg
      have:=of_decide_eq_true hg.1.1
      simp only[Rn.both,Rn.fst] at this
      omega
    ·rcases List.mem_append.1 hx with hx | hx
     ·exact .inl hx
     ·rw[List.mem_singleton] at hx;subst hx
      exact .inr (zD8 hq fm h2 (by simp only[Rn.fst];omega))
   ·have hc:¬r.cutE (room q)=0:=by rw[Rn.cutE_iff,hrm];omega
    have hj:¬zD7 q r=0:=by
     rw[zCR,Rn.cutE_iff]
     rintro⟨_,_,⟨hm,_⟩,_⟩
     have:=(Spn.may_le (Rn.may_sp hm)).2.2.2.1
     simp only[Rn.both] at this
     omega
    rw[if_neg hc,if_neg hj]
    refine⟨?_,_,_,rfl,hqo,hr⟩
    rw[zAV (by omega),List.foldl_cons,zBH,if_neg]
    ·exact(zKU _ n hn (by omega) (by omega) (by omega)).symm
    ·unfold goes
     simp only[Bool.and_eq_true,decide_eq_true_eq]
     omega
 ·rw[if_neg h]
  refine⟨?_,_,_,rfl,hqo,hr⟩
  rw[zAV (by omega),List.foldl_cons,zBH,if_neg]
  ·exact(zKU _ n hn (by omega) (by omega) (by omega)).symm
  ·unfold goes
   simp only[Bool.and_eq_true,decide_eq_true_eq]
   rintro⟨⟨_,h2⟩,h3⟩
   exact h ((zHH hq).2 ⟨h2,h3⟩)
theorem zAR {l:List Rn}(h:∀ r∈l,r.may=true):zAJ l=zB2 (elsR l) ∧ ∀ r∈zAJ l,r.may=true:=by
 revert h
 refine zAN (P:=fun l=>(∀ r∈l,r.may=true)→zAJ l=zB2 (elsR l) ∧ ∀ r∈zAJ l,r.may=true) (fun _=>⟨rfl,fun r hr=>absurd hr (by simp [zAJ])⟩) (fun l r ih h=>?_) l
 obtain⟨e,hm⟩:=ih fun x hx=>h x (List.mem_append_left _ hx)
 have hr:=h r (List.mem_append_right _ List.mem_cons_self)
 have br:=Spn.may_le (Rn.may_sp hr)
 have lr:=Rn.may_len hr
 have hs:zAJ (l++[r])=addR (zAJ l) r:=by simp [zAJ]
 rw[hs,zAX]
 unfold zB2 at *
 rw[List.foldl_append,← e]
 generalize zAJ l=out at *
 rcases zBC out with rfl | ⟨o,q,rfl⟩
 ·have ha:addR [] r=[r]:=rfl
  rw[ha]
  refine⟨?_,fun x hx=>by rw[List.mem_singleton] at hx;subst hx;exact hr⟩
  rw[zAV (by omega),List.foldl_cons,zEO]
  exact(zKU [] r.sp.n.toNat (by omega) (by omega) (by omega) (by omega)).symm
 ·have hq:=hm q (List.mem_append_right _ List.mem_cons_self)
  obtain⟨h1,o',q',h2,h3,h4⟩:=zKJ (o:=o) hq hr
  refine⟨h1,fun x hx=>?_⟩
  rw[h2] at hx
  rcases List.mem_append.1 hx with hx | hx
  ·rcases h3 x hx with k | k
   ·exact hm x (List.mem_append_left _ k)
   ·exact k
  ·rw[List.mem_singleton] at hx;subst hx;exact h4
def El.may (x:El):Bool:=x.id.may&&(decide (x.af=Eid.z) || (x.af.may&&decide (x.af.c<x.id.c)))&&okR x.ch
theorem El.may_iff {x:El}:x.may=true↔x.id.may=true∧(x.af=Eid.z∨(x.af.may=true∧x.af.c<x.id.c))∧okR x.ch=true:=by
 unfold El.may
 simp only[Bool.and_eq_true,Bool.or_eq_true,decide_eq_true_eq,and_assoc]
theorem El.may_ct {x:El}(h:x.may=true):x.af.c<x.id.c∧0<x.id.c:=by
 rw[El.may_iff,Eid.may_iff] at h
 obtain⟨h1,h2,_⟩:=h
 rcases h2 with h2 | h2
 ·rw[h2];exact⟨by show (0:Int)<_;omega,by omega⟩
 ·exact⟨h2.2,by omega⟩
theorem zGA {r:Rn}(hr:r.may=true):∀ x∈r.elR,x.may=true:=by
 intro x hx
 have br:=Spn.may_le (Rn.may_sp hr)
 have lr:=Rn.may_len hr
 obtain⟨i,hi,rfl⟩:=List.getElem_of_mem hx
 rw[zA9] at hi
 rw[zAK]
 rw[Rn.may_iff,Spn.may_iff,Eid.may_iff] at hr
 obtain⟨⟨h1,h2⟩,h3,h4,h5,h6⟩:=hr
 rw[El.may_iff,Eid.may_iff]
 simp only[Spn.at]
 refine⟨⟨h1.1,by omega,by omega⟩, ?_, ?_⟩
 ·unfold Rn.afAt
  by_cases h0:(0:Int)<i
  ·rw[if_pos h0,Eid.may_iff]
   simp only[Spn.at]
   exact .inr ⟨⟨h1.1,by omega,by omega⟩,by omega⟩
  ·rw[if_neg h0]
   rcases h3 with h3 | h3
   ·exact .inl h3
   ·exact .inr ⟨h3.1,by omega⟩
 ·rw[List.getD_eq_getElem?_getD,List.getElem?_eq_getElem (by omega)]
  exact List.all_eq_true.1 h6 _ (List.getElem_mem _)
theorem zH3 {l:List Rn}(h:∀ r∈l,r.may=true):∀ x∈elsR l,x.may=true:=by
 intro x hx
 obtain⟨r,hr,hx⟩:=List.mem_flatMap.1 hx
 exact zGA (h r hr) x hx
theorem zMQ {r:Rn}(hr:r.may=true):Chn r.af r.elR:=by
 have br:=Spn.may_le (Rn.may_sp hr)
 have key:∀ k i:Nat,i+k=r.sp.n.toNat→0<i→Chn (r.sp.at ((i:Int) - 1)) (r.elR.drop i):=by
  intro k
  induction k with
  | zero=>intro i hi _;rw[List.drop_of_length_le (by rw[zA9];omega)];trivial
  | succ k ih =>
   intro i hi h0
   have hl:i<r.elR.length:=by rw[zA9];omega
   rw[zCX _ _ hl,zAK]
   have:=ih (i+1) (by omega) (by omega)
   refine⟨?_, ?_, ?_⟩
   ·unfold Rn.afAt
    rw[if_pos (by omega)]
   ·simp only[Spn.at];omega
   ·have e:((i+1:Nat):Int) - 1=i:=by omega
    rw[e] at this
    exact this
 rw[zAV (by omega)]
 have:=key (r.sp.n.toNat - 1) 1 (by omega) (by omega)
 refine⟨rfl, ?_, ?_⟩
 ·have:=(El.may_ct (zGA hr ⟨r.sp.f,r.af,r.rs.getD 0 0⟩ (by rw[zAV (by omega)];exact List.mem_cons_self))).1
  exact this
 ·simpa [Spn.at] using this
theorem zB4 (E:List El):elsR (zB2 E)=E ∧ ∀ q∈zB2 E,1≤q.sp.n∧(q.rs.length:Int)=q.sp.n:=by
 refine zAN (P:=fun E=>elsR (zB2 E)=E ∧ ∀ q∈zB2 E,1≤q.sp.n∧(q.rs.length:Int)=q.sp.n) ⟨rfl,fun q hq=>absurd hq (by simp [zB2])⟩ (fun E x ih=>?_) E
 obtain⟨h1,h2⟩:=ih
 have hs:zB2 (E++[x])=addX (zB2 E) x:=by simp [zB2]
 rw[hs]
 have ho:(one x).elR=[x]:=by
  rw[zAV (by simp only[one];omega),List.drop_of_length_le (by rw[zA9];simp [one])]
  simp [one]
 have h1x:1≤(one x).sp.n∧((one x).rs.length:Int)=(one x).sp.n:=⟨Int.le_refl _,rfl⟩
 generalize zB2 E=out at *
 rcases zBC out with rfl | ⟨o,q,rfl⟩
 ·rw[zEO]
  have:E=[]:=by rw[← h1];rfl
  subst this
  refine⟨?_,fun q hq=>by rw[List.mem_singleton] at hq;subst hq;exact h1x⟩
  simp [elsR,ho]
 ·rw[zBH]
  obtain⟨hq1,hq2⟩:=h2 q (List.mem_append_right _ List.mem_cons_self)
  by_cases hg:goes q x=true
  ·rw[if_pos hg]
   unfold goes at hg
   simp only[Bool.and_eq_true,decide_eq_true_eq] at hg
   obtain⟨⟨g1,g2⟩,g3⟩:=hg
   refine⟨?_,fun y hy=>?_⟩
   ·rw[zAX] at h1
    rw[zAX,← h1,List.append_assoc]
    congr 1
    apply List.ext_getElem
    ·rw[List.length_append,zA9,zA9]
     simp only[more,List.length_singleton];omega
    ·intro i i1 i2
     rw[zAK]
     by_cases hi:i<q.elR.length
     ·rw[List.getElem_append_left hi,zAK]
      rw[zA9] at hi
      have e3:(more q x).rs.getD i 0=q.rs.getD i 0:=by
       simp only[more,List.getD_eq_getElem?_getD]
       rw[List.getElem?_append_left (by omega)]
      rw[e3];rfl
     ·have hi':i=q.elR.length:=by
       rw[zA9] at i1 hi ⊢
       simp only[more] at i1
       omega
      rw[List.getElem_append_right (Nat.le_of_not_lt hi),List.getElem_singleton]
      rw[zA9] at hi'
      rw[hi']
      clear hi' i1 i2 hi
      obtain⟨xi,xa,xc⟩:=x
      simp only at g2 g3
      have e:((q.sp.n.toNat:Nat):Int)=q.sp.n:=by omega
      have e3:(more q ⟨xi,xa,xc⟩).rs.getD q.sp.n.toNat 0=xc:=by
       simp only[more,List.getD_eq_getElem?_getD]
       rw[List.getElem?_append_right (by omega),show q.sp.n.toNat - q.rs.length=0 by omega]
       rfl
      have e2:(more q ⟨xi,xa,xc⟩).afAt ((q.sp.n.toNat:Nat):Int)=xa:=by
       unfold Rn.afAt
       rw[if_pos (by omega),e,g2]
       rfl
      rw[e2,e3,e,g3]
      rfl
   ·rcases List.mem_append.1 hy with hy | hy
    ·exact h2 y (List.mem_append_left _ hy)
    ·rw[List.mem_singleton] at hy;subst hy
     simp only[more,List.length_append,List.length_singleton]
     omega
  ·rw[if_neg hg]
   refine⟨by rw[zAX,ho,h1],fun y hy=>?_⟩
   exact zB0H
theorem zIW {E:List El}(h:∀ x∈E,x.may=true):∀ q∈zB2 E,q.may=true:=by
 revert h
 refine zAN (P:=fun E=>(∀ x∈E,x.may=true) → ∀ q∈zB2 E,q.may=true) (fun _ q hq=>absurd hq (by simp [zB2])) (fun E x ih h=>?_) E
 have h2:=ih fun y hy=>h y (List.mem_append_left _ hy)
 have hx:=h x (List.mem_append_right _ List.mem_cons_self)
 have hs:zB2 (E++[x])=addX (zB2 E) x:=by simp [zB2]
 rw[hs]
 have h1x:(one x).may=true:=by
  rw[El.may_iff,Eid.may_iff] at hx
  rw[Rn.may_iff,Spn.may_iff,Eid.may_iff]
  simp only[one,List.length_singleton,List.all_cons,List.all_nil,Bool.and_true]
  exact⟨⟨⟨hx.1.1,hx.1.2⟩,by omega,by omega,by omega⟩,hx.2.1,by omega,by omega,hx.2.2⟩
 generalize zB2 E=out at *
 rcases zBC out with rfl | ⟨o,q,rfl⟩
 ·rw[zEO]
  exact fun q hq=>by rw[List.mem_singleton] at hq;subst hq;exact h1x
 ·rw[zBH]
  have hq:=h2 q (List.mem_append_right _ List.mem_cons_self)
  by_cases hg:goes q x=true
  ·rw[if_pos hg]
   unfold goes at hg
   simp only[Bool.and_eq_true,decide_eq_true_eq] at hg
   obtain⟨⟨g1,g2⟩,g3⟩:=hg
   intro y hy
   rcases List.mem_append.1 hy with hy | hy
   ·exact h2 y (List.mem_append_left _ hy)
   ·rw[List.mem_singleton] at hy;subst hy
    have:more q x=q.both (one x):=rfl
    rw[this]
    exact zD8 hq h1x g3 (by simp only[one];omega)
  ·rw[if_neg hg]
   intro y hy
   exact zB0H
theorem zBJ {l:List Rn}(h:∀ r∈l,r.may=true):zA7 l=(elsR l).length:=by
 induction l with
 | nil=>rfl
 | cons r l ih =>
  have br:=Spn.may_le (Rn.may_sp (h r List.mem_cons_self))
  have:elsR (r::l)=r.elR++elsR l:=by simp [elsR]
  rw[this,List.length_append,zA9]
  simp only[zA7]
  rw[ih fun x hx=>h x (List.mem_cons_of_mem _ hx)]
  omega
def zBA (l:List Rn):Prop:=(∀ r∈l,r.may=true)∧zA7 l≤8192∧Ord (elsL l)∧zAJ l=l
structure TxtM (E:List El):Prop where
 t:Txt E
 m:∀ x∈E,x.may=true
 n:E.length≤8192
theorem zG5 {E:List El}(h:TxtM E):zBA (zB2 E):=by
 have hm:=zIW h.m
 obtain⟨he,_⟩:=zB4 E
 refine⟨hm, ?_, ?_, ?_⟩
 ·rw[zBJ hm,he];have:=h.n;omega
 ·rw[← zF2,he];exact(zJS fun x hx=>El.may_ct (h.m x hx)).2 h.t
 ·rw[(zAR hm).1,he]
theorem zAO {l:List Rn}(h:zBA l):TxtM (elsR l)∧l=zB2 (elsR l):=by
 obtain⟨h1,h2,h3,h4⟩:=h
 have hm:=zH3 h1
 refine⟨⟨?_,hm, ?_⟩, ?_⟩
 ·rw[← zF2] at h3;exact(zJS fun x hx=>El.may_ct (hm x hx)).1 h3
 ·rw[zBJ h1] at h2;omega
 ·rw[← (zAR h1).1,h4]
theorem zDO {s:Spn}{x:Eid}{k:Int}:s.has x=some k↔s.may=true∧0≤k∧k<s.n∧s.at k=x:=by
 obtain⟨hd,c⟩:=x
 unfold Spn.has Spn.at
 simp only
 constructor
 ·intro h
  split at h
  ·rename_i g
   injection h with h
   refine⟨g.1,by omega,by omega, ?_⟩
   rw[g.2.1];congr 1;omega
  ·cases h
 ·rintro⟨h1,h2,h3,h4⟩
  injection h4 with h4 h5
  rw[if_pos ⟨h1,h4.symm,by omega,by omega⟩]
  congr 1;omega
theorem zMX {r:Rn}(hr:r.may=true)(x:Eid):r.sp.has x=none ↔ ∀ e∈r.elR,e.id≠x:=by
 have br:=Spn.may_le (Rn.may_sp hr)
 constructor
 ·intro h e he k
  obtain⟨i,hi,rfl⟩:=List.getElem_of_mem he
  rw[zA9] at hi
  rw[zAK] at k
  have:=(zDO (k:=(i:Int))).2 ⟨Rn.may_sp hr,by omega,by omega,k⟩
  rw[h] at this
  cases this
 ·intro h
  cases hh:r.sp.has x with
  | none=>rfl
  | some k =>
   obtain⟨h1,h2,h3,h4⟩:=zDO.1 hh
   have hl:k.toNat<r.elR.length:=by rw[zA9];omega
   refine absurd ?_ (h _ (List.getElem_mem hl))
   rw[zAK]
   have:((k.toNat:Nat):Int)=k:=by omega
   rw[this];exact h4
theorem zG6 {l:List Rn}(h:∀ r∈l,r.may=true)(x:Eid):zAA l x=none ↔ ∀ e∈elsR l,e.id≠x:=by
 induction l with
 | nil=>exact⟨fun _ e he=>absurd he (by simp [elsR]),fun _=>rfl⟩
 | cons r l ih =>
  have hr:=h r List.mem_cons_self
  have ih:=ih fun y hy=>h y (List.mem_cons_of_mem _ hy)
  have he:elsR (r::l)=r.elR++elsR l:=by simp [elsR]
  rw[he]
  unfold zAA
  have hh:=zMX hr x
  cases hc:r.sp.has x with
  | none =>
   rw[hc] at hh
   have hh:=hh.1 rfl
   simp only[Option.map_eq_none_iff]
   rw[ih]
   constructor
   ·intro h1 e he
    rcases List.mem_append.1 he with he | he
    ·exact hh e he
    ·exact h1 e he
   ·exact fun h1 e he=>h1 e (List.mem_append_right _ he)
  | some k =>
   rw[hc] at hh
   simp only[reduceCtorEq,false_iff] at hh ⊢
   exact fun h1=>hh fun e he=>h1 e (List.mem_append_left _ he)
theorem zD2:∀ {l:List Rn} {x:Eid} {n:Nat} {k:Int},zAA l x=some (n,k) → ∃ L1 q L2,l=L1++q::L2∧L1.length=n∧q.sp.may=true∧0≤k∧k<q.sp.n∧q.sp.at k=x
 | [],_,_,_,h=>by cases h
 | r::l,x,n,k,h=>by
  unfold zAA at h
  cases hc:r.sp.has x with
  | none =>
   rw[hc] at h
   simp only at h
   cases hw:zAA l x with
   | none=>rw[hw] at h;cases h
   | some p =>
    rw[hw] at h
    obtain⟨n',k'⟩:=p
    simp only[Option.map_some,Option.some.injEq,Prod.mk.injEq] at h
    obtain⟨rfl,rfl⟩:=h
    obtain⟨L1,q,L2,rfl,rfl,hh⟩:=zD2 hw
    exact⟨r::L1,q,L2,rfl,rfl,hh⟩
  | some k' =>
   rw[hc] at h
   simp only[Option.some.injEq,Prod.mk.injEq] at h
   obtain⟨rfl,rfl⟩:=h
   obtain⟨h1,h2,h3,h4⟩:=zDO.1 hc
   exact⟨[],r,l,rfl,rfl,h1,h2,h3,h4⟩
def zA8 (l:List Rn)(x:Eid):List Rn × Nat :=
 if x=Eid.z then (l,0) else
 match zAA l x with
 | none=>(l,0)
 | some (n,k)=>if (l.getD n Rn.z).cutE (k+1)=0 then (l.take n++[(l.getD n Rn.z).fst (k+1),(l.getD n Rn.z).snd (k+1)]++l.drop (n+1),n+1) else (l,n+1)
def zC6 (l:List Rn)(x:Eid)(n:Nat):Nat:=n+((l.drop n).takeWhile fun r=>x.less r.sp.f).length
def insL (l:List Rn)(r:Rn):List Rn:=zAJ ((zA8 l r.af).1.take (zC6 (zA8 l r.af).1 r.sp.f (zA8 l r.af).2)++[r]++(zA8 l r.af).1.drop (zC6 (zA8 l r.af).1 r.sp.f (zA8 l r.af).2))
open Classical in
noncomputable def putE (l : List Rn) (r : Rn) : Int :=
  if zBA l ∧ r.may = true then
    (if r.af ≠ Eid.z ∧ zAA l r.af = none then 6
     else if ∃ i : Nat,(i : Int) < r.sp.n ∧ zAA l (r.sp.at i) ≠ none then 2
     else if 8192 < zA7 l + r.sp.n then 4 else 0)
  else 8
theorem zGJ {l:List Rn}{x:Eid}(h:∀ r∈l,r.may=true)(hx:x=Eid.z∨zAA l x≠none):(zA8 l x).2≤(zA8 l x).1.length∧(∀ r∈(zA8 l x).1,r.may=true)∧elsR (zA8 l x).1=elsR l∧((x=Eid.z∧(zA8 l x).2=0) ∨ ∃ A w,elsR ((zA8 l x).1.take (zA8 l x).2)=A++[w]∧w.id=x):=by
 unfold zA8
 by_cases hz:x=Eid.z
 ·rw[if_pos hz]
  exact⟨Nat.zero_le _,h,rfl,.inl ⟨hz,rfl⟩⟩
 ·rw[if_neg hz]
  rcases hx with hx | hx
  ·exact absurd hx hz
  ·cases hw:zAA l x with
   | none=>exact absurd hw hx
   | some p =>
    obtain⟨n,k⟩:=p
    obtain⟨L1,q,L2,rfl,rfl,h1,h2,h3,h4⟩:=zD2 hw
    have hq:=h q (by simp)
    have hg:(L1++q::L2).getD L1.length Rn.z=q:=by
     rw[List.getD_eq_getElem?_getD,List.getElem?_append_right (Nat.le_refl _)];simp
    simp only[hg]
    obtain⟨m,rfl⟩:∃ m:Nat,k=m:=⟨k.toNat,by omega⟩
    have hm1:((m:Int)+1)=((m+1:Nat):Int):=by omega
    have hlast:q.elR.take (m+1)=q.elR.take m++[⟨x,q.afAt m,q.rs.getD m 0⟩]:=by
     have hl:m<q.elR.length:=by rw[zA9];omega
     rw[zAF _ _ hl,zAK,h4]
    by_cases hc:q.cutE ((m:Int)+1)=0
    ·rw[if_pos hc]
     rw[Rn.cutE_iff] at hc
     have hd:(L1++q::L2).drop (L1.length+1)=L2:=by simp
     have ht:(L1++q::L2).take L1.length=L1:=by simp
     simp only[hd,ht,hm1]
     refine⟨by simp,fun r hr=>?_, ?_,.inr ⟨elsR L1++q.elR.take m,⟨x,q.afAt m,q.rs.getD m 0⟩, ?_,rfl⟩⟩
     ·rcases List.mem_append.1 hr with hr | hr
      ·rcases List.mem_append.1 hr with hr | hr
       ·exact h r (by simp [hr])
       ·rcases List.mem_cons.1 hr with rfl | hr
        ·exact zH5 hq (by omega) (by omega)
        ·rw[List.mem_singleton] at hr;subst hr
         exact zHN hq (by omega) (by omega)
      ·exact h r (by simp [hr])
     ·have e1:elsR (L1++q::L2)=elsR L1++q.elR++elsR L2:=by simp [elsR]
      have e2:elsR [q.fst ((m+1:Nat):Int),q.snd ((m+1:Nat):Int)]=q.elR:=by
       have:elsR [q.fst ((m+1:Nat):Int),q.snd ((m+1:Nat):Int)]=(q.fst ((m+1:Nat):Int)).elR++(q.snd ((m+1:Nat):Int)).elR:=by simp [elsR]
       rw[this,zJ8 (by omega),zKA (by omega),List.take_append_drop]
      rw[zC2,zC2,e1,e2]
     ·have e1:(L1++[q.fst ((m+1:Nat):Int),q.snd ((m+1:Nat):Int)]++L2).take (L1.length+1)=L1++[q.fst ((m+1:Nat):Int)]:=by
       rw[List.append_assoc,List.take_length_add_append];rfl
      rw[e1,zAX,zJ8 (by omega),hlast,List.append_assoc]
    ·rw[if_neg hc]
     rw[Rn.cutE_iff] at hc
     have hmn:(m:Int)+1=q.sp.n:=Classical.byContradiction fun k=>hc ⟨hq,by omega,by omega⟩
     refine⟨by simp,h,rfl,.inr ⟨elsR L1++q.elR.take m,⟨x,q.afAt m,q.rs.getD m 0⟩, ?_,rfl⟩⟩
     have e1:(L1++q::L2).take (L1.length+1)=L1++[q]:=by
      rw[List.take_length_add_append];rfl
     rw[e1,zAX,List.append_assoc,← hlast,List.take_of_length_le (by rw[zA9];omega)]
theorem zNG {r:Rn}(hr:r.may=true){x:Eid}(h:x.less r.sp.f=true):∀ e∈r.elR,x.less e.id=true:=by
 intro e he
 obtain⟨i,hi,rfl⟩:=List.getElem_of_mem he
 rw[zAK]
 cases i with
 | zero=>simpa [Spn.at] using h
 | succ i =>
  refine zEH h (zFL ?_)
  simp only[Spn.at];omega
structure Put (l:List Rn) (r:Rn) (A0 A1 B:List El):Prop where
 e:elsR l=A0++A1++B
 a:(r.af=Eid.z∧A0=[]) ∨ ∃ A w,A0=A++[w]∧w.id=r.af
 g:∀ x∈A1,r.sp.f.less x.id=true
 t:TxtM (A0++A1++r.elR++B)
 i:insL l r=zB2 (A0++A1++r.elR++B)
theorem zHK {l:List Rn}{r:Rn}:putE l r=0↔zBA l∧r.may=true∧(r.af=Eid.z ∨ ∃ e∈elsR l,e.id=r.af)∧(∀ x∈r.elR,∀ e∈elsR l,x.id≠e.id)∧(elsR l).length+r.elR.length≤8192:=by
 unfold putE
 by_cases h:zBA l∧r.may=true
 ·rw[if_pos h]
  obtain⟨ht,hr⟩:=h
  have hw:=fun x=>zG6 ht.1 x
  have br:=Spn.may_le (Rn.may_sp hr)
  have hn:(r.elR.length:Int)=r.sp.n:=by rw[zA9];omega
  rw[zBJ ht.1]
  by_cases h1:r.af≠Eid.z∧zAA l r.af=none
  ·rw[if_pos h1]
   refine⟨fun h=>(by cases h), ?_⟩
   rintro⟨_,_,h3,_⟩
   rcases h3 with h3 | ⟨e,he,h3⟩
   ·exact absurd h3 h1.1
   ·exact absurd h3 ((hw _).1 h1.2 e he)
  ·rw[if_neg h1]
   have h1':r.af=Eid.z ∨ ∃ e∈elsR l,e.id=r.af:=by
    by_cases hz:r.af=Eid.z
    ·exact .inl hz
    ·right
     have:¬∀ e∈elsR l,e.id≠r.af:=fun k=>h1 ⟨hz,(hw _).2 k⟩
     exact Classical.byContradiction fun k=>this fun e he k2=>k ⟨e,he,k2⟩
   by_cases h2:∃ i:Nat,(i:Int)<r.sp.n∧zAA l (r.sp.at i)≠none
   ·rw[if_pos h2]
    refine⟨fun h=>(by cases h), ?_⟩
    rintro⟨_,_,_,h3,_⟩
    obtain⟨i,hi,h2⟩:=h2
    refine absurd ((hw _).2 fun e he=>?_) h2
    have hl:i<r.elR.length:=by omega
    have:=h3 _ (List.getElem_mem hl) e he
    rw[zAK] at this
    exact fun k=>this k.symm
   ·rw[if_neg h2]
    have h2':∀ x∈r.elR,∀ e∈elsR l,x.id≠e.id:=fun x hx e he k=>by
     obtain⟨i,hi,rfl⟩:=List.getElem_of_mem hx
     rw[zAK] at k
     refine h2 ⟨i,by omega,fun k2=>?_⟩
     exact(hw _).1 k2 e he k.symm
    by_cases h3:8192<((elsR l).length:Int)+r.sp.n
    ·rw[if_pos h3]
     refine⟨fun h=>(by cases h), ?_⟩
     rintro⟨_,_,_,_,h4⟩
     omega
    ·rw[if_neg h3]
     exact⟨fun _=>⟨ht,hr,h1',h2',by omega⟩,fun _=>rfl⟩
 ·rw[if_neg h]
  exact⟨fun h=>(by cases h),fun k=>absurd ⟨k.1,k.2.1⟩ h⟩
theorem put_ok {l:List Rn}{r:Rn}(h:putE l r=0):∃ A0 A1 B,Put l r A0 A1 B:=by
 obtain⟨ht,hr,ha,hf,hn⟩:=zHK.1 h
 obtain⟨hE,hl⟩:=zAO ht
 have hx:r.af=Eid.z∨zAA l r.af≠none:=by
  rcases ha with ha | ⟨e,he,ha⟩
  ·exact .inl ha
  ·exact .inr fun k=>(zG6 ht.1 _).1 k e he ha
 obtain⟨p1,p2,p3,p4⟩:=zGJ ht.1 hx
 have hi:insL l r=zAJ ((zA8 l r.af).1.take (zC6 (zA8 l r.af).1 r.sp.f (zA8 l r.af).2)++[r]++(zA8 l r.af).1.drop (zC6 (zA8 l r.af).1 r.sp.f (zA8 l r.af).2)):=rfl
 generalize zA8 l r.af=P at *
 obtain⟨l',n⟩:=P
 simp only at p1 p2 p3 p4 hi
 have hsp:l'=l'.take n++((l'.drop n).takeWhile fun q=>r.sp.f.less q.sp.f)++((l'.drop n).dropWhile fun q=>r.sp.f.less q.sp.f):=by
  rw[List.append_assoc,List.takeWhile_append_dropWhile,List.take_append_drop]
 have hg1:∀ q∈(l'.drop n).takeWhile fun q=>r.sp.f.less q.sp.f,r.sp.f.less q.sp.f=true:=fun q hq=>by
  have:=List.all_takeWhile (l:=l'.drop n) (p:=fun q=>r.sp.f.less q.sp.f)
  exact List.all_eq_true.1 this q hq
 have hg2:∀ q D,((l'.drop n).dropWhile fun q=>r.sp.f.less q.sp.f)=q::D→r.sp.f.less q.sp.f=false:=fun q D e=>by
  have:=List.head?_dropWhile_not (fun q:Rn=>r.sp.f.less q.sp.f) (l'.drop n)
  rw[e] at this
  simpa using this
 have hlen:(l'.take n).length=n:=by rw[List.length_take];omega
 unfold zC6 at hi
 generalize hD1:(l'.drop n).takeWhile (fun q=>r.sp.f.less q.sp.f)=D1 at *
 generalize (l'.drop n).dropWhile (fun q=>r.sp.f.less q.sp.f)=D2 at *
 generalize l'.take n=T at *
 clear hD1
 have htk:l'.take (n+D1.length)=T++D1:=by
  rw[hsp,List.take_append_of_le_length (by rw[List.length_append];omega),List.take_of_length_le (by rw[List.length_append];omega)]
 have hdr:l'.drop (n+D1.length)=D2:=by
  rw[hsp,List.drop_append_of_le_length (by rw[List.length_append];omega),List.drop_of_length_le (by rw[List.length_append];omega),List.nil_append]
 rw[htk,hdr] at hi
 have hE':elsR l=elsR T++elsR D1++elsR D2:=by rw[← p3,hsp,zC2,zC2]
 have hmT:∀ q∈T,q.may=true:=fun q hq=>p2 q (by rw[hsp];simp [hq])
 have hmD1:∀ q∈D1,q.may=true:=fun q hq=>p2 q (by rw[hsp];simp [hq])
 have hmD2:∀ q∈D2,q.may=true:=fun q hq=>p2 q (by rw[hsp];simp [hq])
 have br:=Spn.may_le (Rn.may_sp hr)
 have hg:∀ x∈elsR D1,r.sp.f.less x.id=true:=fun x hx=>by
  obtain⟨q,hq,hx⟩:=List.mem_flatMap.1 hx
  exact zNG (hmD1 q hq) (hg1 q hq) x hx
 have hA:(r.af=Eid.z∧elsR T=[]) ∨ ∃ A w,elsR T=A++[w]∧w.id=r.af:=by
  rcases p4 with⟨h1,h2⟩ | h1
  ·have:T=[]:=List.eq_nil_of_length_eq_zero (by omega)
   subst this
   exact .inl ⟨h1,rfl⟩
  ·exact .inr h1
 have hB:∀ b B',elsR D2=b::B'→r.sp.f.less b.id=false:=fun b B' e=>by
  cases D2 with
  | nil=>exact absurd e (by simp [elsR])
  | cons q D =>
   have bq:=Spn.may_le (Rn.may_sp (hmD2 q List.mem_cons_self))
   have e2:elsR (q::D)=q.elR++elsR D:=by simp [elsR]
   rw[e2,zAV (by omega),List.cons_append] at e
   injection e with e _
   rw[← e]
   exact hg2 q D rfl
 have hcons:=zAV (r:=r) (by omega)
 have hT:Txt (elsR T++elsR D1++r.elR++elsR D2):=Txt.put (r:=⟨r.sp.f,r.af,r.rs.getD 0 0⟩) (by rw[← hE'];exact hE.t) hcons (zMQ hr) hA (fun x hx y hy=>hf x hx y (by rw[hE'];exact hy)) hg hB
 have hmR:=zGA hr
 refine⟨elsR T,elsR D1,elsR D2,hE',hA,hg,⟨hT,fun x hx=>?_, ?_⟩, ?_⟩
 ·rcases List.mem_append.1 hx with h | h
  ·rcases List.mem_append.1 h with h | h
   ·exact hE.m x (by rw[hE'];exact List.mem_append_left _ h)
   ·exact hmR x h
  ·exact hE.m x (by rw[hE'];exact List.mem_append_right _ h)
 ·rw[hE'] at hn
  simp only[List.length_append] at hn ⊢
  omega
 ·rw[hi,(zAR (fun q hq=>?_)).1]
  ·rw[zC2,zAX,zC2]
  ·rcases List.mem_append.1 hq with hq | hq
   ·rcases List.mem_append.1 hq with hq | hq
    ·rcases List.mem_append.1 hq with hq | hq
     ·exact hmT q hq
     ·exact hmD1 q hq
    ·rw[List.mem_singleton] at hq;subst hq;exact hr
   ·exact hmD2 q hq
theorem Put.mem {l:List Rn}{r:Rn}{A0 A1 B:List El}(h:Put l r A0 A1 B)(x:El):x∈elsR (insL l r)↔x∈elsR l∨x∈r.elR:=by
 rw[h.i,(zB4 _).1,h.e]
 simp only[List.mem_append]
 constructor
 ·exact zB0y
 ·exact zB0y
theorem zDS {l:List Rn}{r:Rn}(h:putE l r=0)(x:El):x∈elsR (insL l r)↔x∈elsR l∨x∈r.elR:=by
 obtain⟨A0,A1,B,h⟩:=put_ok h
 exact h.mem x
theorem zNL {l:List Rn}{r:Rn}(h:putE l r=0):zBA (insL l r):=by
 obtain⟨A0,A1,B,h⟩:=put_ok h
 rw[h.i]
 exact zG5 h.t
theorem zN0 {l:List Rn}{r:Rn}(h:putE l r=0):(elsR (insL l r)).length=(elsR l).length+r.elR.length:=by
 obtain⟨A0,A1,B,h⟩:=put_ok h
 rw[h.i,(zB4 _).1,h.e]
 simp only[List.length_append]
 omega
theorem text_eq {l m:List Rn}(hl:zBA l)(hm:zBA m)(h:∀ x,x∈elsR l↔x∈elsR m):l=m:=by
 obtain⟨h1,e1⟩:=zAO hl
 obtain⟨h2,e2⟩:=zAO hm
 rw[e1,e2,h1.t.eq h2.t h]
def zER (l:List Rn):Bool:=l.all fun r=>r.af.hd.lb.leq r.sp.f.hd.lb
def upTo (v:Lb)(l:List Rn):List Rn:=zAJ (l.filter fun r=>r.sp.f.hd.lb.leq v)
def lowE (v:Lb)(x:El):Bool:=x.id.hd.lb.leq v
theorem zFG {r:Rn}{x:El}(h:x∈r.elR):x.id.hd=r.sp.f.hd:=by
 obtain⟨i,hi,rfl⟩:=List.getElem_of_mem h
 rw[zAK];rfl
theorem zI0 (v:Lb)(l:List Rn):elsR (l.filter fun r=>r.sp.f.hd.lb.leq v)=(elsR l).filter (lowE v):=by
 induction l with
 | nil=>rfl
 | cons r l ih =>
  have he:elsR (r::l)=r.elR++elsR l:=by simp [elsR]
  rw[he,List.filter_append,← ih]
  cases h:r.sp.f.hd.lb.leq v with
  | true =>
   rw[List.filter_cons_of_pos (p:=fun r:Rn=>r.sp.f.hd.lb.leq v) h]
   have e2:elsR (r::l.filter fun r=>r.sp.f.hd.lb.leq v)=r.elR++elsR (l.filter fun r=>r.sp.f.hd.lb.leq v):=by simp [elsR]
   rw[e2]
   congr 1
   symm
   rw[List.filter_eq_self]
   exact fun x hx=>by unfold lowE;rw[zFG hx];exact h
  | false =>
   rw[List.filter_cons_of_neg (p:=fun r:Rn=>r.sp.f.hd.lb.leq v) (by rw[h];simp)]
   have:r.elR.filter (lowE v)=[]:=by
    rw[List.filter_eq_nil_iff]
    exact fun x hx=>by unfold lowE;rw[zFG hx,h];simp
   rw[this,List.nil_append]
def zEM (E:List El):Prop:=∀ x∈E,x.af.hd.lb.leq x.id.hd.lb=true
theorem zHW {l:List Rn}(h:∀ r∈l,r.may=true)(hrefl:∀ a:Lb,a.leq a=true):zER l=true↔zEM (elsR l):=by
 unfold zER zEM
 rw[List.all_eq_true]
 constructor
 ·intro k x hx
  obtain⟨r,hr,hx⟩:=List.mem_flatMap.1 hx
  have hk:=k r hr
  obtain⟨i,hi,rfl⟩:=List.getElem_of_mem hx
  rw[zAK]
  simp only[Spn.at]
  unfold Rn.afAt
  by_cases h0:(0:Int)<i
  ·rw[if_pos h0];exact hrefl _
  ·rw[if_neg h0];exact hk
 ·intro k r hr
  have br:=Spn.may_le (Rn.may_sp (h r hr))
  have hm:(⟨r.sp.f,r.af,r.rs.getD 0 0⟩:El)∈elsR l:=List.mem_flatMap.2 ⟨r,hr,by rw[zAV (by omega)];exact List.mem_cons_self⟩
  exact k _ hm
theorem zN1 {E:List El}(h:TxtM E)(hc:zEM E)(htrans:∀ a b c:Lb,a.leq b=true→b.leq c=true→a.leq c=true)(v:Lb):TxtM (E.filter (lowE v)):=by
 refine⟨h.t.filter _ fun x hx y hy h1 h2=>?_,fun x hx=>h.m x (List.mem_filter.1 hx).1,Nat.le_trans (List.length_filter_le _ _) h.n⟩
 unfold lowE at h1 ⊢
 rw[h2]
 exact htrans _ _ _ (hc x hx) h1
theorem zHR {l:List Rn}(h:∀ r∈l,r.may=true)(v:Lb):upTo v l=zB2 ((elsR l).filter (lowE v)):=by
 unfold upTo
 rw[(zAR fun r hr=>h r (List.mem_filter.1 hr).1).1,zI0]
theorem zCE {o:Op}(h:o.may=true)(hk:o.kd=1):o.sp.f.hd=o.hd∧(o.rs.length:Int)=o.sp.n:=by
 unfold Op.may Op.part at h
 rw[if_pos hk] at h
 simp only[Bool.and_eq_true,decide_eq_true_eq] at h
 exact⟨h.2.1.1.2,h.2.1.2⟩
theorem zDV {s:Spn}{x:Eid}(h:x∈s.ids):x.hd=s.f.hd:=by
 unfold Spn.ids at h
 obtain⟨i,_,rfl⟩:=List.mem_map.1 h
 rfl
theorem zFN {l:List Op}{x:Eid}:x∈zA2 l ↔ ∃ o∈l,o.kd=1∧x∈o.sp.ids:=by
 unfold zA2
 rw[List.mem_flatMap]
 constructor
 ·rintro⟨o,ho,h⟩
  split at h
  ·exact⟨o,ho,by assumption,h⟩
  ·cases h
 ·rintro⟨o,ho,hk,h⟩
  exact⟨o,ho,by rw[if_pos hk];exact h⟩
theorem zEA {l:List Op}(hm:∀ o∈l,o.may=true){v:Lb}{x:Eid}(hx:x.hd.lb.leq v=true):x∈zA2 (lowL l v)↔x∈zA2 l:=by
 rw[zFN,zFN]
 constructor
 ·rintro⟨o,ho,h⟩
  exact⟨o,(List.mem_filter.1 ho).1,h⟩
 ·rintro⟨o,ho,hk,h⟩
  refine⟨o,List.mem_filter.2 ⟨ho, ?_⟩,hk,h⟩
  have:=zDV h
  rw[← (zCE (hm o ho) hk).1,← this]
  exact hx
theorem zFB (l:List Op)(v:Lb):(zA2 (lowL l v)).length≤(zA2 l).length:=by
 induction l with
 | nil=>exact Nat.le_refl _
 | cons o l ih =>
  unfold lowL zA2 at *
  rw[List.filter_cons]
  split
  ·simp only[List.flatMap_cons,List.length_append];omega
  ·simp only[List.flatMap_cons,List.length_append];omega
section
variable {pre : List Op} {o : Op}
theorem zHL (hm:∀ o∈pre,o.may=true)(ho:o.hd.lb.leq v=true)(x:Eid):zB9 (lowL pre v) o x=zB9 pre o x:=by
 unfold zB9
 cases h:x.hd.lb.leq o.hd.lb with
 | false=>simp
 | true =>
  have:=zEA hm (zDU h ho)
  rw[decide_eq_decide.2 this]
theorem zIR (hm:∀ o∈pre,o.may=true)(ho:o.hd.lb.leq v=true):allB (lowL pre v) o=allB pre o:=by
 unfold allB
 congr 1
 funext x
 exact zHL hm ho x
theorem zL7 (hm:∀ o∈pre,o.may=true)(ho:o.hd.lb.leq v=true)(hom:o.may=true)(hc:zAU pre=0)(hc2:zAU (lowL pre v)=0)(hb:o.kd=1 → ¬8192<((zA2 pre).length:Int)+o.sp.n):zBG (lowL pre v) o=zBG pre o:=by
 unfold zBG
 by_cases hk:o.kd=1
 ·rw[if_pos hk,if_pos hk]
  unfold insE
  have h1:(o.sp.ids.any fun x=>decide (x∈zA2 (lowL pre v)))=(o.sp.ids.any fun x=>decide (x∈zA2 pre)):=by
   rw[Bool.eq_iff_iff,List.any_eq_true,List.any_eq_true]
   constructor
   ·rintro⟨x,hx,h⟩
    refine⟨x,hx, ?_⟩
    rw[decide_eq_true_eq] at h ⊢
    exact(zEA hm (by rw[zDV hx,(zCE hom hk).1];exact ho)).1 h
   ·rintro⟨x,hx,h⟩
    refine⟨x,hx, ?_⟩
    rw[decide_eq_true_eq] at h ⊢
    exact(zEA hm (by rw[zDV hx,(zCE hom hk).1];exact ho)).2 h
  have:=zFB pre v
  have hb:=hb hk
  rw[zHL hm ho,h1,if_neg (show ¬8192<((zA2 (lowL pre v)).length:Int)+o.sp.n by omega),if_neg hb]
 ·rw[if_neg hk,if_neg hk]
  split
  ·unfold remE
   rw[zIR hm ho]
  ·unfold raiE chfB chfE
   rw[zIR hm ho,hc,hc2,zGR pre v o ho]
theorem zL5 (h:zBG pre o=0):o.kd=1 → ¬8192<((zA2 pre).length:Int)+o.sp.n:=by
 intro hk hb
 unfold zBG insE at h
 rw[if_pos hk] at h
 split at h
 ·cases h
 ·split at h
  ·cases h
  ·first | (rw[if_pos hb] at h;cases h) | cases h
theorem zI3 (hm:∀ o∈pre,o.may=true)(ho:o.hd.lb.leq v=true)(hom:o.may=true)(hc:zAU pre=0)(hc2:zAU (lowL pre v)=0)(hb:o.kd=1 → ¬8192<((zA2 pre).length:Int)+o.sp.n)(hl:pre.length<2048):fitE (lowL pre v) o=fitE pre o:=by
 have:=zEY pre v
 unfold fitE
 rw[zL7 hm ho hom hc hc2 hb,if_neg (show ¬2048≤pre.length by omega),if_neg (show ¬2048≤(lowL pre v).length by omega)]
theorem zMS (hm:∀ o∈pre,o.may=true)(ho:o.hd.lb.leq v=true)(hom:o.may=true)(hc:zAU pre=0)(hc2:zAU (lowL pre v)=0)(h:fitE pre o=0):fitE (lowL pre v) o=0:=by
 rw[zI3 hm ho hom hc hc2 (zL5 (zCM h)) (zJ6 h)]
 exact h
end
theorem zCQ:∀ (pre a b:List Op),zA1 pre (a++b)=(zA1 pre a&&zA1 (pre++a) b)
 | pre,[],b=>by simp [zA1]
 | pre,o::a,b=>by
  simp only[List.cons_append,zA1]
  rw[zCQ (pre++[o]) a b,List.append_assoc]
  simp only[List.cons_append,List.nil_append,Bool.and_assoc]
theorem zES (v:Lb):∀ (l pre:List Op),zA1 [] pre=true→zA1 [] (lowL pre v)=true→zA1 pre l=true→zA1 (lowL pre v) (lowL l v)=true
 | [],pre,_,_,_=>rfl
 | o::l,pre,hp,hq,h=>by
  simp only[zA1,Bool.and_eq_true,decide_eq_true_eq] at h
  have hp':zA1 [] (pre++[o])=true:=by
   rw[zCQ,hp]
   simp only[List.nil_append,zA1,h.1.1,h.1.2,decide_true,Bool.and_self]
  have hs:=zHE pre o v
  unfold lowL at hs ⊢
  rw[List.filter_cons]
  cases ho:o.hd.lb.leq v with
  | false =>
   rw[ho,if_neg (by decide),List.append_nil] at hs
   have:=zES v l (pre++[o]) hp' (by unfold lowL;rw[hs];exact hq) h.2
   unfold lowL at this
   rw[hs] at this
   simpa using this
  | true =>
   rw[ho,if_pos rfl] at hs
   have hf:=zMS (zBL hp) ho h.1.1 (zB3 hp) (zB3 hq) h.1.2
   unfold lowL at hf
   have hq':zA1 [] (lowL (pre++[o]) v)=true:=by
    unfold lowL
    rw[hs,zCQ]
    unfold lowL at hq
    rw[hq]
    simp only[List.nil_append,zA1,h.1.1,hf,decide_true,Bool.and_self]
   have:=zES v l (pre++[o]) hp' hq' h.2
   unfold lowL at this
   rw[hs] at this
   simp only[if_true,zA1,h.1.1,hf,decide_true,Bool.true_and]
   exact this
theorem zBV {l:List Op}(v:Lb)(h:zA1 [] l=true):zA1 [] (lowL l v)=true:=zES v l [] rfl rfl h
def stepT (t:List Rn)(o:Op):List Rn:=if rofE o=0 then insL t o.rn else t
def textOf (l:List Op):List Rn:=l.foldl stepT []
theorem zCI (l:List Op)(o:Op):textOf (l++[o])=stepT (textOf l) o:=by simp [textOf]
theorem zDQ (l:List Op)(o:Op):zA1 [] (l++[o])=(zA1 [] l&&(o.may&&decide (fitE l o=0))):=by
 rw[zCQ]
 simp [zA1]
theorem zDM (o:Op):o.rn.elR.map (·.id)=o.sp.ids:=by
 simp [Rn.elR,Spn.ids,Op.rn,Function.comp_def]
theorem zE6 {o:Op}(h:rofE o=0):o.may=true∧o.kd=1∧o.rn.may=true:=by
 unfold rofE at h
 split at h
 ·rename_i h1
  split at h
  ·rename_i h2;exact⟨h1,h2.1,h2.2⟩
  ·cases h
 ·cases h
structure HT (l:List Op) (t:List Rn):Prop where
 ok:zBA t
 mem:∀ x,x∈elsR t ↔ ∃ o∈l,rofE o=0∧x∈o.rn.elR
 ids:∀ y,y∈zA2 l ↔ ∃ x∈elsR t,x.id=y
 len:(elsR t).length=(zA2 l).length
 cl:(∀ o∈l,o.ok)→zEM (elsR t)
theorem z_leq {b:Lb}(h:b.ok):Lb.z.leq b=true:=by
 unfold Lb.leq
 simp only[Bool.and_eq_true,decide_eq_true_eq,zCY]
 refine⟨h.1, ?_⟩
 simp
theorem HT.step {l:List Op}{t:List Rn}{o:Op}(h:HT l t)(hf:fitE l o=0)(hm:o.may=true):HT (l++[o]) (stepT t o)∧(o.kd=1→putE t o.rn=0∧rofE o=0):=by
 have hk:=zCM hf
 have hth:=zEL l o
 by_cases h1:o.kd=1
 ·unfold zBG at hk
  rw[if_pos h1] at hk
  unfold insE at hk
  split at hk
  ·cases hk
  rename_i hs
  split at hk
  ·cases hk
  rename_i hr
  split at hk
  ·cases hk
  rename_i hn
  have hr0:rofE o=0:=Classical.byContradiction fun k=>hr (.inl k)
  have hfr:∀ y∈o.sp.ids,y ∉ zA2 l:=fun y hy k=>hr (.inr (List.any_eq_true.2 ⟨y,hy,decide_eq_true k⟩))
  obtain⟨_,_,hrm⟩:=zE6 hr0
  have hsee:o.af≠Eid.z→zB9 l o o.af=true:=fun hz=>Classical.byContradiction fun k=>hs ⟨hz,by simpa using k⟩
  have hp:putE t o.rn=0:=by
   rw[zHK]
   refine⟨h.ok,hrm, ?_,fun x hx e he k=>?_, ?_⟩
   ·by_cases hz:o.af=Eid.z
    ·exact .inl hz
    ·right
     have:=hsee hz
     unfold zB9 at this
     simp only[Bool.and_eq_true,decide_eq_true_eq] at this
     exact(h.ids _).1 this.1
   ·have h2:x.id∈o.sp.ids:=by rw[← zDM];exact List.mem_map.2 ⟨x,hx,rfl⟩
    exact hfr _ h2 ((h.ids _).2 ⟨e,he,k.symm⟩)
   ·have hl:o.rn.elR.length=o.sp.n.toNat:=zA9 _
    have hb:=Spn.may_le (Rn.may_sp hrm)
    have e1:o.rn.sp.n=o.sp.n:=rfl
    rw[e1] at hb
    rw[h.len,hl]
    omega
  have hst:stepT t o=insL t o.rn:=by unfold stepT;rw[if_pos hr0]
  rw[hst]
  refine⟨⟨zNL hp,fun x=>?_,fun y=>?_, ?_,fun hok=>?_⟩,fun _=>⟨hp,hr0⟩⟩
  ·rw[zDS hp,h.mem]
   constructor
   ·rintro (⟨p,h2,h3⟩ | h2)
    ·exact⟨p,List.mem_append_left _ h2,h3⟩
    ·exact⟨o,List.mem_append_right _ List.mem_cons_self,hr0,h2⟩
   ·rintro⟨p,h2,h3,h4⟩
    rcases List.mem_append.1 h2 with h2 | h2
    ·exact .inl ⟨p,h2,h3,h4⟩
    ·rw[List.mem_singleton] at h2;subst h2;exact .inr h4
  ·rw[hth,if_pos h1,List.mem_append,h.ids]
   constructor
   ·rintro (⟨x,h2,h3⟩ | h2)
    ·exact⟨x,(zDS hp x).2 (.inl h2),h3⟩
    ·rw[← zDM] at h2
     obtain⟨x,h3,h4⟩:=List.mem_map.1 h2
     exact⟨x,(zDS hp x).2 (.inr h3),h4⟩
   ·rintro⟨x,h2,h3⟩
    rcases (zDS hp x).1 h2 with h2 | h2
    ·exact .inl ⟨x,h2,h3⟩
    ·right
     rw[← zDM]
     exact List.mem_map.2 ⟨x,h2,h3⟩
  ·rw[zN0 hp,hth,if_pos h1,List.length_append,h.len,← zDM,List.length_map]
  ·intro x hx
   rcases (zDS hp x).1 hx with hx | hx
   ·exact h.cl (fun p hp=>hok p (List.mem_append_left _ hp)) x hx
   ·have hhd:=(zCE hm h1).1
    have ho:=hok o (List.mem_append_right _ List.mem_cons_self)
    rw[zFG hx]
    obtain⟨i,hi,rfl⟩:=List.getElem_of_mem hx
    rw[zAK]
    unfold Rn.afAt
    by_cases h0:(0:Int)<i
    ·rw[if_pos h0];exact zHC _
    ·rw[if_neg h0]
     show o.af.hd.lb.leq o.sp.f.hd.lb=true
     by_cases hz:o.af=Eid.z
     ·rw[hz,hhd];exact z_leq ho.2.1.1
     ·have:=hsee hz
      unfold zB9 at this
      simp only[Bool.and_eq_true,decide_eq_true_eq] at this
      rw[hhd];exact this.2
 ·have hr0:¬rofE o=0:=fun k=>h1 (zE6 k).2.1
  have hst:stepT t o=t:=by unfold stepT;rw[if_neg hr0]
  rw[hst]
  refine⟨⟨h.ok,fun x=>?_,fun y=>?_, ?_,fun hok=>h.cl fun p hp=>hok p (List.mem_append_left _ hp)⟩,fun k=>absurd k h1⟩
  ·rw[h.mem]
   constructor
   ·rintro⟨p,h2,h3⟩
    exact⟨p,List.mem_append_left _ h2,h3⟩
   ·rintro⟨p,h2,h3,h4⟩
    rcases List.mem_append.1 h2 with h2 | h2
    ·exact⟨p,h2,h3,h4⟩
    ·rw[List.mem_singleton] at h2;subst h2;exact absurd h3 hr0
  ·rw[hth,if_neg h1,List.append_nil];exact h.ids y
  ·rw[hth,if_neg h1,List.append_nil];exact h.len
theorem zGV:zBA []:=⟨fun _ h=>absurd h (by simp),by simp [zA7],by rw[show elsL []=[] from rfl];exact Ord.nil,rfl⟩
theorem zNK:HT [] []:=⟨zGV,fun x=>by simp [elsR],fun y=>by simp [zA2,elsR],rfl,fun _ x hx=>absurd hx (by simp [elsR])⟩
theorem zAH {l:List Op}:zA1 [] l=true→HT l (textOf l):=by
 refine zAN (P:=fun l=>zA1 [] l=true→HT l (textOf l)) (fun _=>zNK) (fun l o ih h=>?_) l
 rw[zDQ] at h
 simp only[Bool.and_eq_true,decide_eq_true_eq] at h
 rw[zCI]
 exact((ih h.1).step h.2.2 h.2.1).1
theorem zH7 {l m:List Op}(h:zA1 [] (l++m)=true):zA1 [] l=true:=by
 rw[zCQ] at h
 simp only[Bool.and_eq_true] at h
 exact h.1
theorem zL1 {l m:List Op}{o:Op}(h:zA1 [] (l++o::m)=true)(hr:rofE o=0):putE (textOf l) o.rn=0:=by
 have e:l++o::m=(l++[o])++m:=by simp
 rw[e] at h
 have h:=zH7 h
 rw[zDQ] at h
 simp only[Bool.and_eq_true,decide_eq_true_eq] at h
 exact(((zAH h.1).step h.2.2 h.2.1).2 (zE6 hr).2.1).1
theorem zLW {l:List Op}(h:zA1 [] l=true)(hok:∀ o∈l,o.ok)(v:Lb):textOf (lowL l v)=upTo v (textOf l)∧zER (textOf l)=true:=by
 have hT:=zAH h
 have hL:=zAH (zBV v h)
 have hE:=(zAO hT.ok).1
 have hC:=hT.cl hok
 have hcl:zER (textOf l)=true:=(zHW hT.ok.1 zHC).2 hC
 refine⟨?_,hcl⟩
 rw[zHR hT.ok.1]
 have hM:=zN1 hE hC (fun _ _ _=>zDU) v
 refine text_eq hL.ok (zG5 hM) fun x=>?_
 rw[(zB4 _).1,List.mem_filter,hL.mem,hT.mem]
 have hmay:=zBL h
 constructor
 ·rintro⟨o,ho,h1,h2⟩
  obtain⟨h3,h4⟩:=List.mem_filter.1 ho
  refine⟨⟨o,h3,h1,h2⟩, ?_⟩
  unfold lowE
  rw[zFG h2]
  show o.sp.f.hd.lb.leq v=true
  rw[(zCE (hmay o h3) (zE6 h1).2.1).1]
  exact h4
 ·rintro⟨⟨o,h3,h1,h2⟩,h4⟩
  refine⟨o,List.mem_filter.2 ⟨h3, ?_⟩,h1,h2⟩
  unfold lowE at h4
  rw[zFG h2] at h4
  have h5:o.sp.f.hd.lb.leq v=true:=h4
  rw[(zCE (hmay o h3) (zE6 h1).2.1).1] at h5
  exact h5
theorem zGU {α:Type}[DecidableEq α]:∀ {l m:List α},l.Nodup→(∀ x∈l,x∈m)→l.length≤m.length
 | [],_,_,_=>Nat.zero_le _
 | a::l,m,hn,h=>by
  rw[List.nodup_cons] at hn
  have ha:=h a List.mem_cons_self
  have:=zGU (l:=l) (m:=m.erase a) hn.2 fun x hx=>(List.mem_erase_of_ne (fun e=>hn.1 (by rw[← e];exact hx))).2 (h x (List.mem_cons_of_mem _ hx))
  rw[List.length_erase_of_mem ha] at this
  have:=List.length_pos_of_mem ha
  rw[List.length_cons]
  omega
theorem zFQ {α:Type}[DecidableEq α]:∀ {l m:List α},l.Nodup→(∀ x∈l,x∈m)→m.length≤l.length→m.Nodup
 | [],m,_,_,h=>by
  rw[List.length_nil] at h
  have e:m=[]:=List.eq_nil_of_length_eq_zero (by omega)
  rw[e]
  exact List.nodup_nil
 | a::l,m,hn,h,hl=>by
  have hn':=List.nodup_cons.1 hn
  have ha:=h a List.mem_cons_self
  have hs:∀ x∈l,x∈m.erase a:=fun x hx=>(List.mem_erase_of_ne (fun e=>hn'.1 (by rw[← e];exact hx))).2 (h x (List.mem_cons_of_mem _ hx))
  have hle:=List.length_erase_of_mem ha
  have hp:=List.length_pos_of_mem ha
  rw[List.length_cons] at hl
  have ih:=zFQ hn'.2 hs (by omega)
  have hna:a ∉ m.erase a:=fun hm=>by
   have:=zGU (l:=a::l) (m:=m.erase a) hn fun x hx=>by
    rcases List.mem_cons.1 hx with rfl | hx
    ·exact hm
    ·exact hs x hx
   rw[List.length_cons] at this
   omega
  exact(List.perm_cons_erase ha).nodup_iff.2 (List.nodup_cons.2 ⟨hna,ih⟩)
theorem zDE {l:List Op}(h:zA1 [] l=true)(x:El):x∈zAZ l↔x∈elsR (textOf l):=by
 rw[(zAH h).mem]
 unfold zAZ
 rw[List.mem_flatMap]
 constructor
 ·rintro⟨o,ho,hx⟩
  split at hx
  ·rename_i hk
   refine⟨o,ho, ?_,hx⟩
   have h1:=zBL h o ho
   have h2:=zDP h o ho hk
   unfold rofE
   rw[if_pos h1,if_pos ⟨hk,h2⟩]
  ·cases hx
 ·rintro⟨o,ho,hr,hx⟩
  refine⟨o,ho, ?_⟩
  rw[if_pos (zE6 hr).2.1]
  exact hx
theorem zLE {l:List Op}(h:zA1 [] l=true):Set1 (zAZ l):=by
 have hT:=zAH h
 have hX:=(zAO hT.ok).1.1
 have hm:=zDE h
 refine⟨?_,fun x hx=>hX.s1.ct x ((hm x).1 hx),fun x hx=>?_⟩
 ·rw[zF0]
  refine zFQ (l:=(elsR (textOf l)).map (·.id)) hX.s1.nd (fun y hy=>?_) (by rw[List.length_map,hT.len];exact Nat.le_refl _)
  obtain⟨x,hx,rfl⟩:=List.mem_map.1 hy
  exact(hT.ids _).2 ⟨x,hx,rfl⟩
 ·rcases hX.s1.rt x ((hm x).1 hx) with e | ⟨y,hy,e⟩
  ·exact .inl e
  ·exact .inr ⟨y,(hm y).2 hy,e⟩
theorem zJP {l:List Op}(h:zA1 [] l=true){T:List El}(hT:Txt T)(hm:∀ x,x∈T↔x∈zAZ l):T=elsR (textOf l) :=
 hT.eq (zAO (zAH h).ok).1.1 fun x=>(hm x).trans (zDE h x)
end Go.Proofs.YtmkkecnafjhdmaaGreat
namespace Go.Ax
open Go
variable {M : Mem} {st : Nat} {α : Type} {T : List AV → α → Prop} {a : AV} {l : List α}
structure Prt (M:Mem) (st:Nat) (T:List AV→α→Prop) (a a':AV) (l:List α):Prop where
 one:oneA a'=true
 cells:cellsA a'=[a']
 sub:∀ id,rowOf a'=some id→rowOf a=some id
 ln:lenA a'=some l.length
 rws:∀ n,M.size≤n→((rowsOf a').all fun i=>Nat.blt i n)=true
 rd:∃ rows:List (List AV),(∀ N,(∀ id,rowOf a=some id→N.get id=M.get id)→cellsOf N a'=some rows.flatten)∧All2 T rows l ∧ ∀ r∈rows,r.length=st
theorem zC1 {β:Type}{R:β→α→Prop}:∀ (n:Nat) {x:List β} {y:List α},All2 R x y→All2 R (x.drop n) (y.drop n)
 | 0,_,_,h=>h
 | _+1,_,_,.nil => .nil
 | n+1,_,_,.cons _ t=>zC1 n t
theorem zED {β:Type}{R:β→α→Prop}:∀ (n:Nat) {x:List β} {y:List α},All2 R x y→All2 R (x.take n) (y.take n)
 | 0,_,_,_ => .nil
 | _+1,_,_,.nil => .nil
 | n+1,_,_,.cons a t => .cons a (zED n t)
theorem SlM.pre (h:SlM M st T a l)(hs:0<st){n:Nat}(hn:n≤l.length):∃ a',Prt M st T a a' (l.take n) ∧ ∀ N,(∀ id,rowOf a=some id→N.get id=M.get id)→slcO N st a none (some (.sc (.int .i64 n))) none=some (a',N):=by
 rcases h with⟨rfl,rfl⟩ | ⟨id,rows,cap,rfl,hc,hg,hA,hr⟩
 ·obtain rfl:n=0:=by simpa using hn
  exact⟨.sc (.slice none 0 0),⟨rfl,rfl,fun _ h=>h,rfl,fun _ _=>rfl,[],fun _ _=>rfl,.nil,by simp⟩,fun N _=>rfl⟩
 ·have hl:=hA.length_eq
  have hfl:=flat_len hr
  have hnr:n≤rows.length:=by omega
  have hnl:(l.take n).length=n:=by rw[List.length_take];omega
  have hms:n*st≤rows.length*st:=Nat.mul_le_mul_right st hnr
  refine⟨.sl id 0 n (cap.map fun _=>rows.length) st,⟨rfl,rfl,fun _ h=>h,by rw[hnl];rfl,fun n hn=>by
   simp only[rowsOf,List.all_cons,List.all_nil,Bool.and_true]
   exact blt_t (Nat.lt_of_lt_of_le (Mem.get_lt hg) hn),rows.take n,fun N hN=>?_,all2_take n hA,fun r hr'=>hr r (List.mem_of_mem_take hr')⟩,fun N hN=>?_⟩
  ·have hrd:=rd_row ((hN id rfl).trans hg)
   simp only[cellsOf,hrd]
   rw[Nat.ble_eq_true_of_le (by omega)]
   have e:slot rows.flatten 0 (n*st)=(rows.take n).flatten:=by
    unfold slot
    rw[List.drop_zero]
    have h1:rows.flatten=(rows.take n).flatten++(rows.drop n).flatten:=by rw[← List.flatten_append,List.take_append_drop]
    have h2:(rows.take n).flatten.length=n*st:=by rw[flat_len fun r hr'=>hr r (List.mem_of_mem_take hr'),List.length_take,Nat.min_eq_left hnr]
    rw[h1,← h2,List.take_left]
   rw[e]
  ·have hrd:=rd_row ((hN id rfl).trans hg)
   rcases hc with rfl | rfl
   ·have hav:n≤rows.flatten.length / st:=by
     rw[Nat.le_div_iff_mul_le hs,hfl];exact hms
    unfold slcO
    simp only[Nat.beq_refl,hrd,Nat.sub_zero,bnd_int _ _ _ _ hav,bnd_none,Nat.zero_mul,Nat.add_zero,Option.map_none]
   ·unfold slcO
    simp only[Nat.beq_refl,bnd_none,bnd_int _ _ _ _ hnr,Nat.sub_zero,Nat.zero_mul,Nat.add_zero,Option.map_some]
    cases Nat.beq rows.length 0 <;> rfl
theorem SlM.suf (h:SlM M st T a l)(hs:0<st){n:Nat}(hn:n≤l.length):∃ a',Prt M st T a a' (l.drop n) ∧ ∀ N,(∀ id,rowOf a=some id→N.get id=M.get id)→slcO N st a (some (.sc (.int .i64 n))) none none=some (a',N):=by
 rcases h with⟨rfl,rfl⟩ | ⟨id,rows,cap,rfl,hc,hg,hA,hr⟩
 ·obtain rfl:n=0:=by simpa using hn
  exact⟨.sc (.slice none 0 0),⟨rfl,rfl,fun _ h=>h,rfl,fun _ _=>rfl,[],fun _ _=>rfl,.nil,by simp⟩,fun N _=>rfl⟩
 ·have hl:=hA.length_eq
  have hfl:=flat_len hr
  have hnr:n≤rows.length:=by omega
  have hnl:(l.drop n).length=rows.length - n:=by rw[List.length_drop];omega
  have hms:n*st+(rows.length - n)*st=rows.length*st:=by rw[← Nat.add_mul];congr 1;omega
  have e1:slot rows.flatten (n*st) ((rows.length - n)*st)=(rows.drop n).flatten:=by
   unfold slot
   have h1:rows.flatten=(rows.take n).flatten++(rows.drop n).flatten:=by rw[← List.flatten_append,List.take_append_drop]
   have h2:(rows.take n).flatten.length=n*st:=by rw[flat_len fun r hr'=>hr r (List.mem_of_mem_take hr'),List.length_take,Nat.min_eq_left hnr]
   have h3:(rows.drop n).flatten.length=(rows.length - n)*st:=by rw[flat_len fun r hr'=>hr r (List.mem_of_mem_drop hr'),List.length_drop]
   rw[h1,← h2,List.drop_left,← h3,List.take_length]
  have cell:∀ (off:Nat) (c:Option Nat),(off=n*st∨(off=0∧n=rows.length)) → ∀ N,(∀ j,rowOf (.sl id 0 rows.length cap st)=some j→N.get j=M.get j)→cellsOf N (.sl id off (rows.length - n) c st)=some (rows.drop n).flatten:=fun off c ho N hN=>by
   have hrd:=rd_row ((hN id rfl).trans hg)
   simp only[cellsOf,hrd]
   rcases ho with rfl | ⟨rfl,rfl⟩
   ·rw[Nat.ble_eq_true_of_le (by omega),e1]
   ·rw[Nat.ble_eq_true_of_le (by rw[Nat.sub_self,Nat.zero_mul];exact Nat.zero_le _),Nat.sub_self,Nat.zero_mul,List.drop_length]
    simp [slot]
  rcases hc with rfl | rfl
  ·refine⟨.sl id (n*st) (rows.length - n) none st,⟨rfl,rfl,fun _ h=>h,by rw[hnl];rfl,fun n hn=>by
   simp only[rowsOf,List.all_cons,List.all_nil,Bool.and_true]
   exact blt_t (Nat.lt_of_lt_of_le (Mem.get_lt hg) hn),rows.drop n,cell _ _ (.inl rfl),zC1 n hA,fun r hr'=>hr r (List.mem_of_mem_drop hr')⟩,fun N hN=>?_⟩
   have hrd:=rd_row ((hN id rfl).trans hg)
   unfold slcO
   simp only[Nat.beq_refl,hrd,Nat.sub_zero,bnd_int _ _ _ _ hnr,bnd_none,Nat.zero_add]
  ·refine⟨.sl id (match Nat.beq rows.length n with | true=>0 | false=>0+n*st) (rows.length - n) (some (rows.length - n)) st,⟨rfl,rfl,fun _ h=>h,by rw[hnl];rfl,fun n hn=>by
   simp only[rowsOf,List.all_cons,List.all_nil,Bool.and_true]
   exact blt_t (Nat.lt_of_lt_of_le (Mem.get_lt hg) hn),rows.drop n,cell _ _ ?_,zC1 n hA,fun r hr'=>hr r (List.mem_of_mem_drop hr')⟩,fun N hN=>?_⟩
   ·cases hb:Nat.beq rows.length n with
    | true=>exact .inr ⟨rfl,(Nat.eq_of_beq_eq_true hb).symm⟩
    | false=>exact .inl (Nat.zero_add _)
   ·unfold slcO
    simp only[Nat.beq_refl,bnd_none,bnd_int _ _ _ _ hnr]
    cases Nat.beq rows.length n <;> rfl
theorem SlM.row_mem (h:SlM M st T a l){i:Nat}(hi:i∈rowsOf a):rowOf a=some i:=by
 rcases h with⟨rfl,rfl⟩ | ⟨id,rows,cap,rfl,hc,hg,hA,hr⟩
 ·simp [rowsOf] at hi
 ·simp only[rowsOf,List.mem_singleton] at hi
  subst hi;rfl
theorem zFE (r w:List Nat)(n n' a b:Nat):apart2 (.acc [] []) (fpOf r w n n',a,b)=true:=by
 unfold fpOf
 cases hb:(r.isEmpty&&w.isEmpty&&Nat.beq n n') <;> simp [apart2,FP.apart,disj,FP.reads,FP.writes]
theorem zFF {r r' w':List Nat}{n n' m m' a b:Nat}(h:∀ i∈r,i ∉ w'∧(i<a∨b≤i)):apart2 (fpOf r [] n n') (fpOf r' w' m m',a,b)=true:=by
 have h1:∀ x,x∈r→Nat.ble a x=false∨Nat.blt x b=false:=fun i hi=>by
  rcases (h i hi).2 with k | k
  ·left
   cases hb:Nat.ble a i with
   | false=>rfl
   | true=>have:=Nat.le_of_ble_eq_true hb;omega
  ·right
   cases hb:Nat.blt i b with
   | false=>rfl
   | true=>have:i<b:=Nat.le_of_ble_eq_true hb;omega
 have h2:∀ i,i∈r → ¬i∈w':=fun i hi=>(h i hi).1
 unfold fpOf
 cases hb:(r.isEmpty&&([]:List Nat).isEmpty&&Nat.beq n n') <;> cases hc:(r'.isEmpty&&w'.isEmpty&&Nat.beq m m') <;> simp [apart2,FP.apart,disj,FP.reads,FP.writes] <;> first | exact⟨h2,h1⟩ | exact h1
theorem zCJ {r r' w':List Nat}{n n' a b:Nat}(h:∀ i∈r,i ∉ w'∧(i<a∨b≤i)):apart2 (fpOf r [] n n') (.acc r' w',a,b)=true:=by
 have h1:∀ x,x∈r→Nat.ble a x=false∨Nat.blt x b=false:=fun i hi=>by
  rcases (h i hi).2 with k | k
  ·left
   cases hb:Nat.ble a i with
   | false=>rfl
   | true=>have:=Nat.le_of_ble_eq_true hb;omega
  ·right
   cases hb:Nat.blt i b with
   | false=>rfl
   | true=>have:i<b:=Nat.le_of_ble_eq_true hb;omega
 have h2:∀ i,i∈r → ¬i∈w':=fun i hi=>(h i hi).1
 unfold fpOf
 cases hb:(r.isEmpty&&([]:List Nat).isEmpty&&Nat.beq n n') <;> simp [apart2,FP.apart,disj,FP.reads,FP.writes] <;> first | exact⟨h2,h1⟩ | exact h1
end Go.Ax
namespace Go.Proofs.YtmkkecnafjhdmaaGreat
open Go Go.Ax
variable {fuel : Nat} {M : Mem} {Q : AV → Mem → Prop} {d : Nat}
theorem zDY (a b:Lb)(ha:a.ok)(hb:b.ok)(M:Mem):zCN fuel (d+1) 147 [lbA a,lbA b] M=some (BL (a.ahead b),M):=by
 obtain⟨a1,a2,a3,a4⟩:=ha
 obtain⟨b1,b2,b3,b4⟩:=hb
 have e:decide (a.lv*4294967296+a.cats<b.lv*4294967296+b.cats)=a.ahead b:=by
  unfold Lb.ahead
  rw[Bool.eq_iff_iff]
  simp only[decide_eq_true_eq,Bool.or_eq_true,Bool.and_eq_true]
  omega
 have w1:IntKind.i64.wrap a.lv=a.lv:=wrap_i64 (by omega) (by omega)
 have w2:IntKind.i64.wrap a.cats=a.cats:=wrap_i64 (by omega) (by omega)
 have w3:IntKind.i64.wrap b.lv=b.lv:=wrap_i64 (by omega) (by omega)
 have w4:IntKind.i64.wrap b.cats=b.cats:=wrap_i64 (by omega) (by omega)
 have w5:IntKind.i64.wrap (a.lv*4294967296)=a.lv*4294967296:=wrap_i64 (by omega) (by omega)
 have w6:IntKind.i64.wrap (b.lv*4294967296)=b.lv*4294967296:=wrap_i64 (by omega) (by omega)
 have w7:IntKind.i64.wrap (a.lv*4294967296+a.cats)=a.lv*4294967296+a.cats:=wrap_i64 (by omega) (by omega)
 have w8:IntKind.i64.wrap (b.lv*4294967296+b.cats)=b.lv*4294967296+b.cats:=wrap_i64 (by omega) (by omega)
 have cv1:=fun t r x=>pConv2 (P:=Tryz.prog) (t:=t) Tryz.underlying5 Tryz.underlying3 r x
 have cv2:=fun t r x=>pConv2 (P:=Tryz.prog) (t:=t) Tryz.underlying23 Tryz.underlying3 r x
 apply w3_eq
 refine call_gc tf147 rfl (by simp (disch:=try exact SX) only[RV,seval]) (by simp [a147]) fun b' ht hx=>?_
 obtain⟨h0,h1⟩:=hx2 hx
 clear hx
 simp only[a147,c147] at ht ⊢
 simp (disch:=try exact SX) only[RV,seval,h0,h1,cv1,cv2,pc1_int,w1,w2,w3,w4,w5,w6,w7,w8,e]
theorem zIF (x y:Eid)(hx:x.ok)(hy:y.ok)(M:Mem):zCN fuel (d+2) 115 [idA x,idA y] M=some (BL (x.less y),M):=by
 have h1':=fun M=>zDY (fuel:=fuel) (d:=d) x.hd.lb y.hd.lb hx.1.1 hy.1.1 M
 have h2':=fun M=>zDY (fuel:=fuel) (d:=d) y.hd.lb x.hd.lb hy.1.1 hx.1.1 M
 apply w3_eq
 refine call_gc tf115 rfl (by simp (disch:=try exact SX) only[RV,seval]) (by simp [a115]) fun b' ht hx=>?_
 obtain⟨h0,h1⟩:=hx2 hx
 clear hx
 simp only[a115,c115] at ht ⊢
 have key:=zBB x y
 cases q1:decide (x.c<y.c) with
 | true =>
  have e:x.less y=true:=key.2 (.inl (of_decide_eq_true q1))
  simp (disch:=try exact SX) only[RV,seval,h0,h1,q1,e]
 | false =>
  have q1':=of_decide_eq_false q1
  cases q2:decide (y.c<x.c) with
  | true =>
   have q2':=of_decide_eq_true q2
   have e:x.less y=false:=by rw[← Bool.not_eq_true,key];omega
   simp (disch:=try exact SX) only[RV,seval,h0,h1,q1,q2,e]
  | false =>
   have q2':=of_decide_eq_false q2
   have u1:x.hd.lb.ahead y.hd.lb=true↔x.hd.lb.lv<y.hd.lb.lv∨(x.hd.lb.lv=y.hd.lb.lv∧x.hd.lb.cats<y.hd.lb.cats):=by unfold Lb.ahead;simp
   have u2:y.hd.lb.ahead x.hd.lb=true↔y.hd.lb.lv<x.hd.lb.lv∨(y.hd.lb.lv=x.hd.lb.lv∧y.hd.lb.cats<x.hd.lb.cats):=by unfold Lb.ahead;simp
   cases q3:x.hd.lb.ahead y.hd.lb with
   | true =>
    rw[q3] at h1' u1
    have u1:=u1.1 rfl
    have e:x.less y=true:=key.2 (by omega)
    simp (disch:=try exact SX) only[RV,seval,h0,h1,q1,q2,h1',e]
   | false =>
    rw[q3] at h1' u1
    have u1:¬_:=fun h=>absurd (u1.2 h) (by decide)
    cases q4:y.hd.lb.ahead x.hd.lb with
    | true =>
     rw[q4] at h2' u2
     have u2:=u2.1 rfl
     have e:x.less y=false:=by rw[← Bool.not_eq_true,key];omega
     simp (disch:=try exact SX) only[RV,seval,h0,h1,q1,q2,h1',h2',e]
    | false =>
     rw[q4] at h2' u2
     have u2:¬_:=fun h=>absurd (u2.2 h) (by decide)
     have e:decide (x.hd.num<y.hd.num)=x.less y:=by
      rw[Bool.eq_iff_iff,key,decide_eq_true_iff]
      omega
     simp (disch:=try exact SX) only[RV,seval,h0,h1,q1,q2,h1',h2',e]
def ahB:List Eid→List Eid→Bool
 | [],[]=>false
 | [],_::_=>true
 | _::_,[]=>false
 | a::p,b::q=>if a=b then ahB p q else b.less a
theorem zGY (a b:Eid)(p q:List Eid):ahB (a::p) (b::q)=if a=b then ahB p q else b.less a:=rfl
theorem zG8:∀ {p q:List Eid},ahB p q=true↔ahd p q
 | [],[]=>by simp [ahB,ahd]
 | [],_::_=>by simp [ahB,ahd]
 | _::_,[]=>by simp [ahB,ahd]
 | a::p,b::q=>by
  unfold ahB ahd
  by_cases e:a=b
  ·subst e
   rw[if_pos rfl,zG8]
   simp [zDC]
  ·rw[if_neg e]
   simp [e]
theorem zD4 {a b:AV}{P R:List Eid}(hP:Sl 4 zBW a P)(hR:Sl 4 zBW b R)(hl:P.length≤1000000000)(hl2:R.length≤1000000000)(hf:P.length<fuel)(M:Mem):zCN fuel (d+3) 83 [a,b] M=some (BL (ahB P R),M):=by
 have lp:=hP.len
 have lr:=hR.len
 apply w3_eq
 refine call_gc tf83 rfl (by simp only[icyL,fun M=>hP.icy M 12 (by omega),fun M=>hR.icy M 12 (by omega)]) (by simp [a83]) fun b' ht hx=>?_
 obtain⟨h0,h1⟩:=hx2 hx
 clear hx
 simp only[a83,c83] at ht ⊢
 simp (disch:=try exact SX) only[RV]
 refine w_loop (I:=fun n t N => ∃ (i:Nat),n=P.length - i∧i≤P.length∧nth undefA t 0=a∧nth undefA t 1=b∧nth undefA t 5=I64 i∧Wf N∧ahB P R=ahB (P.drop i) (R.drop i)∧i≤R.length) (n:=P.length) (by omega) ?_ ?_
 ·refine⟨0,rfl,Nat.zero_le _, ?_, ?_, ?_,Wf.mem0,rfl,Nat.zero_le _⟩ <;> simp (disch:=try exact SX) only[RV,seval,h0,h1]
  all_goals first | rfl | assumption | done
 ·rintro n t N hlt ⟨i,rfl,hi,g0,g1,g5,w,hj,hi2⟩
  simp only[ht] at hlt ⊢
  by_cases hc:i<P.length
  ·have q1:decide ((i:Int)<P.length)=true:=DT
   obtain⟨r1,hiad,⟨rfl,hok1⟩,_⟩:=hP.iad i hc
   by_cases hc2:i=R.length
   ·have q2:decide ((i:Int)=R.length)=true:=DT
    have e:ahB P R=false:=by
     rw[hj,List.drop_eq_getElem_cons hc,List.drop_eq_nil_of_le (show R.length≤i by omega)]
     rfl
    simp (disch:=try exact SX) only[RV,seval,g0,g1,g5,lp,lr,q1,q2,e]
   ·have q2:decide ((i:Int)=R.length)=false:=DF
    have hc3:i<R.length:=by omega
    obtain⟨r2,hiad2,⟨rfl,hok2⟩,_⟩:=hR.iad i hc3
    rw[List.drop_eq_getElem_cons hc,List.drop_eq_getElem_cons hc3] at hj
    have hle:=fun M=>zIF (fuel:=fuel) (d:=d) R[i] P[i] hok2 hok1 M
    have w1:IntKind.i64.wrap ((i:Int)+1)=((i+1:Nat):Int):=WI
    cases q3:decide (P[i]=R[i]) with
    | true =>
     rw[zGY,if_pos (of_decide_eq_true q3)] at hj
     simp (disch:=try exact SX) only[RV,seval,g0,g1,g5,lp,lr,q1,q2,hiad,hiad2,q3,↓pIdN,zA4,ETA,w1]
     exact⟨hlt,P.length - (i+1),by omega,i+1,rfl,by omega,rfl,w,hj,by omega⟩
    | false =>
     rw[zGY,if_neg (of_decide_eq_false q3)] at hj
     simp (disch:=try exact SX) only[RV,seval,g0,g1,g5,lp,lr,q1,q2,hiad,hiad2,q3,↓pIdN,zA4,ETA,hle,hj]
  ·obtain rfl:i=P.length:=by omega
   have e:decide ((P.length:Int)<R.length)=ahB P R:=by
    rw[hj,List.drop_length]
    by_cases h:P.length=R.length
    ·rw[h,List.drop_length]
     simp [ahB]
    ·rw[List.drop_eq_getElem_cons (show P.length<R.length by omega)]
     unfold ahB
     exact decide_eq_true (by omega)
   simp (disch:=try exact SX) only[RV,seval,g0,g1,g5,lp,lr,e]
theorem zN5 {E:List El}{x:Eid}{p:List Eid}(h:Pth E x p):∀ i (hi:i<p.reverse.length),∃ e∈E,e.id=p.reverse[i]∧e.af=p.reverse.getD (i+1) Eid.z:=by
 induction h with
 | @root x m e =>
  intro i hi
  obtain rfl:i=0:=by simpa using hi
  exact⟨x,m,rfl,e⟩
 | @step x p m hp ih =>
  intro i hi
  have er:(p++[x.id]).reverse=x.id::p.reverse:=by simp
  simp only[er] at hi ⊢
  cases i with
  | zero =>
   obtain⟨q,rfl⟩:=hp.last
   exact⟨x,m,rfl,by simp⟩
  | succ i =>
   obtain⟨e,h1,h2,h3⟩:=ih i (by simpa using hi)
   exact⟨e,h1,by simpa using h2,by simpa using h3⟩
theorem wh_at {E:List El}(hn:(E.map (·.id)).Nodup){e:El}(he:e∈E):∃ n,∃ h:n<E.length,whI E e.id=(n:Int)∧E[n]=e:=by
 obtain⟨n,hn',rfl⟩:=List.getElem_of_mem he
 refine⟨n,hn', ?_,rfl⟩
 unfold whI
 refine posF_at (p:=fun y:El=>decide (y.id=E[n].id)) hn' (decide_eq_true rfl) fun j hj=>decide_eq_false fun heq=>?_
 have h1:j<(E.map (·.id)).length:=by rw[List.length_map];omega
 have h2:n<(E.map (·.id)).length:=by rw[List.length_map];omega
 have:=(List.pairwise_iff_getElem.1 hn) j n h1 h2 hj
 simp only[List.getElem_map] at this
 exact this heq
theorem wh_z {E:List El}(h:∀ x∈E,0<x.id.c):whI E Eid.z = -1:=by
 unfold whI
 refine posF_no (p:=fun y:El=>decide (y.id=Eid.z)) fun j hj=>decide_eq_false fun e=>?_
 have:=h E[j] (List.getElem_mem hj)
 rw[e] at this
 exact absurd this (by decide)
theorem zGM {a:AV}{E:List El}(hS:Sl 9 isEl a E)(hs:Set1 E){x:El}{p:List Eid}(hp:Pth E x.id p)(hpl:p.length≤1000000)(hl:E.length≤1000000)(hf:E.length+p.length<fuel):∃ r,Sl 4 zBW r p ∧ ∀ M,zCN fuel (d+2) 82 [a,.agg (elR9 x)] M=some (r,M):=by
 have hw:=fun y M=>zBZ (fuel:=fuel) (d:=d) hS y (by omega) (by omega) M
 have hz:=wh_z fun x hx=>(hs.ct x hx).2
 have hrv:=zN5 hp
 have e0:x.id=p.reverse.getD 0 Eid.z:=by
  obtain⟨q,rfl⟩:=hp.last
  simp
 have hpr:p=p.reverse.reverse:=by simp
 have hrl:p.reverse.length=p.length:=List.length_reverse
 generalize p.reverse=R at *
 refine gc_ex tf82 rfl (fun M=>by simp only[icyL,fun M=>hS.icy M 12 (by omega),fz_icyA (zGB x) (show 1<12 by omega)]) ?_
 refine call_gc tf82 rfl (by simp only[icyL,fun M=>hS.icy M 12 (by omega),fz_icyA (zGB x) (show 1<12 by omega)]) (by simp [a82]) fun b' ht hx=>?_
 obtain⟨h0,h1⟩:=hx2 hx
 clear hx
 simp only[a82,c82] at ht ⊢
 simp (disch:=try exact SX) only[RV,seval,h0,h1,hw]
 rw[e0]
 refine w_loop (I:=fun n t N => ∃ (i:Nat) (o:AV),n=R.length - i∧i≤R.length∧nth undefA t 0=a∧nth undefA t 5=o∧nth undefA t 6=I64 (whI E (R.getD i Eid.z))∧Wf N∧SlM N 4 zBW o (R.take i).reverse) (n:=R.length) (by omega) ?_ ?_
 ·refine⟨0,NIL,rfl,Nat.zero_le _, ?_, ?_, ?_,Wf.mem0.add _,SlM.nil⟩ <;> simp (disch:=try exact SX) only[RV,seval,h0]
  all_goals first | rfl | assumption | done
 ·rintro n t N hlt ⟨i,o,rfl,hi,g0,g5,g6,w,sm⟩
  simp only[ht] at hlt ⊢
  by_cases hc:i<R.length
  ·obtain⟨e,he,h2,h3⟩:=hrv i hc
   obtain⟨n,hn,h4,h5⟩:=wh_at hs.nd he
   have egd:R.getD i Eid.z=e.id:=by rw[List.getD_eq_getElem?_getD,List.getElem?_eq_getElem hc];exact h2.symm
   have hsn:(R.take (i+1)).reverse=[e.id]++(R.take i).reverse:=by rw[take_snoc R i hc,List.reverse_append,h2];rfl
   rw[egd,h4] at g6
   obtain⟨r9,hiad,⟨hr9,hok1,hok2⟩,_⟩:=hS.iad n hn
   rw[h5] at hr9 hok1 hok2
   subst hr9
   have q1:decide ((0:Int)≤(n:Int))=true:=DT
   simp (disch:=try exact SX) only[RV,seval,fillA,g0,g5,g6,q1,hiad]
   have hsm:=sm.keep (N:=N.add (.row false (idR e.id))) fun j hj=>get_add w _ _ (sm.lt j hj)
   obtain⟨rows,hcl,hla,hA,hr⟩:=hsm.cells2
   have hlit:SlM (N.add (.row false (idR e.id))) 4 zBW (.sl N.size 0 1 (some 1) 4) [e.id]:=slm_lit (rows:=[idR e.id]) (.cons ⟨rfl,hok1⟩ .nil) (by simp) rfl (.inr rfl) (by rw[get_add_new w _ _ (Nat.le_refl _) (Nat.lt_succ_self _)];rfl)
   refine⟨rows_lt sm.rl (by omega), ?_⟩
   refine w3_appc (bytes:=24) (w.add _) hlit zCO.cel hcl (by rw[hla,hA.length_eq]) hA hr (by omega) (by rw[List.length_reverse,List.length_take];simp;omega) (by rw[List.length_reverse,List.length_take];simp;omega) fun o' M' m' w' le' sz' kp' nw' wm' rl' on' oc'=>?_
   simp (disch:=try exact SX) only[RV,seval,g0,g5,g6,hiad,hw,w']
   exact⟨hlt,R.length - (i+1),by omega,i+1,o',rfl,by omega,rfl,by rw[h3],by rw[hsn];exact m'⟩
  ·obtain rfl:i=R.length:=by omega
   have egd:R.getD R.length Eid.z=Eid.z:=by rw[List.getD_eq_getElem?_getD,List.getElem?_eq_none (Nat.le_refl _)];rfl
   rw[egd,hz] at g6
   have q1:decide ((0:Int) ≤ -1)=false:=by decide
   rw[List.take_length,← hpr] at sm
   obtain⟨r,hzz,hsr⟩:=sm.frz zCO.cel (k:=12) (by omega)
   simp (disch:=try exact SX) only[RV,seval,g5,g6,hzz]
   exact⟨r,hsr,rfl⟩
theorem zFR {E:List El}(h:(E.map (·.id)).Nodup):E.Nodup:=(List.pairwise_map.1 h).imp fun h e=>h (congrArg _ e)
structure Srt (E T:List El) (P:List (List Eid)) (S:List El):Prop where
 pw:T.Pairwise (Ah E)
 mem:∀ x,x∈T↔x∈S
 pth:All2 (fun p (y:El)=>Pth E y.id p) P T
 len:T.length=S.length
theorem All2.app' {α β:Type}{R:α→β→Prop}:∀ {a:List α} {b:List β} {c:List α} {e:List β},All2 R a b→All2 R c e→All2 R (a++c) (b++e)
 | _,_,_,_,.nil,h=>h
 | _,_,_,_,.cons x t,h => .cons x (All2.app' t h)
theorem Srt.put {E T S:List El}{P:List (List Eid)}{x:El}{p:List Eid}{n:Nat}(h:Srt E T P S)(hs:Set1 E)(hS:∀ y∈S,y∈E)(hx:x∈E)(hxS:x ∉ S)(hp:Pth E x.id p)(hn:n≤T.length)(h1:∀ j (hj:j<P.length),j<n→ahB p P[j]=false)(h2:∀ hj:n<P.length,ahB p P[n]=true) :
  Srt E (T.take n++[x]++T.drop n) (P.take n++[p]++P.drop n) (S++[x]):=by
 obtain⟨pw,mem,pth,len⟩:=h
 have hl:=pth.length_eq
 have hT:∀ y∈T,y∈E:=fun y hy=>hS y ((mem y).1 hy)
 have hxT:x ∉ T:=fun h=>hxS ((mem x).1 h)
 have at_:∀ j (hj:j<T.length),Pth E T[j].id (P[j]'(by omega)):=fun j hj=>pth.get (by omega) hj
 have pre:∀ y∈T.take n,Ah E y x:=fun y hy=>by
  obtain⟨j,hj,rfl⟩:=List.getElem_of_mem hy
  rw[List.length_take] at hj
  rw[List.getElem_take] at hy ⊢
  have hjT:j<T.length:=by omega
  have hb:=h1 j (by omega) (by omega)
  have hpj:=at_ j hjT
  refine⟨_,p,hpj,hp, ?_⟩
  have hne:P[j]'(by omega)≠p:=fun e=>by
   obtain⟨q1,e1⟩:=hpj.last
   obtain⟨q2,e2⟩:=hp.last
   rw[e,e2] at e1
   have:=(List.append_inj' e1 rfl).2
   have hid:x.id=T[j].id:=by injection this
   exact hxT (by rw[zFO hs.nd hx (hT _ (List.getElem_mem hjT)) hid];exact List.getElem_mem hjT)
  rcases zIP hne with h | h
  ·exact h
  ·rw[zG8.2 h] at hb;cases hb
 have suf:∀ y∈T.drop n,Ah E x y:=fun y hy=>by
  have hlt:n<T.length:=by
   have:=List.length_pos_of_mem hy
   rw[List.length_drop] at this
   omega
  have hA:Ah E x T[n]:=⟨p,_,hp,at_ n hlt,zG8.1 (h2 (by omega))⟩
  rw[List.drop_eq_getElem_cons hlt] at hy
  rcases List.mem_cons.1 hy with rfl | hy
  ·exact hA
  ·have hpw:=pw.sublist (List.drop_sublist n T)
   rw[List.drop_eq_getElem_cons hlt,List.pairwise_cons] at hpw
   exact hA.trans hs (hpw.1 y hy)
 have hpw2:=pw
 rw[← List.take_append_drop n T,List.pairwise_append] at hpw2
 refine⟨?_,fun y=>?_, ?_, ?_⟩
 ·rw[List.pairwise_append,List.pairwise_append]
  refine⟨⟨hpw2.1,List.pairwise_singleton _ _,fun a ha b hb=>?_⟩,hpw2.2.1,fun a ha b hb=>?_⟩
  ·rw[List.mem_singleton] at hb;subst hb;exact pre a ha
  ·rcases List.mem_append.1 ha with ha | ha
   ·exact hpw2.2.2 a ha b hb
   ·rw[List.mem_singleton] at ha;subst ha;exact suf b hb
 ·rw[List.mem_append,List.mem_append,List.mem_append,← mem y]
  have:y∈T↔y∈T.take n∨y∈T.drop n:=by rw[← List.mem_append,List.take_append_drop]
  rw[this]
  constructor
  ·exact zB0S
  ·exact zB0S
 ·exact All2.app' (All2.app' (zED n pth) (.cons hp .nil)) (zC1 n pth)
 ·rw[List.length_append,List.length_append,List.length_take,List.length_drop,List.length_append,← len]
  simp only[List.length_singleton]
  omega
theorem Srt.txt {E T:List El}{P:List (List Eid)}(h:Srt E T P E)(hs:Set1 E):Txt T:=by
 have hT:∀ y,y∈T↔y∈E:=h.mem
 have hnd:(T.map (·.id)).Nodup:=by
  rw[List.Nodup,List.pairwise_map]
  refine List.Pairwise.imp_of_mem (fun {a b} ha hb hab e=>?_) h.pw
  have:=zFO hs.nd ((hT a).1 ha) ((hT b).1 hb) e
  subst this
  exact Ah.irr hs _ hab
 have h1:Set1 T:=⟨hnd,fun x hx=>hs.ct x ((hT x).1 hx),fun x hx=>by
  rcases hs.rt x ((hT x).1 hx) with e | ⟨y,hy,e⟩
  ·exact .inl e
  ·exact .inr ⟨y,(hT y).2 hy,e⟩⟩
 exact⟨h1,h.pw.imp fun k=>k.mono fun x hx=>(hT x).2 hx⟩
def isPa (r:List AV)(p:List Eid):Prop:=∃ a,r=[a]∧Sl 4 zBW a p
theorem zMU:FzT isPa:=fun r p h y hy=>by
 obtain⟨a,rfl,ha⟩:=h
 rw[List.mem_singleton] at hy
 subst hy
 exact ha.fz
theorem zGK {E:List El}(hs:Set1 E){x:Eid}{p:List Eid}(h:Pth E x p):p.length≤E.length:=by
 have hsub:∀ y∈p,y∈E.map (·.id):=fun y hy=>by
  obtain⟨q,r,rfl⟩:=List.append_of_mem hy
  obtain⟨e,he,h1⟩:=(h.pre rfl).mem
  exact List.mem_map.2 ⟨e,he,h1⟩
 have hnd:p.Nodup:=by
  clear hsub
  induction h with
  | root m e=>exact List.pairwise_singleton _ _
  | @step x p m hp ih =>
   rw[List.nodup_append]
   refine⟨ih,List.pairwise_singleton _ _,fun a ha b hb e=>?_⟩
   rw[List.mem_singleton] at hb
   have:=hp.grow (fun x hx=>(hs.ct x hx).1) a ha
   have:=(hs.ct x m).1
   rw[e,hb] at *
   omega
 have:=zGU hnd hsub
 rwa [List.length_map] at this
theorem zF3 {a:AV}{E:List El}(hS:Sl 9 isEl a E)(hs:Set1 E)(hl:E.length≤100000)(hf:2*E.length+100<fuel):∃ r T,(Sl 9 isEl r T∧Txt T∧(∀ x,x∈T↔x∈E)) ∧ ∀ M,zCN fuel (d+4) 52 [a] M=some (r,M):=by
 suffices h:∃ r,(∃ T,Sl 9 isEl r T∧Txt T ∧ ∀ x,x∈T↔x∈E) ∧ ∀ M,zCN fuel (d+4) 52 [a] M=some (r,M) by
  obtain⟨r,⟨T,h1⟩,h2⟩:=h
  exact⟨r,T,h1,h2⟩
 have ll:=hS.len
 have hnd:=zFR hs.nd
 refine gc_ex tf52 rfl (fun M=>by simp only[icyL,fun M=>hS.icy M 12 (by omega)]) ?_
 refine call_gc tf52 rfl (by simp only[icyL,fun M=>hS.icy M 12 (by omega)]) (by simp [a52]) fun b' ht hx=>?_
 have h0:=hx 0 _ rfl
 clear hx
 simp only[a52,c52] at ht ⊢
 simp (disch:=try exact SX) only[RV]
 refine w_loop (I:=fun nq tq Nq => ∃ (iq:Nat) (o:AV) (ph:AV) (T:List El) (P:List (List Eid)),nq=E.length - iq∧iq≤E.length∧nth undefA tq 0=a∧nth undefA tq 3=o∧nth undefA tq 4=ph∧nth undefA tq 5=I64 iq∧Wf Nq∧SlM Nq 9 isEl o T∧SlM Nq 1 isPa ph P∧Srt E T P (E.take iq)∧(∀ j,rowOf o=some j→rowOf ph≠some j)) (n:=E.length) (by omega) ?_ ?_
 ·refine⟨0,NIL,NIL,[],[],rfl,Nat.zero_le _, ?_, ?_, ?_, ?_,Wf.mem0,SlM.nil,SlM.nil,⟨.nil,fun _=>Iff.rfl,.nil,rfl⟩,(fun _ h=>by cases h)⟩ <;> simp (disch:=try exact SX) only[RV,seval,h0]
  all_goals first | rfl | assumption | done
 ·rintro nq tq Nq hltq ⟨iq,o,ph,T,P,rfl,hiq,gq0,gq3,gq4,gq5,wq,so,sp,hT,ne⟩
  simp only[ht] at hltq ⊢
  by_cases hc:iq<E.length
  ·have c1:decide ((iq:Int)<E.length)=true:=DT
   have w1:IntKind.i64.wrap ((iq:Int)+1)=((iq+1:Nat):Int):=WI
   obtain⟨rr,hiad,⟨rfl,hok⟩,_⟩:=hS.iad iq hc
   have hxE:=List.getElem_mem hc
   have hxn:E[iq] ∉ E.take iq:=fun hm=>by
    obtain⟨j,hj,e⟩:=List.getElem_of_mem hm
    rw[List.length_take] at hj
    rw[List.getElem_take] at e
    exact(List.pairwise_iff_getElem.1 hnd) j iq (by omega) hc (by omega) e
   have hsn:=take_snoc E iq hc
   have hlen:=hT.len
   rw[List.length_take] at hlen
   have hlp:=hT.pth.length_eq
   generalize E[iq]=x at *
   obtain⟨p,hp⟩:=hs.path hxE
   have hpl:=zGK hs hp
   obtain⟨rp,hrp,hpa⟩:=zGM (fuel:=fuel) (d:=d+1) hS hs hp (by omega) (by omega) (by omega)
   have lo:=so.len
   simp (disch:=try exact SX) only[RV,seval,gq0,gq5,ll,c1,hiad,hpa]
   refine w_loop (I:=fun nk tk Nk => ∃ (ik:Nat),nk=T.length - ik∧ik≤T.length∧nth undefA tk 0=a∧nth undefA tk 3=o∧nth undefA tk 4=ph∧nth undefA tk 5=I64 iq∧nth undefA tk 6=rp∧nth undefA tk 7=I64 ik∧Nk=Nq∧(∀ j (hj:j<P.length),j<ik→ahB p P[j]=false)) (n:=T.length) (by omega) ?_ ?_
   ·refine⟨0,rfl,Nat.zero_le _, ?_, ?_, ?_, ?_, ?_, ?_,rfl,(fun _ _ h=>absurd h (by omega))⟩ <;> simp (disch:=try exact SX) only[RV,seval,gq0,gq3,gq4,gq5]
    all_goals first | rfl | assumption | done
   ·rintro nk tk Nk hltk ⟨ik,rfl,hik,gk0,gk3,gk4,gk5,gk6,gk7,mk,hk⟩
    simp only[hltq] at hltk ⊢
    subst mk
    have w2:IntKind.i64.wrap ((ik:Int)+1)=((ik+1:Nat):Int):=WI
    have hcase:(∃ h:ik<P.length,ahB p P[ik]=false)∨(ik<P.length ∧ ∃ h:ik<P.length,ahB p P[ik]=true)∨ik=T.length:=by
     by_cases h:ik<P.length
     ·cases hb:ahB p P[ik] with
      | false=>exact .inl ⟨h,hb⟩
      | true=>exact .inr (.inl ⟨h,h,hb⟩)
     ·exact .inr (.inr (by omega))
    rcases hcase with⟨h,hb⟩ | hcase
    ·have c2:decide ((ik:Int)<T.length)=true:=DT
     obtain⟨id,cs,r,hrow,lid,hg,hcs,hiad2,⟨ap,hr1,hap⟩,hrl,_,hcell,_⟩:=sp.atS (i:=ik) h
     have hiad2:∀ N,iadO N 1 ph (some ik)=some (.ptr id ik,N):=fun N=>by simpa using hiad2 N
     have p0:cs[ik]? = some ap:=by have:=hcell 0 (by omega);rw[hr1] at this;simpa using this
     have hah:=fun M=>zD4 (fuel:=fuel) (d:=d) hrp hap (by omega) (by
      have:=hT.pth.get h (by omega:ik<T.length)
      have:=zGK hs this
      omega) (by omega) M
     rw[hb] at hah
     simp (disch:=try exact SX) only[RV,seval,gk0,gk3,gk4,gk5,gk6,gk7,lo,c2,hiad2,hg,p0,hah,w2]
     exact⟨hltk,T.length - (ik+1),by omega,ik+1,rfl,by omega,rfl,fun j hj hji=>by
      rcases Nat.lt_succ_iff_lt_or_eq.1 hji with h' | rfl
      ·exact hk j hj h'
      ·exact hb⟩
    ·have hnT:ik≤T.length:=by rcases hcase with⟨h,_⟩ | h <;> omega
     have hput:=hT.put hs (fun y hy=>List.mem_of_mem_take hy) hxE hxn hp hnT hk (fun hj=>by
      rcases hcase with⟨_,h,hb⟩ | h
      ·exact hb
      ·omega)
     rw[← hsn] at hput
     obtain⟨o1,po1,hso1⟩:=so.pre (by omega:0<9) hnT
     obtain⟨o2,po2,hso2⟩:=so.suf (by omega:0<9) hnT
     obtain⟨p1,pp1,hsp1⟩:=sp.pre (by omega:0<1) (by omega:ik≤P.length)
     obtain⟨p2,pp2,hsp2⟩:=sp.suf (by omega:0<1) (by omega:ik≤P.length)
     have k1:=hso1 Nk (fun _ _=>rfl)
     rcases hcase with⟨_,h,hb⟩ | h
     case' inl =>
      have c2:decide ((ik:Int)<T.length)=true:=DT
      obtain⟨id,cs,r,hrow,lid,hg,hcs,hiad2,⟨ap,hr1,hap⟩,hrl,_,hcell,_⟩:=sp.atS (i:=ik) h
      have hiad2:∀ N,iadO N 1 ph (some ik)=some (.ptr id ik,N):=fun N=>by simpa using hiad2 N
      have p0:cs[ik]? = some ap:=by have:=hcell 0 (by omega);rw[hr1] at this;simpa using this
      have hah:=fun M=>zD4 (fuel:=fuel) (d:=d) hrp hap (by omega) (by
       have:=hT.pth.get h (by omega:ik<T.length)
       have:=zGK hs this
       omega) (by omega) M
      rw[hb] at hah
      simp (disch:=try exact SX) only[RV,seval,gk3,gk4,gk6,gk7,lo,c2,hiad2,hg,p0,hah,k1]
     case' inr =>
      have c2:decide ((ik:Int)<T.length)=false:=DF
      simp (disch:=try exact SX) only[RV,seval,gk3,gk7,lo,c2,k1]
     all_goals
      refine⟨rows_lt so.rl (Nat.le_refl _),po1.rws _ (Nat.le_refl _), ?_⟩
      obtain⟨rw1,hc1,hA1,hr1⟩:=po1.rd
      refine w3_appc (bytes:=56) (l:=[]) wq SlM.nil zFH.cel (hc1 _ fun _ _=>rfl) po1.ln hA1 hr1 (by omega) (by rw[List.length_take];simp;omega) (by rw[List.length_take];simp;omega) fun a3 M3 m3 w3 le3 sz3 kp3 nw3 wm3 rl3 on3 oc3=>?_
      rw[List.nil_append] at m3
      have nw3:∀ j,rowOf a3=some j→Nk.size≤j:=fun j hj=>by
       rcases nw3 j hj with h | h
       ·cases h
       ·exact h
      have kp3:∀ j,j<Nk.size→M3.get j=Nk.get j:=fun j hj=>kp3 j hj (fun h=>by cases h)
      have k2:∀ N,(∀ j,j<Nk.size→N.get j=Nk.get j)→slcO N 9 o (some (I64 ik)) none none=some (o2,N):=fun N h=>hso2 N fun j hj=>h j (so.lt j hj)
      simp (disch:=try exact SX) only[RV,seval,fillA,gk0,gk5,hiad,apart2_pu,zFE]
      refine⟨rows_lt m3.rl (by omega), ?_⟩
      have htk:(T.take ik).length≤100000:=by rw[List.length_take];omega
      refine app1 (bytes:=56) w3 m3 zFH (x:=x) ⟨rfl,hok⟩ rfl (by omega) (by omega) (by omega) fun a5 M5 m5 w5 le5 kp5 nw5 wm5 rl5 on5 oc5=>?_
      have k5:∀ j,j<Nk.size→M5.get j=Nk.get j:=fun j hj=>by
       rw[kp5 j (by omega) (fun h=>by have:=nw3 j h;omega)];exact kp3 j hj
      have k5':=k2 M5 k5
      simp (disch:=try exact SX) only[RV,seval,gk3,gk7,k5',apart2_pu]
      have ro:∀ i∈rowsOf o,i<Nk.size:=fun i hi=>so.lt i (so.row_mem hi)
      have r3:∀ i∈rowsOf a3,Nk.size≤i:=fun i hi=>nw3 i (m3.row_mem hi)
      have r5:∀ j,rowOf a5=some j→Nk.size≤j:=fun j hj=>by
       rcases nw5 j hj with h | h
       ·exact nw3 j h
       ·omega
      have ap1:apart2 (fpOf (rowsOf o) [] M5.size M5.size) (fpOf (rowsOf o1) [] Nk.size M3.size,Nk.size,M3.size)=true:=zFF fun i hi=>⟨by simp,.inl (ro i hi)⟩
      have ap2:apart2 (fpOf (rowsOf o) [] M5.size M5.size) (FP.acc [] [],M3.size,M3.size+1)=true:=zCJ fun i hi=>⟨by simp,.inl (by have:=ro i hi;omega)⟩
      have ap3:apart2 (fpOf (rowsOf o) [] M5.size M5.size) (FP.acc [M3.size] (rowsOf a3),M3.size+1,M5.size)=true:=zCJ fun i hi=>⟨fun h=>by have:=ro i hi;have:=r3 i h;omega,.inl (by have:=ro i hi;omega)⟩
      refine⟨rows_lt so.rl (by omega),by rw[ap1,ap2,ap3];rfl,by rw[po2.rws _ (by omega),rows_lt m5.rl (Nat.le_refl _)];rfl, ?_⟩
      obtain⟨rw2,hc2,hA2,hr2⟩:=po2.rd
      refine w3_appc (bytes:=56) w5 m5 zFH.cel (hc2 _ fun j hj=>k5 j (so.lt j hj)) po2.ln hA2 hr2 (by omega) (by rw[List.length_append,List.length_drop];simp;omega) (by rw[List.length_append,List.length_drop];simp;omega) fun a6 M6 m6 w6 le6 sz6 kp6 nw6 wm6 rl6 on6 oc6=>?_
      have k6:∀ j,j<Nk.size→M6.get j=Nk.get j:=fun j hj=>by
       rw[kp6 j (by omega) (fun h=>by have:=r5 j h;omega)];exact k5 j hj
      have kp1:=hsp1 M6 (fun j hj=>k6 j (sp.lt j hj))
      simp (disch:=try exact SX) only[RV,seval,gk4,gk7,kp1,apart2_pu]
      refine⟨rows_lt sp.rl (by omega),pp1.rws _ (by omega), ?_⟩
      obtain⟨rw3,hc3,hA3,hr3⟩:=pp1.rd
      have hpk:(P.take ik).length≤100000:=by rw[List.length_take];omega
      refine w3_appc (bytes:=24) (l:=[]) w6 SlM.nil zMU.cel (hc3 _ fun j hj=>k6 j (sp.lt j hj)) pp1.ln hA3 hr3 (by omega) (by simp;omega) (by simp;omega) fun a7 M7 m7 w7 le7 sz7 kp7 nw7 wm7 rl7 on7 oc7=>?_
      rw[List.nil_append] at m7
      have nw7:∀ j,rowOf a7=some j→M6.size≤j:=fun j hj=>by
       rcases nw7 j hj with h | h
       ·cases h
       ·exact h
      have kp7:∀ j,j<M6.size→M7.get j=M6.get j:=fun j hj=>kp7 j hj (fun h=>by cases h)
      have k4:∀ N,(∀ j,j<Nk.size→N.get j=Nk.get j)→slcO N 1 ph (some (I64 ik)) none none=some (p2,N):=fun N h=>hsp2 N fun j hj=>h j (sp.lt j hj)
      simp (disch:=try exact SX) only[RV,seval,fillA,gk6,hrp.fz.cells,apart2_pu,zFE]
      refine⟨rows_lt m7.rl (by omega), ?_⟩
      refine app1 (bytes:=24) w7 m7 zMU (x:=p) ⟨rp,rfl,hrp⟩ rfl (by omega) (by omega) (by omega) fun a8 M8 m8 w8 le8 kp8 nw8 wm8 rl8 on8 oc8=>?_
      have k8':∀ j,j<M6.size→M8.get j=M6.get j:=fun j hj=>by
       rw[kp8 j (by omega) (fun h=>by have:=nw7 j h;omega)];exact kp7 j hj
      have k8:∀ j,j<Nk.size→M8.get j=Nk.get j:=fun j hj=>(k8' j (by omega)).trans (k6 j hj)
      have k9:=k4 M8 k8
      have rp':∀ i∈rowsOf ph,i<Nk.size:=fun i hi=>sp.lt i (sp.row_mem hi)
      have r7:∀ i∈rowsOf a7,M6.size≤i:=fun i hi=>nw7 i (m7.row_mem hi)
      have r8:∀ j,rowOf a8=some j→M6.size≤j:=fun j hj=>by
       rcases nw8 j hj with h | h
       ·exact nw7 j h
       ·omega
      have ap4:apart2 (fpOf (rowsOf ph) [] M8.size M8.size) (fpOf (rowsOf p1) [] M6.size M7.size,M6.size,M7.size)=true:=zFF fun i hi=>⟨by simp,.inl (by have:=rp' i hi;omega)⟩
      have ap5:apart2 (fpOf (rowsOf ph) [] M8.size M8.size) (FP.acc [] [],M7.size,M7.size+1)=true:=zCJ fun i hi=>⟨by simp,.inl (by have:=rp' i hi;omega)⟩
      have ap6:apart2 (fpOf (rowsOf ph) [] M8.size M8.size) (FP.acc [M7.size] (rowsOf a7),M7.size+1,M8.size)=true:=zCJ fun i hi=>⟨fun h=>by have:=rp' i hi;have:=r7 i h;omega,.inl (by have:=rp' i hi;omega)⟩
      simp (disch:=try exact SX) only[RV,seval,gk4,gk7,k9,apart2_pu]
      refine⟨rows_lt sp.rl (by omega),by rw[ap4,ap5,ap6];rfl,by rw[pp2.rws _ (by omega),rows_lt m8.rl (Nat.le_refl _)];rfl, ?_⟩
      obtain⟨rw4,hc4,hA4,hr4⟩:=pp2.rd
      refine w3_appc (bytes:=24) w8 m8 zMU.cel (hc4 _ fun j hj=>k8 j (sp.lt j hj)) pp2.ln hA4 hr4 (by omega) (by rw[List.length_append,List.length_drop];simp;omega) (by rw[List.length_append,List.length_drop];simp;omega) fun a9 M9 m9 w9 le9 sz9 kp9 nw9 wm9 rl9 on9 oc9=>?_
      have m6':SlM M9 9 isEl a6 (T.take ik++[x]++T.drop ik):=m6.keep fun j hj=>by
       have:=m6.lt j hj
       rw[kp9 j (by omega) (fun h=>by have:=r8 j h;omega),k8' j this]
      simp (disch:=try exact SX) only[RV,seval,gk0,gk3,gk4,gk5,w9,w1,apart2_pu]
      refine⟨hltk,E.length - (iq+1),by omega,iq+1,a6,a9,_,_,rfl,by omega,rfl,rfl,rfl,m6',m9,hput,fun j hj hj'=>?_⟩
      have:=m6.lt j hj
      rcases nw9 j hj' with h | h
      ·have:=nw8 j h
       rcases this with h | h
       ·have:=nw7 j h;omega
       ·omega
      ·omega
  ·obtain rfl:iq=E.length:=by omega
   have c1:decide ((E.length:Int)<E.length)=false:=DF
   rw[List.take_length] at hT
   obtain⟨r,hz,hsr⟩:=so.frz zFH.cel (k:=12) (by omega)
   simp (disch:=try exact SX) only[RV,seval,gq0,gq3,gq5,ll,hz]
   exact⟨r,⟨T,hsr,hT.txt hs,hT.mem⟩,rfl⟩
variable {l : List Op} {x : Eid} {v : Lb}
theorem zKL (p:Lb→Bool)(out:List Lb)(y:Lb):(addL out y).any p=(out.any p || p y):=by
 unfold addL
 split
 ·rename_i h
  obtain⟨z,hz,h2⟩:=List.any_eq_true.1 h
  have e:y=z:=of_decide_eq_true h2
  cases hp:p y with
  | false=>rw[Bool.or_false]
  | true =>
   rw[Bool.or_true]
   exact List.any_eq_true.2 ⟨z,hz,by rw[← e];exact hp⟩
 ·rw[List.any_append];simp
theorem zH0 (p:Lb→Bool):∀ (R out:List Lb),(R.foldl addL out).any p=(out.any p || R.any p)
 | [],out=>by simp
 | y::R,out=>by rw[List.foldl_cons,zH0 p R,zKL,List.any_cons,Bool.or_assoc]
theorem zNM (hh:zA1 [] l=true)(hx:x.may=true)(hv:v.may=true):isB l x v=zC0 l x v:=by
 have h0:askE l x v=0:=by
  unfold askE
  rw[if_pos (zB3 hh),hx,hv]
  rfl
 unfold zC0 isB made
 have e1:((zAE l x v).any fun to => !to.leq v) = !((zAE l x v).all fun to=>to.leq v):=zH1 _ _
 have e2:([x.hd.lb].any fun to => !to.leq v) = !x.hd.lb.leq v:=by simp
 rw[h0,zH0,e1,e2]
 cases (zAE l x v).all fun to=>to.leq v <;> cases x.hd.lb.leq v <;> rfl
end Go.Proofs.YtmkkecnafjhdmaaGreat
