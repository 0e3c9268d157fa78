/-
  Texts joined: CcL CcM ChT SwV CcN.
-/
import Derived.Test.YtliicocdhkcanaaGreatEg
import Derived.Test.YtliicocdhkcanaaGreatYtN
import Derived.Test.YtliicocdhkcanaaGreatRzG
import Derived.Test.YtliicocdhkcanaaGreatPc
set_option linter.unusedSimpArgs false
set_option linter.unusedVariables false
set_option maxHeartbeats 64000000
set_option maxRecDepth 100000
namespace Go.Proofs.YtliicocdhkcanaaGreat
open Go Go.Ax
variable {fuel : Nat} {M : Mem} {Q : AV -> Mem -> Prop} {d : Nat} {c : Cl} {o m dn p : AV}
theorem zVQ:∀ (f:Nat) (l:List UInt8) (m:List Int),l.length<=f->ofL l=some m -> ∀ x∈m,0<=x
 | 0,l,m,h,e,x,hx=>by
  exact zB0D
 | f+1,[],m,h,e,x,hx=>by
  rw[zJC] at e
  cases e
  cases hx
 | f+1,c::tl,m,h,e,x,hx=>by
  rw[zVP _ (by simp)] at e
  cases hf:zCV (c::tl) with
  | none=>rw[hf] at e;cases e
  | some p =>
   obtain⟨n,k⟩:=p
   rw[hf] at e
   obtain⟨b1,_,b3,b4⟩:=zDA hf
   simp only at e
   cases ho:ofL ((c::tl).drop k) with
   | none=>rw[ho] at e;cases e
   | some m' =>
    rw[ho] at e
    simp only[Option.map_some,Option.some.injEq] at e
    subst e
    rcases List.mem_cons.1 hx with rfl | hx
    ·exact Int.natCast_nonneg _
    ·exact zVQ f _ m' (by rw[List.length_drop];simp only[List.length_cons] at h ⊢;omega) ho x hx
theorem zdO {t:List UInt8}:∀ x∈ofM t,0<=x:=by
 unfold ofM
 cases ho:ofL t with
 | none=>simp
 | some m =>
  simp only
  split
  ·simp
  ·exact zVQ _ _ m (Nat.le_refl _) ho
theorem za9 {k:Int}{t:List UInt8}(hm:c.may=true)(hp:c.pend.length<=20)(hok:∀ x∈c.has,x.ok)(hl:c.has.length<=36)(hz:inE c.has c.h 1 k t=0):(c.push (inO c.has c.h 1 k t)).may=true:=by
 obtain⟨g0,_,_,hon,_⟩:=zPB hok (by omega) hz
 have hO:inO c.has c.h 1 k t=zCG c.h 1 (zC3 c.has c.h) (zDV c.has c.h.lb k) (ofM t):=by unfold inO;rw[if_pos hz]
 have hhist:=(zKN hon).1
 rw[hO]
 unfold Cl.may at hm ⊢
 simp only[Bool.and_eq_true] at hm ⊢
 obtain⟨⟨⟨h1,h2⟩,h3⟩,h4⟩:=hm
 refine⟨⟨⟨h1,h2⟩, ?_⟩, ?_⟩
 ·unfold Cl.lst at h3 ⊢
  rw[Cl.push_has]
  simp only[Bool.and_eq_true,Bool.not_eq_true',decide_eq_false_iff_not] at h3 ⊢
  obtain⟨⟨⟨⟨⟨a1,a2⟩,a3⟩,a4⟩,a5⟩,a6⟩:=h3
  refine⟨⟨⟨⟨⟨?_,a2⟩,a3⟩, ?_⟩, ?_⟩,hhist⟩
  ·show ¬32<((c.pend++[_]).length:Nat)
   rw[List.length_append,List.length_singleton];omega
  ·show ((c.pend++[_]).any fun o => !decide (o.hd=c.h))=false
   rw[List.any_append,a4]
   simp [zCG]
  ·show (c.pend++[_]).any _=false
   rw[List.any_append,a5]
   simp only[List.any_cons,List.any_nil,Bool.or_false,Bool.false_or]
   unfold zJJ
   rw[Bool.not_not]
   rw[List.any_eq_false]
   intro x hx
   have:=zdO x hx
   simp only[decide_eq_true_eq]
   omega
 ·unfold Cl.nums at h4 ⊢
  have e1:(c.push (zCG c.h 1 (zC3 c.has c.h) (zDV c.has c.h.lb k) (ofM t))).pend=c.pend++[zCG c.h 1 (zC3 c.has c.h) (zDV c.has c.h.lb k) (ofM t)]:=rfl
  rw[e1]
  generalize zCG c.h 1 (zC3 c.has c.h) (zDV c.has c.h.lb k) (ofM t)=x at *
  show (_&&_&&(!c.sent || _&&_&&_&&_)&&_&&_)=true
  cases hs:c.sent with
  | false=>rw[hs] at h4;exact h4
  | true =>
   rw[hs] at h4
   cases hq:c.pend with
   | nil=>rw[hq] at h4;simp at h4
   | cons y l =>
    rw[hq] at h4
    simp only[List.cons_append,List.length_cons,sr1] at h4 ⊢
    have q1:decide (0<l.length+1)=true:=DT
    have q2:decide (0<(l++[x]).length+1)=true:=DT
    rw[q1] at h4
    rw[q2]
    exact h4
theorem zS6 (h:IsC c o m dn p)(hf:1000<fuel):∃ g:Bool,∀ M,zCN fuel (d+2) 5 [.agg (clR c o m dn p),I64 12] M=some (BL (zEB c.mine 12 || zEB c.done 12 || zEB c.pend 12 || g),M):=by
 obtain⟨g,hg⟩:=zSE (fuel:=fuel) (d:=d) c.e _ h.end hf
 refine⟨g,fun M=>?_⟩
 have om:=h.hm.one
 have od:=h.hd.one
 have op:=h.hp.one
 have oo:=h.ho.one
 have g0:=fun M=>zIY (fuel:=fuel) (d:=d) (many:=12) h.hm (by omega) M
 have g1:=fun M=>zIY (fuel:=fuel) (d:=d) (many:=12) h.hd (by omega) M
 have g2:=fun M=>zIY (fuel:=fuel) (d:=d) (many:=12) h.hp (by omega) M
 apply zB1
 refine zAD tf5 rfl (by simp only[icyL,zAP (zGT h) (show 1<12 by omega),zF1]) (by simp [a5]) fun b' ht hx=>?_
 obtain⟨h0,h1⟩:=hx2 hx
 clear hx
 simp only[a5,c5] at ht ⊢
 unfold clR at h0
 cases q0:zEB c.mine 12 with
 | true =>
  rw[q0] at g0
  simp (disch:=try exact SX) only[RV,seval,h0,h1,g0]
 | false =>
  rw[q0] at g0
  cases q1:zEB c.done 12 with
  | true =>
   rw[q1] at g1
   simp (disch:=try exact SX) only[RV,seval,h0,h1,g0,g1]
  | false =>
   rw[q1] at g1
   cases q2:zEB c.pend 12 with
   | true =>
    rw[q2] at g2
    simp (disch:=try exact SX) only[RV,seval,h0,h1,g0,g1,g2]
   | false =>
    rw[q2] at g2
    simp (disch:=try exact SX) only[RV,seval,h0,h1,g0,g1,g2,hg]
theorem zWN {k:Int}{t:List UInt8}(h:IsC c o m dn p)(hok:∀ x∈c.has,x.ok)(hho:c.h.ok)(M:Mem):zCN 4000000 101 3 [.agg (clR c o m dn p),I64 k,STR t] M=some (BL true,M):=by
 have om:=h.hm.one
 have od:=h.hd.one
 have op:=h.hp.one
 have oo:=h.ho.one
 have lp:=h.hp.len
 have hal:=fun M=>(root 100 (by decide)).2.2 M
 obtain⟨g,hgr⟩:=zS6 (fuel:=4000000) (d:=98) h (by decide)
 unfold clR at hgr
 have ln:=fun t x r=>zhI (P:=Tryz.prog) (t:=t) Tryz.underlying9 x r
 apply zB1
 refine zAD tf3 rfl (by simp only[icyL,zAP (zGT h) (show 1<12 by omega),zF1]) (by simp [a3]) fun b' ht hx=>?_
 obtain⟨h0,h1,h2⟩:=hx3 hx
 clear hx
 simp only[a3,c3] at ht ⊢
 unfold clR at h0
 cases q1:(zEB c.mine 12 || zEB c.done 12 || zEB c.pend 12 || g) with
 | true =>
  rw[q1] at hgr
  simp (disch:=try exact SX) only[RV,seval,h0,hal,hgr]
 | false =>
  rw[q1] at hgr
  simp only[Bool.or_eq_false_iff] at q1
  obtain⟨l0,rs0⟩:=zGA (by omega) q1.1.1.1
  obtain⟨l1,rs1⟩:=zGA (by omega) q1.1.1.2
  obtain⟨l2,rs2⟩:=zGA (by omega) q1.1.2
  have hlh:c.has.length=c.mine.length+c.done.length+c.pend.length:=by unfold Cl.has;rw[List.length_append,List.length_append]
  have hrs:∀ x∈c.has,x.rs.length<=300:=fun x hx=>by
   unfold Cl.has at hx
   rcases List.mem_append.1 hx with hx | hx
   ·rcases List.mem_append.1 hx with hx | hx
    ·exact rs0 x hx
    ·exact rs1 x hx
   ·exact rs2 x hx
  by_cases q0:300<t.length
  ·have q0':decide ((300:Int)<t.length)=true:=DT
   simp (disch:=try exact SX) only[RV,seval,h0,h2,hal,hgr,ln,zET,q0']
  have q0':decide ((300:Int)<t.length)=false:=DF
  obtain⟨ri,⟨o2,m2,dn2,p2,rfl,hI⟩,hin⟩:=zOR (fuel:=4000000) (d:=75) (kk:=k) (t:=t) h (by omega) (by omega) (by omega) hok hho (fun x hx=>by have:=hrs x hx;omega) (by omega)
  have om2:=hI.hm.one
  have od2:=hI.hd.one
  have op2:=hI.hp.one
  have oo2:=hI.ho.one
  have lp2:=hI.hp.len
  unfold clR at hin
  by_cases q2:cinE c k t=0
  ·rw[q2] at hin
   have hcm:c.may=true:=by
    cases hc:c.may with
    | true=>rfl
    | false=>unfold cinE at q2;rw[hc] at q2;cases q2
   have hz:inE c.has c.h 1 k t=0:=by unfold cinE at q2;rw[hcm] at q2;exact q2
   have ec:cinC c k t=c.push (inO c.has c.h 1 k t):=by unfold cinC;rw[if_pos q2]
   have hO:inO c.has c.h 1 k t=zCG c.h 1 (zC3 c.has c.h) (zDV c.has c.h.lb k) (ofM t):=by unfold inO;rw[if_pos hz]
   have hmay2:=za9 hcm (by omega) hok (by omega) hz
   obtain⟨g0,⟨g1,g2⟩,hfit,hon,hvw⟩:=zPB hok (by omega) hz
   obtain⟨z1,z2,z3,z4,z5,z6⟩:=in_z hz
   obtain⟨k1,k2,k3⟩:=zMA z2
   rw[<- hO,<- Cl.push_has] at hvw
   have hh2:(c.push (inO c.has c.h 1 k t)).has=c.has++[inO c.has c.h 1 k t]:=Cl.push_has _ _
   have hrs2:∀ x∈(c.push (inO c.has c.h 1 k t)).has,x.rs.length<=1000:=fun x hx=>by
    rw[hh2] at hx
    rcases List.mem_append.1 hx with hx | hx
    ·have:=hrs x hx;omega
    ·rw[List.mem_singleton] at hx
     subst hx
     rw[hO]
     show (ofM t).length<=1000
     omega
   have hl2:(c.push (inO c.has c.h 1 k t)).has.length<=40:=by rw[hh2,List.length_append,List.length_singleton];omega
   have hpl:(c.push (inO c.has c.h 1 k t)).pend.length=c.pend.length+1:=by show (c.pend++[_]).length=_;rw[List.length_append,List.length_singleton]
   have hhd:(c.push (inO c.has c.h 1 k t)).h=c.h:=rfl
   have hmn:zPF (c.push (inO c.has c.h 1 k t))=zPF c:=rfl
   rw[ec] at hI lp2 hin
   rw[hpl] at lp2
   obtain⟨rv,⟨va,vb,rfl,sa,sb⟩,hv1⟩:=zN7 (fuel:=4000000) (d:=81) h hcm (by omega) (fun x hx=>by have:=hrs x hx;omega) (by decide)
   obtain⟨rw',⟨wa,wb,rfl,ta,tb⟩,hv2⟩:=zN7 (fuel:=4000000) (d:=81) hI hmay2 hl2 hrs2 (by decide)
   rw[hhd] at ta
   rw[hmn] at tb
   obtain⟨ro,hro,hof⟩:=zJV (fuel:=4000000) (d:=97) t (by omega) (by omega)
   rw[z2] at hof
   have hvl:=zMV (zKN g0).1 c.h.lb
   have hck:=fun M=>zHE (fuel:=4000000) (d:=84) hI (show c.mine.length<=3000 by omega) (show c.done.length<=3000 by omega) (by omega) (by decide) (fun x hx=>hrs2 x (List.mem_append.2 (.inr hx))) M
   rw[hmay2] at hck
   have hml:(zPF c).length<=10000:=by
    unfold zPF
    split
    ·rename_i hz'
     have:=zMV (zKN hz').1 c.h.lb
     omega
    ·simp
   have hsc:=fun M=>zMN (fuel:=4000000) (d:=99) sb tb (by omega) (by omega) M
   rw[decide_eq_true (rfl:zPF c=zPF c)] at hsc
   unfold clR at hv1 hv2 hck
   obtain⟨k,rfl⟩:∃ n:Nat,k=n:=⟨k.toNat,by omega⟩
   simp only[Int.toNat_natCast] at hvw
   have nl:(newC c.h (zC3 c.has c.h) (ofM t)).length=(ofM t).length:=by simp [newC]
   have hng:∀ j (hj:j<(newC c.h (zC3 c.has c.h) (ofM t)).length),(newC c.h (zC3 c.has c.h) (ofM t))[j]=⟨⟨c.h,zC3 c.has c.h+j⟩,(ofM t).getD j 0⟩:=fun j hj=>by simp [newC]
   rw[hvw] at ta
   have hat:=fun i hi=>zV3 (W:=zBV c.has c.h.lb) (N:=newC c.h (zC3 c.has c.h) (ofM t)) (k:=k) (i:=i) (by omega) hi
   have hl4:((zBV c.has c.h.lb).take k++newC c.h (zC3 c.has c.h) (ofM t)++(zBV c.has c.h.lb).drop k).length=(zBV c.has c.h.lb).length+(ofM t).length:=by
    simp only[List.length_append,List.length_take,List.length_drop,nl];omega
   have hW:(zBV c.has c.h.lb).length<=7000:=by omega
   clear hvw hfit hon
   have lro:=hro.len
   have lsa:=sa.len
   have lta:=ta.len
   rw[hl4] at lta
   generalize (zBV c.has c.h.lb).take k++newC c.h (zC3 c.has c.h) (ofM t)++(zBV c.has c.h.lb).drop k=Z at *
   generalize newC c.h (zC3 c.has c.h) (ofM t)=C at *
   generalize hWW:zBV c.has c.h.lb=W at *
   clear hO hh2 hrs2 hl2 hhd hmn z3 z1 z4 z5 z6 hz ec hmay2 hpl
   generalize c.push (inO c.has c.h 1 k t)=c2 at *
   generalize hrow:ofM t=row at *
   have hW2:W.length+row.length<4000000:=by omega
   have c1:decide ((k:Int)<0)=false:=DF
   have c3:decide ((W.length:Int)<k)=false:=DF
   have w0:IntKind.i64.wrap ((W.length:Int)+row.length)=((W.length+row.length:Nat):Int):=WI
   have c4:decide (((W.length+row.length:Nat):Int)=((W.length+row.length:Nat):Int))=true:=decide_eq_true rfl
   have w5:IntKind.i64.wrap ((c.pend.length:Int)+1)=((c.pend.length+1:Nat):Int):=WI
   have c5:decide (((c.pend.length+1:Nat):Int)=((c.pend.length+1:Nat):Int))=true:=decide_eq_true rfl
   have w2:IntKind.i64.wrap ((k:Int)+row.length)=((k+row.length:Nat):Int):=WI
   simp (disch:=try exact SX) only[RV,seval,h0,h1,h2,hal,hgr,ln,zET,q0',hin]
   simp (disch:=try exact SX) only[RV,seval,h1,h2,hv1,hv2,hof,hsc,lsa,lta,lro,c1,c3,w0,lp,lp2,w5]
   refine zBB (I:=fun nq tq Nq => ∃ (iq:Nat) (_x:Nat),nq=W.length+row.length - iq/\iq<=W.length+row.length/\nth zA3 tq 1=I64 k/\nth zA3 tq 7=BL true/\nth zA3 tq 8 = .ptr 1 0/\nth zA3 tq 10=va/\nth zA3 tq 13=wa/\nth zA3 tq 16=ro/\nth zA3 tq 18=I64 iq/\Wf Nq/\Nq.get 1=some (.row false (clR c2 o2 m2 dn2 p2))) (n:=W.length+row.length) (by omega) ?_ ?_
   ·refine⟨0,0,rfl,Nat.zero_le _, ?_, ?_, ?_, ?_, ?_, ?_, ?_,(((Wf.mem0.add _).add _).upd _ _),(by unfold clR;simp (disch:=try exact SX) only[RV,seval])⟩ <;> simp (disch:=try exact SX) only[RV,seval,h1]
    all_goals first | rfl | assumption | done
   ·rintro nq tq Nq hltq ⟨iq,_x,rfl,hiq,gq1,gq7,gq8,gq10,gq13,gq16,gq18,w,m1⟩
    simp only[ht] at hltq ⊢
    have l1':=Mem.get_lt m1
    unfold clR at m1
    by_cases hc:iq<W.length+row.length
    ·have d1:decide ((iq:Int)<((W.length+row.length:Nat):Int))=true:=DT
     have d2:IntKind.i64.wrap ((iq:Int)+1)=((iq+1:Nat):Int):=WI
     obtain⟨r',hiad4,hr',hrl'⟩:=ta.iad iq (by omega)
     obtain⟨a1,a2,a3⟩:=hat iq (by omega)
     obtain⟨rfl,_⟩:=hr'
     by_cases p1:iq<k
     ·obtain⟨hi',e⟩:=a1 p1
      rw[e] at hiad4
      obtain⟨r,hiad,hr,hrl⟩:=sa.iad iq hi'
      obtain⟨rfl,_⟩:=hr
      have p1':decide ((iq:Int)<k)=true:=DT
      have p2':decide (((k+row.length:Nat):Int)<=iq)=false:=DF
      have p3':decide ((k:Int)<=iq)=false:=DF
      have d5:decide (W[iq]=W[iq])=true:=decide_eq_true rfl
      simp (disch:=try exact SX) only[RV,seval,gq1,gq7,gq8,gq10,gq13,gq16,gq18,lta,lro,d1,d2,hiad,hiad4,w,p1',p2',p3',w2,↓pCeN,zH2,ETA,CellV.eta]
      exact zB0k
     ·have p1':decide ((iq:Int)<k)=false:=DF
      have p3':decide ((k:Int)<=iq)=true:=DT
      by_cases p2:iq<k+row.length
      ·obtain⟨hi',e⟩:=a2 (by omega) (by omega)
       have hb1:iq - k<row.length:=by omega
       have egd:row.getD (iq - k) 0=row[iq - k]'hb1:=by rw[List.getD_eq_getElem?_getD,List.getElem?_eq_getElem hb1];rfl
       rw[e,hng,egd] at hiad4
       have p2':decide (((k+row.length:Nat):Int)<=iq)=false:=DF
       have p4':decide ((iq:Int)<((k+row.length:Nat):Int))=true:=DT
       have w3:IntKind.i64.wrap ((iq:Int) - k)=((iq - k:Nat):Int):=WI
       obtain⟨rc,hiado,hrc,_⟩:=hro.iad (iq - k) hb1
       have hrc:rc=[I32 (row[iq - k]'hb1)]:=hrc
       subst hrc
       have d5:decide (row[iq - k]'hb1=row[iq - k]'hb1)=true:=decide_eq_true rfl
       simp (disch:=try exact SX) only[RV,seval,gq1,gq7,gq8,gq10,gq13,gq16,gq18,lta,lro,d1,d2,hiad4,hiado,w,p1',p2',p3',p4',w2,w3]
       exact zB0k
      ·obtain⟨hi',e⟩:=a3 (by omega)
       simp only[nl] at e hi'
       rw[e] at hiad4
       obtain⟨r,hiad,hr,hrl⟩:=sa.iad (iq - row.length) hi'
       obtain⟨rfl,_⟩:=hr
       have p2':decide (((k+row.length:Nat):Int)<=iq)=true:=DT
       have p4':decide ((iq:Int)<((k+row.length:Nat):Int))=false:=DF
       have w3:IntKind.i64.wrap ((iq:Int) - row.length)=((iq - row.length:Nat):Int):=WI
       have d5:decide (W[iq - row.length]=W[iq - row.length])=true:=decide_eq_true rfl
       simp (disch:=try exact SX) only[RV,seval,gq1,gq7,gq8,gq10,gq13,gq16,gq18,lta,lro,d1,d2,hiad,hiad4,w,p1',p2',p3',p4',w2,w3,↓pCeN,zH2,ETA,CellV.eta]
       exact zB0k
    ·obtain rfl:iq=W.length+row.length:=by omega
     have d1:decide (((W.length+row.length:Nat):Int)<((W.length+row.length:Nat):Int))=false:=DF
     simp (disch:=try exact SX) only[RV,seval,gq7,gq8,gq13,gq18,lta,m1,hck,zAU]
  ·have q2':=decide_eq_false q2
   have ec:(cinC c k t).pend.length=0:=by unfold cinC;rw[if_neg q2];rfl
   rw[ec] at lp2
   simp (disch:=try exact SX) only[RV,seval,h0,h1,h2,hal,hgr,ln,zET,q0',hin,q2',lp2]
theorem tabOK:zL0 Glob.any Tryz.prog (fsT tbl):=zeQ (xs:=[78]) zWZ (by kernel_rfl) fun f hf=>by
 obtain rfl:f=78:=by simpa using hf
 exact⟨Tryz.f78,X.extText,by kernel_rfl,Tryz.func78,by kernel_rfl,by kernel_rfl,X.text_ok _⟩
abbrev gLb:GT:=.ag [.int .u8,.int .u32]
abbrev gHd:GT:=.ag [gLb,.int .u8]
abbrev gId:GT:=.ag [gHd,.int .i64]
abbrev gSp:GT:=.ag [gId,.int .i64]
abbrev gOp:GT:=.ag [.int .u8,gHd,.int .i64,gSp,gId,gLb,.sl (.int .i32)]
theorem zG4 {n:Int}(h:(Lit.int .u8 n).wf=true):0<=n/\n<=255:=by
 simp [Lit.wf,IntKind.min,IntKind.max,IntKind.signed,IntKind.bits] at h
 omega
theorem zJR {n:Int}(h:(Lit.int .u32 n).wf=true):0<=n/\n<4294967296:=by
 simp [Lit.wf,IntKind.min,IntKind.max,IntKind.signed,IntKind.bits] at h
 omega
theorem zMK {n:Int}(h:(Lit.int .i64 n).wf=true):i64R n:=by
 simp [Lit.wf,IntKind.min,IntKind.max,IntKind.signed,IntKind.bits] at h
 unfold i64R
 omega
def zV5 (r:List AV)(x:Int):Prop:=isI32 r x/\(-2147483648<=x/\x<=2147483647)
theorem zgS (r:List AV)(h:Is (.int .i32) r):∃ x,zV5 r x:=by
 simp only[Is] at h
 obtain⟨n,rfl,hw⟩:=h
 refine⟨n,rfl, ?_⟩
 simp [Lit.wf,IntKind.min,IntKind.max,IntKind.signed,IntKind.bits] at hw
 omega
theorem zQ9:∀ {rows:List (List AV)} {l:List Int},All2 zV5 rows l->All2 isI32 rows l/\i32s l
 | _,_,.nil=>⟨.nil,fun x h=>by cases h⟩
 | _,_,.cons a t=>by
  obtain⟨h1,h2⟩:=zQ9 t
  refine⟨.cons a.1 h1,fun x h=>?_⟩
  rcases List.mem_cons.1 h with rfl | h
  ·exact a.2
  ·exact h2 x h
theorem zhX {a:AV}{l:List Int}(h:Sl 1 zV5 a l):Sl 1 isI32 a l/\i32s l:=by
 rcases h with⟨rfl,rfl⟩ | ⟨rows,cap,rfl,hA,hr⟩
 ·exact⟨.inl ⟨rfl,rfl⟩,fun x h=>by cases h⟩
 ·obtain⟨h1,h2⟩:=zQ9 hA
  exact⟨.inr ⟨rows,cap,rfl,h1,hr⟩,h2⟩
theorem zZN {r:List AV}(h:Is (.sl (.int .i32)) r):∃ a l,r=[a]/\Sl 1 isI32 a l/\i32s l:=by
 obtain⟨a,l,e,hs⟩:=Is.slice zgS h
 obtain⟨h1,h2⟩:=zhX hs
 exact⟨a,l,e,h1,h2⟩
theorem zdP (r:List AV)(h:Is gOp r):∃ x,isOp r x:=by
 simp only[Is,IsL] at h
 obtain⟨_,_,rfl,⟨n1,rfl,w1⟩,_,_,rfl,⟨_,_,rfl,⟨_,_,rfl,⟨n2,rfl,w2⟩,_,_,rfl,⟨n3,rfl,w3⟩,rfl⟩,_,_,rfl,⟨n4,rfl,w4⟩,rfl⟩,_,_,rfl,⟨n5,rfl,w5⟩,_,_,rfl,⟨_,_,rfl,⟨_,_,rfl,⟨_,_,rfl,⟨_,_,rfl,⟨n6,rfl,w6⟩,_,_,rfl,⟨n7,rfl,w7⟩,rfl⟩,_,_,rfl,⟨n8,rfl,w8⟩,rfl⟩,_,_,rfl,⟨n9,rfl,w9⟩,rfl⟩,_,_,rfl,⟨n10,rfl,w10⟩,rfl⟩,_,_,rfl,⟨_,_,rfl,⟨_,_,rfl,⟨_,_,rfl,⟨n11,rfl,w11⟩,_,_,rfl,⟨n12,rfl,w12⟩,rfl⟩,_,_,rfl,⟨n13,rfl,w13⟩,rfl⟩,_,_,rfl,⟨n14,rfl,w14⟩,rfl⟩,_,_,rfl,⟨_,_,rfl,⟨n15,rfl,w15⟩,_,_,rfl,⟨n16,rfl,w16⟩,rfl⟩,_,_,rfl,hr,rfl⟩:=h
 have r1:0<=n1/\n1<=255:=by exact zG4 w1
 have r2:0<=n2/\n2<=255:=by exact zG4 w2
 have r3:0<=n3/\n3<4294967296:=by exact zJR w3
 have r4:0<=n4/\n4<=255:=by exact zG4 w4
 have r5:i64R n5:=by exact zMK w5
 have r6:0<=n6/\n6<=255:=by exact zG4 w6
 have r7:0<=n7/\n7<4294967296:=by exact zJR w7
 have r8:0<=n8/\n8<=255:=by exact zG4 w8
 have r9:i64R n9:=by exact zMK w9
 have r10:i64R n10:=by exact zMK w10
 have r11:0<=n11/\n11<=255:=by exact zG4 w11
 have r12:0<=n12/\n12<4294967296:=by exact zJR w12
 have r13:0<=n13/\n13<=255:=by exact zG4 w13
 have r14:i64R n14:=by exact zMK w14
 have r15:0<=n15/\n15<=255:=by exact zG4 w15
 have r16:0<=n16/\n16<4294967296:=by exact zJR w16
 obtain⟨ra,l,e,hs,hi⟩:=zZN (r:=_) (by simp only[Is];exact hr)
 subst e
 exact⟨⟨n1,⟨⟨n2,n3⟩,n4⟩,n5,⟨⟨⟨⟨n6,n7⟩,n8⟩,n9⟩,n10⟩,⟨⟨⟨n11,n12⟩,n13⟩,n14⟩,⟨n15,n16⟩,l⟩,ra,rfl,hs,r1,⟨⟨r2.1,r2.2,r3.1,r3.2⟩,r4⟩,r5,⟨⟨⟨⟨r6.1,r6.2,r7.1,r7.2⟩,r8⟩,r9⟩,r10⟩,⟨⟨⟨r11.1,r11.2,r12.1,r12.2⟩,r13⟩,r14⟩,⟨r15.1,r15.2,r16.1,r16.2⟩,hi⟩
abbrev zfV:GT:=.ag [.int .i64,.sl (.int .u8)]
abbrev gEnd:GT:=.ag [.int .i64,.int .i64,.sl zfV,.int .i64,.int .i64,.bool]
abbrev zcZ:GT:=.ag [.int .i64,.int .i64,.int .i64,.int .i64]
abbrev gCl:GT:=.ag [gHd,.int .i64,gEnd,.int .u8,.int .i64,.sl gOp,.sl gOp,.sl gOp,.bool,.int .i64,.bool,.int .u8,.int .i64,.ag [zcZ,zcZ]]
theorem zVR (r:List AV)(h:Is zfV r):∃ x,zG0 r x:=by
 simp only[Is,IsL] at h
 obtain⟨_,_,rfl,⟨n,rfl,_⟩,_,_,rfl,h2,rfl⟩:=h
 obtain⟨a,b,rfl,hb⟩:=Is.bytes (by simpa only[Is] using h2)
 exact⟨⟨n,b⟩,a,rfl,hb⟩
theorem of_hd (r:List AV)(h:Is gHd r):∃ x:Hd,r=hdR x/\x.ok:=by
 simp only[Is,IsL] at h
 obtain⟨_,_,rfl,⟨_,_,rfl,⟨n1,rfl,w1⟩,_,_,rfl,⟨n2,rfl,w2⟩,rfl⟩,_,_,rfl,⟨n3,rfl,w3⟩,rfl⟩:=h
 have r1:=zG4 w1
 have r2:=zJR w2
 have r3:=zG4 w3
 exact⟨⟨⟨n1,n2⟩,n3⟩,rfl,⟨r1.1,r1.2,r2.1,r2.2⟩,r3.1,r3.2⟩
theorem zgR (r:List AV)(h:Is gEnd r):∃ (e:End) (o:AV),r=[I64 e.ep,I64 e.nx,o,I64 e.want,I64 e.since,BL e.owe]/\Sl 2 zG0 o e.out:=by
 rw[Is,IsL] at h
 obtain⟨_,_,rfl,h1,h⟩:=h
 rw[IsL] at h
 obtain⟨_,_,rfl,h2,h⟩:=h
 rw[IsL] at h
 obtain⟨_,_,rfl,h3,h⟩:=h
 simp only[IsL] at h
 obtain⟨_,_,rfl,h4,_,_,rfl,h5,_,_,rfl,h6,rfl⟩:=h
 obtain⟨ep,rfl,_⟩:=h1.i64
 obtain⟨nx,rfl,_⟩:=h2.i64
 obtain⟨o,out,rfl,hS⟩:=Is.slice zVR h3
 obtain⟨want,rfl,_⟩:=h4.i64
 obtain⟨since,rfl,_⟩:=h5.i64
 simp only[Is] at h6
 obtain⟨owe,rfl⟩:=h6
 exact⟨⟨ep,nx,out,want,since,owe⟩,o,rfl,hS⟩
theorem zVS (r:List AV)(h:Is zcZ r):∃ a b c d:Int,r=[I64 a,I64 b,I64 c,I64 d]:=by
 simp only[Is,IsL] at h
 obtain⟨_,_,rfl,⟨a,rfl,_⟩,_,_,rfl,⟨b,rfl,_⟩,_,_,rfl,⟨c,rfl,_⟩,_,_,rfl,⟨d,rfl,_⟩,rfl⟩:=h
 exact⟨a,b,c,d,rfl⟩
theorem of_cl {a:AV}(h:IsA gCl a):∃ (c:Cl) (o m dn p:AV),a = .agg (clR c o m dn p)/\IsC c o m dn p/\(∀ x∈c.has,x.ok)/\c.h.ok:=by
 obtain⟨cs,rfl,h⟩:=h
 rw[IsL] at h
 obtain⟨_,_,rfl,hh,h⟩:=h
 rw[IsL] at h
 obtain⟨_,_,rfl,hu,h⟩:=h
 rw[IsL] at h
 obtain⟨_,_,rfl,he,h⟩:=h
 rw[IsL] at h
 obtain⟨_,_,rfl,hop,h⟩:=h
 rw[IsL] at h
 obtain⟨_,_,rfl,hcd,h⟩:=h
 rw[IsL] at h
 obtain⟨_,_,rfl,hm,h⟩:=h
 rw[IsL] at h
 obtain⟨_,_,rfl,hd,h⟩:=h
 rw[IsL] at h
 obtain⟨_,_,rfl,hp,h⟩:=h
 simp only[IsL] at h
 obtain⟨_,_,rfl,hs,_,_,rfl,hsr,_,_,rfl,hpl,_,_,rfl,has,_,_,rfl,htt,_,_,rfl,ht,rfl⟩:=h
 obtain⟨hd',rfl,hdok⟩:=of_hd _ hh
 obtain⟨user,rfl,_⟩:=hu.i64
 obtain⟨e,o,rfl,ho⟩:=zgR _ he
 simp only[Is] at hop hcd hs hsr hpl has htt
 obtain⟨opn,rfl,_⟩:=hop
 obtain⟨code,rfl,_⟩:=hcd
 obtain⟨m,mine,rfl,hm2⟩:=Is.slice zdP hm
 obtain⟨dn,done,rfl,hd2⟩:=Is.slice zdP hd
 obtain⟨p,pend,rfl,hp2⟩:=Is.slice zdP hp
 obtain⟨sent,rfl⟩:=hs
 obtain⟨ser,rfl,_⟩:=hsr
 obtain⟨pulls,rfl⟩:=hpl
 obtain⟨asks,rfl,_⟩:=has
 obtain⟨total,rfl,_⟩:=htt
 rw[Is,IsL] at ht
 obtain⟨_,_,rfl,ht1,ht⟩:=ht
 rw[IsL] at ht
 obtain⟨_,_,rfl,ht2,ht⟩:=ht
 rw[IsL] at ht
 subst ht
 obtain⟨t0,t1,t2,t3,rfl⟩:=zVS _ ht1
 obtain⟨t4,t5,t6,t7,rfl⟩:=zVS _ ht2
 refine⟨⟨hd',user,e,opn,code,mine,done,pend,sent,ser,pulls,asks,total,t0,t1,t2,t3,t4,t5,t6,t7⟩,o,m,dn,p,rfl,⟨ho,hm2,hd2,hp2⟩,fun x hx=>?_,hdok⟩
 unfold Cl.has at hx
 rcases List.mem_append.1 hx with hx | hx
 ·rcases List.mem_append.1 hx with hx | hx
  ·exact zVW hm2 x hx
  ·exact zVW hd2 x hx
 ·exact zVW hp2 x hx
theorem of_int (a:AV)(h:IsA (.int .i64) a):∃ n,a=I64 n:=by
 have h:Is (.int .i64) [a]:=h
 simp only[Is] at h
 obtain⟨n,hn,_⟩:=h
 exact⟨n,by simpa using hn⟩
theorem zgT (a:AV)(h:IsA .str a):∃ l:List UInt8,a=STR l:=by
 have h:Is .str [a]:=h
 simp only[Is] at h
 obtain⟨s,hs,_⟩:=h
 simp only[List.cons.injEq,and_true] at hs
 exact⟨s.data.toList,hs⟩
namespace clientShows
theorem run_args (a0 a1 a2:AV)(h0:IsA gCl a0)(h1:IsA (.int .i64) a1)(h2:IsA .str a2):zCN 4000000 101 3 [a0,a1,a2] mem0=some (BL true,mem0):=by
 obtain⟨c,o,m,dn,p,rfl,hc,hok,hh⟩:=of_cl h0
 obtain⟨k,rfl⟩:=of_int a1 h1
 obtain⟨t,rfl⟩:=zgT a2 h2
 exact zWN hc hok hh mem0
end clientShows
end Go.Proofs.YtliicocdhkcanaaGreat
