/-
  Texts joined: SaU SbI SaV TwC RgE SaZ SwP RgF TrA TrB TrC TrE TrF TpA TpB TpC TrD TpD TpE SwQ TpH.
-/
import Derived.Test.YtginjhihkleaoaaGreatEg
import Derived.Test.YtginjhihkleaoaaGreatTb
import Derived.Test.YtginjhihkleaoaaGreatPa
set_option linter.unusedSimpArgs false
set_option linter.unusedVariables false
set_option maxHeartbeats 64000000
set_option maxRecDepth 100000
namespace Go.Proofs.YtginjhihkleaoaaGreat
open Go Go.Ax
variable {fuel : Nat} {M : Mem} {Q : AV → Mem → Prop} {d : Nat} {x : Eid} {l : List Op} {o : Op} {ra ops a : AV} {B id m : Nat}
def zA1:List Op→List Op→Bool
 | _,[]=>true
 | pre,o::l=>o.may&&decide (fitE pre o=0)&&zA1 (pre++[o]) l
theorem zKA {pre:List Op}{o:Op}(h:fitE pre o=0)(hk:o.kd=1):∀ x∈o.sp.ids,x ∉ zA2 pre:=by
 have h1:zBM pre o=0:=by
  unfold fitE at h
  split at h
  ·assumption
  ·exact h
 unfold zBM at h1
 rw[if_pos hk] at h1
 unfold insE at h1
 intro x hx hin
 split at h1
 ·cases h1
 ·split at h1
  ·cases h1
  ·rename_i h2
   exact h2 (.inr (List.any_eq_true.2 ⟨x,hx,decide_eq_true hin⟩))
theorem zF6 (l:List Op)(o:Op):zA2 (l++[o])=zA2 l++(if o.kd=1 then o.sp.ids else []):=by
 unfold zA2
 rw[List.flatMap_append]
 simp
structure HS (N:Mem) (B id m:Nat) (ops:AV) (l:List Op) (S:List Eid):Prop where
 hg:N.get id=some (.row false [ops,.mp m])
 sm:SlM N 17 isOp ops l
 mg:∃ obj,N.get m=some obj∧IsSet idA (BL true) obj S
 ib:B≤id
 mb:B≤m
 ob:∀ j,rowOf ops=some j→B≤j
 ne:id≠m
 n1:rowOf ops≠some id
 n2:rowOf ops≠some m
theorem HS.keep {N:Mem}{S:List Eid}(h:HS M B id m ops l S)(k:∀ j,j<M.size→N.get j=M.get j):HS N B id m ops l S:=by
 exact zB0k
theorem HS.of (h:IsHist M B id m ops l):HS M B id m ops l (zA2 l):=⟨h.hg,h.sm,h.mg,h.ib,h.mb,h.ob,h.ne,h.n1,h.n2⟩
theorem HS.to {S:List Eid}(h:HS M B id m ops l S)(e:S=zA2 l):IsHist M B id m ops l:=by
 subst e;exact⟨h.hg,h.sm,h.mg,h.ib,h.mb,h.ob,h.ne,h.n1,h.n2⟩
theorem of_0 (hS:Sl 17 isOp a l)(hl:l.length≤10000)(hf:l.length+400<fuel)(wf:Wf M)(hw:M.wm≤M.size)
  (kf:∀ N,Wf N→M.size≤N.size→(∀ j,j<M.size→N.get j=M.get j)→zA1 [] l=false→Q (.tup [.sc (.pointer none),BL false]) N)
  (kt:∀ N ops,Wf N→M.size+2≤N.size→N.wm=M.wm→(∀ j,j<M.size→N.get j=M.get j)→zA1 [] l=true→IsHist N M.size (M.size+1) M.size ops l→(zA2 l).length≤64*l.length→Q (.tup [.ptr (M.size+1) 0,BL true]) N) :
  W3 (zCN fuel (d+13) 51 [a] M) Q:=by
 have ll:=hS.len
 have cmp:cellsA (.mp M.size)=[.mp M.size]:=rfl
 refine call_0 tf51 rfl (by simp [a51]) fun b' ht hx=>?_
 have h0:=hx 0 _ rfl
 clear hx
 simp only[a51,c51] at ht ⊢
 have hH0:IsHist ((M.add (.map [] 0)).add (.row false [NIL,.mp M.size])) M.size (M.size+1) M.size NIL []:=⟨by simp (disch:=try exact SX) only[RV],SlM.nil,⟨.map [] 0,by simp (disch:=try exact SX) only[RV],IsSet.nil _ _⟩,by omega,by omega,fun j hj=>(by cases hj),by omega,fun hj=>(by cases hj),fun hj=>(by cases hj)⟩
 simp (disch:=try exact SX) only[RV,seval,fillA,h0,ll,x_mkmap,cmp]
 refine w_loop (I:=fun n t N => ∃ (i:Nat) (ops:AV),n=l.length - i∧i≤l.length∧nth undefA t 4 = .ptr (M.size+1) 0∧nth undefA t 12=a∧nth undefA t 13=I64 l.length∧nth undefA t 14=I64 i∧Wf N∧M.size+2≤N.size∧N.wm=M.wm∧(∀ j,j<M.size→N.get j=M.get j)∧IsHist N M.size (M.size+1) M.size ops (l.take i)∧zA1 [] l=zA1 (l.take i) (l.drop i)∧(zA2 (l.take i)).length≤64*i) (n:=l.length) (by omega) ?_ ?_
 ·refine⟨0,NIL,rfl,Nat.zero_le _, ?_, ?_, ?_, ?_,(wf.add _).add _,by simp only[add_size];omega,rfl,fun j hj=>by rw[get_add (wf.add _) _ _ (by rw[add_size];omega),get_add wf _ _ hj],hH0,rfl,Nat.le_refl 0⟩ <;> simp (disch:=try exact SX) only[RV,seval]
  all_goals first | rfl | assumption | done
 ·rintro n t N hlt ⟨i,ops,rfl,hi,g4,g12,g13,g14,w,sz,wm,kp,hH,inv,tl⟩
  simp only[ht] at hlt ⊢
  by_cases hc:i<l.length
  ·have q2:decide ((i:Int)<l.length)=true:=DT
   have w1:IntKind.i64.wrap ((i:Int)+1)=((i+1:Nat):Int):=WI
   obtain⟨r,hiad,hr,hrl⟩:=hS.iad i hc
   rw[drop_step l i hc,zA1,← take_snoc l i hc] at inv
   have hts:=zF6 (l.take i) l[i]
   have hsn:=take_snoc l i hc
   rw[← hsn] at hts
   generalize l[i]=e at *
   obtain⟨ra,rfl,hra,hok⟩:=hr
   have ora:=hra.one
   have hck:=fun M=>@zBU fuel (d+5) e ra hra hok (by omega) M
   cases hm:e.may with
   | false =>
    rw[hm] at hck
    simp only[hm,Bool.false_and] at inv
    simp (disch:=try exact SX) only[RV,seval,g12,g13,g14,q2,hiad,hck,zAC]
    exact kf _ ((w.add _).upd _ _) (by simp only[upd_size,add_size];omega) (fun j hj=>by rw[get_upd_ne (w.add _) _ _ _ (by omega),get_add w _ _ (by omega)];exact kp j hj) inv
   | true =>
    rw[hm] at hck
    simp (disch:=try exact SX) only[RV,seval,g4,g12,g13,g14,q2,hiad,hck,zA4]
    have hwN:N.wm≤N.size:=by omega
    have kX:=((Kept.refl w).add (.row false (opR ⟨0,Hd.z,0,⟨Eid.z,0⟩,Eid.z,Lb.z,[]⟩ NIL))).upd hwN (Nat.le_refl _) (.row false (opR e ra))
    have hli:(l.take i).length=i:=by rw[List.length_take];omega
    refine zOW (d:=d) (B:=M.size) (m:=M.size) (ops:=ops) (l:=l.take i) (hH.keep kX.get) (by omega) (by omega) hra hok hm (by omega) kX.wf (kX.wml hwN) fun N2 hN2=>?_
    have kN:=kX.trans hN2
    have gE:N2.get N.size=some (.row false (opR e ra)):=by
     rw[hN2.get _ (by rw[upd_size,add_size];omega)]
     exact get_upd_eq (w.add _) _ _ (by rw[add_size];omega)
    have lE:=Mem.get_lt gE
    have w2:=kN.wf
    have hH2:=hH.keep kN.get
    have hg2:=hH2.hg
    have lg2:=Mem.get_lt hg2
    have sm2:=hH2.sm
    have oo2:=sm2.one
    have oc2:=sm2.cells
    have rl2:=sm2.rl
    have le2:=kN.le
    by_cases q3:fitE (l.take i) e=0
    ·have q3':decide (fitE (l.take i) e=0)=true:=decide_eq_true q3
     simp only[hm,q3',Bool.true_and] at inv
     simp (disch:=try exact SX) only[RV,seval,fillA,g4,q3',gE,hg2]
     refine⟨rows_lt rl2 (by omega), ?_⟩
     refine app1 w2 sm2 zDJ (x:=e) ⟨ra,rfl,hra,hok⟩ rfl (by omega) (by omega) (by omega) fun ops' M3 m3 w3 le3 kp3 nw3 wm3 rl3 on3 oc3=>?_
     have gH3:M3.get (M.size+1)=some (.row false [ops,.mp M.size]):=(kp3 _ lg2 hH2.n1).trans hg2
     have gE3:M3.get N.size=some (.row false (opR e ra)):=(kp3 _ lE (fun h=>by have:=hH.sm.lt _ h;omega)).trans gE
     have l3:=Mem.get_lt gH3
     have lE3:=Mem.get_lt gE3
     simp (disch:=try exact SX) only[RV,seval,gH3,gE3,oc3]
     have ob':∀ j,rowOf ops'=some j→j≠M.size+1∧j≠M.size∧M.size≤j:=fun j hj=>by
      rcases nw3 j hj with h | h
      ·exact⟨fun e=>hH.n1 (e ▸ h),fun e=>hH.n2 (e ▸ h),hH.ob j h⟩
      ·omega
     have hS4:HS (M3.upd (M.size+1) (.row false [ops',.mp M.size])) M.size (M.size+1) M.size ops' (l.take (i+1)) (zA2 (l.take i)):=by
      obtain⟨obj,mg,hset⟩:=hH2.mg
      refine⟨get_upd_eq w3 _ _ l3, ?_,⟨obj, ?_,hset⟩,by omega,by omega,fun j hj=>(ob' j hj).2.2,by omega,fun hj=>(ob' _ hj).1 rfl,fun hj=>(ob' _ hj).2.1 rfl⟩
      ·rw[hsn]
       exact m3.keep fun j hj=>get_upd_ne w3 _ _ _ (fun e=>(ob' j hj).1 e.symm)
      ·rw[get_upd_ne w3 _ _ _ (by omega),kp3 _ (Mem.get_lt mg) hH2.n2];exact mg
     have kp4:∀ j,j<M.size→(M3.upd (M.size+1) (.row false [ops',.mp M.size])).get j=M.get j:=fun j hj=>by
      rw[get_upd_ne w3 _ _ _ (by omega),kp3 j (by omega) (fun h=>by have:=hH.ob j h;omega),kN.get j (by omega)];exact kp j hj
     have w4:=w3.upd (M.size+1) (.row false [ops',.mp M.size])
     have wm4:(M3.upd (M.size+1) (.row false [ops',.mp M.size])).wm=M.wm:=by
      show M3.wm=M.wm
      rw[wm3,kN.wm,wm]
     have gE4:(M3.upd (M.size+1) (.row false [ops',.mp M.size])).get N.size=some (.row false (opR e ra)):=by rw[get_upd_ne w3 _ _ _ (by omega)];exact gE3
     have sz4:M.size+2≤(M3.upd (M.size+1) (.row false [ops',.mp M.size])).size:=by rw[upd_size];omega
     have lE4:N.size<(M3.upd (M.size+1) (.row false [ops',.mp M.size])).size:=by rw[upd_size];exact lE3
     generalize M3.upd (M.size+1) (.row false [ops',.mp M.size])=X4 at *
     by_cases q4:e.kd=1
     ·have q4':decide (e.kd=1)=true:=decide_eq_true q4
      rw[if_pos q4] at hts
      obtain⟨r,hr,hn⟩:=zEC (fuel:=fuel) (d:=d+6) hok.2.2.2.1 (may_sp hm) (by omega)
      have hbn:=Spn.may_le (may_sp hm)
      have il:=zFI e.sp
      have rlen:=hr.len
      simp (disch:=try exact SX) only[RV,seval,q4',gE4,hn,rlen]
      refine w_loop (I:=fun nk tk Nk => ∃ (ik:Nat),nk=e.sp.ids.length - ik∧ik≤e.sp.ids.length∧nth undefA tk 4 = .ptr (M.size+1) 0∧nth undefA tk 12=a∧nth undefA tk 13=I64 l.length∧nth undefA tk 14=I64 i∧nth undefA tk 42=r∧nth undefA tk 43=I64 e.sp.ids.length∧nth undefA tk 44=I64 ik∧Wf Nk∧M.size+2≤Nk.size∧Nk.wm=M.wm∧(∀ j,j<M.size→Nk.get j=M.get j)∧HS Nk M.size (M.size+1) M.size ops' (l.take (i+1)) (zA2 (l.take i)++e.sp.ids.take ik)) (n:=e.sp.ids.length) (by omega) ?_ ?_
      ·refine⟨0,rfl,Nat.zero_le _, ?_, ?_, ?_, ?_, ?_, ?_, ?_,w4,sz4,wm4,kp4,(by rw[List.take_zero,List.append_nil];exact hS4)⟩ <;> simp (disch:=try exact SX) only[RV,seval,g4,g12,g13,g14]
       all_goals first | rfl | assumption | done
      ·rintro nk tk Nk hltk ⟨ik,rfl,hik,gk4,gk12,gk13,gk14,gk42,gk43,gk44,wk,szk,wmk,kpk,hSk⟩
       simp only[hlt] at hltk ⊢
       by_cases hck:ik<e.sp.ids.length
       ·have q5:decide ((ik:Int)<e.sp.ids.length)=true:=DT
        have w1k:IntKind.i64.wrap ((ik:Int)+1)=((ik+1:Nat):Int):=WI
        obtain⟨rx,hiadx,hrx,hrlx⟩:=hr.iad ik hck
        have fr:e.sp.ids[ik] ∉ zA2 (l.take i)++e.sp.ids.take ik:=by
         intro hin
         rcases List.mem_append.1 hin with h | h
         ·exact zKA q3 q4 _ (List.getElem_mem hck) h
         ·obtain⟨j,hj,he⟩:=List.getElem_of_mem h
          rw[List.getElem_take] at he
          rw[List.length_take] at hj
          rw[zH9,zH9] at he
          have:=congrArg Eid.c he
          simp only[Spn.at] at this
          omega
        have sn:=take_snoc e.sp.ids ik hck
        generalize e.sp.ids[ik]=x at *
        obtain⟨rfl,hxo⟩:=hrx
        have gk:=hSk.hg
        obtain⟨obj,mgk,hset⟩:=hSk.mg
        have lk:=Mem.get_lt gk
        have lmk:=Mem.get_lt mgk
        simp (disch:=try exact SX) only[RV,seval,gk4,gk42,gk43,gk44,q5,hiadx,gk,x_mu]
        have wk2:=(wk.add (.row false (idR ⟨⟨⟨0,0⟩,0⟩,0⟩))).upd Nk.size (.row false (idR x))
        have keep2:∀ j,j<Nk.size→((Nk.add (.row false (idR ⟨⟨⟨0,0⟩,0⟩,0⟩))).upd Nk.size (.row false (idR x))).get j=Nk.get j:=fun j hj=>by
         rw[get_upd_ne (wk.add _) _ _ _ (by omega),get_add wk _ _ hj]
        refine mu_set zFG (l:=zA2 (l.take i)++e.sp.ids.take ik) wk2 (by simp only[upd_size,add_size];omega) ((keep2 _ lmk).trans mgk) hset x fun o' hs'=>?_
        rw[if_neg fr] at hs'
        have hS5:HS (((Nk.add (.row false (idR ⟨⟨⟨0,0⟩,0⟩,0⟩))).upd Nk.size (.row false (idR x))).upd M.size o') M.size (M.size+1) M.size ops' (l.take (i+1)) (zA2 (l.take i)++e.sp.ids.take (ik+1)):=by
         have u:∀ j,j<Nk.size→j≠M.size→(((Nk.add (.row false (idR ⟨⟨⟨0,0⟩,0⟩,0⟩))).upd Nk.size (.row false (idR x))).upd M.size o').get j=Nk.get j:=fun j hj hne=>by
          rw[get_upd_ne wk2 _ _ _ (fun e=>hne e.symm),keep2 j hj]
         refine⟨(u _ lk (by omega)).trans gk,hSk.sm.keep fun j hj=>u j (hSk.sm.lt j hj) (fun e=>hSk.n2 (e ▸ hj)),⟨o',get_upd_eq wk2 _ _ (by simp only[upd_size,add_size];omega), ?_⟩,hSk.ib,hSk.mb,hSk.ob,hSk.ne,hSk.n1,hSk.n2⟩
         rw[sn,← List.append_assoc]
         exact hs'
        have wm5:(((Nk.add (.row false (idR ⟨⟨⟨0,0⟩,0⟩,0⟩))).upd Nk.size (.row false (idR x))).upd M.size o').wm=M.wm:=wmk
        have kp5:∀ j,j<M.size→(((Nk.add (.row false (idR ⟨⟨⟨0,0⟩,0⟩,0⟩))).upd Nk.size (.row false (idR x))).upd M.size o').get j=M.get j:=fun j hj=>by
         rw[get_upd_ne wk2 _ _ _ (by omega),keep2 j (by omega)];exact kpk j hj
        simp (disch:=try exact SX) only[RV,seval,gk4,gk12,gk13,gk14,gk42,gk43,gk44,w1k]
        exact⟨hltk,e.sp.ids.length - (ik+1),by omega,ik+1,rfl,by omega,rfl,wk,by omega,wm5,kp5,hS5⟩
       ·obtain rfl:ik=e.sp.ids.length:=by omega
        have q5:decide ((e.sp.ids.length:Int)<e.sp.ids.length)=false:=DF
        rw[List.take_length] at hSk
        simp (disch:=try exact SX) only[RV,seval,gk4,gk12,gk13,gk14,gk43,gk44,w1]
        exact⟨hltk,l.length - (i+1),by omega,i+1,ops',rfl,by omega,rfl,wk,szk,wmk,kpk,hSk.to hts.symm,inv,by rw[hts,List.length_append];omega⟩
     ·have q4':decide (e.kd=1)=false:=decide_eq_false q4
      rw[if_neg q4,List.append_nil] at hts
      simp (disch:=try exact SX) only[RV,seval,g4,g12,g13,g14,q4',w1]
      exact⟨hlt,l.length - (i+1),by omega,i+1,ops',rfl,by omega,rfl,w4,sz4,wm4,kp4,hS4.to hts.symm,inv,by rw[hts];omega⟩
    ·have q3':decide (fitE (l.take i) e=0)=false:=decide_eq_false q3
     simp only[hm,q3',Bool.false_and,Bool.and_false] at inv
     simp (disch:=try exact SX) only[RV,seval,q3']
     exact kf _ w2 (by omega) (fun j hj=>(kN.get j (by omega)).trans (kp j hj)) inv
  ·obtain rfl:i=l.length:=by omega
   have q1:decide ((l.length:Int)<l.length)=false:=DF
   rw[List.drop_length,zA1] at inv
   rw[List.take_length] at hH tl
   simp (disch:=try exact SX) only[RV,seval,g4,g13,g14]
   exact kt _ _ w sz wm kp inv hH tl
theorem im88:imax 8 8=8:=by decide
theorem im80:imax 8 0=8:=by decide
theorem im08:imax 0 8=8:=by decide
theorem im00:imax 0 0=0:=by decide
theorem IMX:type_of% (And.intro im88 (And.intro im80 (And.intro im08 im00))):=And.intro im88 (And.intro im80 (And.intro im08 im00))
variable {v : Lb}
abbrev opH (o:Op):List AV:=[U8 o.kd,U8 o.hd.lb.lv,U32 o.hd.lb.cats,U8 o.hd.num,I64 o.sr,U8 o.sp.f.hd.lb.lv,U32 o.sp.f.hd.lb.cats,U8 o.sp.f.hd.num,I64 o.sp.f.c,I64 o.sp.n,U8 o.af.hd.lb.lv,U32 o.af.hd.lb.cats,U8 o.af.hd.num,I64 o.af.c,U8 o.to.lv,U32 o.to.cats]
def opK:NK Op Int where
 st:=17
 H:=opH
 f:=Op.rs
 T:=zA3
 ok:=Op.ok
 hl:=fun _=>rfl
 hz:=fun o y hy=>by
  simp only[opH,List.mem_cons,List.not_mem_nil,or_false] at hy
  rcases hy with rfl | rfl | rfl | rfl | rfl | rfl | rfl | rfl | rfl | rfl | rfl | rfl | rfl | rfl | rfl | rfl
  all_goals exact fz_sc_int _ _
 ft:=zBQ
theorem zNM (h:Sl opK.st opK.is a l):Sl 17 isOp a l:=h
theorem zBH (hS:Sl 17 isOp a l)(hl:l.length≤10000)(hf:l.length+400<fuel)(M:Mem):zCN fuel (d+14) 32 [a] M=some (I64 (err (zA1 [] l)),M):=by
 apply w3_eq
 refine call_gc tf32 rfl (by simp only[icyL,fun M=>hS.icy M 12 (by omega)]) (by simp [a32]) fun b' ht hx=>?_
 have h0:=hx 0 _ rfl
 clear hx
 simp only[a32,c32] at ht ⊢
 simp (disch:=try exact SX) only[RV,seval,h0]
 refine of_0 (d:=d) hS hl hf Wf.mem0 (Nat.le_refl _) (fun N w s k hh=>?_) (fun N ops w s wm k hh _ _=>?_)
 ·rw[hh]
  simp (disch:=try exact SX) only[RV,seval,zAC,sc_ex]
 ·rw[hh]
  simp (disch:=try exact SX) only[RV,seval,zA4,sc_ex]
def zBY (l:List Op)(v:Lb):Int:=err (zA1 [] l&&v.may)
def lowL (l:List Op)(v:Lb):List Op:=l.filter fun o=>o.hd.lb.leq v
theorem zI9 (l:List Op)(o:Op)(v:Lb):lowL (l++[o]) v=lowL l v++(if o.hd.lb.leq v then [o] else []):=by
 unfold lowL
 rw[List.filter_append]
 cases h:o.hd.lb.leq v <;> simp [h]
theorem zFL (l:List Op)(v:Lb):(lowL l v).length≤l.length:=List.length_filter_le _ _
def zP9 (l:List Op)(v:Lb)(r:AV):Prop:=∃ r1,r = .tup [r1,I64 (zBY l v)]∧Sl 17 isOp r1 (if zBY l v=0 then lowL l v else [])
theorem zMP (hS:Sl 17 isOp a l)(hl:l.length≤10000)(hf:l.length+400<fuel)(hd:∀ o∈l,o.rs.length≤1000000000):∃ r,zP9 l v r ∧ ∀ M,zCN fuel (d+15) 54 [a,lbA v] M=some (r,M):=by
 have ll:=hS.len
 have hck:=fun M=>zBH (fuel:=fuel) (d:=d) hS hl hf M
 have hlc:=fun M=>@zBR fuel (d+13) v M
 refine gc_ex tf54 rfl (fun M=>by simp only[icyL,fun M=>hS.icy M 12 (by omega),fz_icyA (zA8 v) (show 1<12 by omega)]) ?_
 refine call_gc tf54 rfl (by simp only[icyL,fun M=>hS.icy M 12 (by omega),fz_icyA (zA8 v) (show 1<12 by omega)]) (by simp [a54]) fun b' ht hx=>?_
 obtain⟨h0,h1⟩:=hx2 hx
 clear hx
 simp only[a54,c54] at ht ⊢
 unfold zP9 zBY
 cases q1:zA1 [] l with
 | false =>
  rw[q1] at hck
  cases q2:v.may <;> rw[q2] at hlc
  all_goals
   exact zB11
 | true =>
  rw[q1] at hck
  cases q2:v.may <;> rw[q2] at hlc
  ·exact zB11
  ·simp (disch:=try exact SX) only[RV,seval,h0,h1,hck,hlc,zA4,pB_max2,BMM,IMX,ll]
   refine w_loop (I:=fun n t N => ∃ (i:Nat) (out:AV),n=l.length - i∧i≤l.length∧nth undefA t 3 = .ptr 0 0∧nth undefA t 4=out∧nth undefA t 17=a∧nth undefA t 18=I64 l.length∧nth undefA t 19=I64 i∧Wf N∧N.get 0=some (.row false (lbR v))∧N.wm=0∧opK.NN N 1 out (lowL (l.take i) v)) (n:=l.length) (by omega) ?_ ?_
   ·refine⟨0,NIL,rfl,Nat.zero_le _, ?_, ?_, ?_, ?_, ?_,Wf.mem0.add _,by simp (disch:=try exact SX) only[RV],rfl,NK.NN.nil _ _⟩ <;> simp (disch:=try exact SX) only[RV,seval]
    all_goals first | rfl | assumption | done
   ·rintro n t N hlt ⟨i,out,rfl,hi,g3,g4,g17,g18,g19,w,g,wm,hN⟩
    simp only[ht] at hlt ⊢
    by_cases hc:i<l.length
    ·have q3:decide ((i:Int)<l.length)=true:=DT
     have w1:IntKind.i64.wrap ((i:Int)+1)=((i+1:Nat):Int):=WI
     obtain⟨r,hiad,hr,hrl⟩:=hS.iad i hc
     have hls:=zI9 (l.take i) l[i] v
     rw[← take_snoc l i hc] at hls
     have hlo:=hd l[i] (List.getElem_mem hc)
     have hll:=zFL (l.take i) v
     rw[List.length_take] at hll
     generalize l[i]=e at *
     obtain⟨ra,rfl,hra,hok⟩:=hr
     have ora:=hra.one
     have lN:=Mem.get_lt g
     have hle:=fun M=>@zCK fuel (d+13) e.hd.lb v M
     have kX:=((Kept.refl w).add (.row false (opR ⟨0,Hd.z,0,⟨Eid.z,0⟩,Eid.z,Lb.z,[]⟩ NIL))).upd (by omega) (Nat.le_refl _) (.row false (opR e ra))
     cases q4:e.hd.lb.leq v with
     | false =>
      rw[q4] at hle
      rw[q4,if_neg (by decide),List.append_nil] at hls
      simp (disch:=try exact SX) only[RV,seval,g3,g4,g17,g18,g19,q3,hiad,w,g,hle,w1]
      exact⟨hlt,l.length - (i+1),by omega,i+1,out,rfl,by omega,rfl,rfl,wm,by rw[hls];exact hN.keep fun j a b=>kX.get j b⟩
     | true =>
      rw[q4] at hle
      rw[q4,if_pos rfl] at hls
      simp (disch:=try exact SX) only[RV,seval,g3,g4,g17,g18,g19,q3,hiad,g,hle]
      refine zMQ (d:=d+12) hra hlo kX.wf (by rw[kX.wm];omega) fun a' N2 hN2 sm2 nw2=>?_
      have k2:=kX.trans hN2
      have w2:=k2.wf
      have oa:=sm2.one
      have ca:=sm2.cells
      have rr2:=hN.rows (show N.size≤N2.size+1 by have:=k2.le;omega)
      simp (disch:=try exact SX) only[RV,seval,fillA,rr2]
      have hsz:N.size+1≤N2.size:=hN2.le
      refine NK.NN.app (K:=opK) (B:=1) (l:=lowL (l.take i) v) (x:=e) (ra:=a') w2 (hN.keep fun j a b=>k2.get j b) ⟨rfl,oa,ca⟩ ⟨sm2,fun j hj=>by have:=nw2 j hj;simp only[upd_size,add_size] at this;omega,hok⟩ (fun j hj hj2=>by have h1:=hN.lt j hj;have h2:=nw2 j hj2;simp only[upd_size,add_size] at h2;omega) (by omega) (by omega) (by omega) fun o' M' hN' w' le' kp' nw' wm'=>?_
      simp (disch:=try exact SX) only[RV,seval,g3,g4,g17,g18,g19,w1]
      refine⟨hlt,l.length - (i+1),by omega,i+1,o',rfl,by omega,rfl,rfl,w', ?_, ?_,by rw[hls];exact hN'⟩
      ·rw[kp' 0 (by omega) (fun h=>by have:=hN.lt 0 h;omega),k2.get 0 lN];exact g
      ·rw[wm',k2.wm];exact wm
    ·obtain rfl:i=l.length:=by omega
     have q3:decide ((l.length:Int)<l.length)=false:=DF
     rw[List.take_length] at hN
     obtain⟨o',hz,hs⟩:=hN.frz (k:=11) (by omega)
     have hz:=hz N (fun _ _=>rfl)
     simp (disch:=try exact SX) only[RV,seval,g4,g18,g19,hz]
     exact⟨_,⟨o',rfl,zNM hs⟩,rfl⟩
end Go.Proofs.YtginjhihkleaoaaGreat
namespace Go.Ax
open Go
variable {α : Type} {M N : Mem} {st : Nat} {T : List AV → α → Prop} {v o : AV} {l : List α}
def SlR (M:Mem)(st:Nat)(T:List AV→α→Prop)(v:AV)(l:List α):Prop :=
 (v=NIL∧l=[]) ∨ ∃ (id:Nat) (rows:List (List AV)) (cap:Option Nat),v = .sl id 0 rows.length cap st∧M.rd id=some rows.flatten∧All2 T rows l ∧ ∀ r∈rows,r.length=st
theorem SlR.of (h:SlM M st T v l):SlR M st T v l:=by
 rcases h with h | ⟨id,rows,cap,rfl,_,hg,hA,hr⟩
 ·exact .inl h
 ·exact .inr ⟨id,rows,cap,rfl,rd_row hg,hA,hr⟩
theorem SlR.keep (h:SlR M st T v l)(k:∀ j,N.rd j=M.rd j):SlR N st T v l:=by
 rcases h with h | ⟨id,rows,cap,h1,h2,h3,h4⟩
 ·exact .inl h
 ·exact .inr ⟨id,rows,cap,h1,(k id).trans h2,h3,h4⟩
theorem SlR.icyk (h:SlR M st T v l)(wf:Wf M)(hT:FzT T){k:Nat}(hk:1<k):∃ v' M',Go.Ax.icy k M v=some (v',M')∧Sl st T v' l∧Wf M'∧M'.size=M.size∧(∀ j,M'.rd j=M.rd j) ∧ ∀ j,rowOf v≠some j→M'.get j=M.get j:=by
 obtain⟨k,rfl⟩:∃ j,k=j+1:=⟨k - 1,by omega⟩
 rcases h with⟨rfl,rfl⟩ | ⟨id,rows,cap,rfl,hg,hA,hr⟩
 ·exact⟨NIL,M,rfl,.inl ⟨rfl,rfl⟩,wf,rfl,fun _=>rfl,fun _ _=>rfl⟩
 ·have hfl:=flat_len hr
  have hcs:∀ N,icyL (Go.Ax.icy k) N rows.flatten=some (rows.flatten,N):=icyL_same (by omega) fun x hx N=>hT.celI.flat hA x hx N k (by omega)
  have hble:Nat.ble (0+rows.length*st) rows.flatten.length=true:=ble_t (by omega)
  have hsl:slot rows.flatten 0 (rows.length*st)=rows.flatten:=slot_all _ _ hfl.symm
  have hrd:=hg
  rw[rd_get] at hrd
  cases ho:M.get id with
  | none=>rw[ho] at hrd;cases hrd
  | some x =>
   rw[ho] at hrd
   cases x with
   | row b ds =>
    have e:ds=rows.flatten:=by simpa [rd1] using hrd
    subst e
    exact⟨_,M.upd id (.fro rows.flatten),by simp only[Go.Ax.icy,hg,hble,hcs,ho,put_upd wf (Mem.get_lt ho),hsl],.inr ⟨rows,cap,rfl,hA,hr⟩,wf.upd _ _,rfl,NK.rd_fro wf ho,fun j hj=>get_upd_ne wf _ _ _ (fun e=>hj (by rw[e];rfl))⟩
   | fro ds=>exact⟨_,M,by simp only[Go.Ax.icy,hg,hble,hcs,ho,hsl],.inr ⟨rows,cap,rfl,hA,hr⟩,wf,rfl,fun _=>rfl,fun _ _=>rfl⟩
   | _=>simp [rd1] at hrd
theorem SlR.hand {P:Program}{fs:Nat→Option AFunc}{fuel f n:Nat}{af:AFunc}{rest:List AV}{R:AV→Prop}{Q:AV→Mem→Prop}(h:fs f=some af)(hg:af.gc=1)(hN:SlR M st T o l)(wf:Wf M)(hT:FzT T)(hr:∀ M,icyL (Go.Ax.icy 12) M rest=some (rest,M))(hc:∀ o',Sl st T o' l → ∃ r,R r ∧ ∀ M,callN P fs fuel (n+1) (.fn f) (o'::rest) M=some (r,M))
  (k:∀ r M',R r→Wf M'→M'.size=M.size→SlR M' st T o l→(∀ j,rowOf o≠some j→M'.get j=M.get j)→Q r M'):W3 (callN P fs fuel (n+1) (.fn f) (o::rest) M) Q:=by
 obtain⟨o',M',i1,s1,w1,z1,r1,g1⟩:=hN.icyk wf hT (k:=12) (by omega)
 obtain⟨r,hR,hcall⟩:=hc o' s1
 refine⟨r,M',call_own (bs:=o'::rest) h hg (hcall mem0) (M3:=mem0) ?_ ?_,k r M' hR w1 z1 (hN.keep r1) g1⟩
 ·simp only[icyL,s1.icy mem0 12 (by omega),hr]
 ·simp only[icyL,i1,hr]
end Go.Ax
namespace Go.Proofs.YtginjhihkleaoaaGreat
open Go Go.Ax
variable {fuel : Nat} {M : Mem} {Q : AV → Mem → Prop} {d : Nat} {l : List Op} {a : AV} {x : Eid} {v : Lb}
theorem zDG {o:Op}{ra:AV}(hS:Sl 17 isOp a l)(hR:Sl 1 zA3 ra o.rs)(ho:o.ok)(hm:∀ o∈l,o.may=true)(hom:o.may=true)(hl:l.length≤40000)(hf:l.length+200<fuel)(M:Mem):zCN fuel (d+5) 50 [a,.agg (opR o ra)] M=some (BL (zAL l o),M):=by
 have hsm:=may_sp hom
 have hb:=Spn.may_le hsm
 obtain⟨rn,hrn,hall⟩:=zEK (fuel:=fuel) (d:=d+3) ho.2.2.2.1 hsm (by omega)
 have lrn:=hrn.len
 have hle:=fun M=>zB6 (fuel:=fuel) (d:=d+2) o.hd.lb o.to ho.2.1.1 ho.2.2.2.2.2.1 (by omega) M
 have hil:o.sp.ids.length≤64:=by unfold Spn.ids;rw[List.length_map,List.length_range];omega
 have hiok:∀ y∈o.sp.ids,y.ok:=fun y hy=>by
  exact zB0O
 apply w3_eq
 refine call_gc tf50 rfl (by simp only[icyL,fun M=>hS.icy M 12 (by omega),zCH hR.fz]) (by simp [a50]) fun b' ht hx=>?_
 obtain⟨h0,h1⟩:=hx2 hx
 clear hx
 simp only[a50,c50] at ht ⊢
 unfold zAL
 by_cases hk:o.kd=3
 ·have hk':=decide_eq_true hk
  rw[if_pos hk]
  generalize o.sp.ids=I at *
  simp (disch:=try exact SX) only[RV,seval,h1,hk',hall]
  refine w_loop (I:=fun n t N => ∃ (i:Nat),n=I.length - i∧i≤I.length∧nth undefA t 0=a∧nth undefA t 3 = .ptr 0 0∧nth undefA t 5=rn∧nth undefA t 6=I64 i∧Wf N∧N.get 0=some (.row false (opR o ra))∧(I.take i).all (fun id=>zBX (made l id o.hd.lb) o.hd.lb)=true) (n:=I.length) (by omega) ?_ ?_
  ·refine⟨0,rfl,Nat.zero_le _, ?_, ?_, ?_, ?_,Wf.mem0.add _,by simp (disch:=try exact SX) only[RV],rfl⟩ <;> simp (disch:=try exact SX) only[RV,seval,h0]
   all_goals first | rfl | assumption | done
  ·rintro n t N hlt ⟨i,rfl,hi,g0,g3,g5,g6,w,g,hj⟩
   simp only[ht] at hlt ⊢
   have lg:=Mem.get_lt g
   by_cases hc:i<I.length
   ·have q1:decide ((i:Int)<I.length)=true:=DT
    have w1:IntKind.i64.wrap ((i:Int)+1)=((i+1:Nat):Int):=WI
    obtain⟨r,hiad,⟨hr1,_⟩,_⟩:=hrn.iad i hc
    subst hr1
    have hsn:=take_snoc I i hc
    have hmem:=List.getElem_mem hc
    generalize I[i]=y at *
    obtain⟨rf,hrf,hof⟩:=zL4 (fuel:=fuel) (d:=d) (x:=y) (v:=o.hd.lb) hS hm (hiok y hmem) ho.2.1.1 hl hf
    have hml:=zFM l y o.hd.lb
    have ham:=fun M=>zDF (fuel:=fuel) (d:=d+3) hrf o.hd.lb (by omega) (by omega) M
    cases q2:zBX (made l y o.hd.lb) o.hd.lb with
    | true =>
     rw[q2] at ham
     simp (disch:=try exact SX) only[RV,seval,g0,g3,g5,g6,lrn,q1,hiad,g,hof,ham,w1]
     exact zB0U
    | false =>
     rw[q2] at ham
     have e:(I.all fun id=>zBX (made l id o.hd.lb) o.hd.lb)=false:=by
      exact zB0K
     simp (disch:=try exact SX) only[RV,seval,g0,g3,g5,g6,lrn,q1,hiad,g,hof,ham]
     rw[e,Bool.and_false]
   ·obtain rfl:i=I.length:=by omega
    have q1:decide ((I.length:Int)<I.length)=false:=DF
    rw[List.take_length] at hj
    simp (disch:=try exact SX) only[RV,seval,g3,g5,g6,lrn,g,hle]
    rw[hj,Bool.and_true]
 ·have hk':=decide_eq_false hk
  rw[if_neg hk]
  simp (disch:=try exact SX) only[RV,seval,h1,hk']
def isB (l:List Op)(x:Eid)(v:Lb):Bool:=((zAE l x v).all fun to=>to.leq v)&&x.hd.lb.leq v
theorem zL3 (hS:Sl 17 isOp a l)(hm:∀ o∈l,o.may=true)(hx:x.ok)(hv:v.ok)(hl:l.length≤40000)(hf:l.length+200<fuel)(M:Mem):zCN fuel (d+4) 68 [a,idA x,lbA v] M=some (BL (isB l x v),M):=by
 obtain⟨rr,hrr,hra⟩:=zD0 (fuel:=fuel) (d:=d) (x:=x) hS hm hv hl hf
 have lrr:=hrr.len
 have hrl:=zBS l x v
 have hle:=fun M=>zB6 (fuel:=fuel) (d:=d+1) x.hd.lb v hx.1.1 hv (by omega) M
 apply w3_eq
 refine call_gc tf68 rfl (by simp only[icyL,fun M=>hS.icy M 12 (by omega),fz_icyA (zAU x) (show 1<12 by omega),fz_icyA (zA8 v) (show 1<12 by omega)]) (by simp [a68]) fun b' ht hx=>?_
 obtain⟨h0,h1,h2⟩:=hx3 hx
 clear hx
 simp only[a68,c68] at ht ⊢
 unfold isB
 generalize zAE l x v=R at *
 simp (disch:=try exact SX) only[RV,seval,h0,h1,h2,hra]
 refine w_loop (I:=fun n t N => ∃ (i:Nat),n=R.length - i∧i≤R.length∧nth undefA t 4 = .ptr 0 0∧nth undefA t 5 = .ptr 1 0∧nth undefA t 7=rr∧nth undefA t 8=I64 i∧Wf N∧N.get 0=some (.row false (idR x))∧N.get 1=some (.row false (lbR v))∧(R.take i).all (fun to=>to.leq v)=true) (n:=R.length) (by omega) ?_ ?_
 ·refine⟨0,rfl,Nat.zero_le _, ?_, ?_, ?_, ?_,(Wf.mem0.add _).add _,by simp (disch:=try exact SX) only[RV],by simp (disch:=try exact SX) only[RV],rfl⟩ <;> simp (disch:=try exact SX) only[RV,seval]
  all_goals first | rfl | assumption | done
 ·rintro n t N hlt ⟨i,rfl,hi,g4,g5,g7,g8,w,m0,m1,hj⟩
  simp only[ht] at hlt ⊢
  have l0:=Mem.get_lt m0
  have l1:=Mem.get_lt m1
  by_cases hc:i<R.length
  ·have q1:decide ((i:Int)<R.length)=true:=DT
   have w1:IntKind.i64.wrap ((i:Int)+1)=((i+1:Nat):Int):=WI
   obtain⟨r,hiad,⟨hr1,hr2⟩,_⟩:=hrr.iad i hc
   subst hr1
   have hsn:=take_snoc R i hc
   have hmem:=List.getElem_mem hc
   generalize R[i]=y at *
   have hly:=fun M=>zB6 (fuel:=fuel) (d:=d+1) y v hr2 hv (by omega) M
   cases q2:y.leq v with
   | true =>
    rw[q2] at hly
    simp (disch:=try exact SX) only[RV,seval,g4,g5,g7,g8,lrr,q1,hiad,m0,m1,hly,w1]
    exact⟨hlt,R.length - (i+1),by omega,i+1,rfl,by omega,rfl,w,by rw[hsn,List.all_append,hj];simp [q2]⟩
   | false =>
    rw[q2] at hly
    have e:(R.all fun to=>to.leq v)=false:=by
     exact zB0K
    simp (disch:=try exact SX) only[RV,seval,g5,g7,g8,lrr,q1,hiad,m1,hly]
    rw[e,Bool.false_and]
  ·obtain rfl:i=R.length:=by omega
   have q1:decide ((R.length:Int)<R.length)=false:=DF
   rw[List.take_length] at hj
   simp (disch:=try exact SX) only[RV,seval,g4,g5,g7,g8,lrr,m0,m1,hle]
   rw[hj,Bool.true_and]
def zB4 (l:List Op):List El:=l.flatMap fun o=>if o.kd=1 then o.rn.elB else []
theorem zKW (l:List Op)(o:Op):zB4 (l++[o])=zB4 l++(if o.kd=1 then o.rn.elB else []):=by simp [zB4]
theorem zNV (r:Rn):r.elB.map (·.id)=r.sp.ids:=by simp [Rn.elB,Spn.ids,Function.comp_def]
theorem zFO (l:List Op):(zB4 l).map (·.id)=zA2 l:=by
 induction l with
 | nil=>rfl
 | cons o l ih =>
  have e1:zB4 (o::l)=(if o.kd=1 then o.rn.elB else [])++zB4 l:=by simp [zB4]
  have e2:zA2 (o::l)=(if o.kd=1 then o.sp.ids else [])++zA2 l:=by simp [zA2]
  rw[e1,e2,List.map_append,ih]
  split
  ·rw[zNV];rfl
  ·rfl
theorem zMN (l:List Op):(zB4 l).length=(zA2 l).length:=by rw[← zFO,List.length_map]
theorem zIT (l:List Op)(x:Eid):decide (0≤whI (zB4 l) x)=decide (x∈zA2 l):=by
 rw[zOL,← zFO,Bool.eq_iff_iff,List.any_eq_true,decide_eq_true_iff,List.mem_map]
 constructor
 ·rintro⟨e,he,h⟩;exact⟨e,he,of_decide_eq_true h⟩
 ·rintro⟨e,he,h⟩;exact⟨e,he,decide_eq_true h⟩
theorem zDR {l:List Op}(hr:∀ o∈l,o.kd=1→o.rn.may=true):(zB4 l).length≤64*l.length:=by
 induction l with
 | nil=>simp [zB4]
 | cons o l ih =>
  have e1:zB4 (o::l)=(if o.kd=1 then o.rn.elB else [])++zB4 l:=by simp [zB4]
  have:=ih fun p hp=>hr p (List.mem_cons_of_mem _ hp)
  rw[e1,List.length_append,List.length_cons]
  split
  ·rename_i hk
   have hb:=Spn.may_le (Rn.spB (hr o List.mem_cons_self hk))
   rw[zCI]
   omega
  ·simp;omega
theorem op_rn {o:Op}(h:o.ok):o.rn.ok:=⟨h.2.2.2.1,h.2.2.2.2.1,h.2.2.2.2.2.2⟩
theorem zCO (hS:Sl 17 isOp a l)(hr:∀ o∈l,o.kd=1→o.rn.may=true)(hl:l.length≤40000)(hf:l.length+300<fuel):∃ r,Sl 9 isEl r (zB4 l) ∧ ∀ M,zCN fuel (d+4) 66 [a] M=some (r,M):=by
 have ll:=hS.len
 refine gc_ex tf66 rfl (fun M=>by simp only[icyL,fun M=>hS.icy M 12 (by omega)]) ?_
 refine call_gc tf66 rfl (by simp only[icyL,fun M=>hS.icy M 12 (by omega)]) (by simp [a66]) fun b' ht hx=>?_
 have h0:=hx 0 _ rfl
 clear hx
 simp only[a66,c66] at ht ⊢
 simp (disch:=try exact SX) only[RV]
 refine w_loop (I:=fun n t N => ∃ (i:Nat) (o:AV),n=l.length - i∧i≤l.length∧nth undefA t 0=a∧nth undefA t 3=o∧nth undefA t 4=I64 i∧Wf N∧SlM N 9 isEl o (zB4 (l.take i))) (n:=l.length) (by omega) ?_ ?_
 ·exact zB0u
 ·rintro n t N hlt ⟨i,o,rfl,hi,g0,g3,g4,w,sm⟩
  simp only[ht] at hlt ⊢
  by_cases hc:i<l.length
  ·have q1:decide ((i:Int)<l.length)=true:=DT
   have w1:IntKind.i64.wrap ((i:Int)+1)=((i+1:Nat):Int):=WI
   obtain⟨r,hiad,hri,_⟩:=hS.iad i hc
   have hsn:=zKW (l.take i) l[i]
   rw[← take_snoc l i hc] at hsn
   have hmi:=hr l[i] (List.getElem_mem hc)
   have hlen:=zDR (l:=l.take i) fun o ho=>hr o (List.mem_of_mem_take ho)
   rw[List.length_take] at hlen
   generalize l[i]=e at *
   obtain⟨ra,rfl,hra,hok⟩:=hri
   have ora:=hra.one
   by_cases hk:e.kd=1
   ·have hk':=decide_eq_true hk
    rw[if_pos hk] at hsn
    have hrm:=hmi hk
    have hb:=Spn.may_le (Rn.spB hrm)
    simp (disch:=try exact SX) only[RV,seval,fillA,g0,g3,g4,ll,q1,hiad,hra.fz.cells,hk']
    have wX:Wf (((N.add (.row false (rnR ⟨⟨Eid.z,0⟩,Eid.z,[]⟩ NIL))).upd N.size (.row false (rnR e.rn ra))).add (.row false (rnR e.rn ra))):=((w.add _).upd _ _).add _
    have hsm:SlM (((N.add (.row false (rnR ⟨⟨Eid.z,0⟩,Eid.z,[]⟩ NIL))).upd N.size (.row false (rnR e.rn ra))).add (.row false (rnR e.rn ra))) 10 isRn (.sl (N.size+1) 0 1 (some 1) 10) [e.rn]:=slm_lit (rows:=[rnR e.rn ra]) (.cons ⟨ra,rfl,hra,op_rn hok⟩ .nil) (by simp) rfl (.inr rfl) (by rw[get_add_new ((w.add _).upd _ _) _ _ (by simp only[upd_size,add_size];omega) (by simp only[upd_size,add_size];omega)];rfl)
    refine SlR.hand (n:=d+2) (rest:=[]) (R:=fun r=>Sl 9 isEl r e.rn.elB) tf109 rfl (SlR.of hsm) wX zB7 (fun _=>rfl) (fun o' ho'=>?_) fun r N2 hrr w2 s2 n2 k2=>?_
    ·obtain⟨r,h1,h2⟩:=zJC (fuel:=fuel) (d:=d) ho' (fun r hr=>by rw[List.mem_singleton] at hr;rw[hr];exact hrm) (by simp) (by simp;omega)
     exact⟨r,by simpa [elsB] using h1,h2⟩
    ·have sm2:SlM N2 9 isEl o (zB4 (l.take i)):=sm.keep fun j hj=>by
      have hlj:=sm.lt j hj
      rw[k2 j (by simp only[rowOf];intro h;cases h;omega),get_add ((w.add _).upd _ _) _ _ (by simp only[upd_size,add_size];omega),get_upd_ne (w.add _) _ _ _ (by omega),get_add w _ _ hlj]
     have rl2:=rows_lt sm2.rl (Nat.le_refl N2.size)
     simp (disch:=try exact SX) only[RV,seval,rl2,hrr.fz.rows]
     refine w3_app (bytes:=56) w2 sm2 zG9.cel hrr (by omega) (by rw[zCI];omega) (by rw[zCI];omega) fun o' M' m' w' le' sz' kp' nw' wm' rl' on' oc'=>?_
     simp (disch:=try exact SX) only[RV,seval,g0,g3,g4,w',w1]
     exact⟨hlt,l.length - (i+1),by omega,i+1,o',rfl,by omega,rfl,rfl,by rw[hsn];exact m'⟩
   ·have hk':=decide_eq_false hk
    rw[if_neg hk,List.append_nil] at hsn
    simp (disch:=try exact SX) only[RV,seval,g0,g3,g4,ll,q1,hiad,hk',w1]
    exact⟨hlt,l.length - (i+1),by omega,i+1,o,rfl,by omega,rfl,rfl,w,by rw[hsn];exact sm⟩
  ·obtain rfl:i=l.length:=by omega
   have q1:decide ((l.length:Int)<l.length)=false:=DF
   rw[List.take_length] at sm
   obtain⟨r,hz,hsr⟩:=sm.frz zG9.cel (k:=12) (by omega)
   simp (disch:=try exact SX) only[RV,seval,g0,g3,g4,ll,hz]
   exact⟨r,hsr,rfl⟩
theorem zHI {o:Op}{ae:AV}{E:List El}(hE:Sl 9 isEl ae E)(hx:x.ok)(hv:v.ok)(hl:E.length≤1000000000)(hf:E.length+100<fuel)(M:Mem):zCN fuel (d+3) 101 [ae,idA x,lbA v] M=some (BL (decide (0≤whI E x)&&x.hd.lb.leq v),M):=by
 have hw:=fun M=>zC5 (fuel:=fuel) (d:=d+1) hE x hl (by omega) M
 have hle:=fun M=>zB6 (fuel:=fuel) (d:=d) x.hd.lb v hx.1.1 hv (by omega) M
 apply w3_eq
 refine call_gc tf101 rfl (by simp only[icyL,fun M=>hE.icy M 12 (by omega),fz_icyA (zAU x) (show 1<12 by omega),fz_icyA (zA8 v) (show 1<12 by omega)]) (by simp [a101]) fun b' ht hx=>?_
 obtain⟨h0,h1,h2⟩:=hx3 hx
 clear hx
 simp only[a101,c101] at ht ⊢
 cases q:decide (0≤whI E x) with
 | false=>simp (disch:=try exact SX) only[RV,seval,h0,h1,h2,hw,q,Bool.false_and]
 | true=>simp (disch:=try exact SX) only[RV,seval,h0,h1,h2,hw,q,hle]
theorem zBI:∀ {pre l:List Op},zA1 pre l=true → ∀ o∈l,o.may=true
 | _,[],_,_,h=>by cases h
 | pre,o::l,h,p,hp=>by
  simp only[zA1,Bool.and_eq_true] at h
  rcases List.mem_cons.1 hp with rfl | hp
  ·exact h.1.1
  ·exact zBI h.2 p hp
theorem zD7 (a b:Int):zFK a b=0↔BitVec.ofInt 32 a &&& ~~~ BitVec.ofInt 32 b=0#32:=by
 have e:zFK a b=((BitVec.ofInt 32 a &&& ~~~ BitVec.ofInt 32 b).toNat:Int):=by
  have:=(BitVec.ofInt 32 a &&& ~~~ BitVec.ofInt 32 b).isLt
  unfold zFK
  generalize (BitVec.ofInt 32 a &&& ~~~ BitVec.ofInt 32 b).toNat=z at *
  simp [IntKind.wrap,IntKind.bits,IntKind.signed]
  omega
 rw[e,← BitVec.toNat_inj]
 simp
theorem zIU (x y z:BitVec 32)(h1:x &&& ~~~ y=0#32)(h2:y &&& ~~~ z=0#32):x &&& ~~~ z=0#32:=by
 apply BitVec.eq_of_getLsbD_eq
 intro i hi
 have a1:=congrArg (fun v=>BitVec.getLsbD v i) h1
 have a2:=congrArg (fun v=>BitVec.getLsbD v i) h2
 simp only[BitVec.getLsbD_and,BitVec.getLsbD_not,hi,BitVec.getLsbD_zero,decide_true,Bool.true_and] at a1 a2 ⊢
 cases hx:x.getLsbD i <;> cases hy:y.getLsbD i <;> cases hz:z.getLsbD i <;> simp_all
theorem zEA {a b c:Lb}(h1:a.leq b=true)(h2:b.leq c=true):a.leq c=true:=by
 unfold Lb.leq at *
 simp only[Bool.and_eq_true,decide_eq_true_eq,zD7] at *
 exact⟨Int.le_trans h1.1 h2.1,zIU _ _ _ h1.2 h2.2⟩
theorem zI7 (a:Lb):a.leq a=true:=by
 unfold Lb.leq
 simp only[Bool.and_eq_true,decide_eq_true_eq,zD7]
 refine⟨Int.le_refl _, ?_⟩
 apply BitVec.eq_of_getLsbD_eq
 intro i hi
 simp only[BitVec.getLsbD_and,BitVec.getLsbD_not,hi,BitVec.getLsbD_zero,decide_true,Bool.true_and]
 cases (BitVec.ofInt 32 a.cats).getLsbD i <;> rfl
theorem zJJ (l:List Op)(v u:Lb)(h:u.leq v=true)(x:Eid):zAE (lowL l v) x u=zAE l x u:=by
 unfold zAE lowL
 rw[List.filter_filter]
 congr 1
 apply List.filter_congr
 intro o _
 cases hc:zBE x u o with
 | false=>rfl
 | true =>
  have hl:o.hd.lb.leq u=true:=by
   unfold zBE at hc
   simp only[Bool.and_eq_true] at hc
   exact hc.2
  rw[zEA hl h];rfl
theorem zMJ (l:List Op)(v u:Lb)(h:u.leq v=true)(x:Eid):made (lowL l v) x u=made l x u:=by
 unfold made
 rw[zJJ l v u h]
theorem zHJ (l:List Op)(v:Lb)(o:Op)(h:o.hd.lb.leq v=true):zAL (lowL l v) o=zAL l o:=by
 unfold zAL
 simp only[zMJ l v _ h]
theorem zKB {pre:List Op}{o:Op}(h:fitE pre o=0):pre.length<2048:=by
 unfold fitE at h
 split at h
 ·split at h
  ·cases h
  ·omega
 ·rename_i h1;exact absurd h h1
theorem zCV {pre:List Op}{o:Op}(h:fitE pre o=0):zBM pre o=0:=by
 unfold fitE at h
 split at h
 ·assumption
 ·exact h
theorem zKC {pre:List Op}{o:Op}(hm:o.may=true)(h:fitE pre o=0):zAL pre o=true:=by
 by_cases hk:o.kd=3
 ·have h1:=zCV h
  unfold zBM at h1
  rw[if_neg (by omega),if_neg (by omega)] at h1
  unfold raiE at h1
  split at h1
  ·split at h1
   ·rename_i h2
    have:=h2.2
    unfold chfB at this
    simp only[Bool.and_eq_true] at this
    exact this.2
   ·cases h1
  ·cases h1
 ·unfold zAL
  rw[if_neg hk]
theorem zF0:∀ {pre l:List Op},zA1 pre l=true→zDI pre l=true
 | _,[],_=>rfl
 | pre,o::l,h=>by
  simp only[zA1,Bool.and_eq_true,decide_eq_true_eq] at h
  simp only[zDI,Bool.and_eq_true]
  exact⟨⟨h.1.1,zKC h.1.1 h.1.2⟩,zF0 h.2⟩
theorem zI0:∀ {pre l:List Op},zA1 pre l=true→l≠[]→pre.length+l.length≤2048
 | _,[],_,h=>absurd rfl h
 | pre,[o],h,_=>by
  simp only[zA1,Bool.and_eq_true,decide_eq_true_eq] at h
  have:=zKB h.1.2
  simp only[List.length_singleton]
  omega
 | pre,o::p::l,h,_=>by
  simp only[zA1,Bool.and_eq_true] at h
  have:=zI0 (pre:=pre++[o]) (l:=p::l) (by simp only[zA1,Bool.and_eq_true];exact h.2) (by simp)
  simp only[List.length_append,List.length_cons,List.length_nil] at this ⊢
  omega
theorem zB0 {l:List Op}(h:zA1 [] l=true):zAZ l=0:=by
 have h1:¬2048<l.length:=by
  by_cases e:l=[]
  ·subst e;simp
  ·have:=zI0 h e
   simp only[List.length_nil] at this
   omega
 unfold zAZ
 rw[if_neg h1,zF0 h]
 rfl
theorem zNO {o:Op}(hm:o.may=true)(hk:o.kd=1):rofE o=0↔o.rn.may=true:=by
 unfold rofE
 rw[if_pos hm]
 by_cases h:o.rn.may=true
 ·rw[if_pos ⟨hk,h⟩];simp [h]
 ·rw[if_neg (fun k=>h k.2)];simp [h]
theorem zE5:∀ {pre l:List Op},zA1 pre l=true → ∀ o∈l,o.kd=1→o.rn.may=true
 | _,[],_,o,ho,_=>absurd ho (by simp)
 | pre,p::l,h,o,ho,hk=>by
  simp only[zA1,Bool.and_eq_true,decide_eq_true_eq] at h
  rcases List.mem_cons.1 ho with rfl | ho
  ·have h0:=zCV h.1.2
   unfold zBM at h0
   rw[if_pos hk] at h0
   unfold insE at h0
   split at h0
   ·cases h0
   ·split at h0
    ·cases h0
    ·rename_i h2
     exact(zNO h.1.1 hk).1 (Classical.byContradiction fun hne=>h2 (.inl hne))
  ·exact zE5 h.2 o ho hk
theorem zOF (l:List Op)(o:Op)(x:Eid):(decide (0≤whI (zB4 l) x)&&x.hd.lb.leq o.hd.lb)=zBF l o x:=by unfold zBF;rw[zIT]
theorem zPG {o:Op}(hh:zA1 [] l=true)(hm:o.may=true):raiE l o=if allB l o then (if zAL l o then 0 else 2) else 6:=by
 have hc:=zB0 hh
 have h1:chfE l o=0:=by unfold chfE;rw[if_pos hc,hm];rfl
 unfold raiE chfB
 rw[h1]
 simp
theorem zGO {o:Op}{ra:AV}(hS:Sl 17 isOp a l)(hR:Sl 1 zA3 ra o.rs)(ho:o.ok)(hh:zA1 [] l=true)(hom:o.may=true)(hl:l.length≤10000)(hf:64*l.length+2000<fuel)(M:Mem):zCN fuel (d+6) 63 [a,.agg (opR o ra)] M=some (I64 (fitE l o),M):=by
 have ll:=hS.len
 have hsm:=may_sp hom
 have hb:=Spn.may_le hsm
 have hrnm:=zE5 hh
 obtain⟨ro,hro,hon⟩:=zCO (fuel:=fuel) (d:=d+1) hS hrnm (by omega) (by omega)
 obtain⟨rn,hrn,hall⟩:=zEK (fuel:=fuel) (d:=d+4) ho.2.2.2.1 hsm (by omega)
 have lro:=hro.len
 have lrn:=hrn.len
 have hom1:=zDR hrnm
 have hil:(o.sp.ids.length:Int)=o.sp.n:=by unfold Spn.ids;rw[List.length_map,List.length_range];omega
 have hiok:∀ y∈o.sp.ids,y.ok:=fun y hy=>by
  exact zB0O
 have hse:=fun y hy M=>zHI (fuel:=fuel) (d:=d+2) (x:=y) (v:=o.hd.lb) (o:=o) hro hy ho.2.1.1 (by omega) (by omega) M
 simp only[zOF l o] at hse
 have hwh:=fun y M=>zC5 (fuel:=fuel) (d:=d+4) hro y (by omega) (by omega) M
 have hri:=fun M=>zDG (fuel:=fuel) (d:=d) hS hR ho (zBI hh) hom (by omega) (by omega) M
 have e2048:∀ b:Bool,(2048≤(l.length:Int)↔b=true)→(if 2048≤l.length then (4:Int) else 0)=if b=true then 4 else 0:=fun b h=>by
  by_cases q:2048≤l.length
  ·rw[if_pos q,if_pos (h.1 (by omega))]
  ·rw[if_neg q,if_neg (fun k=>q (by have:=h.2 k;omega))]
 apply w3_eq
 refine call_gc tf63 rfl (by simp only[icyL,fun M=>hS.icy M 12 (by omega),zCH hR.fz]) (by simp [a63]) fun b' ht hx=>?_
 obtain⟨h0,h1⟩:=hx2 hx
 clear hx
 simp only[a63,c63] at ht ⊢
 unfold fitE zBM
 by_cases hk:o.kd=1
 ·have k1:=decide_eq_true hk
  have k2:decide (o.kd=2)=false:=DF
  have k3:decide (o.kd=3)=false:=DF
  rw[if_pos hk]
  have hsa:=fun M=>hse o.af ho.2.2.2.2.1 M
  have h16:∀ M,zCN fuel (d+5) 102 [.agg [U8 o.sp.f.hd.lb.lv,U32 o.sp.f.hd.lb.cats,U8 o.sp.f.hd.num,I64 o.sp.f.c,I64 o.sp.n,U8 o.af.hd.lb.lv,U32 o.af.hd.lb.cats,U8 o.af.hd.num,I64 o.af.c,ra]] M=some (BL o.rn.may,M):=fun M=>zJB (fuel:=fuel) (d:=d) (o:=o.rn) hR ho.2.2.2.2.2.2 (by omega) M
  have hro1:=zNO hom hk
  unfold insE
  by_cases z:o.af≠Eid.z∧zBF l o o.af=false
  ·rw[if_pos z]
   have z1:decide (o.af=Eid.z)=false:=decide_eq_false z.1
   rw[z.2] at hsa
   simp (disch:=try exact SX) only[RV,seval,fillA,h0,h1,hon,hall,k1,↓pIdN,zA5,ETA,z1,hsa]
   all_goals rfl
  ·rw[if_neg z]
   have zz:decide (o.af=Eid.z)=true∨(decide (o.af=Eid.z)=false∧zBF l o o.af=true):=by
    by_cases z1:o.af=Eid.z
    ·exact .inl (decide_eq_true z1)
    ·refine .inr ⟨decide_eq_false z1, ?_⟩
     cases h:zBF l o o.af with
     | true=>rfl
     | false=>exact absurd ⟨z1,h⟩ z
   by_cases hr1:o.rn.may=true
   ·rw[hr1] at h16
    have hro0:=hro1.2 hr1
    have st1:True:=trivial
    generalize hI:o.sp.ids=I at *
    rcases zz with z1 | ⟨z1,z2⟩
    all_goals (try rw[z2] at hsa)
    all_goals simp (disch:=try exact SX) only[RV,seval,fillA,h0,h1,hR.fz.cells,hon,hall,k1,↓pIdN,zA5,ETA,z1,hsa,h16]
    all_goals
     refine w_loop (I:=fun n t N => ∃ (i:Nat),n=I.length - i∧i≤I.length∧nth undefA t 0=a∧nth undefA t 3 = .ptr 0 0∧nth undefA t 5=ro∧nth undefA t 6=rn∧nth undefA t 7=I64 i∧Wf N∧N.get 0=some (.row false (opR o ra))∧(I.take i).any (fun x=>decide (x∈zA2 l))=false) (n:=I.length) (by omega) ?_ ?_
     ·exact zB0g
     ·rintro n t N hlt ⟨i,rfl,hi,g0,g3,g5,g6,g7,w,g,hj⟩
      simp only[ht] at hlt ⊢
      have lg:=Mem.get_lt g
      by_cases hc:i<I.length
      ·have q1:decide ((i:Int)<I.length)=true:=DT
       have w1:IntKind.i64.wrap ((i:Int)+1)=((i+1:Nat):Int):=WI
       obtain⟨r,hiad,⟨hr1,_⟩,_⟩:=hrn.iad i hc
       subst hr1
       have hsn:=take_snoc I i hc
       have hmem:=List.getElem_mem hc
       generalize I[i]=y at *
       have hw0:=zIT l y
       have hwy:=fun M=>hwh y M
       cases q2:decide (0≤whI (zB4 l) y) with
       | true =>
        rw[q2] at hw0
        have e:(I.any fun x=>decide (x∈zA2 l))=true:=List.any_eq_true.2 ⟨y,hmem,hw0.symm⟩
        simp (disch:=try exact SX) only[RV,seval,g5,g6,g7,lrn,q1,hiad,hwy,q2]
        rw[if_pos (Or.inr e)]
        rfl
       | false =>
        rw[q2] at hw0
        simp (disch:=try exact SX) only[RV,seval,g0,g3,g5,g6,g7,lrn,q1,hiad,hwy,q2,w1]
        exact⟨hlt,I.length - (i+1),by omega,i+1,rfl,by omega,rfl,w,g,by rw[hsn,List.any_append,hj];simp [← hw0]⟩
      ·obtain rfl:i=I.length:=by omega
       have q1:decide ((I.length:Int)<I.length)=false:=DF
       rw[List.take_length] at hj
       rw[if_neg (show ¬(rofE o≠0∨(I.any fun x=>decide (x∈zA2 l))=true) from fun h=>h.elim (fun h=>h hro0) (fun h=>by rw[hj] at h;cases h))]
       have hlo:=zMN l
       have w2:IntKind.i64.wrap (((zB4 l).length:Int)+I.length)=((zA2 l).length:Int)+o.sp.n:=by rw[hlo,hil,wrap_i64] <;> omega
       by_cases q3:8192<((zA2 l).length:Int)+o.sp.n
       ·have q3':=decide_eq_true q3
        rw[if_pos q3]
        simp (disch:=try exact SX) only[RV,seval,g5,g6,g7,lrn,lro,w2,q3']
        all_goals rfl
       ·have q3':=decide_eq_false q3
        rw[if_neg q3]
        simp (disch:=try exact SX) only[RV,seval,g5,g6,g7,lrn,lro,w2,q3']
        refine w_un (by omega) ?_
        have q4:decide ((0:Int)<I.length)=true:=DT
        by_cases q5:2048≤l.length
        ·have q5':decide ((2048:Int)≤l.length)=true:=DT
         simp (disch:=try exact SX) only[RV,seval,g0,g3,g6,lrn,q4,g,k1,k2,k3,ll,q5',lq_exit]
         rw[if_pos q5]
        ·have q5':decide ((2048:Int)≤l.length)=false:=DF
         simp (disch:=try exact SX) only[RV,seval,g0,g3,g6,lrn,q4,g,k1,k2,k3,ll,q5',lq_exit]
         rw[if_neg q5]
   ·have hr2:o.rn.may=false:=by cases h:o.rn.may with
     | true=>exact absurd h hr1
     | false=>rfl
    rw[hr2] at h16
    rw[if_pos (show rofE o≠0∨_ from .inl fun h=>hr1 (hro1.1 h))]
    rcases zz with z1 | ⟨z1,z2⟩
    all_goals (try rw[z2] at hsa)
    all_goals simp (disch:=try exact SX) only[RV,seval,fillA,h0,h1,hR.fz.cells,hon,hall,k1,↓pIdN,zA5,ETA,z1,hsa,h16]
    all_goals rfl
 ·have k1:=decide_eq_false hk
  rw[if_neg hk]
  have hk23:=(zNJ hom ho).resolve_left hk
  have eK:(if o.kd=2 then remE l o else raiE l o)=if allB l o then (if (o.kd=2∧o.sp.f.hd.lb≠o.hd.lb)∨(o.kd=3∧zAL l o=false) then 2 else 0) else 6:=by
   rcases hk23 with h2 | h3
   ·rw[if_pos h2]
    unfold remE
    by_cases q:o.sp.f.hd.lb=o.hd.lb
    ·rw[if_pos q,if_neg (c:=_∨_) (fun h=>h.elim (fun h=>h.2 q) (fun h=>by omega))]
    ·rw[if_neg q,if_pos (c:=_∨_) (.inl ⟨h2,q⟩)]
   ·rw[if_neg (by omega),zPG hh hom]
    cases hri':zAL l o with
    | true=>rw[if_pos rfl,if_neg (c:=_∨_) (fun h=>h.elim (fun h=>by omega) (fun h=>by cases h.2))]
    | false =>
     rw[if_pos (c:=_∨_) (.inr ⟨h3,rfl⟩)]
     simp
  rw[eK]
  unfold allB
  generalize hI:o.sp.ids=I at *
  simp (disch:=try exact SX) only[RV,seval,h0,h1,hon,hall,k1]
  refine w_loop (I:=fun n t N => ∃ (i:Nat),n=I.length - i∧i≤I.length∧nth undefA t 0=a∧nth undefA t 3 = .ptr 0 0∧nth undefA t 5=ro∧nth undefA t 6=rn∧nth undefA t 8=I64 i∧Wf N∧N.get 0=some (.row false (opR o ra))∧(I.take i).all (fun x=>zBF l o x)=true) (n:=I.length) (by omega) ?_ ?_
  ·exact zB0g
  ·rintro n t N hlt ⟨i,rfl,hi,g0,g3,g5,g6,g8,w,g,hj⟩
   simp only[ht] at hlt ⊢
   have lg:=Mem.get_lt g
   by_cases hc:i<I.length
   ·have q1:decide ((i:Int)<I.length)=true:=DT
    have w1:IntKind.i64.wrap ((i:Int)+1)=((i+1:Nat):Int):=WI
    obtain⟨r,hiad,⟨hr1,_⟩,_⟩:=hrn.iad i hc
    subst hr1
    have hsn:=take_snoc I i hc
    have hmem:=List.getElem_mem hc
    generalize I[i]=y at *
    have hsy:=fun M=>hse y (hiok y hmem) M
    cases q2:zBF l o y with
    | true =>
     rw[q2] at hsy
     simp (disch:=try exact SX) only[RV,seval,g0,g3,g5,g6,g8,lrn,q1,g,k1,hiad,hsy,w1]
     exact zB0U
    | false =>
     rw[q2] at hsy
     have e:(I.all fun x=>zBF l o x)=false:=by
      exact zB0K
     simp (disch:=try exact SX) only[RV,seval,g3,g5,g6,g8,lrn,q1,g,k1,hiad,hsy]
     rw[e]
     rfl
   ·obtain rfl:i=I.length:=by omega
    have q1:decide ((I.length:Int)<I.length)=false:=DF
    rw[List.take_length] at hj
    rw[hj,if_pos rfl]
    by_cases q5:2048≤l.length
    ·have q5':decide ((2048:Int)≤l.length)=true:=DT
     rcases hk23 with h2 | h3
     ·have k2:=decide_eq_true h2
      have k3:decide (o.kd=3)=false:=DF
      cases q6:decide (o.sp.f.hd.lb=o.hd.lb) with
      | true =>
       rw[if_neg (c:=_∨_) (fun h=>h.elim (fun h=>h.2 (of_decide_eq_true q6)) (fun h=>by omega)),if_pos rfl,if_pos q5]
       simp (disch:=try exact SX) only[RV,seval,g0,g3,g6,g8,lrn,g,k2,k3,↓pLbN,zAO,ETA,q6,ll,q5']
      | false =>
       exact zB0m
     ·have k2:decide (o.kd=2)=false:=DF
      have k3:=decide_eq_true h3
      cases q6:zAL l o with
      | true =>
       rw[q6] at hri
       rw[if_neg (c:=_∨_) (fun h=>h.elim (fun h=>by omega) (fun h=>by cases h.2)),if_pos rfl,if_pos q5]
       simp (disch:=try exact SX) only[RV,seval,g0,g3,g6,g8,lrn,g,k2,k3,hri,ll,q5']
      | false =>
       exact zB0n
    ·have q5':decide ((2048:Int)≤l.length)=false:=DF
     rcases hk23 with h2 | h3
     ·have k2:=decide_eq_true h2
      have k3:decide (o.kd=3)=false:=DF
      cases q6:decide (o.sp.f.hd.lb=o.hd.lb) with
      | true =>
       rw[if_neg (c:=_∨_) (fun h=>h.elim (fun h=>h.2 (of_decide_eq_true q6)) (fun h=>by omega)),if_pos rfl,if_neg q5]
       simp (disch:=try exact SX) only[RV,seval,g0,g3,g6,g8,lrn,g,k2,k3,↓pLbN,zAO,ETA,q6,ll,q5']
      | false =>
       exact zB0m
     ·have k2:decide (o.kd=2)=false:=DF
      have k3:=decide_eq_true h3
      cases q6:zAL l o with
      | true =>
       rw[q6] at hri
       rw[if_neg (c:=_∨_) (fun h=>h.elim (fun h=>by omega) (fun h=>by cases h.2)),if_pos rfl,if_neg q5]
       simp (disch:=try exact SX) only[RV,seval,g0,g3,g6,g8,lrn,g,k2,k3,hri,ll,q5']
      | false =>
       exact zB0n
theorem zJ7 (l:List Op)(o:Op):zA1 [] (l++[o])=(zA1 [] l&&(o.may&&decide (fitE l o=0))):=by
 have key:∀ (l pre:List Op),zA1 pre (l++[o])=(zA1 pre l&&(o.may&&decide (fitE (pre++l) o=0))):=by
  intro l
  induction l with
  | nil=>intro pre;simp [zA1]
  | cons p l ih=>intro pre;simp only[List.cons_append,zA1,ih];simp [Bool.and_assoc]
 simpa using key l []
theorem zF1:∀ {pre l m:List Op},zA1 pre (l++m)=true→zA1 pre l=true
 | _,[],_,_=>rfl
 | pre,o::l,m,h=>by
  simp only[List.cons_append,zA1,Bool.and_eq_true] at h ⊢
  exact⟨h.1,zF1 h.2⟩
theorem zJE (hS:Sl 17 isOp a l)(hl:l.length≤10000)(hf:64*l.length+2000<fuel)(M:Mem):zCN fuel (d+7) 38 [a] M=some (BL (zA1 [] l),M):=by
 have ll:=hS.len
 apply w3_eq
 refine call_gc tf38 rfl (by simp only[icyL,fun M=>hS.icy M 12 (by omega)]) (by simp [a38]) fun b' ht hx=>?_
 have h0:=hx 0 _ rfl
 clear hx
 simp only[a38,c38] at ht ⊢
 simp (disch:=try exact SX) only[RV]
 refine w_loop (I:=fun n t N => ∃ (i:Nat),n=l.length - i∧i≤l.length∧nth undefA t 0=a∧nth undefA t 3=I64 i∧Wf N∧zA1 [] (l.take i)=true) (n:=l.length) (by omega) ?_ ?_
 ·refine⟨0,rfl,Nat.zero_le _, ?_, ?_,Wf.mem0,rfl⟩ <;> simp (disch:=try exact SX) only[RV,seval,h0]
  all_goals first | rfl | assumption | done
 ·rintro n t N hlt ⟨i,rfl,hi,g0,g3,w,hj⟩
  simp only[ht] at hlt ⊢
  by_cases hc:i<l.length
  ·have q1:decide ((i:Int)<l.length)=true:=DT
   have w1:IntKind.i64.wrap ((i:Int)+1)=((i+1:Nat):Int):=WI
   obtain⟨r,hiad,hri,_⟩:=hS.iad i hc
   obtain⟨at1,hsl,hst⟩:=sl_to hS (j:=i) (by omega)
   have hsn:=zJ7 (l.take i) l[i]
   rw[← take_snoc l i hc,hj,Bool.true_and] at hsn
   have hlt1:(l.take i).length≤i:=by rw[List.length_take];omega
   have hbad:zA1 [] (l.take (i+1))=false→zA1 [] l=false:=fun h=>by
    cases k:zA1 [] l with
    | false=>rfl
    | true =>
     have e:l=l.take (i+1)++l.drop (i+1):=(List.take_append_drop _ _).symm
     rw[e] at k
     rw[zF1 k] at h
     cases h
   generalize l[i]=e at *
   obtain⟨ra,rfl,hra,hok⟩:=hri
   have ora:=hra.one
   have hm9:=fun M=>zL6 (fuel:=fuel) (d:=d+1) hra hok (by omega) M
   cases q2:e.may with
   | false =>
    rw[q2] at hm9 hsn
    rw[hbad (by rw[hsn,Bool.false_and])]
    simp (disch:=try exact SX) only[RV,seval,g0,g3,ll,q1,hiad,hm9]
   | true =>
    have her:=fun M=>zGO (fuel:=fuel) (d:=d) hst hra hok hj q2 (by omega) (by omega) M
    rw[q2] at hm9 hsn
    by_cases q3:fitE (l.take i) e=0
    ·have q3':=decide_eq_true q3
     rw[q3',Bool.true_and] at hsn
     simp (disch:=try exact SX) only[RV,seval,g0,g3,ll,q1,hiad,hS.fz.rows,hm9,hsl,her,q3',w1]
     exact⟨hlt,l.length - (i+1),by omega,i+1,rfl,by omega,rfl,w,hsn⟩
    ·have q3':=decide_eq_false q3
     rw[q3',Bool.true_and] at hsn
     rw[hbad hsn]
     simp (disch:=try exact SX) only[RV,seval,g0,g3,ll,q1,hiad,hS.fz.rows,hm9,hsl,her,q3']
  ·obtain rfl:i=l.length:=by omega
   have q1:decide ((l.length:Int)<l.length)=false:=DF
   rw[List.take_length] at hj
   rw[hj]
   simp (disch:=try exact SX) only[RV,seval,g0,g3,ll]
def Lb.ahead (a b:Lb):Bool:=decide (a.lv<b.lv) || (decide (a.lv=b.lv)&&decide (a.cats<b.cats))
def Eid.less (x y:Eid):Bool:=if x.c=y.c then (if x.hd.lb=y.hd.lb then decide (x.hd.num<y.hd.num) else x.hd.lb.ahead y.hd.lb) else decide (x.c<y.c)
theorem zJR (a b:Lb)(M:Mem):zCN fuel (d+1) 136 [lbA a,lbA b] M=some (BL (a.ahead b),M):=by
 have pLbE:=@pLbE
 apply w3_eq
 refine call_gc tf136 rfl (by simp (disch:=try exact SX) only[RV,seval]) (by simp [a136]) fun b' ht hx=>?_
 obtain⟨h0,h1⟩:=hx2 hx
 clear hx
 simp only[a136,c136] at ht ⊢
 unfold Lb.ahead
 cases q1:decide (a.lv<b.lv) with
 | true=>simp (disch:=try exact SX) only[RV,seval,fillA,h0,h1,q1]
 | false =>
  have e:decide (a=(⟨b.lv,a.cats⟩:Lb))=decide (a.lv=b.lv):=by
   rw[Bool.eq_iff_iff,decide_eq_true_iff,decide_eq_true_iff]
   constructor
   ·intro h;rw[h]
   ·intro h
    obtain⟨x,y⟩:=a
    simp only at h ⊢
    rw[h]
  cases q2:decide (a.lv=b.lv) with
  | true =>
   rw[q2] at e
   simp (disch:=try exact SX) only[RV,seval,fillA,h0,h1,q1,↓pLbE,zA6,ETA,e]
  | false =>
   rw[q2] at e
   simp (disch:=try exact SX) only[RV,seval,fillA,h0,h1,q1,↓pLbE,zA6,ETA,e,Bool.false_and]
theorem zCB (x y:Eid)(M:Mem):zCN fuel (d+2) 93 [idA x,idA y] M=some (BL (x.less y),M):=by
 have pLbN:=@pLbN
 have ha:=fun M=>@zJR fuel d x.hd.lb y.hd.lb M
 apply w3_eq
 refine call_gc tf93 rfl (by simp (disch:=try exact SX) only[RV,seval]) (by simp [a93]) fun b' ht hx=>?_
 obtain⟨h0,h1⟩:=hx2 hx
 clear hx
 simp only[a93,c93] at ht ⊢
 unfold Eid.less
 by_cases q1:x.c=y.c
 ·have q1':decide (x.c=y.c)=true:=decide_eq_true q1
  by_cases q2:x.hd.lb=y.hd.lb
  ·have q2':decide (x.hd.lb=y.hd.lb)=true:=decide_eq_true q2
   simp only[if_pos q1,if_pos q2]
   simp (disch:=try exact SX) only[RV,seval,h0,h1,q1',↓pLbN,zAO,ETA,q2']
  ·have q2':decide (x.hd.lb=y.hd.lb)=false:=decide_eq_false q2
   simp only[if_pos q1,if_neg q2]
   simp (disch:=try exact SX) only[RV,seval,h0,h1,q1',↓pLbN,zAO,ETA,q2',ha]
 ·have q1':decide (x.c=y.c)=false:=decide_eq_false q1
  simp only[if_neg q1]
  simp (disch:=try exact SX) only[RV,seval,h0,h1,q1']
def cutE (s:Spn)(n:Int):Int:=if s.may then (if n≤0∨s.n≤n then 2 else 0) else 8
def spZ:Spn:=⟨Eid.z,0⟩
theorem zJ8 (s:Spn)(n:Int)(M:Mem):zCN fuel (d+6) 160 [spA s,I64 n] M=some (if cutE s n=0 then .tup [spA ⟨s.f,n⟩,spA ⟨s.at n,s.n - n⟩,I64 0] else .tup [spA spZ,spA spZ,I64 (cutE s n)],M):=by
 have hat:=fun M=>@zE7 fuel d s n M
 apply w3_eq
 refine call_gc tf160 rfl (by simp (disch:=try exact SX) only[RV,seval]) (by simp [a160]) fun b' ht hx=>?_
 obtain⟨h0,h1⟩:=hx2 hx
 clear hx
 simp only[a160,c160] at ht ⊢
 unfold cutE spZ
 cases hm:s.may with
 | false =>
  simp only[hm,Bool.false_eq_true,if_false] at hat
  simp (disch:=try exact SX) only[RV,seval,h0,h1,hat,Bool.false_eq_true,if_false]
  all_goals rfl
 | true =>
  simp only[hm,if_true] at hat
  have hb:=Spn.may_le hm
  by_cases q0:n<0∨s.n≤n
  ·simp only[q0,if_true] at hat
   have q2:n≤0∨s.n≤n:=by omega
   simp (disch:=try exact SX) only[RV,seval,h0,h1,hat,q2,if_true]
   all_goals rfl
  ·simp only[q0,if_false] at hat
   by_cases q3:n=0
   ·have q3':decide (n=0)=true:=decide_eq_true q3
    have q2:n≤0∨s.n≤n:=by omega
    simp (disch:=try exact SX) only[RV,seval,h0,h1,hat,q2,q3',if_true]
    all_goals rfl
   ·have q3':decide (n=0)=false:=decide_eq_false q3
    have q2:¬(n≤0∨s.n≤n):=by omega
    have w1:IntKind.i64.wrap (s.n - n)=s.n - n:=wrap_i64 (by omega) (by omega)
    simp (disch:=try exact SX) only[RV,seval,fillA,h0,h1,hat,q2,q3',if_true,if_false,w1]
    rfl
theorem zK7 {a b:AV}{l m:List Int}(ha:Sl 1 zA3 a l)(hb:Sl 1 zA3 b m)(hf:l.length<fuel)(hl:l.length≤1000000000)(M:Mem) :
  zCN fuel (d+1) 170 [a,b] M=some (BL (decide (l=m)),M):=by
 have hla:=ha.len
 have hlb:=hb.len
 apply w3_eq
 refine call_gc tf170 rfl (by simp (disch:=try exact SX) only[icyL,ha.fz.icy,hb.fz.icy]) (by simp [a170]) fun b' ht hx=>?_
 obtain⟨h0,h1⟩:=hx2 hx
 clear hx
 simp only[a170,c170] at ht ⊢
 by_cases hll:l.length=m.length
 ·have q1:decide ((l.length:Int)=m.length)=true:=by simp;omega
  simp (disch:=try exact SX) only[RV,seval,h0,h1,hla,hlb,q1]
  refine w_loop (I:=fun n t N => ∃ (i:Nat),n=l.length - i∧i≤l.length∧nth undefA t 0=a∧nth undefA t 1=b∧nth undefA t 11=a∧nth undefA t 12=I64 l.length∧nth undefA t 13=I64 i∧l.take i=m.take i) (n:=l.length) (by omega) ?_ ?_
  ·refine⟨0,rfl,Nat.zero_le _, ?_, ?_, ?_, ?_, ?_,rfl⟩ <;> simp (disch:=try exact SX) only[RV,seval,h0,h1]
   all_goals first | rfl | assumption | done
  ·rintro n t N hlt ⟨i,rfl,hi,g0,g1,g11,g12,g13,tk⟩
   simp only[ht] at hlt ⊢
   by_cases hlt':i<l.length
   ·have hc':decide ((i:Int)<l.length)=true:=by simp;omega
    have hmt:i<m.length:=by omega
    have w1:IntKind.i64.wrap ((i:Int)+1)=((i+1:Nat):Int):=WI
    obtain⟨r,hr,rfl,_⟩:=ha.iad i hlt'
    obtain⟨r2,hr2,rfl,_⟩:=hb.iad i hmt
    by_cases he:l[i]=m[i]
    ·have q2:decide (l[i]=m[i])=true:=by simp [he]
     simp (disch:=try exact SX) only[RV,seval,g0,g1,g11,g12,g13,hc',hr,hr2,w1,q2]
     exact zB0l
    ·have q2:decide (l[i]=m[i])=false:=by simp [he]
     simp (disch:=try exact SX) only[RV,seval,g0,g1,g12,g13,hc',hr,hr2,q2]
     exact zB0H
   ·have hc':decide ((i:Int)<l.length)=false:=by simp;omega
    simp (disch:=try exact SX) only[RV,seval,g12,g13,hc']
    exact zB0h
 ·exact zB0e
def rnEq (o p:Rn):Bool:=decide (o.sp=p.sp)&&decide (o.af=p.af)&&decide (o.rs=p.rs)
theorem zD1 (o p:Rn):rnEq o p=true↔o=p:=by
 obtain⟨a1,a2,a3⟩:=o
 obtain⟨b1,b2,b3⟩:=p
 simp [rnEq,and_assoc]
theorem zCQ {o p:Rn}{ra rb:AV}(hR:Sl 1 zA3 ra o.rs)(hP:Sl 1 zA3 rb p.rs)(hl:o.rs.length≤1000000000)(hf:o.rs.length<fuel)(M:Mem):zCN fuel (d+2) 159 [.agg (rnR o ra),.agg (rnR p rb)] M=some (BL (rnEq o p),M):=by
 have hs:=fun M=>zK7 (fuel:=fuel) (d:=d) hR hP hf hl M
 apply w3_eq
 refine call_gc tf159 rfl (by simp only[icyL,zAT hR.fz,zAT hP.fz]) (by simp [a159]) fun b' ht hx=>?_
 obtain⟨h0,h1⟩:=hx2 hx
 clear hx
 simp only[a159,c159] at ht ⊢
 unfold rnEq
 cases q1:decide (o.sp=p.sp)
 ·simp (disch:=try exact SX) only[RV,seval,h0,h1,↓pSpE,zBD,ETA,q1,Bool.false_and]
 ·cases q2:decide (o.af=p.af)
  ·simp (disch:=try exact SX) only[RV,seval,h0,h1,↓pIdE,zA0,↓pSpE,zBD,ETA,q1,q2,Bool.false_and]
  ·simp (disch:=try exact SX) only[RV,seval,h0,h1,↓pIdE,zA0,↓pSpE,zBD,ETA,q1,q2,hs]
theorem zEQ {o:Rn}{ra:AV}(hR:Sl 1 zA3 ra o.rs)(hl:o.rs.length≤1000000000):∃ r,Sl 1 zA3 r o.rs ∧ ∀ M,zCN fuel (d+2) 139 [.agg (rnR o ra)] M=some (.agg (rnR o r),M):=by
 refine gc_ex tf139 rfl (fun M=>by simp only[icyL,zAT hR.fz]) ?_
 refine call_gc tf139 rfl (by simp only[icyL,zAT hR.fz]) (by simp [a139]) fun b' ht hx=>?_
 have h0:=hx 0 _ rfl
 clear hx
 simp only[a139,c139] at ht ⊢
 simp (disch:=try exact SX) only[RV,seval,h0]
 refine zFV hR hl (by simp (disch:=try exact SX) only[RV]) fun a' M' wf' le' kp' sm' new' wm' di'=>?_
 have hsz:2≤M'.size:=le'
 have g0:M'.get 0=some (.row false (rnR o ra)):=by rw[kp' 0 (by show 0<2;omega)];simp (disch:=try exact SX) only[RV]
 have g1:M'.get 1=some (.row false (rnR ⟨⟨Eid.z,0⟩,Eid.z,[]⟩ NIL)):=by rw[kp' 1 (by show 1<2;omega)];simp (disch:=try exact SX) only[RV]
 have oa:=sm'.one
 have ca:=sm'.cells
 have nr:∀ j,rowOf a'=some j→2≤j:=new'
 obtain⟨ro,hro,hfr⟩:=slm_frz2 sm' zBQ.cel 11 (by omega)
 have hfr:=hfr ((M'.upd 0 (.row false (rnR o a'))).upd 1 (.row false (rnR o a'))) fun id h=>by
  have:=nr id h
  rw[get_upd_ne (wf'.upd _ _) _ _ _ (by omega),get_upd_ne wf' _ _ _ (by omega)]
 simp (disch:=try exact SX) only[RV,seval,g0,g1,ca,hfr]
 exact⟨_,hro,rfl⟩
def Rn.last (r:Rn):Eid:=if r.sp.may then r.sp.at (r.sp.n - 1) else Eid.z
theorem zMG {o:Rn}{ra:AV}(hR:Sl 1 zA3 ra o.rs)(ho:o.ok)(M:Mem):zCN fuel (d+6) 137 [.agg (rnR o ra)] M=some (idA o.last,M):=by
 have hat:=fun M=>@zE7 fuel d o.sp (IntKind.i64.wrap (o.sp.n - 1)) M
 apply w3_eq
 refine call_gc tf137 rfl (by simp only[icyL,zAT hR.fz]) (by simp [a137]) fun b' ht hx=>?_
 have h0:=hx 0 _ rfl
 clear hx
 simp only[a137,c137] at ht ⊢
 unfold Rn.last
 cases hm:o.sp.may with
 | false =>
  simp only[hm,Bool.false_eq_true,if_false] at hat
  simp (disch:=try exact SX) only[RV,seval,h0,hat,Bool.false_eq_true,if_false]
 | true =>
  have hb:=Spn.may_le hm
  rw[wrap_i64 (by omega) (by omega)] at hat
  have w1:IntKind.i64.wrap (o.sp.n - 1)=o.sp.n - 1:=wrap_i64 (by omega) (by omega)
  simp only[hm,if_true,if_neg (show ¬(o.sp.n - 1<0∨o.sp.n≤o.sp.n - 1) by omega)] at hat
  simp (disch:=try exact SX) only[RV,seval,h0,hat,w1,if_true]
def Rn.z:Rn:=⟨⟨Eid.z,0⟩,Eid.z,[]⟩
theorem part_run {o:Rn}{ra:AV}(hR:Sl 1 zA3 ra o.rs)(hl:o.rs.length≤1000000000):∃ r,Sl 1 zA3 r o.rs ∧ ∀ M,zCN fuel (d+2) 161 [.agg (rnR o ra)] M=some (.agg (rnR o r),M):=by
 refine gc_ex tf161 rfl (fun M=>by simp only[icyL,zAT hR.fz]) ?_
 refine call_gc tf161 rfl (by simp only[icyL,zAT hR.fz]) (by simp [a161]) fun b' ht hx=>?_
 have h0:=hx 0 _ rfl
 clear hx
 simp only[a161,c161] at ht ⊢
 simp (disch:=try exact SX) only[RV,seval,h0]
 refine zFV hR hl (by simp (disch:=try exact SX) only[RV]) fun a' M' wf' le' kp' sm' new' wm' di'=>?_
 have hd:M'.dirty=false:=di'
 have hsz:2≤M'.size:=le'
 have g1:M'.get 1=some (.row false (rnR ⟨⟨Eid.z,0⟩,Eid.z,[]⟩ NIL)):=by rw[kp' 1 (by show 1<2;omega)];simp (disch:=try exact SX) only[RV]
 have oa:=sm'.one
 have ca:=sm'.cells
 have nr:∀ j,rowOf a'=some j→2≤j:=new'
 obtain⟨ro,hro,hfr⟩:=slm_frz2 sm' zBQ.cel 11 (by omega)
 have hfr:=hfr ((((mem0.add (.row false (rnR o ra))).add (.row false (rnR ⟨⟨Eid.z,0⟩,Eid.z,[]⟩ NIL))).bk M').upd 1 (.row false (rnR o a'))) fun id h=>by
  have:=nr id h
  exact zB05
 simp (disch:=try exact SX) only[RV,seval,fillA,hd,g1,ca,hfr]
 exact⟨_,hro,rfl⟩
def Rn.cutE (r:Rn)(n:Int):Int:=if r.may then Go.Proofs.YtginjhihkleaoaaGreat.cutE r.sp n else 8
def Rn.fst (r:Rn)(n:Int):Rn:=⟨⟨r.sp.f,n⟩,r.af,r.rs.take n.toNat⟩
def Rn.snd (r:Rn)(n:Int):Rn:=⟨⟨r.sp.at n,r.sp.n - n⟩,r.sp.at (n - 1),r.rs.drop n.toNat⟩
def Rn.cutA (r:Rn)(n:Int):Rn:=if r.cutE n=0 then r.fst n else Rn.z
def Rn.cutB (r:Rn)(n:Int):Rn:=if r.cutE n=0 then r.snd n else Rn.z
theorem cutE_iff {s:Spn}{n:Int}:cutE s n=0↔s.may=true∧0<n∧n<s.n:=by
 unfold cutE
 cases s.may <;> simp
theorem Rn.cutE_iff {r:Rn}{n:Int}:r.cutE n=0↔r.may=true∧0<n∧n<r.sp.n:=by
 unfold Rn.cutE
 cases h:r.may
 ·simp
 ·rw[if_pos rfl,Go.Proofs.YtginjhihkleaoaaGreat.cutE_iff]
  unfold Rn.may at h
  simp only[Bool.and_eq_true] at h
  simp [h.1.1.1]
theorem Rn.may_sp {r:Rn}(h:r.may=true):r.sp.may=true:=by
 unfold Rn.may at h
 simp only[Bool.and_eq_true] at h
 exact h.1.1.1
theorem Rn.may_len {r:Rn}(h:r.may=true):(r.rs.length:Int)=r.sp.n:=by
 unfold Rn.may at h
 simp only[Bool.and_eq_true,decide_eq_true_eq] at h
 exact h.1.2
theorem zNZ {s:Spn}{n:Int}(h:s.may=true)(h0:0<n)(h1:n≤s.n):(⟨s.f,n⟩:Spn).may=true:=by
 have:=Spn.may_le h
 unfold Spn.may at *
 simp only[Bool.and_eq_true,decide_eq_true_eq] at *
 exact⟨⟨⟨h.1.1.1,by omega⟩,by omega⟩,by omega⟩
def cutK (r:Rn)(n:Int)(v:AV):Prop:=∃ ra rb,v = .tup [.agg (rnR (r.cutA n) ra),.agg (rnR (r.cutB n) rb),I64 (r.cutE n)]∧Sl 1 zA3 ra (r.cutA n).rs∧Sl 1 zA3 rb (r.cutB n).rs
theorem zDB {o:Rn}{ra:AV}{n:Int}(hR:Sl 1 zA3 ra o.rs)(hf:100<fuel):∃ v,cutK o n v ∧ ∀ M,zCN fuel (d+7) 134 [.agg (rnR o ra),I64 n] M=some (v,M):=by
 have hck:=fun M=>@zAP fuel d o ra hR hf M
 have hic:=fun M=>@zJ8 fuel d o.sp n M
 unfold cutK Rn.cutA Rn.cutB Rn.cutE
 refine gc_ex tf134 rfl (fun M=>by simp only[icyL,zAT hR.fz,icy12]) ?_
 refine call_gc tf134 rfl (by simp only[icyL,zAT hR.fz,icy12]) (by simp [a134]) fun b' ht hx=>?_
 obtain⟨h0,h1⟩:=hx2 hx
 clear hx
 simp only[a134,c134] at ht ⊢
 cases hm:o.may with
 | false =>
  rw[hm] at hck
  simp only[Bool.false_eq_true,if_false]
  simp (disch:=try exact SX) only[RV,seval,h0,hck,zAC]
  exact⟨rfl,_,⟨NIL,NIL,rfl,.inl ⟨rfl,rfl⟩,.inl ⟨rfl,rfl⟩⟩,rfl⟩
 | true =>
  rw[hm] at hck
  simp only[if_true]
  by_cases q:cutE o.sp n=0
  ·simp only[q,if_true] at hic ⊢
   obtain⟨c1,c2,c3⟩:=cutE_iff.1 q
   have hb:=Spn.may_le c1
   have hml:=Rn.may_len hm
   obtain⟨m,rfl⟩:∃ m:Nat,n=m:=⟨n.toNat,by omega⟩
   have hat:=fun M=>@zE7 fuel (d+1) ⟨o.sp.f,m⟩ ((m:Int) - 1) M
   rw[if_pos (zNZ c1 c2 (by omega))] at hat
   simp only[if_neg (show ¬((m:Int) - 1<0∨(m:Int)≤(m:Int) - 1) by omega)] at hat
   have w1:IntKind.i64.wrap ((m:Int) - 1)=(m:Int) - 1:=wrap_i64 (by omega) (by omega)
   obtain⟨r1,s1,b1⟩:=sl_to hR (j:=m) (by omega)
   obtain⟨r2,s2,b2⟩:=sl_from hR (i:=m) (by omega)
   have o1:=b1.one
   have o2:=b2.one
   obtain⟨p1,hp1,hr1⟩:=part_run (fuel:=fuel) (d:=d+4) (o:=o.fst m) b1 (by simp only[Rn.fst,List.length_take,Int.toNat_natCast];omega)
   obtain⟨p2,hp2,hr2⟩:=part_run (fuel:=fuel) (d:=d+4) (o:=o.snd m) b2 (by simp only[Rn.snd,List.length_drop,Int.toNat_natCast];omega)
   have op1:=hp1.one
   have op2:=hp2.one
   unfold Rn.fst at hr1 hp1
   unfold Rn.snd at hr2 hp2
   have e1:(⟨o.sp.f,(m:Int)⟩:Spn).at ((m:Int) - 1)=o.sp.at ((m:Int) - 1):=rfl
   rw[e1] at hat
   simp (disch:=try exact SX) only[RV,seval,fillA,h0,h1,hR.fz.rows,hck,zA4,hic,hat,w1,s1,s2,b1.fz.cells,b2.fz.cells,hr1,hr2,hp1.fz.frz,hp2.fz.frz]
   exact⟨_,⟨p1,p2,rfl,hp1,hp2⟩,rfl⟩
  ·simp only[q,if_false] at hic ⊢
   have q':decide (cutE o.sp n=0)=false:=decide_eq_false q
   simp (disch:=try exact SX) only[RV,seval,h0,h1,hck,zA4,hic,q']
   exact⟨rfl,_,⟨NIL,NIL,rfl,.inl ⟨rfl,rfl⟩,.inl ⟨rfl,rfl⟩⟩,rfl⟩
theorem zAH {α:Type}(l:List α)(i:Nat)(h:i<l.length):l.take (i+1)=l.take i++[l[i]]:=by
 rw[List.take_add_one,List.getElem?_eq_getElem h];rfl
def rowL (l:List Rn):List Int:=l.flatMap (·.rs)
theorem zLA (l:List Rn)(x:Rn):rowL (l++[x])=rowL l++x.rs:=by simp [rowL]
theorem row_0 {a:AV}{l:List Rn}(hS:SlM M 10 isRn a l)(hl:l.length≤10)(hd:∀ r∈l,r.rs.length≤1000000)(hf:100<fuel)(wf:Wf M)(hw:M.wm≤M.size)(k:∀ o N,Kept M N→SlM N 1 zA3 o (rowL l)→(∀ j,rowOf o=some j→M.size≤j)→Q o N) :
  W3 (zCN fuel (d+1) 163 [a] M) Q:=by
 have ll:=hS.len
 refine call_0 tf163 rfl (by simp [a163]) fun b' ht hx=>?_
 have h0:=hx 0 _ rfl
 clear hx
 simp only[a163,c163] at ht ⊢
 simp (disch:=try exact SX) only[RV,seval,h0,ll]
 refine w_loop (I:=fun n t N => ∃ (i:Nat) (o:AV),n=l.length - i∧i≤l.length∧nth undefA t 2=o∧nth undefA t 5=a∧nth undefA t 6=I64 l.length∧nth undefA t 7=I64 i∧Kept M N∧SlM N 1 zA3 o (rowL (l.take i))∧(∀ j,rowOf o=some j→M.size≤j)∧(rowL (l.take i)).length≤1000000*i) (n:=l.length) (by omega) ?_ ?_
 ·refine⟨0,NIL,rfl,Nat.zero_le _, ?_, ?_, ?_, ?_,Kept.refl wf,SlM.nil,(fun _ h=>by cases h),Nat.le_refl 0⟩ <;> simp (disch:=try exact SX) only[RV,seval]
  all_goals first | rfl | assumption | done
 ·rintro n t N hlt ⟨i,o,rfl,hi,g2,g5,g6,g7,kN,sm,nr,bd⟩
  simp only[ht] at hlt ⊢
  have w:=kN.wf
  have le:=kN.le
  have wm:=kN.wm
  by_cases hc:i<l.length
  ·have q1:decide ((i:Int)<l.length)=true:=DT
   have w1:IntKind.i64.wrap ((i:Int)+1)=((i+1:Nat):Int):=WI
   obtain⟨id,cs,r,hrow,lid,hg,hcs,hiad,hr,hrl,hpt,_⟩:=hS.atS hc
   have gN:=(kN.get id lid).trans hg
   have hts:=zLA (l.take i) l[i]
   rw[← zAH l i hc] at hts
   have hde:=hd l[i] (List.getElem_mem hc)
   generalize l[i]=e at *
   obtain⟨ra,rfl,hra,hok⟩:=hr
   have ora:=hra.one
   have lid':id<N.size:=by omega
   have rlo:=rows_lt sm.rl (show N.size≤N.size+1 by omega)
   simp (disch:=try exact SX) only[RV,seval,g2,g5,g6,g7,q1,hiad,gN,hpt,hra.fz.rows,rlo]
   refine w3_dirt (fun j hj=>by have:=nr j hj;simp only[upd_wm,add_wm];omega) (w3_app (bytes:=4) (by simp (disch:=try exact SX) only[RV,w]) (sm.keep fun j hj=>?_) zBQ.cel hra (by omega) (by omega) (by omega) fun o' M' sm' w' le1 le2 kp nw wm' rl on oc' di'=>?_)
   ·have:=sm.lt j hj
    exact zB05
   simp only[upd_size,add_size] at le1 le2 kp nw
   simp (disch:=try exact SX) only[RV,seval,g2,g5,g6,g7,w1]
   refine⟨hlt,l.length - (i+1),by omega,i+1,o',rfl,by omega,rfl,rfl,⟨w',by omega,fun j hj=>?_,wm'.trans wm,di'.trans ((kN.add _).upd hw le _).di⟩,by rw[hts];exact sm',fun j hj=>(nw j hj).elim (nr j) (fun h=>by omega), ?_⟩
   ·rw[kp j (by omega) (fun h=>by have:=nr j h;omega),get_upd_ne (w.add _) _ _ _ (by omega),get_add w _ _ (by omega)]
    exact kN.get j hj
   ·rw[hts,List.length_append];omega
  ·obtain rfl:i=l.length:=by omega
   have q1:decide ((l.length:Int)<l.length)=false:=DF
   rw[List.take_length] at sm
   simp (disch:=try exact SX) only[RV,seval,g2,g6,g7]
   exact k o N kN sm nr
def Rn.both (a b:Rn):Rn:=⟨⟨a.sp.f,a.sp.n+b.sp.n⟩,a.af,a.rs++b.rs⟩
def zDK (a b:Rn):Int:=if a.may=true∧b.may=true then (if (a.both b).cutE a.sp.n=0∧(a.both b).fst a.sp.n=a∧(a.both b).snd a.sp.n=b then 0 else 2) else 8
def zC4 (a b:Rn):Rn:=if zDK a b=0 then a.both b else Rn.z
def zP4 (a b:Rn)(v:AV):Prop:=∃ r,v = .tup [.agg (rnR (zC4 a b) r),I64 (zDK a b)]∧Sl 1 zA3 r (zC4 a b).rs
theorem zLU (r:Rn)(n:Int):(r.cutA n).rs.length≤r.rs.length:=by
 unfold Rn.cutA
 split
 ·simp only[Rn.fst,List.length_take];omega
 ·exact Nat.zero_le _
theorem zLV (r:Rn)(n:Int):(r.cutB n).rs.length≤r.rs.length:=by
 unfold Rn.cutB
 split
 ·simp only[Rn.snd,List.length_drop];omega
 ·exact Nat.zero_le _
theorem zI3 {a b:Rn}{ra rb:AV}(hA:Sl 1 zA3 ra a.rs)(hB:Sl 1 zA3 rb b.rs)(ha:a.ok)(hb:b.ok):All2 isRn [rnR a ra,rnR b rb] [a,b]:=.cons ⟨ra,rfl,hA,ha⟩ (.cons ⟨rb,rfl,hB,hb⟩ .nil)
theorem zEP {a b:Rn}{ra rb:AV}(hA:Sl 1 zA3 ra a.rs)(hB:Sl 1 zA3 rb b.rs)(ha:a.ok)(hb:b.ok)(hla:a.rs.length≤1000000)(hlb:b.rs.length≤1000000)(hf:2000000<fuel):∃ v,zP4 a b v ∧ ∀ M,zCN fuel (d+8) 138 [.agg (rnR a ra),.agg (rnR b rb)] M=some (v,M):=by
 have hca:=fun M=>@zAP fuel (d+1) a ra hA (by omega) M
 have hcb:=fun M=>@zAP fuel (d+1) b rb hB (by omega) M
 refine gc_ex tf138 rfl (fun M=>by simp only[icyL,zAT hA.fz,zAT hB.fz]) ?_
 refine call_gc tf138 rfl (by simp only[icyL,zAT hA.fz,zAT hB.fz]) (by simp [a138]) fun b' ht hx=>?_
 obtain⟨h0,h1⟩:=hx2 hx
 clear hx
 simp only[a138,c138] at ht ⊢
 unfold zP4 zC4 zDK
 by_cases hm:a.may=true∧b.may=true
 ·obtain⟨ma,mb⟩:=hm
  rw[ma] at hca
  rw[mb] at hcb
  simp only[ma,mb,and_self,if_true]
  have ba:=Spn.may_le (Rn.may_sp ma)
  have bb:=Spn.may_le (Rn.may_sp mb)
  have w1:IntKind.i64.wrap (a.sp.n+b.sp.n)=a.sp.n+b.sp.n:=wrap_i64 (by omega) (by omega)
  simp (disch:=try exact SX) only[RV,seval,fillA,h0,h1,hca,hcb,zA4,IMX,pB_max2,BMM,w1]
  refine row_0 (d:=d+6) (l:=[a,b]) (slm_lit (zI3 hA hB ha hb) (by simp) rfl (.inr rfl) (by simp (disch:=try exact SX) only[RV];rfl)) (by simp) (by simp;exact⟨hla,hlb⟩) (by omega) (by simp (disch:=try exact SX) only[RV]) (by simp (disch:=try exact SX) only[RV,seval];exact Nat.le_refl _) fun o X kX sm nr=>?_
  have wX:=kX.wf
  have hd:X.dirty=false:=kX.di
  have hsX:4≤X.size:=kX.le
  have k0:=kX.get 0 (by show 0<4;omega)
  have k1:=kX.get 1 (by show 1<4;omega)
  have k2:=kX.get 2 (by show 2<4;omega)
  simp (disch:=try exact SX) only[RV] at k0 k1 k2
  have oo:=sm.one
  have oc:=sm.cells
  have nr':∀ j,rowOf o=some j→4≤j:=nr
  have sm':SlM X 1 zA3 o (a.rs++b.rs):=by simpa [rowL] using sm
  simp (disch:=try exact SX) only[RV,seval,fillA,hd,k0,oc]
  refine⟨rfl, ?_⟩
  have kY:=((kX.bk.add (.row false (rnR Rn.z NIL))).upd (Nat.zero_le _) (show _≤X.size from kX.le) (.row false (rnR (a.both b) o)))
  have wY:=kY.wf
  refine w3_handrowR (n:=d+6) (R:=cutK (a.both b) a.sp.n) (spR (a.both b).sp++idR a.af) o (rest:=[I64 a.sp.n]) (l:=(a.both b).rs) tf134 rfl (fun y hy=>(List.mem_append.1 hy).elim (zE3 _ y) (zAU _ y)) (sm'.keep fun j hj=>?_) (by simp (disch:=try exact SX) only[RV,wX]) zBQ (fun M=>by simp only[icyL,icy12]) (fun a2 b2=>?_) fun v a2 N2 hv b2 w2 s2 k2' r2 f2=>?_
  ·have:=sm'.lt j hj
   exact zB05
  ·exact zDB (o:=a.both b) (d:=d) b2 (by omega)
  obtain⟨ca,cb,rfl,hca',hcb'⟩:=hv
  have oca:=hca'.one
  have ocb:=hcb'.one
  have j0:=k2' 0 (fun h=>by have:=nr' 0 h;omega)
  have j1:=k2' 1 (fun h=>by have:=nr' 1 h;omega)
  have j2:=k2' 2 (fun h=>by have:=nr' 2 h;omega)
  have j3:=k2' X.size (fun h=>by have:=sm'.lt _ h;omega)
  simp only[upd_size,add_size,bk_size] at s2
  simp (disch:=try exact SX) only[RV,k0,k1,k2] at j0 j1 j2 j3
  have z0:=Mem.get_lt j0
  have z1:=Mem.get_lt j1
  have z2:=Mem.get_lt j2
  have z3:=Mem.get_lt j3
  clear kY wY k2' kX k0 k1 k2 nr
  have bl:(a.both b).rs.length≤2000000:=by show (a.rs++b.rs).length≤_;rw[List.length_append];omega
  have la:=zLU (a.both b) a.sp.n
  have lb:=zLV (a.both b) a.sp.n
  have hsa:=fun M=>zCQ (fuel:=fuel) (d:=d+5) (o:=(a.both b).cutA a.sp.n) (p:=a) hca' hA (by omega) (by omega) M
  have hsb:=fun M=>zCQ (fuel:=fuel) (d:=d+5) (o:=(a.both b).cutB a.sp.n) (p:=b) hcb' hB (by omega) (by omega) M
  have hfr:=fun N7 hN=>f2 N7 11 (by omega) hN
  clear f2
  have eA:∀ (q:(a.both b).cutE a.sp.n=0),(a.both b).cutA a.sp.n=(a.both b).fst a.sp.n:=fun q=>by unfold Rn.cutA;rw[if_pos q]
  have eB:∀ (q:(a.both b).cutE a.sp.n=0),(a.both b).cutB a.sp.n=(a.both b).snd a.sp.n:=fun q=>by unfold Rn.cutB;rw[if_pos q]
  generalize hA':(a.both b).cutA a.sp.n=cA at *
  generalize hB':(a.both b).cutB a.sp.n=cB at *
  by_cases q1:(a.both b).cutE a.sp.n=0
  ·have q1':decide ((a.both b).cutE a.sp.n=0)=true:=decide_eq_true q1
   rw[← eA q1,← eB q1]
   cases q2:rnEq cA a with
   | false =>
    have q2':¬(cA=a):=fun h=>by rw[(zD1 cA a).2 h] at q2;cases q2
    rw[q2] at hsa
    simp only[q2',false_and,and_false,if_false]
    simp (disch:=try exact SX) only[RV,seval,fillA,j0,j2,q1',hsa]
    exact zB04
   | true =>
    have q2':=(zD1 cA a).1 q2
    rw[q2] at hsa
    cases q3:rnEq cB b with
    | false =>
     have q3':¬(cB=b):=fun h=>by rw[(zD1 cB b).2 h] at q3;cases q3
     rw[q3] at hsb
     simp only[q3',and_false,if_false]
     simp (disch:=try exact SX) only[RV,seval,fillA,j0,j1,j2,q1',hsa,hsb]
     exact zB04
    | true =>
     have q3':=(zD1 cB b).1 q3
     rw[q3] at hsb
     simp only[eq_true (show (a.both b).cutE a.sp.n=0∧cA=a∧cB=b from⟨q1,q2',q3'⟩),if_true]
     simp (disch:=try exact SX) only[RV,seval,j0,j1,j2,j3,q1',hsa,hsb]
     have lo:∀ j,rowOf o=some j→j<N2.size:=fun j hj=>by have:=sm'.lt j hj;omega
     rw[hfr _ (fun j hj=>by
      have u1:=lo j hj
      have u2:=nr' j hj
      simp (disch:=try exact SX) only[RV])]
     exact⟨_,⟨a2,rfl,b2⟩,rfl⟩
  ·have q1':decide ((a.both b).cutE a.sp.n=0)=false:=decide_eq_false q1
   simp only[q1,false_and,if_false]
   simp (disch:=try exact SX) only[RV,seval,fillA,j2,q1']
   exact zB04
 ·have hz:imax (err a.may) (err b.may)=8:=by
   cases ma:a.may <;> cases mb:b.may <;> first | rfl | exact absurd ⟨ma,mb⟩ hm
  simp only[hm,if_false]
  have q8:((8:Int)=0)=False:=by decide
  simp (disch:=try exact SX) only[RV,seval,fillA,h0,h1,hca,hcb,hz,pB_max2,BMM,q8,if_false]
  exact zB04
def atE (r:Rn)(n:Int):Int:=if r.may=true then (if n<0∨r.sp.n≤n then 2 else 0) else 8
def Rn.afAt (r:Rn)(n:Int):Eid:=if 0<n then r.sp.at (n - 1) else r.af
theorem zGR {o:Rn}{ra:AV}{n:Int}(hR:Sl 1 zA3 ra o.rs)(hf:100<fuel)(M:Mem):zCN fuel (d+7) 61 [.agg (rnR o ra),I64 n] M=some (if atE o n=0 then .tup [idA (o.sp.at n),idA (o.afAt n),I32 (o.rs.getD n.toNat 0),I64 0] else .tup [idA Eid.z,idA Eid.z,I32 0,I64 (atE o n)],M):=by
 have hck:=fun M=>@zAP fuel d o ra hR hf M
 have hat:=fun n M=>@zE7 fuel (d+1) o.sp n M
 apply w3_eq
 refine call_gc tf61 rfl (by simp only[icyL,zAT hR.fz,icy12]) (by simp [a61]) fun b' ht hx=>?_
 obtain⟨h0,h1⟩:=hx2 hx
 clear hx
 simp only[a61,c61] at ht ⊢
 unfold atE
 cases hm:o.may with
 | false =>
  rw[hm] at hck
  have q8:((8:Int)=0)=False:=by decide
  simp only[Bool.false_eq_true,if_false,q8]
  simp (disch:=try exact SX) only[RV,seval,h0,hck,zAC]
  all_goals rfl
 | true =>
  rw[hm] at hck
  have hs:=Rn.may_sp hm
  have hb:=Spn.may_le hs
  have hml:=Rn.may_len hm
  simp only[hs,if_true] at hat ⊢
  by_cases q:n<0∨o.sp.n≤n
  ·have hat:=hat n
   simp only[q,if_true] at hat ⊢
   have q2:((2:Int)=0)=False:=by decide
   simp only[q2,if_false]
   simp (disch:=try exact SX) only[RV,seval,h0,h1,hck,hat,zA4]
   all_goals rfl
  ·obtain⟨m,rfl⟩:∃ m:Nat,n=m:=⟨n.toNat,by omega⟩
   have hat0:=hat (m:Int)
   simp only[q,if_false] at hat0 ⊢
   simp only[if_true]
   obtain⟨r,hr,rfl,_⟩:=hR.iad m (by omega)
   have eg:o.rs.getD (m:Int).toNat 0=o.rs[m]:=by
    rw[Int.toNat_natCast,List.getD_eq_getElem?_getD,List.getElem?_eq_getElem (by omega)];rfl
   rw[eg]
   unfold Rn.afAt
   by_cases q0:(0:Int)<m
   ·have hat1:=hat ((m:Int) - 1)
    simp only[show ¬((m:Int) - 1<0∨o.sp.n≤(m:Int) - 1) by omega,if_false] at hat1
    have w1:IntKind.i64.wrap ((m:Int) - 1)=(m:Int) - 1:=wrap_i64 (by omega) (by omega)
    simp (disch:=try exact SX) only[RV,seval,h0,h1,hck,hat0,hat1,zA4,q0,w1,hr,if_true]
    all_goals exact⟨rfl,rfl⟩
   ·simp (disch:=try exact SX) only[RV,seval,h0,h1,hck,hat0,zA4,q0,hr,if_false]
    all_goals exact⟨rfl,rfl⟩
def zA7:List Rn→Int
 | []=>0
 | r::l=>r.sp.n+zA7 l
theorem zIY (l m:List Rn):zA7 (l++m)=zA7 l+zA7 m:=by
 induction l with
 | nil=>simp [zA7]
 | cons r l ih=>simp only[List.cons_append,zA7,ih];omega
theorem zH4 (l:List Rn)(r:Rn):zA7 (l++[r])=zA7 l+r.sp.n:=by rw[zIY];simp [zA7]
theorem zC1 {l:List Rn}(h:∀ r∈l,r.may=true):0≤zA7 l∧zA7 l≤64*l.length:=by
 induction l with
 | nil=>simp [zA7]
 | cons r l ih =>
  have:=Spn.may_le (Rn.may_sp (h r List.mem_cons_self))
  have:=ih fun r hr=>h r (List.mem_cons_of_mem _ hr)
  simp only[zA7,List.length_cons]
  omega
theorem zE1 {a:AV}{l:List Rn}(hS:Sl 10 isRn a l)(hm:∀ r∈l,r.may=true)(hl:l.length≤1000000)(hf:l.length<fuel)(M:Mem):zCN fuel (d+1) 91 [a] M=some (I64 (zA7 l),M):=by
 have ll:=hS.len
 apply w3_eq
 refine call_gc tf91 rfl (by simp only[icyL,fun M=>hS.icy M 12 (by omega)]) (by simp [a91]) fun b' ht hx=>?_
 have h0:=hx 0 _ rfl
 clear hx
 simp only[a91,c91] at ht ⊢
 simp (disch:=try exact SX) only[RV,seval,h0,ll]
 refine w_loop (I:=fun n t N => ∃ (i:Nat),n=l.length - i∧i≤l.length∧nth undefA t 2=I64 (zA7 (l.take i))∧nth undefA t 5=a∧nth undefA t 6=I64 l.length∧nth undefA t 7=I64 i∧Wf N) (n:=l.length) (by omega) ?_ ?_
 ·refine⟨0,rfl,Nat.zero_le _, ?_, ?_, ?_, ?_,Wf.mem0⟩ <;> simp (disch:=try exact SX) only[RV,seval,zA7]
  all_goals first | rfl | assumption | done
 ·rintro n t N hlt ⟨i,rfl,hi,g2,g5,g6,g7,w⟩
  simp only[ht] at hlt ⊢
  by_cases hc:i<l.length
  ·have q1:decide ((i:Int)<l.length)=true:=DT
   have w1:IntKind.i64.wrap ((i:Int)+1)=((i+1:Nat):Int):=WI
   obtain⟨r,hiad,hr,hrl⟩:=hS.iad i hc
   have hts:=zH4 (l.take i) l[i]
   rw[← zAH l i hc] at hts
   have hb:=Spn.may_le (Rn.may_sp (hm l[i] (List.getElem_mem hc)))
   have hcl:=zC1 (l:=l.take i) (fun r hr=>hm r (List.mem_of_mem_take hr))
   rw[List.length_take] at hcl
   generalize l[i]=e at *
   obtain⟨ra,rfl,hra,hok⟩:=hr
   have ora:=hra.one
   have w2:IntKind.i64.wrap (zA7 (l.take i)+e.sp.n)=zA7 (l.take (i+1)):=by rw[hts,wrap_i64] <;> omega
   simp (disch:=try exact SX) only[RV,seval,g2,g5,g6,g7,q1,hiad,w,w1,w2]
   exact⟨hlt,l.length - (i+1),by omega,i+1,rfl,by omega,rfl,rfl⟩
  ·obtain rfl:i=l.length:=by omega
   have q1:decide ((l.length:Int)<l.length)=false:=DF
   rw[List.take_length] at g2
   simp (disch:=try exact SX) only[RV,seval,g2,g6,g7]
def zFX (l m:List Rn):Bool:=eqL rnEq l m
theorem zGT {l m:List Rn}:zFX l m=true↔l=m:=eqL_eq zD1
theorem zJ3 {a b:AV}{l m:List Rn}(h1':Sl 10 isRn a l)(h2':Sl 10 isRn b m)(hl:l.length≤1000000)(hc:∀ e∈l,e.rs.length≤1000000∧e.rs.length<fuel)(hf:l.length<fuel)(M:Mem):zCN fuel (d+3) 158 [a,b,.fn 159 [] []] M=some (BL (zFX l m),M):=by
 have la:=h1'.len
 have lb:=h2'.len
 apply w3_eq
 refine call_gc tf158 rfl (by simp (disch:=try exact SX) only[RV,h1'.fz.icy,h2'.fz.icy]) (by simp [a158]) fun b' ht hx=>?_
 obtain⟨h0,h1,h2⟩:=hx3 hx
 clear hx
 simp only[a158,c158] at ht ⊢
 by_cases q:l.length=m.length
 ·have q0:decide ((l.length:Int)=m.length)=true:=DT
  simp (disch:=try exact SX) only[RV,seval,h0,h1,la,lb,q0]
  refine w_loop (I:=fun n t N => ∃ (i:Nat),n=l.length - i∧i≤l.length∧nth undefA t 0=a∧nth undefA t 1=b∧nth undefA t 2 = .fn 159 [] []∧nth undefA t 15=a∧nth undefA t 16=I64 l.length∧nth undefA t 17=I64 i∧Wf N∧(∀ j (x1:j<l.length) (x2:j<m.length),j<i→rnEq l[j] m[j]=true)) (n:=l.length) (by omega) ?_ ?_
  ·refine⟨0,rfl,Nat.zero_le _, ?_, ?_, ?_, ?_, ?_, ?_,Wf.mem0,(fun _ _ _ h=>absurd h (by omega))⟩ <;> simp (disch:=try exact SX) only[RV,seval,h0,h1,h2]
   all_goals first | rfl | assumption | done
  ·rintro n t N hlt ⟨i,rfl,hi,g0,g1,g2,g15,g16,g17,wN,hj⟩
   simp only[ht] at hlt ⊢
   by_cases hc':i<l.length
   ·have q1:decide ((i:Int)<l.length)=true:=DT
    have hc2:i<m.length:=by omega
    obtain⟨r1,i1,hr1,hl1⟩:=h1'.iad i hc'
    obtain⟨r2,i2,hr2,hl2⟩:=h2'.iad i hc2
    have hcr:=hc l[i] (List.getElem_mem hc')
    have w1:IntKind.i64.wrap ((i:Int)+1)=((i+1:Nat):Int):=WI
    have qat:=fun q2=>eqL_at (p:=rnEq) hc' hc2 q2
    have hj':=hj
    have key:rnEq l[i] m[i]=true → ∀ j (x1:j<l.length) (x2:j<m.length),j<i+1→rnEq l[j] m[j]=true:=fun q2 j x1 x2 hj'=>by
     rcases Nat.lt_succ_iff_lt_or_eq.1 hj' with h | rfl
     ·exact hj j x1 x2 h
     ·exact q2
    generalize l[i]=e1 at *
    generalize m[i]=e2 at *
    obtain⟨ra1,rfl,b1,_⟩:=hr1
    obtain⟨ra2,rfl,b2,_⟩:=hr2
    have hp:=fun M=>zCQ (fuel:=fuel) (d:=d) b1 b2 (by omega) hcr.2 M
    have o1:=b1.one
    have o3:=b2.one
    cases q2:rnEq e1 e2 with
    | true =>
     rw[q2] at hp
     simp (disch:=try exact SX) only[RV,seval,g0,g1,g2,g15,g16,g17,q1,i1,i2,w1,hp,wN]
     exact⟨hlt,l.length - (i+1),by omega,i+1,rfl,by omega,rfl,key q2⟩
    | false =>
     rw[q2] at hp
     have e:zFX l m=false:=qat q2
     simp (disch:=try exact SX) only[RV,seval,g1,g2,g15,g16,g17,q1,i1,i2,hp,e]
   ·obtain rfl:i=l.length:=by omega
    have e:zFX l m=true:=eqL_all q fun j x1 x2 _=>hj j x1 x2 x1
    simp (disch:=try exact SX) only[RV,seval,g16,g17,e]
 ·have q0:decide ((l.length:Int)=m.length)=false:=DF
  have e:zFX l m=false:=eqL_ne q
  simp (disch:=try exact SX) only[RV,seval,h0,h1,la,lb,q0,e]
theorem zLI {a b:AV}{l m:List Rn}(h1':Sl 10 isRn a l)(h2':Sl 10 isRn b m)(hl:l.length≤1000000)(hc:∀ e∈l,e.rs.length≤1000000∧e.rs.length<fuel)(hf:l.length<fuel)(M:Mem):zCN fuel (d+4) 133 [a,b] M=some (BL (zFX l m),M):=by
 have he:=fun M=>@zJ3 fuel d a b l m h1' h2' hl hc hf M
 apply w3_eq
 refine call_gc tf133 rfl (by simp (disch:=try exact SX) only[icyL,h1'.fz.icy,h2'.fz.icy]) (by simp [a133]) fun b' ht hx=>?_
 obtain⟨h0,h1⟩:=hx2 hx
 clear hx
 simp only[a133,c133] at ht ⊢
 simp (disch:=try exact SX) only[RV,seval,h0,h1,he]
def zAB:List Rn→Eid→Option (Nat × Int)
 | [],_=>none
 | r::l,x=>match r.sp.has x with
  | some k=>some (0,k)
  | none=>(zAB l x).map fun p=>(p.1+1,p.2)
theorem zJN {l:List Rn}{x:Eid}(h:∀ r∈l,r.sp.has x=none):zAB l x=none:=by
 induction l with
 | nil=>rfl
 | cons r l ih =>
  unfold zAB
  rw[h r List.mem_cons_self,ih fun r hr=>h r (List.mem_cons_of_mem _ hr)]
  rfl
theorem zN4 {l:List Rn}{x:Eid}{i:Nat}{k:Int}(hi:i<l.length)(hk:l[i].sp.has x=some k)(h:∀ j (hj:j<i),l[j].sp.has x=none):zAB l x=some (i,k):=by
 induction l generalizing i with
 | nil=>exact absurd hi (by simp)
 | cons r l ih =>
  unfold zAB
  cases i with
  | zero=>rw[show r.sp.has x=some k from hk]
  | succ i =>
   rw[show r.sp.has x=none from h 0 (by omega),ih (i:=i) (by simpa using hi) hk fun j hj=>h (j+1) (by omega)]
   rfl
def wN (p:Option (Nat × Int)):Int:=match p with
 | some p=>p.1
 | none => -1
def wK (p:Option (Nat × Int)):Int:=match p with
 | some p=>p.2
 | none=>0
theorem zGZ {a:AV}{l:List Rn}{x:Eid}(hS:Sl 10 isRn a l)(hl:l.length≤1000000)(hf:l.length<fuel)(M:Mem):zCN fuel (d+6) 90 [a,idA x] M=some (.tup [I64 (wN (zAB l x)),I64 (wK (zAB l x))],M):=by
 have ll:=hS.len
 apply w3_eq
 refine call_gc tf90 rfl (by simp only[icyL,fun M=>hS.icy M 12 (by omega),fz_icyA (zAU x) (show 1<12 by omega)]) (by simp [a90]) fun b' ht hx=>?_
 obtain⟨h0,h1⟩:=hx2 hx
 clear hx
 simp only[a90,c90] at ht ⊢
 simp (disch:=try exact SX) only[RV,seval,h0,h1,ll]
 refine w_loop (I:=fun n t N => ∃ (i:Nat),n=l.length - i∧i≤l.length∧nth undefA t 3 = .ptr 0 0∧nth undefA t 10=a∧nth undefA t 11=I64 l.length∧nth undefA t 12=I64 i∧Wf N∧N.get 0=some (.row false (idR x))∧(∀ j (h:j<l.length),j<i→l[j].sp.has x=none)) (n:=l.length) (by omega) ?_ ?_
 ·refine⟨0,rfl,Nat.zero_le _, ?_, ?_, ?_, ?_,Wf.mem0.add _,by simp (disch:=try exact SX) only[RV],(fun _ _ h=>absurd h (by omega))⟩ <;> simp (disch:=try exact SX) only[RV,seval]
  all_goals first | rfl | assumption | done
 ·rintro n t N hlt ⟨i,rfl,hi,g3,g10,g11,g12,w,g,hj⟩
  simp only[ht] at hlt ⊢
  have lN:=Mem.get_lt g
  by_cases hc:i<l.length
  ·have q1:decide ((i:Int)<l.length)=true:=DT
   have w1:IntKind.i64.wrap ((i:Int)+1)=((i+1:Nat):Int):=WI
   obtain⟨r,hiad,hr,hrl⟩:=hS.iad i hc
   have wat:=fun k (hk:l[i].sp.has x=some k)=>zN4 hc hk fun j hj'=>hj j (by omega) hj'
   have key:l[i].sp.has x=none → ∀ j (h:j<l.length),j<i+1→l[j].sp.has x=none:=fun q2 j h hj'=>by
    rcases Nat.lt_succ_iff_lt_or_eq.1 hj' with h' | rfl
    ·exact hj j h h'
    ·exact q2
   generalize l[i]=e at *
   obtain⟨ra,rfl,hra,hok⟩:=hr
   have ora:=hra.one
   have hh:=fun M=>@zFH fuel d e.sp x M
   cases q:e.sp.has x with
   | none =>
    rw[q] at hh
    simp only[Option.getD_none,Option.isSome_none] at hh
    simp (disch:=try exact SX) only[RV,seval,g3,g10,g11,g12,q1,hiad,w,g,w1,hh]
    exact⟨hlt,l.length - (i+1),by omega,i+1,rfl,by omega,rfl,key q⟩
   | some k =>
    rw[q] at hh
    simp only[Option.getD_some,Option.isSome_some] at hh
    rw[wat k q]
    simp (disch:=try exact SX) only[RV,seval,g3,g10,g11,g12,q1,hiad,g,hh,wN,wK]
  ·obtain rfl:i=l.length:=by omega
   have e:zAB l x=none:=zJN fun r hr=>by
    obtain⟨j,hj',rfl⟩:=List.getElem_of_mem hr
    exact hj j hj' hj'
   rw[e]
   simp (disch:=try exact SX) only[RV,seval,g11,g12,wN,wK]
def Rn.els (r:Rn):List (Eid × Eid):=(List.range r.sp.n.toNat).map fun (i:Nat)=>(r.sp.at i,r.afAt i)
def elsL (l:List Rn):List (Eid × Eid):=l.flatMap Rn.els
theorem zM1 (l:List Rn)(r:Rn):elsL (l++[r])=elsL l++r.els:=by simp [elsL]
theorem zK6 {l:List Rn}{i k:Nat}(hi:i<l.length)(hk:k<l[i].sp.n.toNat):∃ post,elsL l=(elsL (l.take i)++l[i].els.take k)++(l[i].sp.at k,l[i].afAt k)::post:=by
 refine⟨l[i].els.drop (k+1)++elsL (l.drop (i+1)), ?_⟩
 have h1:l=l.take i++l[i]::l.drop (i+1):=by rw[← List.drop_eq_getElem_cons hi,List.take_append_drop]
 have hkl:k<l[i].els.length:=by unfold Rn.els;simpa using hk
 have h2:l[i].els=l[i].els.take k++l[i].els[k]::l[i].els.drop (k+1):=by rw[← List.drop_eq_getElem_cons hkl,List.take_append_drop]
 have h3:l[i].els[k]=(l[i].sp.at k,l[i].afAt k):=by simp [Rn.els]
 rw[h3] at h2
 refine(congrArg elsL h1).trans ?_
 have h4:elsL (l.take i++l[i]::l.drop (i+1))=elsL (l.take i)++(l[i].els++elsL (l.drop (i+1))):=by
  unfold elsL
  rw[List.flatMap_append,List.flatMap_cons]
 rw[h4,List.append_assoc,← List.cons_append,← List.append_assoc (l[i].els.take k),← h2]
theorem zK4 (r:Rn):r.els.length=r.sp.n.toNat:=by simp [Rn.els]
theorem zK5 (r:Rn)(k:Nat)(hk:k<r.sp.n.toNat):r.els.take (k+1)=r.els.take k++[(r.sp.at k,r.afAt k)]:=by
 rw[zAH _ _ (by rw[zK4];exact hk)]
 simp [Rn.els]
structure Yl (J:List (Eid × Eid)→(Nat→Prop)→Mem→Prop) (pre:List (Eid × Eid)) (O:Nat→Prop) (B:Nat) (N N':Mem):Prop where
 ok:∃ O',J pre O' N'∧(∀ j,O' j→O j∨N.size≤j)
 wf:Wf N'
 le:N.size≤N'.size
 kp:∀ j,j<N.size → ¬O j→N'.get j=N.get j
theorem zLZ {J:List (Eid × Eid)→(Nat→Prop)→Mem→Prop}{S:Mem→Prop}{O:Nat→Prop}{a:AV}{l:List Rn}{p id:Nat}(hS:Sl 10 isRn a l)(hl:l.length≤100000)(hm:∀ r∈l,r.may=true)(hf:l.length+100<fuel)(wf:Wf M)(hg:M.get p=some (.row false [a]))
  (hJ0:J [] O M)
  (hJ:∀ pre O N N',J pre O N→Wf N'→N.size≤N'.size→(∀ j,j<N.size→N'.get j=N.get j)→J pre O N')
  (hJl:∀ pre O N,J pre O N → ∀ j,O j→j<N.size)
  (hy:∀ pre x post O N,elsL l=pre++x::post→J pre O N→Wf N→M.size≤N.size→W3 (callN Tryz.prog (fsT tbl) fuel (d+7) (.yl id) [idA x.1,idA x.2] N) (fun v N'=>(v=BL true∧Yl J (pre++[x]) O M.size N N')∨(v=BL false∧S N')))
  (kk:∀ u N O,J (elsL l) O N→Wf N→M.size≤N.size→Q u N) (ks:∀ u N,S N→Q u N) :
  W3 (zCN fuel (d+8) 169 [.yl id,.ptr p 0] M) Q:=by
 have ll:=hS.len
 have lp:=Mem.get_lt hg
 refine call_0 tf169 rfl (by simp [a169]) fun b' ht hx=>?_
 obtain⟨h0,h1⟩:=hx2 hx
 clear hx
 simp only[a169,c169] at ht ⊢
 simp (disch:=try exact SX) only[RV,seval,h1,ll,hg]
 refine w_loop (I:=fun n t N => ∃ (i:Nat) (O':Nat→Prop),n=l.length - i∧i≤l.length∧nth undefA t 0 = .yl id∧nth undefA t 10=a∧nth undefA t 11=I64 l.length∧nth undefA t 12=I64 i∧Wf N∧M.size≤N.size∧J (elsL (l.take i)) O' N) (n:=l.length) (by omega) ?_ ?_
 ·refine⟨0,O,rfl,Nat.zero_le _, ?_, ?_, ?_, ?_,wf,Nat.le_refl _,hJ0⟩ <;> simp (disch:=try exact SX) only[RV,seval,h0]
  all_goals first | rfl | assumption | done
 ·rintro n t N hlt ⟨i,O',rfl,hi,g0,g10,g11,g12,w,le,hj⟩
  simp only[ht] at hlt ⊢
  by_cases hc:i<l.length
  ·have q1:decide ((i:Int)<l.length)=true:=DT
   have w1:IntKind.i64.wrap ((i:Int)+1)=((i+1:Nat):Int):=WI
   obtain⟨r,hiad,hr,hrl⟩:=hS.iad i hc
   have hts:=zM1 (l.take i) l[i]
   rw[← zAH l i hc] at hts
   have hsp:=fun k=>@zK6 l i k hc
   have hme:=hm l[i] (List.getElem_mem hc)
   generalize l[i]=e at *
   obtain⟨ra,rfl,hra,hok⟩:=hr
   have ora:=hra.one
   have hb:=Spn.may_le (Rn.may_sp hme)
   obtain⟨m,hmn⟩:∃ m:Nat,e.sp.n=m:=⟨e.sp.n.toNat,by omega⟩
   have hmt:e.sp.n.toNat=m:=by omega
   have hes:=zK5 e
   have hel:=zK4 e
   have wX:Wf ((N.add (.row false (rnR Rn.z NIL))).upd N.size (.row false (rnR e ra))):=(w.add _).upd _ _
   have jX:=hJ _ _ _ _ hj wX (by rw[upd_size,add_size];omega) (fun j hj'=>by rw[get_upd_ne (w.add _) _ _ _ (by omega),get_add w _ _ hj'])
   have gX:((N.add (.row false (rnR Rn.z NIL))).upd N.size (.row false (rnR e ra))).get N.size=some (.row false (rnR e ra)):=get_upd_eq (w.add _) _ _ (by rw[add_size];omega)
   have nX:N.size<((N.add (.row false (rnR Rn.z NIL))).upd N.size (.row false (rnR e ra))).size:=by rw[upd_size,add_size];omega
   have nO:¬O' N.size:=fun h=>by have:=hJl _ _ _ hj _ h;omega
   simp (disch:=try exact SX) only[RV,seval,g10,g11,g12,q1,hiad]
   refine w_loop (I:=fun nk tk Nk => ∃ (ik:Nat) (O2:Nat→Prop),nk=m - ik∧ik≤m∧nth undefA tk 0 = .yl id∧nth undefA tk 4 = .ptr N.size 0∧nth undefA tk 10=a∧nth undefA tk 11=I64 l.length∧nth undefA tk 12=I64 i∧nth undefA tk 18=I64 e.sp.n∧nth undefA tk 19=I64 ik∧Wf Nk∧N.size<Nk.size∧J (elsL (l.take i)++e.els.take ik) O2 Nk∧Nk.get N.size=some (.row false (rnR e ra)) ∧ ¬O2 N.size) (n:=m) (by omega) ?_ ?_
   ·refine⟨0,O',rfl,Nat.zero_le _, ?_, ?_, ?_, ?_, ?_, ?_, ?_,wX,nX,(by rw[List.take_zero,List.append_nil];exact jX),gX,nO⟩ <;> simp (disch:=try exact SX) only[RV,seval,g0,g10,g11,g12]
    all_goals first | rfl | assumption | done
   ·rintro nk tk Nk hltk ⟨ik,O2,rfl,hik,gk0,gk4,gk10,gk11,gk12,gk18,gk19,wk,lk,jk,gk,nk⟩
    simp only[hlt] at hltk ⊢
    have kX:∀ p q,Wf ((((Nk.add p).add q).upd Nk.size (.row false (idR (e.sp.at ik)))).upd (Nk.size+1) (.row false (idR (e.afAt ik)))):=fun p q=>(((wk.add _).add _).upd _ _).upd _ _
    by_cases hck:ik<m
    ·have q2:decide ((ik:Int)<e.sp.n)=true:=DT
     have w2:IntKind.i64.wrap ((ik:Int)+1)=((ik+1:Nat):Int):=WI
     have hatE:atE e ik=0:=by
      unfold atE
      rw[if_pos hme,if_neg (by omega)]
     have hat:=fun M=>@zGR fuel d e ra (ik:Int) hra (by omega) M
     simp only[hatE,if_true] at hat
     obtain⟨post,hsp⟩:=hsp ik (by omega)
     have hes:=hes ik (by omega)
     rw[hmt] at hel
     simp (disch:=try exact SX) only[RV,seval,gk0,gk4,gk18,gk19,q2,gk,hat]
     have jY:=hJ _ _ _ _ jk (kX (.row false (idR Eid.z)) (.row false (idR Eid.z))) (by simp only[upd_size,add_size];omega) (fun j hj'=>by
      rw[get_upd_ne (((wk.add _).add _).upd _ _) _ _ _ (by omega),get_upd_ne ((wk.add _).add _) _ _ _ (by omega),get_add (wk.add _) _ _ (by rw[add_size];omega),get_add wk _ _ hj'])
     obtain⟨v,N',hcall,hv⟩:=hy _ _ _ _ _ hsp jY (kX _ _) (by simp only[upd_size,add_size];omega)
     refine⟨v,N',hcall, ?_⟩
     rcases hv with⟨rfl,⟨O3,jO,hO3⟩,wY,lY,kY⟩ | ⟨rfl,hst⟩
     ·simp only[upd_size,add_size] at lY kY hO3
      have g3:N'.get N.size=some (.row false (rnR e ra)):=by
       rw[kY _ (by omega) nk,get_upd_ne (((wk.add _).add _).upd _ _) _ _ _ (by omega),get_upd_ne ((wk.add _).add _) _ _ _ (by omega),get_add (wk.add _) _ _ (by rw[add_size];omega),get_add wk _ _ (by omega)]
       exact gk
      rw[List.append_assoc,← hes] at jO
      simp (disch:=try exact SX) only[RV,seval,gk0,gk4,gk10,gk11,gk12,gk18,gk19,w2]
      exact⟨hltk,m - (ik+1),by omega,ik+1,O3,rfl,by omega,rfl,wY,by omega,jO,g3,fun h=>(hO3 _ h).elim nk (fun h=>by omega)⟩
     ·simp (disch:=try exact SX) only[RV,seval]
      exact ks _ _ hst
    ·obtain rfl:ik=m:=by omega
     have q2:decide ((ik:Int)<e.sp.n)=false:=DF
     rw[List.take_of_length_le (l:=e.els) (by omega)] at jk
     simp (disch:=try exact SX) only[RV,seval,gk0,gk10,gk11,gk12,gk18,gk19,q2,w1]
     exact⟨hltk,l.length - (i+1),by omega,i+1,O2,rfl,by omega,rfl,wk,by omega,by rw[hts];exact jk⟩
  ·obtain rfl:i=l.length:=by omega
   have q1:decide ((l.length:Int)<l.length)=false:=DF
   rw[List.take_length] at hj
   simp (disch:=try exact SX) only[RV,seval,g11,g12]
   exact kk _ _ _ hj w le
theorem zBJ (x y:Eid):x.less y=true↔x.c<y.c∨(x.c=y.c∧(x.hd.lb.lv<y.hd.lb.lv∨(x.hd.lb.lv=y.hd.lb.lv∧(x.hd.lb.cats<y.hd.lb.cats∨(x.hd.lb.cats=y.hd.lb.cats∧x.hd.num<y.hd.num))))):=by
 obtain⟨⟨⟨a,b⟩,c⟩,e⟩:=x
 obtain⟨⟨⟨a',b'⟩,c'⟩,e'⟩:=y
 unfold Eid.less Lb.ahead
 by_cases h1:e=e'
 ·subst h1
  by_cases h2:(⟨a,b⟩:Lb)=⟨a',b'⟩
  ·injection h2 with h2 h3
   subst h2;subst h3
   simp
  ·have h3:¬(a=a'∧b=b'):=fun h=>h2 (by rw[h.1,h.2])
   simp only[h2,if_true,if_false,Bool.or_eq_true,Bool.and_eq_true,decide_eq_true_eq,Int.lt_irrefl,true_and,false_or]
   omega
 ·simp only[h1,if_false,decide_eq_true_eq,false_and,or_false]
theorem zDP (x:Eid):x.less x=false:=by
 rw[← Bool.not_eq_true,zBJ];omega
theorem zF2 {x y z:Eid}(h1:x.less y=true)(h2:y.less z=true):x.less z=true:=by
 rw[zBJ] at *;omega
theorem zKO {x y:Eid}(h1:x.less y=true):y.less x=false:=by
 rw[← Bool.not_eq_true];rw[zBJ] at *;omega
theorem zI8 {x y:Eid}(h:x≠y):x.less y=true∨y.less x=true:=by
 rw[zBJ,zBJ]
 obtain⟨⟨⟨a,b⟩,c⟩,e⟩:=x
 obtain⟨⟨⟨a',b'⟩,c'⟩,e'⟩:=y
 simp only
 have:¬(a=a'∧b=b'∧c=c'∧e=e'):=fun k=>h (by rw[k.1,k.2.1,k.2.2.1,k.2.2.2])
 omega
theorem zKP {x y:Eid}(h:x.less y=true):x.c≤y.c:=by
 rw[zBJ] at h;omega
theorem zGE {x y:Eid}(h:x.c<y.c):x.less y=true:=by
 rw[zBJ];omega
def ahd:List Eid→List Eid→Prop
 | [],[]=>False
 | [],_::_=>True
 | _::_,[]=>False
 | a::p,b::q=>b.less a=true∨(a=b∧ahd p q)
theorem zD3:∀ p:List Eid,¬ahd p p
 | []=>fun h=>h
 | a::p=>fun h=>by
  rcases h with h | ⟨_,h⟩
  ·rw[zDP] at h;cases h
  ·exact zD3 p h
theorem zC0:∀ {p q r:List Eid},ahd p q→ahd q r→ahd p r
 | [],[],_=>fun h _=>h.elim
 | [],_::_,[]=>fun _ h=>h.elim
 | [],_::_,_::_=>fun _ _=>trivial
 | _::_,[],_=>fun h _=>h.elim
 | _::_,_::_,[]=>fun _ h=>h.elim
 | a::p,b::q,c::r=>fun h1 h2=>by
  rcases h1 with h1 | ⟨rfl,h1⟩ <;> rcases h2 with h2 | ⟨rfl,h2⟩
  ·exact .inl (zF2 h2 h1)
  ·exact .inl h1
  ·exact .inl h2
  ·exact .inr ⟨rfl,zC0 h1 h2⟩
theorem zBZ (p:List Eid)(x:Eid)(q:List Eid):ahd p (p++x::q):=by
 induction p with
 | nil=>trivial
 | cons a p ih=>exact .inr ⟨rfl,ih⟩
theorem zG2 (p:List Eid){a b:Eid}(q r:List Eid)(h:b.less a=true):ahd (p++a::q) (p++b::r):=by
 induction p with
 | nil=>exact .inl h
 | cons a p ih=>exact .inr ⟨rfl,ih⟩
theorem zFA:∀ {p q:List Eid},ahd p q→(∃ x r,q=p++x::r) ∨ ∃ c a b s t,p=c++a::s∧q=c++b::t∧b.less a=true
 | [],[]=>fun h=>h.elim
 | [],x::r=>fun _ => .inl ⟨x,r,rfl⟩
 | _::_,[]=>fun h=>h.elim
 | a::p,b::q=>fun h=>by
  rcases h with h | ⟨rfl,h⟩
  ·exact .inr ⟨[],a,b,p,q,rfl,rfl,h⟩
  ·rcases zFA h with⟨x,r,rfl⟩ | ⟨c,x,y,s,t,rfl,rfl,k⟩
   ·exact .inl ⟨x,r,rfl⟩
   ·exact .inr ⟨a::c,x,y,s,t,rfl,rfl,k⟩
theorem zJQ:∀ {p q:List Eid},p≠q→ahd p q∨ahd q p
 | [],[]=>fun h=>absurd rfl h
 | [],_::_=>fun _ => .inl trivial
 | _::_,[]=>fun _ => .inr trivial
 | a::p,b::q=>fun h=>by
  by_cases e:a=b
  ·subst e
   rcases zJQ (p:=p) (q:=q) (fun k=>h (by rw[k])) with k | k
   ·exact .inl (.inr ⟨rfl,k⟩)
   ·exact .inr (.inr ⟨rfl,k⟩)
  ·rcases zI8 e with k | k
   ·exact .inr (.inl k)
   ·exact .inl (.inl k)
inductive Pth (E:List El):Eid→List Eid→Prop
 | root {x:El}:x∈E→x.af=Eid.z→Pth E x.id [x.id]
 | step {x:El} {p:List Eid}:x∈E→Pth E x.af p→Pth E x.id (p++[x.id])
theorem Pth.mono {E F:List El}(h:∀ x∈E,x∈F){x:Eid}{p:List Eid}(k:Pth E x p):Pth F x p:=by
 induction k with
 | root m e=>exact .root (h _ m) e
 | step m _ ih=>exact .step (h _ m) ih
theorem Pth.mem {E:List El}{x:Eid}{p:List Eid}(k:Pth E x p):∃ e∈E,e.id=x:=by
 cases k with
 | root m _=>exact⟨_,m,rfl⟩
 | step m _=>exact⟨_,m,rfl⟩
theorem Pth.last {E:List El}{x:Eid}{p:List Eid}(k:Pth E x p):∃ q,p=q++[x]:=by
 cases k with
 | root m _=>exact⟨[],rfl⟩
 | step m _=>exact⟨_,rfl⟩
theorem Pth.pre {E:List El}{x:Eid}{p:List Eid}(k:Pth E x p):∀ {q y r},p=q++y::r→Pth E y (q++[y]):=by
 induction k with
 | root m e =>
  intro q y r h
  cases q with
  | nil=>cases h;exact .root m e
  | cons a q=>simp at h
 | @step x p m kp ih =>
  intro q y r h
  rcases List.eq_nil_or_concat r with rfl | ⟨r',b,rfl⟩
  ·have h2:=List.append_inj' h rfl
   rw[← h2.1]
   injection h2.2 with h3
   rw[← h3]
   exact .step m kp
  ·have h':p++[x.id]=(q++y::r')++[b]:=by rw[h];simp
   exact ih (List.append_inj' h' rfl).1
structure Set1 (E:List El):Prop where
 nd:(E.map (·.id)).Nodup
 ct:∀ x∈E,x.af.c<x.id.c∧0<x.id.c
 rt:∀ x∈E,x.af=Eid.z ∨ ∃ y∈E,y.id=x.af
theorem zGH {E:List El}(h:(E.map (·.id)).Nodup){x y:El}(hx:x∈E)(hy:y∈E)(e:x.id=y.id):x=y:=by
 induction E with
 | nil=>cases hx
 | cons a E ih =>
  rw[List.map_cons,List.nodup_cons] at h
  rcases List.mem_cons.1 hx with rfl | hx' <;> rcases List.mem_cons.1 hy with rfl | hy'
  ·rfl
  ·exact absurd (List.mem_map.2 ⟨y,hy',e.symm⟩) h.1
  ·exact absurd (List.mem_map.2 ⟨x,hx',e⟩) h.1
  ·exact ih h.2 hx' hy'
theorem Pth.nz {E:List El}(h:∀ x∈E,0<x.id.c){x:Eid}{p:List Eid}(k:Pth E x p):x≠Eid.z:=by
 obtain⟨e,he,rfl⟩:=k.mem
 intro hz
 have:=h e he
 rw[hz] at this
 exact absurd this (by decide)
theorem Pth.fn {E:List El}(h:Set1 E){x:Eid}{p:List Eid}(k:Pth E x p):∀ {q},Pth E x q→p=q:=by
 have hz:=fun x hx=>(h.ct x hx).2
 induction k with
 | @root x m e =>
  intro q k'
  generalize hx:x.id=i at k'
  cases k' with
  | root m' e'=>rfl
  | @step x' p' m' kp' =>
   have:=zGH h.nd m m' hx
   subst this
   exact absurd e (kp'.nz hz)
 | @step x p m kp ih =>
  intro q k'
  generalize hx:x.id=i at k'
  cases k' with
  | @root x' m' e' =>
   have:=zGH h.nd m m' hx
   subst this
   exact absurd e' (kp.nz hz)
  | @step x' p' m' kp' =>
   have:=zGH h.nd m m' hx
   subst this
   rw[ih kp']
theorem Pth.ex {E:List El}(h:Set1 E):∀ (n:Nat) (x:El),x∈E→x.id.c≤n → ∃ p,Pth E x.id p
 | 0,x,hx,hn=>absurd (h.ct x hx).2 (by omega)
 | n+1,x,hx,hn=>by
  rcases h.rt x hx with e | ⟨y,hy,e⟩
  ·exact⟨_,.root hx e⟩
  ·have hc:=h.ct x hx
   obtain⟨p,hp⟩:=Pth.ex h n y hy (by rw[e];omega)
   rw[e] at hp
   exact⟨_,.step hx hp⟩
theorem Set1.path {E:List El}(h:Set1 E){x:El}(hx:x∈E):∃ p,Pth E x.id p:=Pth.ex h x.id.c.toNat x hx (by have:=h.ct x hx;omega)
theorem Pth.grow {E:List El}(h:∀ x∈E,x.af.c<x.id.c){x:Eid}{p:List Eid}(k:Pth E x p):∀ y∈p,y.c≤x.c:=by
 induction k with
 | root m e=>intro y hy;rw[List.mem_singleton] at hy;subst hy;exact Int.le_refl _
 | @step x p m kp ih =>
  intro y hy
  rcases List.mem_append.1 hy with hy | hy
  ·have:=ih y hy
   have:=h _ m
   omega
  ·rw[List.mem_singleton] at hy;subst hy;exact Int.le_refl _
def Ah (E:List El)(x y:El):Prop:=∃ p q,Pth E x.id p∧Pth E y.id q∧ahd p q
theorem Ah.irr {E:List El}(h:Set1 E)(x:El):¬Ah E x x:=fun⟨p,q,hp,hq,k⟩=>by
 rw[hp.fn h hq] at k
 exact zD3 _ k
theorem Ah.trans {E:List El}(h:Set1 E){x y z:El}(h1:Ah E x y)(h2:Ah E y z):Ah E x z:=by
 obtain⟨p,q,hp,hq,k⟩:=h1
 obtain⟨q',r,hq',hr,k'⟩:=h2
 rw[hq'.fn h hq] at k'
 exact⟨p,r,hp,hr,zC0 k k'⟩
theorem Ah.mono {E F:List El}(h:∀ x∈E,x∈F){x y:El}(k:Ah E x y):Ah F x y:=by
 obtain⟨p,q,hp,hq,k⟩:=k
 exact⟨p,q,hp.mono h,hq.mono h,k⟩
structure Txt (E:List El):Prop where
 s1:Set1 E
 pw:E.Pairwise (Ah E)
theorem zPE {α:Type}{R:α→α→Prop}:∀ {l m:List α},(∀ x y,R x y → ¬R y x)→l.Pairwise R→m.Pairwise R→(∀ x,x∈l↔x∈m)→l=m
 | [],[],_,_,_,_=>rfl
 | [],b::m,_,_,_,h=>absurd ((h b).2 List.mem_cons_self) (by simp)
 | a::l,[],_,_,_,h=>absurd ((h a).1 List.mem_cons_self) (by simp)
 | a::l,b::m,hR,hl,hm,h=>by
  have hl':=List.pairwise_cons.1 hl
  have hm':=List.pairwise_cons.1 hm
  have e:a=b:=by
   rcases List.mem_cons.1 ((h a).1 List.mem_cons_self) with e | ha
   ·exact e
   ·rcases List.mem_cons.1 ((h b).2 List.mem_cons_self) with e | hb
    ·exact e.symm
    ·exact absurd (hm'.1 a ha) (hR _ _ (hl'.1 b hb))
  subst e
  rw[zPE hR hl'.2 hm'.2 fun x=>?_]
  have na:a ∉ l:=fun k=>(hR _ _ (hl'.1 a k)) (hl'.1 a k)
  have nb:a ∉ m:=fun k=>(hR _ _ (hm'.1 a k)) (hm'.1 a k)
  have hx:=h x
  simp only[List.mem_cons] at hx
  by_cases k:x=a
  ·subst k;exact⟨fun k=>absurd k na,fun k=>absurd k nb⟩
  ·simpa [k] using hx
theorem Txt.eq {E F:List El}(hE:Txt E)(hF:Txt F)(h:∀ x,x∈E↔x∈F):E=F:=by
 refine zPE (R:=Ah E) (fun x y h1 h2=>Ah.irr hE.s1 x (Ah.trans hE.s1 h1 h2)) hE.pw (hF.pw.imp fun k=>k.mono fun x=>(h x).2) h
theorem Txt.nil:Txt []:=⟨⟨List.nodup_nil,fun _ h=>absurd h (by simp),fun _ h=>absurd h (by simp)⟩,.nil⟩
theorem Txt.filter {E:List El}(hE:Txt E)(f:El→Bool)(hf:∀ x∈E,∀ y∈E,f x=true→y.id=x.af→f y=true):Txt (E.filter f):=by
 have hs:Set1 (E.filter f):=by
  refine⟨?_,fun x hx=>hE.s1.ct x (List.mem_filter.1 hx).1,fun x hx=>?_⟩
  ·exact(hE.s1.nd.sublist (List.Sublist.map _ List.filter_sublist))
  ·obtain⟨h1,h2⟩:=List.mem_filter.1 hx
   rcases hE.s1.rt x h1 with e | ⟨y,hy,e⟩
   ·exact .inl e
   ·exact .inr ⟨y,List.mem_filter.2 ⟨hy,hf x h1 y hy h2 e⟩,e⟩
 refine⟨hs, ?_⟩
 have h1:=hE.pw.sublist (List.filter_sublist (p:=f))
 refine List.Pairwise.imp_of_mem (fun {a b} ha hb k=>?_) h1
 obtain⟨p,q,hp,hq,k⟩:=k
 obtain⟨p',hp'⟩:=hs.path ha
 obtain⟨q',hq'⟩:=hs.path hb
 rw[(hp'.mono fun x hx=>(List.mem_filter.1 hx).1).fn hE.s1 hp] at hp'
 rw[(hq'.mono fun x hx=>(List.mem_filter.1 hx).1).fn hE.s1 hq] at hq'
 exact⟨p,q,hp',hq',k⟩
theorem zJP (p:List Eid):¬ahd p []:=by
 cases p <;> exact fun h=>h
theorem zBK {α:Type}(l:List α):l=[] ∨ ∃ q b,l=q++[b]:=by
 rcases List.eq_nil_or_concat l with h | ⟨q,b,h⟩
 ·exact .inl h
 ·exact .inr ⟨q,b,by rw[h,List.concat_eq_append]⟩
def popT (af:Eid):List Eid→Eid→Eid × List Eid
 | [],el=>(el,[])
 | t::s,el=>if t=af then (el,t::s) else popT af s t
def ordS (x:Eid × Eid)(s seen:List Eid):Bool:=!((decide ((popT x.2 s Eid.z).2=[]) && !decide (x.2=Eid.z)) || (!decide ((popT x.2 s Eid.z).1=Eid.z) && !x.1.less (popT x.2 s Eid.z).1) || decide (x.1∈seen))
def stk (l:List (Eid × Eid)):List Eid:=l.foldl (fun s x=>x.1::(popT x.2 s Eid.z).2) []
theorem zBV (l:List (Eid × Eid))(x:Eid × Eid):stk (l++[x])=x.1::(popT x.2 (stk l) Eid.z).2:=by simp [stk]
def Ord (l:List (Eid × Eid)):Prop:=∀ pre x post,l=pre++x::post→ordS x (stk pre) (pre.map (·.1))=true
theorem Ord.nil:Ord []:=fun pre x post h=>absurd h (by simp)
theorem Ord.pre {l m:List (Eid × Eid)}(h:Ord (l++m)):Ord l:=fun pre x post e=>h pre x (post++m) (by rw[e];simp)
theorem Ord.snoc {l:List (Eid × Eid)}{x:Eid × Eid}(h:Ord l)(k:ordS x (stk l) (l.map (·.1))=true):Ord (l++[x]):=by
 intro pre y post e
 rcases zBK post with rfl | ⟨q,b,rfl⟩
 ·have:=List.append_inj' e rfl
  obtain⟨rfl,h2⟩:=this
  injection h2 with h2
  subst h2
  exact k
 ·have e':l++[x]=(pre++y::q)++[b]:=by rw[e];simp
  exact h pre y q (List.append_inj' e' rfl).1
theorem zEE {af:Eid}:∀ {m:List Eid} {q:List Eid} {el:Eid},(∀ t∈m,t≠af)→(q=[] ∨ ∃ t,q=af::t)→popT af (m++q) el=(m.getLast?.getD el,q)
 | [],q,el,_,hq=>by
  rcases hq with rfl | ⟨t,rfl⟩
  ·rfl
  ·show popT af (af::t) el=_
   rw[popT,if_pos rfl];rfl
 | a::m,q,el,hm,hq=>by
  rw[List.cons_append,popT,if_neg (hm a List.mem_cons_self),zEE (fun t ht=>hm t (List.mem_cons_of_mem _ ht)) hq]
  cases m with
  | nil=>rfl
  | cons b m=>simp [List.getLast?_cons]
theorem zNN (af:Eid):∀ s:List Eid,∃ m q,s=m++q∧(∀ t∈m,t≠af)∧(q=[] ∨ ∃ t,q=af::t)
 | []=>⟨[],[],rfl,(fun _ h=>absurd h (by simp)),.inl rfl⟩
 | a::s=>by
  by_cases h:a=af
  ·subst h
   exact⟨[],a::s,rfl,(fun _ h=>absurd h (by simp)),.inr ⟨s,rfl⟩⟩
  ·obtain⟨m,q,rfl,hm,hq⟩:=zNN af s
   exact⟨a::m,q,rfl,fun t ht=>(List.mem_cons.1 ht).elim (fun e=>e ▸ h) (hm t),hq⟩
def prs (E:List El):List (Eid × Eid):=E.map fun x=>(x.id,x.af)
theorem zL1 (E:List El):(prs E).map (·.1)=E.map (·.id):=by simp [prs]
theorem Txt.ins {A R B:List El}(h:Txt (A++B))(hs:Set1 (A++R++B))(h1:∀ a∈A,∀ r∈R,Ah (A++R++B) a r)(h2:R.Pairwise (Ah (A++R++B)))(h3:∀ r∈R,∀ b∈B,Ah (A++R++B) r b):Txt (A++R++B):=by
 refine⟨hs, ?_⟩
 have hm:∀ x∈A++B,x∈A++R++B:=fun x hx=>by
  rcases List.mem_append.1 hx with h | h
  ·exact List.mem_append.2 (.inl (List.mem_append.2 (.inl h)))
  ·exact List.mem_append.2 (.inr h)
 have hp:=h.pw.imp (fun k=>Ah.mono hm k)
 obtain⟨pA,pB,pAB⟩:=List.pairwise_append.1 hp
 refine List.pairwise_append.2 ⟨List.pairwise_append.2 ⟨pA,h2,h1⟩,pB,fun a ha b hb=>?_⟩
 rcases List.mem_append.1 ha with ha | ha
 ·exact pAB a ha b hb
 ·exact h3 a ha b hb
def Stk (E:List El)(s:List Eid):Prop:=(E=[]∧s=[]) ∨ ∃ E' y,E=E'++[y]∧Pth E y.id s.reverse
theorem zAR {α:Type}{P:List α→Prop}(h0:P [])(h1:∀ l x,P l→P (l++[x]))(l:List α):P l:=by
 suffices h:∀ n (l:List α),l.length=n→P l from h _ l rfl
 intro n
 induction n with
 | zero=>intro l hl;rw[List.eq_nil_of_length_eq_zero hl];exact h0
 | succ n ih =>
  intro l hl
  rcases zBK l with rfl | ⟨q,b,rfl⟩
  ·exact h0
  ·exact h1 q b (ih q (by simpa using hl))
theorem Stk.pos {E:List El}{s:List Eid}(hs:Set1 E)(h:Stk E s):∀ t∈s,t≠Eid.z:=by
 rcases h with⟨_,rfl⟩ | ⟨E',y,rfl,hp⟩
 ·exact fun _ h=>absurd h (by simp)
 ·intro t ht
  obtain⟨q,r,e⟩:=List.append_of_mem (List.mem_reverse.2 ht)
  exact(hp.pre e).nz fun x hx=>(hs.ct x hx).2
theorem zO9 (E:List El):(∀ x∈E,x.af.c<x.id.c∧0<x.id.c)→Ord (prs E)→Txt E∧Stk E (stk (prs E)):=by
 refine zAR (P:=fun E=>(∀ x∈E,x.af.c<x.id.c∧0<x.id.c)→Ord (prs E)→Txt E∧Stk E (stk (prs E))) (fun _ _=>⟨Txt.nil,.inl ⟨rfl,rfl⟩⟩) (fun E x ih hc ho=>?_) E
 have he:prs (E++[x])=prs E++[(x.id,x.af)]:=by simp [prs]
 rw[he] at ho ⊢
 obtain⟨hT,hS⟩:=ih (fun y hy=>hc y (List.mem_append_left _ hy)) ho.pre
 have hx:=hc x (List.mem_append_right _ List.mem_cons_self)
 have hst:=ho (prs E) (x.id,x.af) [] rfl
 obtain⟨m,q,hmq,hm,hq⟩:=zNN x.af (stk (prs E))
 have hpe:=zEE (el:=Eid.z) hm hq
 rw[← hmq] at hpe
 unfold ordS at hst
 rw[hpe,zL1] at hst
 simp only[Bool.not_eq_true',Bool.or_eq_false_iff,Bool.and_eq_false_iff,Bool.not_eq_false',decide_eq_false_iff_not,decide_eq_true_eq] at hst
 obtain⟨⟨h1,h2⟩,h3⟩:=hst
 rw[zBV,hpe]
 have hmem:∀ y∈E,y∈E++[x]:=fun y hy=>List.mem_append_left _ hy
 have hxm:x∈E++[x]:=List.mem_append_right _ List.mem_cons_self
 have hpos:=hS.pos hT.s1
 -- the path of the new one
 have hrt:x.af=Eid.z ∨ ∃ y∈E,y.id=x.af:=by
  rcases hq with rfl | ⟨t,rfl⟩
  ·rcases h1 with h1 | h1
   ·exact absurd rfl h1
   ·exact .inl h1
  ·rcases hS with⟨_,h⟩ | ⟨E',y,rfl,hp⟩
   ·rw[h] at hmq
    exact absurd hmq.symm (by simp)
   ·rw[hmq] at hp
    exact .inr (hp.pre (q:=t.reverse) (y:=x.af) (r:=m.reverse) (by simp)).mem
 have hs1:Set1 (E++[x]):=by
  refine⟨?_,hc,fun y hy=>?_⟩
  ·rw[List.map_append,List.nodup_append]
   refine⟨hT.s1.nd,by simp,fun a ha b hb e=>?_⟩
   simp at hb
   subst hb
   subst e
   exact h3 ha
  ·rcases List.mem_append.1 hy with hy | hy
   ·rcases hT.s1.rt y hy with e | ⟨w,hw,e⟩
    ·exact .inl e
    ·exact .inr ⟨w,hmem w hw,e⟩
   ·rw[List.mem_singleton] at hy;subst hy
    rcases hrt with e | ⟨w,hw,e⟩
    ·exact .inl e
    ·exact .inr ⟨w,hmem w hw,e⟩
 have hpx:Pth (E++[x]) x.id (x.id::q).reverse:=by
  rcases hq with rfl | ⟨t,rfl⟩
  ·rcases h1 with h1 | h1
   ·exact absurd rfl h1
   ·exact .root hxm h1
  ·rcases hS with⟨_,h⟩ | ⟨E',y,rfl,hp⟩
   ·rw[h] at hmq
    exact absurd hmq.symm (by simp)
   ·rw[hmq] at hp
    have:=hp.pre (q:=t.reverse) (y:=x.af) (r:=m.reverse) (by simp)
    have:=Pth.step hxm (this.mono hmem)
    simpa using this
 refine⟨?_,.inr ⟨E,x,rfl,hpx⟩⟩
 have hT':Txt (E++[]):=by rw[List.append_nil];exact hT
 have:=hT'.ins (R:=[x]) (by rw[List.append_nil];exact hs1) (fun a ha r hr=>?_) (List.pairwise_singleton _ _) (fun r hr b hb=>absurd hb (by simp))
 ·rwa [List.append_nil] at this
 ·rw[List.mem_singleton] at hr;subst hr
  rw[List.append_nil]
  rcases hS with⟨rfl,h⟩ | ⟨E',y,rfl,hp⟩
  ·exact absurd ha (by simp)
  ·have hyx:Ah (E'++[y]++[r]) y r:=by
    refine⟨_,_,hp.mono hmem,hpx, ?_⟩
    rw[hmq,List.reverse_append,List.reverse_cons]
    rcases zBK m with rfl | ⟨m',e,rfl⟩
    ·rw[List.reverse_nil,List.append_nil];exact zBZ _ _ _
    ·rw[List.reverse_append]
     have hle:(m'++[e]).getLast?.getD Eid.z=e:=by simp
     rw[hle] at h2
     have hez:e≠Eid.z:=hpos e (by rw[hmq];simp)
     rcases h2 with h2 | h2
     ·exact absurd h2 hez
     ·exact zG2 _ _ _ h2
   rcases List.mem_append.1 ha with ha | ha
   ·have:=(List.pairwise_append.1 hT.pw).2.2 a ha y List.mem_cons_self
    exact(this.mono hmem).trans hs1 hyx
   ·rw[List.mem_singleton] at ha;subst ha;exact hyx
theorem zDX:∀ {c p q:List Eid},ahd (c++p) (c++q)→ahd p q
 | [],_,_,h=>h
 | a::c,p,q,h=>by
  rcases h with h | ⟨_,h⟩
  ·rw[zDP] at h;cases h
  ·exact zDX h
theorem Txt.pre {E:List El}{x:El}(h:Txt (E++[x])):Txt E:=by
 have hmem:∀ y∈E,y∈E++[x]:=fun y hy=>List.mem_append_left _ hy
 have hxm:x∈E++[x]:=List.mem_append_right _ List.mem_cons_self
 have hp:=List.pairwise_append.1 h.pw
 have hcl:∀ y∈E,y.af≠x.id:=fun y hy e=>by
  have h1:=hp.2.2 y hy x List.mem_cons_self
  obtain⟨p,hpx⟩:=h.s1.path hxm
  have hpx':=hpx
  rw[← e] at hpx'
  have h2:Ah (E++[x]) x y:=⟨_,_,hpx,.step (hmem y hy) hpx',zBZ _ _ _⟩
  exact Ah.irr h.s1 x (h2.trans h.s1 h1)
 have hs:Set1 E:=by
  refine⟨?_,fun y hy=>h.s1.ct y (hmem y hy),fun y hy=>?_⟩
  ·have:=h.s1.nd
   rw[List.map_append,List.nodup_append] at this
   exact this.1
  ·rcases h.s1.rt y (hmem y hy) with e | ⟨w,hw,e⟩
   ·exact .inl e
   ·rcases List.mem_append.1 hw with hw | hw
    ·exact .inr ⟨w,hw,e⟩
    ·rw[List.mem_singleton] at hw;subst hw
     exact absurd e.symm (hcl y hy)
 refine⟨hs,List.Pairwise.imp_of_mem (fun {a b} ha hb k=>?_) hp.1⟩
 obtain⟨p,q,k1,k2,k⟩:=k
 obtain⟨p',hp'⟩:=hs.path ha
 obtain⟨q',hq'⟩:=hs.path hb
 rw[(hp'.mono hmem).fn h.s1 k1] at hp'
 rw[(hq'.mono hmem).fn h.s1 k2] at hq'
 exact⟨p,q,hp',hq',k⟩
theorem zOK (E:List El):Txt E→Ord (prs E)∧Stk E (stk (prs E)):=by
 refine zAR (P:=fun E=>Txt E→Ord (prs E)∧Stk E (stk (prs E))) (fun _=>⟨Ord.nil,.inl ⟨rfl,rfl⟩⟩) (fun E x ih hT=>?_) E
 have he:prs (E++[x])=prs E++[(x.id,x.af)]:=by simp [prs]
 rw[he]
 have hE:=hT.pre
 obtain⟨hO,hS⟩:=ih hE
 have hmem:∀ y∈E,y∈E++[x]:=fun y hy=>List.mem_append_left _ hy
 have hxm:x∈E++[x]:=List.mem_append_right _ List.mem_cons_self
 have hpos:=hS.pos hE.s1
 have hps:=List.pairwise_append.1 hT.pw
 have hnx:x.id ∉ E.map (·.id):=by
  have:=hT.s1.nd
  rw[List.map_append,List.nodup_append] at this
  exact fun k=>this.2.2 _ k x.id (by simp) rfl
 have key:∃ m q,stk (prs E)=m++q∧(∀ t∈m,t≠x.af)∧((q=[]∧x.af=Eid.z) ∨ ∃ t,q=x.af::t)∧(m=[]∨x.id.less (m.getLast?.getD Eid.z)=true)∧Pth (E++[x]) x.id (q.reverse++[x.id]):=by
  rcases hT.s1.rt x hxm with e | ⟨w,hw,e⟩
  ·refine⟨stk (prs E),[],by simp,fun t ht=>e ▸ hpos t ht,.inl ⟨rfl,e⟩, ?_,.root hxm e⟩
   rcases hS with⟨rfl,h⟩ | ⟨E',y,rfl,hp⟩
   ·exact .inl h
   ·right
    obtain⟨p,q,k1,k2,k⟩:=hps.2.2 y (List.mem_append_right _ List.mem_cons_self) x List.mem_cons_self
    rw[(hp.mono hmem).fn hT.s1 k1 |>.symm,k2.fn hT.s1 (.root hxm e)] at k
    generalize stk (prs (E'++[y]))=s at *
    rcases zBK s with rfl | ⟨s',a,rfl⟩
    ·obtain⟨z,hz⟩:=hp.last
     exact absurd hz (by simp)
    ·rw[List.reverse_append] at k
     simp only[List.reverse_cons,List.reverse_nil,List.nil_append,List.singleton_append] at k
     rcases k with k | ⟨_,k⟩
     ·simpa using k
     ·exact absurd k (zJP _)
  ·have hwE:w∈E:=by
    rcases List.mem_append.1 hw with h | h
    ·exact h
    ·rw[List.mem_singleton] at h;subst h
     have:=hT.s1.ct w hxm
     rw[e] at this
     omega
   obtain⟨pw,hpw⟩:=hT.s1.path hw
   have hpx:Pth (E++[x]) x.id (pw++[x.id]):=.step hxm (e ▸ hpw)
   rcases hS with⟨rfl,h⟩ | ⟨E',y,rfl,hp⟩
   ·exact absurd hwE (by simp)
   ·have hyx:=hps.2.2 y (List.mem_append_right _ List.mem_cons_self) x List.mem_cons_self
    obtain⟨p,q,k1,k2,k⟩:=hyx
    rw[(hp.mono hmem).fn hT.s1 k1 |>.symm,k2.fn hT.s1 hpx] at k
    have hpm:=hp.mono hmem
    generalize hsp:stk (prs (E'++[y]))=s at *
    have hpre:∃ r,s.reverse=pw++r:=by
     rcases List.mem_append.1 hwE with h | h
     ·obtain⟨p',q',j1,j2,j⟩:=(List.pairwise_append.1 hE.pw).2.2 w h y List.mem_cons_self
      rw[(j1.mono hmem).fn hT.s1 hpw,(j2.mono hmem).fn hT.s1 hpm] at j
      rcases zFA j with⟨b,r,e2⟩ | ⟨c,a,b,s1,t1,e1,e2,hl⟩
      ·exact⟨_,e2⟩
      ·rw[e1,e2,List.append_assoc] at k
       have k:=zDX k
       rcases k with k | ⟨k,_⟩
       ·rw[zKO hl] at k;cases k
       ·rw[k,zDP] at hl;cases hl
     ·rw[List.mem_singleton] at h;subst h
      exact⟨[],by rw[hpm.fn hT.s1 hpw];simp⟩
    obtain⟨r,hr⟩:=hpre
    obtain⟨p0,hp0⟩:=hpw.last
    rw[e] at hp0
    have hs:s=r.reverse++pw.reverse:=by rw[← List.reverse_append,← hr,List.reverse_reverse]
    refine⟨r.reverse,pw.reverse,hs,fun t ht et=>?_,.inr ⟨p0.reverse,by rw[hp0];simp⟩, ?_,by rw[List.reverse_reverse];exact hpx⟩
    ·subst et
     obtain⟨a1,b1,e1⟩:=List.append_of_mem (List.mem_reverse.1 ht)
     have g1:=hpm.pre (q:=p0) (y:=x.af) (r:=r) (by rw[hr,hp0];simp)
     have g2:=hpm.pre (q:=pw++a1) (y:=x.af) (r:=b1) (by rw[hr,e1];simp)
     have g3:=congrArg List.length (g1.fn hT.s1 g2)
     rw[hp0] at g3
     simp at g3
    ·rw[hr] at k
     cases r with
     | nil=>exact .inl rfl
     | cons a r =>
      right
      have k:=zDX k
      rcases k with k | ⟨_,k⟩
      ·simpa using k
      ·exact absurd k (zJP _)
 obtain⟨m,q,hmq,hm,hq,hl,hp⟩:=key
 have hpe:=zEE (el:=Eid.z) (q:=q) hm (hq.elim (fun h => .inl h.1) .inr)
 rw[← hmq] at hpe
 refine⟨hO.snoc ?_, ?_⟩
 ·unfold ordS
  rw[hpe,zL1]
  simp only[Bool.not_eq_true',Bool.or_eq_false_iff,Bool.and_eq_false_iff,Bool.not_eq_false',decide_eq_false_iff_not,decide_eq_true_eq]
  refine⟨⟨?_, ?_⟩,hnx⟩
  ·rcases hq with⟨_,h⟩ | ⟨t,rfl⟩
   ·exact .inr h
   ·exact .inl (by simp)
  ·rcases hl with rfl | h
   ·exact .inl rfl
   ·exact .inr h
 ·rw[zBV,hpe]
  exact .inr ⟨E,x,rfl,by simpa using hp⟩
theorem zL0 {E:List El}(h:∀ x∈E,x.af.c<x.id.c∧0<x.id.c):Ord (prs E)↔Txt E:=⟨fun k=>(zO9 E h k).1,fun k=>(zOK E k).1⟩
def Chn:Eid→List El→Prop
 | _,[]=>True
 | a,x::R=>x.af=a∧a.c<x.id.c∧Chn x.id R
theorem Chn.path {F:List El}:∀ {R:List El} {a:Eid} {p:List Eid},Chn a R→(∀ x∈R,x∈F)→((a=Eid.z∧p=[])∨Pth F a p) → ∀ x∈R,∃ q,Pth F x.id (p++q) ∧ ∀ y R',R=y::R' → ∃ q',q=y.id::q'
 | [],_,_,_,_,_=>fun x hx=>absurd hx (by simp)
 | y::R,a,p,hC,hm,ha=>by
  intro x hx
  obtain⟨h1,h2,h3⟩:=hC
  have hy:Pth F y.id (p++[y.id]):=by
   exact zB0D
  rcases List.mem_cons.1 hx with rfl | hx
  ·exact⟨[x.id],hy,fun y' R' e=>by injection e with e1 e2;subst e1;exact⟨[],rfl⟩⟩
  ·obtain⟨q,hq,_⟩:=Chn.path h3 (fun x hx=>hm x (List.mem_cons_of_mem _ hx)) (.inr hy) x hx
   rw[List.append_assoc] at hq
   exact⟨_,hq,fun y' R' e=>by injection e with e1 e2;subst e1;exact⟨q,rfl⟩⟩
theorem Chn.pw {F:List El}:∀ {R:List El} {a:Eid} {p:List Eid},Chn a R→(∀ x∈R,x∈F)→((a=Eid.z∧p=[])∨Pth F a p)→R.Pairwise (Ah F)
 | [],_,_,_,_,_ => .nil
 | y::R,a,p,hC,hm,ha=>by
  obtain⟨h1,h2,h3⟩:=hC
  have hy:Pth F y.id (p++[y.id]):=by
   exact zB0D
  refine List.pairwise_cons.2 ⟨fun x hx=>?_,Chn.pw h3 (fun x hx=>hm x (List.mem_cons_of_mem _ hx)) (.inr hy)⟩
  obtain⟨q,hq,hh⟩:=Chn.path h3 (fun x hx=>hm x (List.mem_cons_of_mem _ hx)) (.inr hy) x hx
  cases R with
  | nil=>exact absurd hx (by simp)
  | cons w R =>
   obtain⟨q',rfl⟩:=hh w R rfl
   exact⟨_,_,hy,hq,zBZ _ _ _⟩
theorem Chn.grow:∀ {R:List El} {a:Eid},Chn a R → ∀ x∈R,a.c<x.id.c
 | [],_,_=>fun x hx=>absurd hx (by simp)
 | y::R,a,hC=>fun x hx=>by
  obtain⟨h1,h2,h3⟩:=hC
  rcases List.mem_cons.1 hx with rfl | hx
  ·exact h2
  ·have:=h3.grow x hx
   omega
theorem Chn.ct:∀ {R:List El} {a:Eid},Chn a R→0≤a.c → ∀ x∈R,x.af.c<x.id.c∧0<x.id.c
 | [],_,_,_=>fun x hx=>absurd hx (by simp)
 | y::R,a,hC,ha=>fun x hx=>by
  obtain⟨h1,h2,h3⟩:=hC
  rcases List.mem_cons.1 hx with rfl | hx
  ·rw[h1];omega
  ·exact h3.ct (by omega) x hx
theorem Chn.rt:∀ {R:List El} {a:Eid},Chn a R → ∀ x∈R,x.af=a ∨ ∃ y∈R,y.id=x.af
 | [],_,_=>fun x hx=>absurd hx (by simp)
 | y::R,a,hC=>fun x hx=>by
  obtain⟨h1,h2,h3⟩:=hC
  rcases List.mem_cons.1 hx with rfl | hx
  ·exact .inl h1
  ·rcases h3.rt x hx with e | ⟨w,hw,e⟩
   ·exact .inr ⟨y,List.mem_cons_self,e.symm⟩
   ·exact .inr ⟨w,List.mem_cons_of_mem _ hw,e⟩
theorem Chn.nd:∀ {R:List El} {a:Eid},Chn a R→(R.map (·.id)).Nodup
 | [],_,_=>List.nodup_nil
 | y::R,a,hC=>by
  obtain⟨h1,h2,h3⟩:=hC
  rw[List.map_cons,List.nodup_cons]
  refine⟨fun h=>?_,h3.nd⟩
  obtain⟨x,hx,e⟩:=List.mem_map.1 h
  have:=h3.grow x hx
  rw[e] at this
  omega
theorem Txt.put {A0 A1 B R:List El}{r:El}{R':List El}(hT:Txt (A0++A1++B))(hR:R=r::R')(hC:Chn r.af R)
  (ha:(r.af=Eid.z∧A0=[]) ∨ ∃ A00 w,A0=A00++[w]∧w.id=r.af)
  (hf:∀ x∈R,∀ y∈A0++A1++B,x.id≠y.id)
  (h1:∀ x∈A1,r.id.less x.id=true)
  (h2:∀ b B',B=b::B'→r.id.less b.id=false):Txt (A0++A1++R++B):=by
 have hrc:0≤r.af.c:=by
  rcases ha with⟨h,_⟩ | ⟨A00,w,rfl,h⟩
  ·rw[h];decide
  ·have:=(hT.s1.ct w (by simp)).2
   rw[h] at this
   omega
 have hrm:r∈R:=by rw[hR];exact List.mem_cons_self
 have hm:∀ x∈A0++A1++B,x∈A0++A1++R++B:=fun x hx=>by
  rcases List.mem_append.1 hx with h | h
  ·exact List.mem_append_left _ (List.mem_append_left _ h)
  ·exact List.mem_append_right _ h
 have hmR:∀ x∈R,x∈A0++A1++R++B:=fun x hx=>List.mem_append_left _ (List.mem_append_right _ hx)
 have hs:Set1 (A0++A1++R++B):=by
  refine⟨?_,fun x hx=>?_,fun x hx=>?_⟩
  ·have hn:=hT.s1.nd
   have hd:∀ x∈R,x.id ∉ (A0++A1++B).map (·.id):=fun x hx k=>by
    obtain⟨y,hy,e⟩:=List.mem_map.1 k
    exact hf x hx y hy e.symm
   rw[List.map_append,List.nodup_append] at hn
   rw[List.map_append,List.map_append,List.nodup_append,List.nodup_append]
   refine⟨⟨hn.1,hC.nd,fun a ha b hb e=>?_⟩,hn.2.1,fun a ha b hb e=>?_⟩
   ·obtain⟨x,hx,rfl⟩:=List.mem_map.1 hb
    subst e
    exact hd x hx (by rw[List.map_append];exact List.mem_append_left _ ha)
   ·rcases List.mem_append.1 ha with ha | ha
    ·exact hn.2.2 a ha b hb e
    ·obtain⟨x,hx,rfl⟩:=List.mem_map.1 ha
     subst e
     exact hd x hx (by rw[List.map_append];exact List.mem_append_right _ hb)
  ·rcases List.mem_append.1 hx with h | h
   ·rcases List.mem_append.1 h with h | h
    ·exact hT.s1.ct x (List.mem_append_left _ h)
    ·exact hC.ct hrc x h
   ·exact hT.s1.ct x (List.mem_append_right _ h)
  ·have old:x∈A0++A1++B→x.af=Eid.z ∨ ∃ y∈A0++A1++R++B,y.id=x.af:=fun h=>by
    rcases hT.s1.rt x h with e | ⟨y,hy,e⟩
    ·exact .inl e
    ·exact .inr ⟨y,hm y hy,e⟩
   rcases List.mem_append.1 hx with h | h
   ·rcases List.mem_append.1 h with h | h
    ·exact old (List.mem_append_left _ h)
    ·rcases hC.rt x h with e | ⟨y,hy,e⟩
     ·rcases ha with⟨h7,_⟩ | ⟨A00,w,rfl,h7⟩
      ·exact .inl (e.trans h7)
      ·exact .inr ⟨w,by simp,h7.trans e.symm⟩
     ·exact .inr ⟨y,hmR y hy,e⟩
   ·exact old (List.mem_append_right _ h)
 -- the path of the one that it names
 have hpa:∃ p,((r.af=Eid.z∧p=[])∨Pth (A0++A1++R++B) r.af p)∧(∀ u∈p,u.c≤r.af.c)∧(∀ x∈A0,∀ q,Pth (A0++A1++R++B) x.id q→q=p∨ahd q p)∧(∀ x∈A1++B,∀ q,Pth (A0++A1++R++B) x.id q→ahd p q):=by
  rcases ha with⟨h,rfl⟩ | ⟨A00,w,rfl,h⟩
  ·refine⟨[],.inl ⟨h,rfl⟩,(fun _ h=>absurd h (by simp)),(fun _ h=>absurd h (by simp)),fun x hx q hq=>?_⟩
   obtain⟨q0,rfl⟩:=hq.last
   cases q0 <;> trivial
  ·have hw:w∈A00++[w]++A1++B:=by simp
   obtain⟨p,hp⟩:=hT.s1.path hw
   have hpF:=hp.mono hm
   have hpw:=hT.pw
   have hpw':(A00++([w]++(A1++B))).Pairwise (Ah (A00++[w]++A1++B)):=by simpa using hpw
   have q1:=List.pairwise_append.1 hpw'
   have q2:=List.pairwise_append.1 q1.2.1
   refine⟨p,.inr (h ▸ hpF),fun u hu=>?_,fun x hx q hq=>?_,fun x hx q hq=>?_⟩
   ·have:=hp.grow (fun x hx=>(hT.s1.ct x hx).1) u hu
    rw[h] at this
    exact this
   ·rcases List.mem_append.1 hx with hx | hx
    ·obtain⟨p1,p2,k1,k2,k⟩:=q1.2.2 x hx w (by simp)
     rw[(k1.mono hm).fn hs hq,(k2.mono hm).fn hs hpF] at k
     exact .inr k
    ·rw[List.mem_singleton] at hx;subst hx
     exact .inl (hq.fn hs hpF)
   ·obtain⟨p1,p2,k1,k2,k⟩:=q2.2.2 w (by simp) x hx
    rw[(k1.mono hm).fn hs hpF,(k2.mono hm).fn hs hq] at k
    exact k
 obtain⟨p,hp,hpc,hA0,hAB⟩:=hpa
 have hCp:=hC.path hmR hp
 have hpr:∀ x∈R,∃ q',Pth (A0++A1++R++B) x.id (p++r.id::q'):=fun x hx=>by
  obtain⟨q,hq,hh⟩:=hCp x hx
  obtain⟨q',rfl⟩:=hh r R' hR
  exact⟨q',hq⟩
 have hrl:r.af.c<r.id.c:=hC.grow r hrm
 refine hT.ins hs (fun a ha x hx=>?_) (hC.pw hmR hp) (fun x hx b hb=>?_)
 ·-- what stands ahead
  obtain⟨q',hq'⟩:=hpr x hx
  have haE:a∈A0++A1++B:=List.mem_append_left _ ha
  obtain⟨pa,hpa⟩:=hs.path (hm a haE)
  refine⟨_,_,hpa,hq', ?_⟩
  rcases List.mem_append.1 ha with ha | ha
  ·rcases hA0 a ha pa hpa with rfl | k
   ·exact zBZ _ _ _
   ·exact zC0 k (zBZ _ _ _)
  ·-- those behind it that are greater
   have mid:∀ e:Eid,∀ pe,Pth (A0++A1++R++B) e pe→ahd p pe→(pe=pa∨ahd pe pa)→(∃ y∈A0++A1++B,y.id=e)→r.id.less e=true:=by
    rintro e pe hpe k1 k2 ⟨y,hy,rfl⟩
    rcases List.mem_append.1 hy with hy | hy
    ·rcases List.mem_append.1 hy with hy | hy
     ·rcases hA0 y hy pe hpe with rfl | k
      ·exact absurd k1 (zD3 _)
      ·exact absurd (zC0 k k1) (zD3 _)
     ·exact h1 y hy
    ·have hAh:=(List.pairwise_append.1 hT.pw).2.2 a (List.mem_append_right _ ha) y hy
     obtain⟨p1,p2,j1,j2,j⟩:=hAh
     rw[(j1.mono hm).fn hs hpa,(j2.mono hm).fn hs hpe] at j
     rcases k2 with rfl | k2
     ·exact absurd j (zD3 _)
     ·exact absurd (zC0 j k2) (zD3 _)
   -- a path of a: over elements of the old ones
   obtain⟨pa',hpa'⟩:=hT.s1.path haE
   have hpaE:pa'=pa:=(hpa'.mono hm).fn hs hpa
   subst hpaE
   have k:=hAB a (List.mem_append_left _ ha) _ hpa
   rcases zFA k with⟨e,t,he⟩ | ⟨c,u,w,s,t,e1,e2,hl⟩
   ·have hpe:=hpa'.pre he
    have hle:r.id.less e=true:=mid e _ (hpe.mono hm) (zBZ _ _ _) (by
     cases t with
     | nil=>exact .inl he.symm
     | cons b t=>rw[he];exact .inr (by have:=zBZ (p++[e]) b t;simpa using this)) hpe.mem
    rw[he]
    exact zG2 _ _ _ hle
   ·have hpe:=hpa'.pre e2
    have hle:r.id.less w=true:=mid w _ (hpe.mono hm) (by rw[e1];exact zG2 _ _ _ hl) (by
     cases t with
     | nil=>exact .inl e2.symm
     | cons b t=>rw[e2];exact .inr (by have:=zBZ (c++[w]) b t;simpa using this)) hpe.mem
    have:=zKP hle
    have:=zKP hl
    have:=hpc u (by rw[e1];simp)
    omega
 ·-- what stands behind
  obtain⟨q',hq'⟩:=hpr x hx
  cases B with
  | nil=>exact absurd hb (by simp)
  | cons b0 B' =>
   have hb0:Ah (A0++A1++R++b0::B') x b0:=by
    have hbm:b0∈A0++A1++b0::B':=by simp
    obtain⟨pb,hpb⟩:=hT.s1.path hbm
    refine⟨_,_,hq',hpb.mono hm, ?_⟩
    have k:=hAB b0 (by simp) _ (hpb.mono hm)
    have hlt:b0.id.less r.id=true:=by
     rcases zI8 (hf r hrm b0 hbm) with h | h
     ·rw[h2 b0 B' rfl] at h;cases h
     ·exact h
    rcases zFA k with⟨e,t,he⟩ | ⟨c,u,w,s,t,e1,e2,hl⟩
    ·rw[he]
     refine zG2 _ _ _ ?_
     rcases zBK t with rfl | ⟨t',z,rfl⟩
     ·obtain⟨q0,e0⟩:=hpb.last
      rw[he] at e0
      have:=(List.append_inj' e0 rfl).2
      injection this with this
      rw[this];exact hlt
     ·have hpe:=hpb.pre he
      obtain⟨q0,e0⟩:=hpb.last
      have he2:pb=(p++e::t')++[z]:=by rw[he];simp
      rw[he2] at e0
      have e3:=(List.append_inj' e0 rfl).2
      injection e3 with e3
      subst e3
      -- the one ahead of the last one of a path is lesser
      have hlast:e.c<b0.id.c:=by
       rw[he2] at hpb
       generalize hbi:b0.id=i at hpb
       generalize hpp:(p++e::t')++[i]=pp at hpb
       cases hpb with
       | root m e4=>exact absurd (congrArg List.length hpp) (by simp;omega)
       | @step x0 p0 m kp =>
        have e5:=(List.append_inj' hpp rfl).1
        have g:=kp.grow (fun x hx=>(hT.s1.ct x hx).1) e (by rw[← e5];simp)
        have:=(hT.s1.ct x0 m).1
        omega
      have:=zKP hlt
      exact zGE (by omega)
    ·rw[e1,e2,List.append_assoc,List.cons_append]
     exact zG2 _ _ _ hl
   rcases List.mem_cons.1 hb with rfl | hb
   ·exact hb0
   ·have:=List.pairwise_cons.1 (List.pairwise_append.1 hT.pw).2.1
    exact hb0.trans hs ((this.1 b hb).mono hm)
def zGI (q r:Rn):Bool:=decide (r.af=q.last)&&decide (r.sp.f=(⟨r.af.hd,IntKind.i64.wrap (r.af.c+1)⟩:Eid))
def room (q:Rn):Int:=IntKind.i64.wrap (64 - q.sp.n)
def addR (out : List Rn) (r : Rn) : List Rn :=
  match out.getLast? with
  | none=>out ++ [r]
  | some q=>if zGI q r = true then
      (if r.cutE (room q) = 0 then out.set (out.length - 1) (zC4 q (r.fst (room q))) ++ [r.snd (room q)]
       else if zDK q r = 0 then out.set (out.length - 1) (zC4 q r)
       else out ++ [r])
    else out ++ [r]
def zAJ (l:List Rn):List Rn:=l.foldl addR []
theorem zGF (l:List Rn)(r:Rn):zAJ (l++[r])=addR (zAJ l) r:=by simp [zAJ]
theorem zHQ (out:List Rn)(r:Rn):(addR out r).length≤out.length+1:=by
 unfold addR
 split
 ·simp
 ·split
  ·split
   ·simp
   ·split <;> simp
  ·simp
theorem Rn.z_ok:Rn.z.ok:=⟨⟨Eid.z_ok,by decide,by decide⟩,Eid.z_ok,fun _ h=>by cases h⟩
theorem zCY {a b:Rn}:zDK a b=0↔a.may=true∧b.may=true∧(a.both b).cutE a.sp.n=0∧(a.both b).fst a.sp.n=a∧(a.both b).snd a.sp.n=b:=by
 unfold zDK
 by_cases h:a.may=true∧b.may=true
 ·rw[if_pos h]
  by_cases k:(a.both b).cutE a.sp.n=0∧(a.both b).fst a.sp.n=a∧(a.both b).snd a.sp.n=b
  ·rw[if_pos k];exact⟨fun _=>⟨h.1,h.2,k⟩,fun _=>rfl⟩
  ·rw[if_neg k];exact⟨fun e=>(by cases e),fun e=>absurd e.2.2 k⟩
 ·rw[if_neg h];exact⟨fun e=>(by cases e),fun e=>absurd ⟨e.1,e.2.1⟩ h⟩
theorem zI4 {a b:Rn}(ha:a.ok)(hb:b.ok):(zC4 a b).ok:=by
 unfold zC4
 split
 ·rename_i h
  obtain⟨ma,mb,_⟩:=zCY.1 h
  have ba:=Spn.may_le (Rn.may_sp ma)
  have bb:=Spn.may_le (Rn.may_sp mb)
  refine⟨⟨ha.1.1, ?_⟩,ha.2.1,fun x hx=>?_⟩
  ·show i64R (a.sp.n+b.sp.n)
   unfold i64R;omega
  ·rcases List.mem_append.1 hx with h | h
   ·exact ha.2.2 x h
   ·exact hb.2.2 x h
 ·exact Rn.z_ok
theorem zGD (a b:Rn):(zC4 a b).rs.length≤1000:=by
 unfold zC4
 split
 ·rename_i h
  obtain⟨ma,mb,_⟩:=zCY.1 h
  have ba:=Spn.may_le (Rn.may_sp ma)
  have bb:=Spn.may_le (Rn.may_sp mb)
  have la:=Rn.may_len ma
  have lb:=Rn.may_len mb
  show (a.rs++b.rs).length≤_
  rw[List.length_append];omega
 ·exact Nat.zero_le _
theorem zN7 {r:Rn}{n:Int}(h:r.ok)(hc:r.cutE n=0):(r.fst n).ok:=by
 obtain⟨hm,h0,h1⟩:=Rn.cutE_iff.1 hc
 have hb:=Spn.may_le (Rn.may_sp hm)
 exact⟨⟨h.1.1,by show i64R n;unfold i64R;omega⟩,h.2.1,fun x hx=>h.2.2 x (List.mem_of_mem_take hx)⟩
theorem zNR {r:Rn}{n:Int}(h:r.ok)(hc:r.cutE n=0):(r.snd n).ok:=by
 obtain⟨hm,h0,h1⟩:=Rn.cutE_iff.1 hc
 have hb:=Spn.may_le (Rn.may_sp hm)
 exact⟨⟨⟨h.1.1.1,by show i64R (r.sp.f.c+n);unfold i64R;omega⟩,by show i64R (r.sp.n - n);unfold i64R;omega⟩,⟨h.1.1.1,by show i64R (r.sp.f.c+(n - 1));unfold i64R;omega⟩,fun x hx=>h.2.2 x (List.mem_of_mem_drop hx)⟩
theorem zCZ {a:AV}{l:List Rn}(hS:Sl 10 isRn a l)(hl:l.length≤100000)(hd:∀ r∈l,r.rs.length≤1000000)(hf:l.length+3000000<fuel):∃ r,Sl 10 isRn r (zAJ l) ∧ ∀ M,zCN fuel (d+9) 94 [a] M=some (r,M):=by
 have ll:=hS.len
 refine gc_ex tf94 rfl (fun M=>by simp only[icyL,fun M=>hS.icy M 12 (by omega)]) ?_
 refine call_gc tf94 rfl (by simp only[icyL,fun M=>hS.icy M 12 (by omega)]) (by simp [a94]) fun b' ht hx=>?_
 have h0:=hx 0 _ rfl
 clear hx
 simp only[a94,c94] at ht ⊢
 simp (disch:=try exact SX) only[RV,seval,h0,ll]
 refine w_loop (I:=fun n t N => ∃ (i:Nat) (o:AV),n=l.length - i∧i≤l.length∧nth undefA t 2=o∧nth undefA t 13=a∧nth undefA t 14=I64 l.length∧nth undefA t 15=I64 i∧Wf N∧SlM N 10 isRn o (zAJ (l.take i))∧(zAJ (l.take i)).length≤i∧(∀ q∈zAJ (l.take i),q.rs.length≤1000000)) (n:=l.length) (by omega) ?_ ?_
 ·refine⟨0,NIL,rfl,Nat.zero_le _, ?_, ?_, ?_, ?_,Wf.mem0,SlM.nil,Nat.le_refl 0,(fun _ h=>by cases h)⟩ <;> simp (disch:=try exact SX) only[RV,seval]
  all_goals first | rfl | assumption | done
 ·rintro n t N hlt ⟨i,o,rfl,hi,g2,g13,g14,g15,w,sm,bl,bd⟩
  simp only[ht] at hlt ⊢
  by_cases hc:i<l.length
  ·have q1:decide ((i:Int)<l.length)=true:=DT
   have w1:IntKind.i64.wrap ((i:Int)+1)=((i+1:Nat):Int):=WI
   obtain⟨r,hiad,hr,hrl⟩:=hS.iad i hc
   have hts:=zGF (l.take i) l[i]
   rw[← zAH l i hc] at hts
   have hal:=zHQ (zAJ (l.take i)) l[i]
   have hde:=hd l[i] (List.getElem_mem hc)
   generalize l[i]=e at *
   generalize zAJ (l.take i)=out at *
   obtain⟨ra,rfl,hra,hok⟩:=hr
   have ora:=hra.one
   have olen:=sm.len
   have rlo:∀ m,N.size≤m→((rowsOf o).all fun i=>Nat.blt i m)=true:=fun m h=>rows_lt sm.rl h
   obtain⟨rt,hrt,htw⟩:=zEQ (fuel:=fuel) (d:=d+6) hra (by omega)
   by_cases hz:out.length=0
   ·have ho:out=[]:=List.eq_nil_of_length_eq_zero hz
    subst ho
    have olen':∀ N,lenO N o=some (I64 0,N):=olen
    have w2:IntKind.i64.wrap (-1) = -1:=by decide
    have q2:decide ((0:Int) ≤ -1)=false:=by decide
    have eA:addR [] e=[]++[e]:=rfl
    rw[eA] at hts hal
    simp (disch:=try exact SX) only[RV,seval,fillA,g2,g13,g14,g15,q1,hiad,rlo,olen',w2,htw]
    refine app1 (bytes:=80) (x:=e) ((w.add _).upd _ _) (sm.keep fun j hj=>?_) zB7 ⟨rt,rfl,hrt,hok⟩ rfl (by omega) (by simp) (by simp) fun o' M' sm' w' le' kp nw wm' rl on oc'=>?_
    ·have:=sm.lt j hj
     rw[get_upd_ne (w.add _) _ _ _ (by omega),get_add w _ _ this]
    simp (disch:=try exact SX) only[RV,seval,g2,g13,g14,g15,w1]
    refine⟨hlt,l.length - (i+1),by omega,i+1,o',rfl,by omega,rfl,rfl,w',by rw[hts];exact sm',by rw[hts];simp,fun q hq=>?_⟩
    rw[hts] at hq
    simp at hq
    subst hq
    exact hde
   ·obtain⟨n,hn⟩:∃ n:Nat,out.length=n+1:=⟨out.length - 1,by omega⟩
    have hnl:n<out.length:=by omega
    have w2:IntKind.i64.wrap ((out.length:Int) - 1)=(n:Int):=WI
    have q2:decide ((0:Int)≤(n:Int))=true:=DT
    obtain⟨id,cs,r,hrow,lid,hg,hcs,hoad,hr2,hrl2,hpt,hgt,hpp,hset⟩:=sm.atS hnl
    have hgl:out.getLast? = some out[n]:=by rw[List.getLast?_eq_getElem?,hn,Nat.add_sub_cancel,List.getElem?_eq_getElem hnl]
    have hqd:=bd out[n] (List.getElem_mem hnl)
    have hon1:out.length - 1=n:=by omega
    unfold addR at hts hal
    rw[hgl] at hts hal
    simp only[hon1] at hts hal
    generalize out[n]=q at *
    obtain⟨rq,rfl,hrq,hqok⟩:=hr2
    have orq:=hrq.one
    have hla:=fun M=>@zMG fuel (d+2) q rq hrq hqok M
    have idN:id≠N.size:=by omega
    have hn10:(n:Nat)*10+10≤cs.length:=by omega
    have fin:∀ (x:Rn) (o':AV) (M':Mem),zAJ (l.take (i+1))=out++[x]→x=e→SlM M' 10 isRn o' (out++[x])→Wf M'→Wf M'∧SlM M' 10 isRn o' (zAJ (l.take (i+1)))∧(zAJ (l.take (i+1))).length≤i+1 ∧ ∀ q∈zAJ (l.take (i+1)),q.rs.length≤1000000:=by
     intro x o' M' h1 h2 h3 h4
     subst h2
     rw[h1]
     refine⟨h4,h3,by simp;omega,fun q hq=>?_⟩
     rcases List.mem_append.1 hq with h | h
     ·exact bd q h
     ·rw[List.mem_singleton] at h;subst h;exact hde
    cases c1:zGI q e with
    | false =>
     rw[c1] at hts hal
     simp only[Bool.false_eq_true,if_false] at hts hal
     unfold zGI at c1
     cases c2:decide (e.af=q.last) with
     | false =>
      simp (disch:=try exact SX) only[RV,seval,fillA,g2,g13,g14,g15,q1,hiad,rlo,olen,w2,q2,htw,hoad,hg,hpt,hla,↓pIdE,zA0,ETA,c2]
      exact zB08
     | true =>
      rw[c2,Bool.true_and] at c1
      simp (disch:=try exact SX) only[RV,seval,fillA,g2,g13,g14,g15,q1,hiad,rlo,olen,w2,q2,htw,hoad,hg,hpt,hla,↓pIdE,zA0,ETA,c2,c1]
      exact zB08
    | true =>
     rw[c1] at hts hal
     simp only[if_true] at hts hal
     unfold zGI at c1
     simp only[Bool.and_eq_true] at c1
     obtain⟨c1,c2⟩:=c1
     obtain⟨v,⟨ca,cb,rfl,hca,hcb⟩,hcut⟩:=zDB (fuel:=fuel) (d:=d+1) (n:=room q) hra (by omega)
     have oca:=hca.one
     have ocb:=hcb.one
     have hpn:=hgt 4 (by omega)
     have hnx:decide (e.sp.f=(⟨e.af.hd,IntKind.i64.wrap (e.af.c+1)⟩:Eid))=true:=c2
     have wA:∀ (M:Mem) p q,Wf M→Wf ((M.add p).upd M.size q):=fun M p q h=>(h.add p).upd _ _
     have hzR:(rnR (⟨⟨Eid.z,0⟩,Eid.z,[]⟩:Rn) NIL).length=10:=rfl
     by_cases q3:e.cutE (room q)=0
     ·have q3':decide (e.cutE (room q)=0)=true:=decide_eq_true q3
      have eA:e.cutA (room q)=e.fst (room q):=by unfold Rn.cutA;rw[if_pos q3]
      have eB:e.cutB (room q)=e.snd (room q):=by unfold Rn.cutB;rw[if_pos q3]
      simp only[q3,if_true] at hts hal
      rw[eA] at hca hcut
      rw[eB] at hcb hcut
      have okA:=zN7 hok q3
      have okB:=zNR hok q3
      have lA:(e.fst (room q)).rs.length≤1000000:=by simp only[Rn.fst,List.length_take];omega
      have lB:(e.snd (room q)).rs.length≤1000000:=by simp only[Rn.snd,List.length_drop];omega
      have hjl:=zGD q (e.fst (room q))
      have hjok:=zI4 hqok okA
      obtain⟨v2,⟨jr,rfl,hjr⟩,hjoin⟩:=zEP (fuel:=fuel) (d:=d) hrq hca hqok okA hqd lA (by omega)
      obtain⟨bt,hbt,hbw⟩:=zEQ (fuel:=fuel) (d:=d+6) hcb (by omega)
      have ojr:=hjr.one
      generalize e.fst (room q)=eF at *
      generalize e.snd (room q)=eS at *
      generalize zC4 q eF=jj at *
      unfold room at hcut q3 q3'
      clear hpp
      simp (disch:=try exact SX) only[RV,seval,fillA,g2,g13,g14,g15,q1,hiad,rlo,olen,w2,q2,hoad,hg,hpt,hla,↓pIdE,zA0,ETA,c1,hnx,hpn,hcut,q3',hjoin,hbw]
      refine app1 (bytes:=80) (x:=eS) (by simp (disch:=try exact SX) only[RV,w]) (hset (rnR jj jr) jj ⟨jr,rfl,hjr,hjok⟩ rfl _ ?hgX) zB7 ⟨bt,rfl,hbt,okB⟩ rfl (by omega) (by rw[List.length_set];omega) (by rw[List.length_set];omega) fun o' M' sm' w' le' kp nw wm' rl on oc'=>?mainX
      case hgX=>simp (disch:=try exact SX) only[RV,seval]
      case mainX =>
       simp (disch:=try exact SX) only[RV,seval,g2,g13,g14,g15,w1]
       refine⟨hlt,l.length - (i+1),by omega,i+1,o',rfl,by omega,rfl,rfl,w',by rw[hts];exact sm',by rw[hts];simp;omega,fun q' hq=>?_⟩
       rw[hts] at hq
       rcases List.mem_append.1 hq with h | h
       ·rcases List.mem_or_eq_of_mem_set h with h | rfl
        ·exact bd q' h
        ·omega
       ·rw[List.mem_singleton] at h;subst h;exact lB
     ·have q3':decide (e.cutE (room q)=0)=false:=decide_eq_false q3
      simp only[q3,if_false] at hts hal
      have hjl:=zGD q e
      have hjok:=zI4 hqok hok
      obtain⟨v2,⟨jr,rfl,hjr⟩,hjoin⟩:=zEP (fuel:=fuel) (d:=d) hrq hra hqok hok hqd hde (by omega)
      have ojr:=hjr.one
      generalize zC4 q e=jj at *
      unfold room at q3 q3'
      generalize e.cutA (room q)=eF at *
      generalize e.cutB (room q)=eS at *
      unfold room at hcut
      clear hpp
      by_cases q4:zDK q e=0
      ·have q4':decide (zDK q e=0)=true:=decide_eq_true q4
       simp only[q4,if_true] at hts hal
       simp (disch:=try exact SX) only[RV,seval,fillA,g2,g13,g14,g15,q1,hiad,w,olen,w2,q2,hoad,hg,hpt,hla,↓pIdE,zA0,ETA,c1,hnx,hpn,hcut,q3',hjoin,q4',w1]
       refine⟨hlt,l.length - (i+1),by omega,i+1,o,rfl,by omega,rfl,by simp (disch:=try exact SX) only[], ?_,by rw[hts];simp;omega,fun q' hq=>?_⟩
       ·rw[hts]
        refine hset (rnR jj jr) jj ⟨jr,rfl,hjr,hjok⟩ rfl _ ?_
        exact zB0c
       ·rw[hts] at hq
        rcases List.mem_or_eq_of_mem_set hq with h | rfl
        ·exact bd q' h
        ·omega
      ·have q4':decide (zDK q e=0)=false:=decide_eq_false q4
       simp only[q4,if_false] at hts hal
       simp (disch:=try exact SX) only[RV,seval,fillA,g2,g13,g14,g15,q1,hiad,rlo,olen,w2,q2,htw,hoad,hg,hpt,hla,↓pIdE,zA0,ETA,c1,hnx,hpn,hcut,q3',hjoin,q4']
       refine app1 (bytes:=80) (x:=e) (by simp (disch:=try exact SX) only[RV,w]) (sm.keep fun j hj=>?_) zB7 ⟨rt,rfl,hrt,hok⟩ rfl (by omega) (by omega) (by omega) fun o' M' sm' w' le' kp nw wm' rl on oc'=>?_
       ·have:=sm.lt j hj
        exact zB05
       simp (disch:=try exact SX) only[RV,seval,g2,g13,g14,g15,w1]
       exact⟨hlt,l.length - (i+1),by omega,i+1,o',rfl,by omega,rfl,rfl,fin e o' M' hts rfl sm' w'⟩
  ·obtain rfl:i=l.length:=by omega
   have q1:decide ((l.length:Int)<l.length)=false:=DF
   rw[List.take_length] at sm
   obtain⟨ro,hro,hfr⟩:=slm_frz2 sm zB7.cel 12 (by omega)
   have hfr:=hfr N (fun _ _=>rfl)
   simp (disch:=try exact SX) only[RV,seval,g2,g14,g15,hfr]
   exact⟨_,hro,rfl⟩
def Rn.elR (r:Rn):List El:=(List.range r.sp.n.toNat).map fun (i:Nat)=>⟨r.sp.at i,r.afAt i,r.rs.getD i 0⟩
def elsR (l:List Rn):List El:=l.flatMap Rn.elR
theorem zCA (l m:List Rn):elsR (l++m)=elsR l++elsR m:=by simp [elsR]
theorem zB2 (l:List Rn)(r:Rn):elsR (l++[r])=elsR l++r.elR:=by simp [elsR]
theorem zOB (r:Rn):prs r.elR=r.els:=by simp [prs,Rn.elR,Rn.els,Function.comp_def]
theorem zFQ (l:List Rn):prs (elsR l)=elsL l:=by
 induction l with
 | nil=>rfl
 | cons r l ih =>
  have:elsR (r::l)=r.elR++elsR l:=by simp [elsR]
  rw[this]
  unfold prs at *
  rw[List.map_append,ih]
  have:=zOB r
  unfold prs at this
  rw[this]
  simp [elsL]
theorem zAA (r:Rn):r.elR.length=r.sp.n.toNat:=by simp [Rn.elR]
theorem zAK (r:Rn)(i:Nat)(h:i<r.elR.length):r.elR[i]=⟨r.sp.at i,r.afAt i,r.rs.getD i 0⟩:=by simp [Rn.elR]
def goes (q:Rn)(x:El):Bool:=decide (q.sp.n<64)&&decide (x.af=q.sp.at (q.sp.n - 1))&&decide (x.id=q.sp.at q.sp.n)
def one (x:El):Rn:=⟨⟨x.id,1⟩,x.af,[x.ch]⟩
def more (q:Rn)(x:El):Rn:=⟨⟨q.sp.f,q.sp.n+1⟩,q.af,q.rs++[x.ch]⟩
def addX (out:List Rn)(x:El):List Rn :=
 match out.getLast? with
 | none=>out++[one x]
 | some q=>if goes q x then out.set (out.length - 1) (more q x) else out++[one x]
theorem zIN {α:Type}(o:List α)(q x:α):(o++[q]).set ((o++[q]).length - 1) x=o++[x]:=by simp
theorem zF9 (x:El):addX [] x=[one x]:=rfl
theorem zBN (o:List Rn)(q:Rn)(x:El):addX (o++[q]) x=if goes q x then o++[more q x] else o++[q]++[one x]:=by
 unfold addX
 rw[List.getLast?_concat]
 simp only[zIN]
theorem zJO (o:List Rn)(q r:Rn):addR (o++[q]) r=if zGI q r=true then (if r.cutE (room q)=0 then o++[zC4 q (r.fst (room q))]++[r.snd (room q)] else if zDK q r=0 then o++[zC4 q r] else o++[q]++[r]) else o++[q]++[r]:=by
 unfold addR
 rw[List.getLast?_concat]
 simp only[zIN]
def zB9 (E:List El):List Rn:=E.foldl addX []
theorem at_at (s:Spn)(a b n:Int):(⟨s.at a,n⟩:Spn).at b=s.at (a+b):=by
 simp only[Spn.at]
 rw[Int.add_assoc]
theorem zLH {r:Rn}{k:Nat}(hk:0<k):(r.snd k).elR=r.elR.drop k:=by
 apply List.ext_getElem
 ·rw[List.length_drop,zAA,zAA]
  simp only[Rn.snd];omega
 ·intro i h1 h2
  rw[List.getElem_drop,zAK,zAK]
  have e1:(r.snd k).sp.at i=r.sp.at ((k+i:Nat):Int):=by
   simp only[Rn.snd,at_at];congr 1
  have e2:(r.snd k).afAt i=r.afAt ((k+i:Nat):Int):=by
   unfold Rn.afAt
   rw[if_pos (show (0:Int)<((k+i:Nat):Int) by omega)]
   by_cases h:(0:Int)<i
   ·rw[if_pos h]
    simp only[Rn.snd,at_at];congr 1;omega
   ·rw[if_neg h]
    simp only[Rn.snd];congr 1;omega
  have e3:(r.snd k).rs.getD i 0=r.rs.getD (k+i) 0:=by
   simp only[Rn.snd,Int.toNat_natCast,List.getD_eq_getElem?_getD,List.getElem?_drop]
  rw[e1,e2,e3]
theorem zKD {r:Rn}{k:Nat}(hk:(k:Int)≤r.sp.n):(r.fst k).elR=r.elR.take k:=by
 apply List.ext_getElem
 ·rw[List.length_take,zAA,zAA]
  simp only[Rn.fst];omega
 ·intro i h1 h2
  rw[List.length_take,zAA] at h2
  rw[List.getElem_take,zAK,zAK]
  have e3:(r.fst k).rs.getD i 0=r.rs.getD i 0:=by
   simp only[Rn.fst,Int.toNat_natCast,List.getD_eq_getElem?_getD]
   rw[List.getElem?_take_of_lt (by omega)]
  rw[e3]
  rfl
theorem zD5 {α:Type}(l:List α)(i:Nat)(h:i<l.length):l.drop i=l[i]::l.drop (i+1):=List.drop_eq_getElem_cons h
theorem feed {q r:Rn}(o:List Rn)(n:Nat)(hn:r.sp.n=n)(hl:r.rs.length=n)(k:Nat):∀ (j:Nat),j+k≤n→q.sp.n+j+k≤64→0≤q.sp.n→(∀ i:Nat,j≤i→i<j+k→r.sp.at i=q.sp.at (q.sp.n+i)∧r.afAt i=q.sp.at (q.sp.n+i - 1)) →
  ((r.elR.drop j).take k).foldl addX (o++[⟨⟨q.sp.f,q.sp.n+j⟩,q.af,q.rs++r.rs.take j⟩])=o++[⟨⟨q.sp.f,q.sp.n+(j+k:Nat)⟩,q.af,q.rs++r.rs.take (j+k)⟩]:=by
 induction k with
 | zero=>intro j _ _ _ _;simp
 | succ k ih =>
  intro j h1 h2 h3 h4
  have hj:j<r.elR.length:=by rw[zAA];omega
  have hjr:j<r.rs.length:=by omega
  rw[zD5 _ _ hj,List.take_succ_cons,List.foldl_cons,zBN,zAK]
  have hg:goes (⟨⟨q.sp.f,q.sp.n+j⟩,q.af,q.rs++r.rs.take j⟩:Rn) ⟨r.sp.at j,r.afAt j,r.rs.getD j 0⟩=true:=by
   unfold goes
   simp only[Bool.and_eq_true,decide_eq_true_eq]
   exact⟨⟨by omega,(h4 j (by omega) (by omega)).2⟩,(h4 j (by omega) (by omega)).1⟩
  rw[if_pos hg]
  have hm:more (⟨⟨q.sp.f,q.sp.n+j⟩,q.af,q.rs++r.rs.take j⟩:Rn) ⟨r.sp.at j,r.afAt j,r.rs.getD j 0⟩=⟨⟨q.sp.f,q.sp.n+(j+1:Nat)⟩,q.af,q.rs++r.rs.take (j+1)⟩:=by
   unfold more
   have e:r.rs.getD j 0=r.rs[j]:=by rw[List.getD_eq_getElem?_getD,List.getElem?_eq_getElem hjr];rfl
   rw[e,zAH _ _ hjr,List.append_assoc]
   simp only[Int.natCast_add,Int.natCast_one,Int.add_assoc]
  rw[hm,ih (j+1) (by omega) (by omega) h3 fun i hj' hi=>h4 i (by omega) (by omega)]
  rw[show j+1+k=j+(k+1) by omega]
theorem zB1 {r:Rn}(h:1≤r.sp.n):r.elR=⟨r.sp.f,r.af,r.rs.getD 0 0⟩::r.elR.drop 1:=by
 have h0:0<r.elR.length:=by rw[zAA];omega
 have:=zD5 r.elR 0 h0
 rw[List.drop_zero] at this
 refine this.trans ?_
 rw[zAK]
 simp [Spn.at,Rn.afAt]
theorem zM2 {r:Rn}(o:List Rn)(n:Nat)(hn:r.sp.n=n)(hl:r.rs.length=n)(h1:1≤n)(h2:n≤64):(r.elR.drop 1).foldl addX (o++[one ⟨r.sp.f,r.af,r.rs.getD 0 0⟩])=o++[r]:=by
 have e:(r.elR.drop 1).take (n - 1)=r.elR.drop 1:=by
  rw[List.take_of_length_le]
  rw[List.length_drop,zAA];omega
 rw[← e]
 have:=feed (q:=⟨⟨r.sp.f,0⟩,r.af,[]⟩) (r:=r) o n hn hl (n - 1) 1 (by omega) (by simp only;omega) (Int.le_refl _) fun i hj hi=>?_
 ·have e1:(⟨⟨r.sp.f,0+(1:Nat)⟩,r.af,[]++r.rs.take 1⟩:Rn)=one ⟨r.sp.f,r.af,r.rs.getD 0 0⟩:=by
   unfold one
   have e0:r.rs.take 1=[r.rs.getD 0 0]:=by
    rw[zAH r.rs 0 (by omega),List.getD_eq_getElem?_getD,List.getElem?_eq_getElem (show 0<r.rs.length by omega)]
    simp
   rw[e0];rfl
  have e2:(⟨⟨r.sp.f,0+(1+(n - 1):Nat)⟩,r.af,[]++r.rs.take (1+(n - 1))⟩:Rn)=r:=by
   have:1+(n - 1)=n:=by omega
   rw[this,List.take_of_length_le (by omega),List.nil_append,Int.zero_add,← hn]
  simp only at this
  rw[e1,e2] at this
  exact this
 ·unfold Rn.afAt
  rw[if_pos (show (0:Int)<i by omega)]
  simp only[Spn.at,Int.zero_add,true_and]
theorem zNT {l:List Int}:chkR l=0↔l.length≤64∧l.all okR=true:=by
 unfold chkR
 by_cases h:64<l.length
 ·rw[if_pos h];simp;omega
 ·rw[if_neg h]
  cases l.all okR <;> simp [err]
  omega
theorem Rn.may_iff {r:Rn}:r.may=true↔r.sp.may=true∧(r.af=Eid.z∨(r.af.may=true∧r.af.c<r.sp.f.c))∧(r.rs.length:Int)=r.sp.n∧r.rs.length≤64∧r.rs.all okR=true:=by
 unfold Rn.may
 simp only[Bool.and_eq_true,Bool.or_eq_true,decide_eq_true_eq,zNT,and_assoc]
theorem Spn.may_iff {s:Spn}:s.may=true↔s.f.may=true∧1≤s.n∧s.n≤64∧s.f.c+s.n≤1099511627777:=by
 unfold Spn.may
 simp only[Bool.and_eq_true,decide_eq_true_eq,and_assoc]
theorem Eid.may_iff {x:Eid}:x.may=true↔x.hd.may=true∧1≤x.c∧x.c≤1099511627776:=by
 unfold Eid.may
 simp only[Bool.and_eq_true,decide_eq_true_eq,and_assoc]
theorem zDL {q r:Rn}(hq:q.may=true)(hr:r.may=true)(h1:r.sp.f=q.sp.at q.sp.n)(h2:q.sp.n+r.sp.n≤64):(q.both r).may=true:=by
 rw[Rn.may_iff] at *
 obtain⟨a1,a2,a3,a4,a5⟩:=hq
 obtain⟨b1,b2,b3,b4,b5⟩:=hr
 rw[Spn.may_iff] at *
 rw[h1] at b1
 simp only[Rn.both,Spn.at,List.length_append,List.all_append,a5,b5,Bool.and_self,and_true,Int.natCast_add] at *
 exact⟨⟨a1.1,by omega,by omega,by omega⟩,a2,by omega,by omega⟩
theorem zHZ {r:Rn}{k:Nat}(hr:r.may=true)(h0:0<k)(h1:(k:Int)≤r.sp.n):(r.fst k).may=true:=by
 rw[Rn.may_iff] at *
 obtain⟨a1,a2,a3,a4,a5⟩:=hr
 rw[Spn.may_iff] at *
 simp only[Rn.fst,Int.toNat_natCast,List.length_take]
 refine⟨⟨a1.1,by omega,by omega,by omega⟩,a2,by omega,by omega, ?_⟩
 rw[List.all_eq_true] at *
 exact fun x hx=>a5 x (List.mem_of_mem_take hx)
theorem zIO {r:Rn}{k:Nat}(hr:r.may=true)(h0:0<k)(h1:(k:Int)<r.sp.n):(r.snd k).may=true:=by
 rw[Rn.may_iff] at *
 obtain⟨a1,a2,a3,a4,a5⟩:=hr
 rw[Spn.may_iff,Eid.may_iff] at *
 simp only[Rn.snd,Spn.at,Int.toNat_natCast,List.length_drop,Eid.may_iff]
 refine⟨⟨⟨a1.1.1,by omega,by omega⟩,by omega,by omega,by omega⟩,.inr ⟨⟨a1.1.1,by omega,by omega⟩,by omega⟩,by omega,by omega, ?_⟩
 rw[List.all_eq_true] at *
 exact fun x hx=>a5 x (List.mem_of_mem_drop hx)
theorem Rn.last_at {q:Rn}(h:q.may=true):q.last=q.sp.at (q.sp.n - 1):=by
 unfold Rn.last
 rw[if_pos (Rn.may_sp h)]
theorem zID {q r:Rn}(hq:q.may=true):zGI q r=true↔r.af=q.sp.at (q.sp.n - 1)∧r.sp.f=q.sp.at q.sp.n:=by
 unfold zGI
 rw[Rn.last_at hq]
 simp only[Bool.and_eq_true,decide_eq_true_eq]
 have hb:=Spn.may_le (Rn.may_sp hq)
 constructor
 ·exact zB0E
 ·exact zB0E
theorem zFJ {q r:Rn}(hq:q.may=true)(hr:r.may=true)(h1:r.af=q.sp.at (q.sp.n - 1))(h2:r.sp.f=q.sp.at q.sp.n)(h3:q.sp.n+r.sp.n≤64):zDK q r=0:=by
 have bq:=Spn.may_le (Rn.may_sp hq)
 have br:=Spn.may_le (Rn.may_sp hr)
 have lq:=Rn.may_len hq
 rw[zCY,Rn.cutE_iff]
 refine⟨hq,hr,⟨zDL hq hr h2 h3,by omega,by simp only[Rn.both];omega⟩, ?_, ?_⟩
 ·unfold Rn.both Rn.fst
  simp only
  rw[List.take_append_of_le_length (by omega),List.take_of_length_le (by omega)]
 ·unfold Rn.both Rn.snd
  simp only
  have e1:q.sp.n.toNat=q.rs.length:=by omega
  rw[e1,List.drop_left]
  have e2:(⟨q.sp.f,q.sp.n+r.sp.n⟩:Spn).at q.sp.n=r.sp.f:=h2.symm
  have e3:(⟨q.sp.f,q.sp.n+r.sp.n⟩:Spn).at (q.sp.n - 1)=r.af:=h1.symm
  rw[e2,e3,show q.sp.n+r.sp.n - q.sp.n=r.sp.n by omega]
theorem zLQ {o:List Rn}{q r:Rn}(hq:q.may=true)(hr:r.may=true):addR (o++[q]) r=r.elR.foldl addX (o++[q]) ∧ ∃ o' q',addR (o++[q]) r=o'++[q']∧(∀ x∈o',x∈o∨x.may=true)∧q'.may=true:=by
 have bq:=Spn.may_le (Rn.may_sp hq)
 have br:=Spn.may_le (Rn.may_sp hr)
 have lq:=Rn.may_len hq
 have lr:=Rn.may_len hr
 obtain⟨n,hn⟩:∃ n:Nat,r.sp.n=n:=⟨r.sp.n.toNat,by omega⟩
 have hrm:room q=64 - q.sp.n:=by unfold room;rw[wrap_i64 (by omega) (by omega)]
 have hqo:∀ x∈o++[q],x∈o∨x.may=true:=fun x hx=>by
  rcases List.mem_append.1 hx with h | h
  ·exact .inl h
  ·rw[List.mem_singleton] at h;subst h;exact .inr hq
 rw[zJO]
 by_cases h:zGI q r=true
 ·rw[if_pos h]
  rw[zID hq] at h
  obtain⟨h1,h2⟩:=h
  have h4:∀ i:Nat,i<n→r.sp.at i=q.sp.at (q.sp.n+i)∧r.afAt i=q.sp.at (q.sp.n+i - 1):=fun i hi=>by
   have e:r.sp.at i=q.sp.at (q.sp.n+i):=by
    simp only[Spn.at] at h2 ⊢
    rw[h2]
    simp only[Int.add_assoc]
   refine⟨e, ?_⟩
   unfold Rn.afAt
   by_cases h0:(0:Int)<i
   ·rw[if_pos h0]
    simp only[Spn.at] at h2 ⊢
    rw[h2]
    simp only
    congr 1;omega
   ·have:(i:Int)=0:=by omega
    rw[if_neg h0,this,h1,Int.add_zero]
  have hq0:o++[q]=o++[⟨⟨q.sp.f,q.sp.n+(0:Nat)⟩,q.af,q.rs++r.rs.take 0⟩]:=by simp
  by_cases h5:q.sp.n+r.sp.n≤64
  ·have hc:¬r.cutE (room q)=0:=by rw[Rn.cutE_iff,hrm];omega
   rw[if_neg hc,if_pos (zFJ hq hr h1 h2 h5)]
   have hj:zC4 q r=q.both r:=by unfold zC4;rw[if_pos (zFJ hq hr h1 h2 h5)]
   rw[hj]
   refine⟨?_,o,_,rfl,fun x hx => .inl hx,zDL hq hr h2 h5⟩
   have:=feed (q:=q) (r:=r) o n hn (by omega) n 0 (by omega) (by omega) (by omega) fun i _ hi=>h4 i (by omega)
   rw[← hq0,List.drop_zero,List.take_of_length_le (by rw[zAA];omega)] at this
   rw[this]
   unfold Rn.both
   rw[Nat.zero_add,List.take_of_length_le (by omega),hn]
  ·by_cases h6:q.sp.n<64
   ·obtain⟨k,hk⟩:∃ k:Nat,room q=k:=⟨(room q).toNat,by omega⟩
    have hc:r.cutE (room q)=0:=by rw[Rn.cutE_iff,hrm];exact⟨hr,by omega,by omega⟩
    rw[if_pos hc,hk]
    have fm:=zHZ (k:=k) hr (by omega) (by omega)
    have sm:=zIO (k:=k) hr (by omega) (by omega)
    have je:=zFJ hq fm h1 h2 (by simp only[Rn.fst];omega)
    have hj:zC4 q (r.fst k)=q.both (r.fst k):=by unfold zC4;rw[if_pos je]
    rw[hj]
    refine⟨?_,_,_,rfl,fun x hx=>?_,sm⟩
    ·have:=feed (q:=q) (r:=r) o n hn (by omega) k 0 (by omega) (by omega) (by omega) fun i _ hi=>h4 i (by omega)
     rw[← hq0,List.drop_zero] at this
     rw[← List.take_append_drop k r.elR,List.foldl_append,this]
     have e1:(⟨⟨q.sp.f,q.sp.n+((0+k:Nat):Int)⟩,q.af,q.rs++r.rs.take (0+k)⟩:Rn)=q.both (r.fst k):=by
      unfold Rn.both Rn.fst
      rw[Nat.zero_add,Int.toNat_natCast]
     rw[e1,← zLH (by omega),zB1 (Spn.may_le (Rn.may_sp sm)).2.2.1,List.foldl_cons,zBN,if_neg]
     ·have hsn:(r.snd k).sp.n=(n - k:Nat):=by simp only[Rn.snd];omega
      have hsl:(r.snd k).rs.length=n - k:=by have:=Rn.may_len sm;omega
      exact(zM2 _ (n - k) hsn hsl (by omega) (by omega)).symm
     ·intro hg
      unfold goes at hg
      rw[Bool.and_eq_true,Bool.and_eq_true] at hg
      have:=of_decide_eq_true hg.1.1
      simp only[Rn.both,Rn.fst] at this
      omega
    ·rcases List.mem_append.1 hx with hx | hx
     ·exact .inl hx
     ·rw[List.mem_singleton] at hx;subst hx
      exact .inr (zDL hq fm h2 (by simp only[Rn.fst];omega))
   ·have hc:¬r.cutE (room q)=0:=by rw[Rn.cutE_iff,hrm];omega
    have hj:¬zDK q r=0:=by
     rw[zCY,Rn.cutE_iff]
     rintro⟨_,_,⟨hm,_⟩,_⟩
     have:=(Spn.may_le (Rn.may_sp hm)).2.2.2.1
     simp only[Rn.both] at this
     omega
    rw[if_neg hc,if_neg hj]
    refine⟨?_,_,_,rfl,hqo,hr⟩
    rw[zB1 (by omega),List.foldl_cons,zBN,if_neg]
    ·exact(zM2 _ n hn (by omega) (by omega) (by omega)).symm
    ·unfold goes
     simp only[Bool.and_eq_true,decide_eq_true_eq]
     omega
 ·rw[if_neg h]
  refine⟨?_,_,_,rfl,hqo,hr⟩
  rw[zB1 (by omega),List.foldl_cons,zBN,if_neg]
  ·exact(zM2 _ n hn (by omega) (by omega) (by omega)).symm
  ·unfold goes
   simp only[Bool.and_eq_true,decide_eq_true_eq]
   rintro⟨⟨_,h2⟩,h3⟩
   exact h ((zID hq).2 ⟨h2,h3⟩)
theorem zAV {l:List Rn}(h:∀ r∈l,r.may=true):zAJ l=zB9 (elsR l) ∧ ∀ r∈zAJ l,r.may=true:=by
 revert h
 refine zAR (P:=fun l=>(∀ r∈l,r.may=true)→zAJ l=zB9 (elsR l) ∧ ∀ r∈zAJ l,r.may=true) (fun _=>⟨rfl,fun r hr=>absurd hr (by simp [zAJ])⟩) (fun l r ih h=>?_) l
 obtain⟨e,hm⟩:=ih fun x hx=>h x (List.mem_append_left _ hx)
 have hr:=h r (List.mem_append_right _ List.mem_cons_self)
 have br:=Spn.may_le (Rn.may_sp hr)
 have lr:=Rn.may_len hr
 have hs:zAJ (l++[r])=addR (zAJ l) r:=by simp [zAJ]
 rw[hs,zB2]
 unfold zB9 at *
 rw[List.foldl_append,← e]
 generalize zAJ l=out at *
 rcases zBK out with rfl | ⟨o,q,rfl⟩
 ·have ha:addR [] r=[r]:=rfl
  rw[ha]
  refine⟨?_,fun x hx=>by rw[List.mem_singleton] at hx;subst hx;exact hr⟩
  rw[zB1 (by omega),List.foldl_cons,zF9]
  exact(zM2 [] r.sp.n.toNat (by omega) (by omega) (by omega) (by omega)).symm
 ·have hq:=hm q (List.mem_append_right _ List.mem_cons_self)
  obtain⟨h1,o',q',h2,h3,h4⟩:=zLQ (o:=o) hq hr
  refine⟨h1,fun x hx=>?_⟩
  rw[h2] at hx
  rcases List.mem_append.1 hx with hx | hx
  ·rcases h3 x hx with k | k
   ·exact hm x (List.mem_append_left _ k)
   ·exact k
  ·rw[List.mem_singleton] at hx;subst hx;exact h4
def El.may (x:El):Bool:=x.id.may&&(decide (x.af=Eid.z) || (x.af.may&&decide (x.af.c<x.id.c)))&&okR x.ch
theorem El.may_iff {x:El}:x.may=true↔x.id.may=true∧(x.af=Eid.z∨(x.af.may=true∧x.af.c<x.id.c))∧okR x.ch=true:=by
 unfold El.may
 simp only[Bool.and_eq_true,Bool.or_eq_true,decide_eq_true_eq,and_assoc]
theorem El.may_ct {x:El}(h:x.may=true):x.af.c<x.id.c∧0<x.id.c:=by
 rw[El.may_iff,Eid.may_iff] at h
 obtain⟨h1,h2,_⟩:=h
 rcases h2 with h2 | h2
 ·rw[h2];exact⟨by show (0:Int)<_;omega,by omega⟩
 ·exact⟨h2.2,by omega⟩
theorem zH6 {r:Rn}(hr:r.may=true):∀ x∈r.elR,x.may=true:=by
 intro x hx
 have br:=Spn.may_le (Rn.may_sp hr)
 have lr:=Rn.may_len hr
 obtain⟨i,hi,rfl⟩:=List.getElem_of_mem hx
 rw[zAA] at hi
 rw[zAK]
 rw[Rn.may_iff,Spn.may_iff,Eid.may_iff] at hr
 obtain⟨⟨h1,h2⟩,h3,h4,h5,h6⟩:=hr
 rw[El.may_iff,Eid.may_iff]
 simp only[Spn.at]
 refine⟨⟨h1.1,by omega,by omega⟩, ?_, ?_⟩
 ·unfold Rn.afAt
  by_cases h0:(0:Int)<i
  ·rw[if_pos h0,Eid.may_iff]
   simp only[Spn.at]
   exact .inr ⟨⟨h1.1,by omega,by omega⟩,by omega⟩
  ·rw[if_neg h0]
   rcases h3 with h3 | h3
   ·exact .inl h3
   ·exact .inr ⟨h3.1,by omega⟩
 ·rw[List.getD_eq_getElem?_getD,List.getElem?_eq_getElem (by omega)]
  exact List.all_eq_true.1 h6 _ (List.getElem_mem _)
theorem zFE {l:List Rn}(h:∀ r∈l,r.may=true):∀ x∈elsR l,x.may=true:=by
 intro x hx
 obtain⟨r,hr,hx⟩:=List.mem_flatMap.1 hx
 exact zH6 (h r hr) x hx
theorem zNW {r:Rn}(hr:r.may=true):Chn r.af r.elR:=by
 have br:=Spn.may_le (Rn.may_sp hr)
 have key:∀ k i:Nat,i+k=r.sp.n.toNat→0<i→Chn (r.sp.at ((i:Int) - 1)) (r.elR.drop i):=by
  intro k
  induction k with
  | zero=>intro i hi _;rw[List.drop_of_length_le (by rw[zAA];omega)];trivial
  | succ k ih =>
   intro i hi h0
   have hl:i<r.elR.length:=by rw[zAA];omega
   rw[zD5 _ _ hl,zAK]
   have:=ih (i+1) (by omega) (by omega)
   refine⟨?_, ?_, ?_⟩
   ·unfold Rn.afAt
    rw[if_pos (by omega)]
   ·simp only[Spn.at];omega
   ·have e:((i+1:Nat):Int) - 1=i:=by omega
    rw[e] at this
    exact this
 rw[zB1 (by omega)]
 have:=key (r.sp.n.toNat - 1) 1 (by omega) (by omega)
 refine⟨rfl, ?_, ?_⟩
 ·have:=(El.may_ct (zH6 hr ⟨r.sp.f,r.af,r.rs.getD 0 0⟩ (by rw[zB1 (by omega)];exact List.mem_cons_self))).1
  exact this
 ·simpa [Spn.at] using this
theorem zBA (E:List El):elsR (zB9 E)=E ∧ ∀ q∈zB9 E,1≤q.sp.n∧(q.rs.length:Int)=q.sp.n:=by
 refine zAR (P:=fun E=>elsR (zB9 E)=E ∧ ∀ q∈zB9 E,1≤q.sp.n∧(q.rs.length:Int)=q.sp.n) ⟨rfl,fun q hq=>absurd hq (by simp [zB9])⟩ (fun E x ih=>?_) E
 obtain⟨h1,h2⟩:=ih
 have hs:zB9 (E++[x])=addX (zB9 E) x:=by simp [zB9]
 rw[hs]
 have ho:(one x).elR=[x]:=by
  rw[zB1 (by simp only[one];omega),List.drop_of_length_le (by rw[zAA];simp [one])]
  simp [one]
 have h1x:1≤(one x).sp.n∧((one x).rs.length:Int)=(one x).sp.n:=⟨Int.le_refl _,rfl⟩
 generalize zB9 E=out at *
 rcases zBK out with rfl | ⟨o,q,rfl⟩
 ·rw[zF9]
  have:E=[]:=by rw[← h1];rfl
  subst this
  refine⟨?_,fun q hq=>by rw[List.mem_singleton] at hq;subst hq;exact h1x⟩
  simp [elsR,ho]
 ·rw[zBN]
  obtain⟨hq1,hq2⟩:=h2 q (List.mem_append_right _ List.mem_cons_self)
  by_cases hg:goes q x=true
  ·rw[if_pos hg]
   unfold goes at hg
   simp only[Bool.and_eq_true,decide_eq_true_eq] at hg
   obtain⟨⟨g1,g2⟩,g3⟩:=hg
   refine⟨?_,fun y hy=>?_⟩
   ·rw[zB2] at h1
    rw[zB2,← h1,List.append_assoc]
    congr 1
    apply List.ext_getElem
    ·rw[List.length_append,zAA,zAA]
     simp only[more,List.length_singleton];omega
    ·intro i i1 i2
     rw[zAK]
     by_cases hi:i<q.elR.length
     ·rw[List.getElem_append_left hi,zAK]
      rw[zAA] at hi
      have e3:(more q x).rs.getD i 0=q.rs.getD i 0:=by
       simp only[more,List.getD_eq_getElem?_getD]
       rw[List.getElem?_append_left (by omega)]
      rw[e3];rfl
     ·have hi':i=q.elR.length:=by
       rw[zAA] at i1 hi ⊢
       simp only[more] at i1
       omega
      rw[List.getElem_append_right (Nat.le_of_not_lt hi),List.getElem_singleton]
      rw[zAA] at hi'
      rw[hi']
      clear hi' i1 i2 hi
      obtain⟨xi,xa,xc⟩:=x
      simp only at g2 g3
      have e:((q.sp.n.toNat:Nat):Int)=q.sp.n:=by omega
      have e3:(more q ⟨xi,xa,xc⟩).rs.getD q.sp.n.toNat 0=xc:=by
       simp only[more,List.getD_eq_getElem?_getD]
       rw[List.getElem?_append_right (by omega),show q.sp.n.toNat - q.rs.length=0 by omega]
       rfl
      have e2:(more q ⟨xi,xa,xc⟩).afAt ((q.sp.n.toNat:Nat):Int)=xa:=by
       unfold Rn.afAt
       rw[if_pos (by omega),e,g2]
       rfl
      rw[e2,e3,e,g3]
      rfl
   ·rcases List.mem_append.1 hy with hy | hy
    ·exact h2 y (List.mem_append_left _ hy)
    ·rw[List.mem_singleton] at hy;subst hy
     simp only[more,List.length_append,List.length_singleton]
     omega
  ·rw[if_neg hg]
   refine⟨by rw[zB2,ho,h1],fun y hy=>?_⟩
   exact zB0M
theorem zK0 {E:List El}(h:∀ x∈E,x.may=true):∀ q∈zB9 E,q.may=true:=by
 revert h
 refine zAR (P:=fun E=>(∀ x∈E,x.may=true) → ∀ q∈zB9 E,q.may=true) (fun _ q hq=>absurd hq (by simp [zB9])) (fun E x ih h=>?_) E
 have h2:=ih fun y hy=>h y (List.mem_append_left _ hy)
 have hx:=h x (List.mem_append_right _ List.mem_cons_self)
 have hs:zB9 (E++[x])=addX (zB9 E) x:=by simp [zB9]
 rw[hs]
 have h1x:(one x).may=true:=by
  rw[El.may_iff,Eid.may_iff] at hx
  rw[Rn.may_iff,Spn.may_iff,Eid.may_iff]
  simp only[one,List.length_singleton,List.all_cons,List.all_nil,Bool.and_true]
  exact⟨⟨⟨hx.1.1,hx.1.2⟩,by omega,by omega,by omega⟩,hx.2.1,by omega,by omega,hx.2.2⟩
 generalize zB9 E=out at *
 rcases zBK out with rfl | ⟨o,q,rfl⟩
 ·rw[zF9]
  exact fun q hq=>by rw[List.mem_singleton] at hq;subst hq;exact h1x
 ·rw[zBN]
  have hq:=h2 q (List.mem_append_right _ List.mem_cons_self)
  by_cases hg:goes q x=true
  ·rw[if_pos hg]
   unfold goes at hg
   simp only[Bool.and_eq_true,decide_eq_true_eq] at hg
   obtain⟨⟨g1,g2⟩,g3⟩:=hg
   intro y hy
   rcases List.mem_append.1 hy with hy | hy
   ·exact h2 y (List.mem_append_left _ hy)
   ·rw[List.mem_singleton] at hy;subst hy
    have:more q x=q.both (one x):=rfl
    rw[this]
    exact zDL hq h1x g3 (by simp only[one];omega)
  ·rw[if_neg hg]
   intro y hy
   exact zB0M
theorem zBP {l:List Rn}(h:∀ r∈l,r.may=true):zA7 l=(elsR l).length:=by
 induction l with
 | nil=>rfl
 | cons r l ih =>
  have br:=Spn.may_le (Rn.may_sp (h r List.mem_cons_self))
  have:elsR (r::l)=r.elR++elsR l:=by simp [elsR]
  rw[this,List.length_append,zAA]
  simp only[zA7]
  rw[ih fun x hx=>h x (List.mem_cons_of_mem _ hx)]
  omega
def zBG (l:List Rn):Prop:=(∀ r∈l,r.may=true)∧zA7 l≤8192∧Ord (elsL l)∧zAJ l=l
structure TxtM (E:List El):Prop where
 t:Txt E
 m:∀ x∈E,x.may=true
 n:E.length≤8192
theorem zGX {E:List El}(h:TxtM E):zBG (zB9 E):=by
 have hm:=zK0 h.m
 obtain⟨he,_⟩:=zBA E
 refine⟨hm, ?_, ?_, ?_⟩
 ·rw[zBP hm,he];have:=h.n;omega
 ·rw[← zFQ,he];exact(zL0 fun x hx=>El.may_ct (h.m x hx)).2 h.t
 ·rw[(zAV hm).1,he]
theorem zAW {l:List Rn}(h:zBG l):TxtM (elsR l)∧l=zB9 (elsR l):=by
 obtain⟨h1,h2,h3,h4⟩:=h
 have hm:=zFE h1
 refine⟨⟨?_,hm, ?_⟩, ?_⟩
 ·rw[← zFQ] at h3;exact(zL0 fun x hx=>El.may_ct (hm x hx)).1 h3
 ·rw[zBP h1] at h2;omega
 ·rw[← (zAV h1).1,h4]
theorem zE4 {s:Spn}{x:Eid}{k:Int}:s.has x=some k↔s.may=true∧0≤k∧k<s.n∧s.at k=x:=by
 obtain⟨hd,c⟩:=x
 unfold Spn.has Spn.at
 simp only
 constructor
 ·intro h
  split at h
  ·rename_i g
   injection h with h
   refine⟨g.1,by omega,by omega, ?_⟩
   rw[g.2.1];congr 1;omega
  ·cases h
 ·rintro⟨h1,h2,h3,h4⟩
  injection h4 with h4 h5
  rw[if_pos ⟨h1,h4.symm,by omega,by omega⟩]
  congr 1;omega
theorem zO3 {r:Rn}(hr:r.may=true)(x:Eid):r.sp.has x=none ↔ ∀ e∈r.elR,e.id≠x:=by
 have br:=Spn.may_le (Rn.may_sp hr)
 constructor
 ·intro h e he k
  obtain⟨i,hi,rfl⟩:=List.getElem_of_mem he
  rw[zAA] at hi
  rw[zAK] at k
  have:=(zE4 (k:=(i:Int))).2 ⟨Rn.may_sp hr,by omega,by omega,k⟩
  rw[h] at this
  cases this
 ·intro h
  cases hh:r.sp.has x with
  | none=>rfl
  | some k =>
   obtain⟨h1,h2,h3,h4⟩:=zE4.1 hh
   have hl:k.toNat<r.elR.length:=by rw[zAA];omega
   refine absurd ?_ (h _ (List.getElem_mem hl))
   rw[zAK]
   have:((k.toNat:Nat):Int)=k:=by omega
   rw[this];exact h4
theorem zGY {l:List Rn}(h:∀ r∈l,r.may=true)(x:Eid):zAB l x=none ↔ ∀ e∈elsR l,e.id≠x:=by
 induction l with
 | nil=>exact⟨fun _ e he=>absurd he (by simp [elsR]),fun _=>rfl⟩
 | cons r l ih =>
  have hr:=h r List.mem_cons_self
  have ih:=ih fun y hy=>h y (List.mem_cons_of_mem _ hy)
  have he:elsR (r::l)=r.elR++elsR l:=by simp [elsR]
  rw[he]
  unfold zAB
  have hh:=zO3 hr x
  cases hc:r.sp.has x with
  | none =>
   rw[hc] at hh
   have hh:=hh.1 rfl
   simp only[Option.map_eq_none_iff]
   rw[ih]
   constructor
   ·intro h1 e he
    rcases List.mem_append.1 he with he | he
    ·exact hh e he
    ·exact h1 e he
   ·exact fun h1 e he=>h1 e (List.mem_append_right _ he)
  | some k =>
   rw[hc] at hh
   simp only[reduceCtorEq,false_iff] at hh ⊢
   exact fun h1=>hh fun e he=>h1 e (List.mem_append_left _ he)
theorem zDC:∀ {l:List Rn} {x:Eid} {n:Nat} {k:Int},zAB l x=some (n,k) → ∃ L1 q L2,l=L1++q::L2∧L1.length=n∧q.sp.may=true∧0≤k∧k<q.sp.n∧q.sp.at k=x
 | [],_,_,_,h=>by cases h
 | r::l,x,n,k,h=>by
  unfold zAB at h
  cases hc:r.sp.has x with
  | none =>
   rw[hc] at h
   simp only at h
   cases hw:zAB l x with
   | none=>rw[hw] at h;cases h
   | some p =>
    rw[hw] at h
    obtain⟨n',k'⟩:=p
    simp only[Option.map_some,Option.some.injEq,Prod.mk.injEq] at h
    obtain⟨rfl,rfl⟩:=h
    obtain⟨L1,q,L2,rfl,rfl,hh⟩:=zDC hw
    exact⟨r::L1,q,L2,rfl,rfl,hh⟩
  | some k' =>
   rw[hc] at h
   simp only[Option.some.injEq,Prod.mk.injEq] at h
   obtain⟨rfl,rfl⟩:=h
   obtain⟨h1,h2,h3,h4⟩:=zE4.1 hc
   exact⟨[],r,l,rfl,rfl,h1,h2,h3,h4⟩
def zA9 (l:List Rn)(x:Eid):List Rn × Nat :=
 if x=Eid.z then (l,0) else
 match zAB l x with
 | none=>(l,0)
 | some (n,k)=>if (l.getD n Rn.z).cutE (k+1)=0 then (l.take n++[(l.getD n Rn.z).fst (k+1),(l.getD n Rn.z).snd (k+1)]++l.drop (n+1),n+1) else (l,n+1)
def zCE (l:List Rn)(x:Eid)(n:Nat):Nat:=n+((l.drop n).takeWhile fun r=>x.less r.sp.f).length
def insL (l:List Rn)(r:Rn):List Rn:=zAJ ((zA9 l r.af).1.take (zCE (zA9 l r.af).1 r.sp.f (zA9 l r.af).2)++[r]++(zA9 l r.af).1.drop (zCE (zA9 l r.af).1 r.sp.f (zA9 l r.af).2))
open Classical in
noncomputable def putE (l : List Rn) (r : Rn) : Int :=
  if zBG l ∧ r.may = true then
    (if r.af ≠ Eid.z ∧ zAB l r.af = none then 6
     else if ∃ i : Nat,(i : Int) < r.sp.n ∧ zAB l (r.sp.at i) ≠ none then 2
     else if 8192 < zA7 l + r.sp.n then 4 else 0)
  else 8
theorem zHD {l:List Rn}{x:Eid}(h:∀ r∈l,r.may=true)(hx:x=Eid.z∨zAB l x≠none):(zA9 l x).2≤(zA9 l x).1.length∧(∀ r∈(zA9 l x).1,r.may=true)∧elsR (zA9 l x).1=elsR l∧((x=Eid.z∧(zA9 l x).2=0) ∨ ∃ A w,elsR ((zA9 l x).1.take (zA9 l x).2)=A++[w]∧w.id=x):=by
 unfold zA9
 by_cases hz:x=Eid.z
 ·rw[if_pos hz]
  exact⟨Nat.zero_le _,h,rfl,.inl ⟨hz,rfl⟩⟩
 ·rw[if_neg hz]
  rcases hx with hx | hx
  ·exact absurd hx hz
  ·cases hw:zAB l x with
   | none=>exact absurd hw hx
   | some p =>
    obtain⟨n,k⟩:=p
    obtain⟨L1,q,L2,rfl,rfl,h1,h2,h3,h4⟩:=zDC hw
    have hq:=h q (by simp)
    have hg:(L1++q::L2).getD L1.length Rn.z=q:=by
     rw[List.getD_eq_getElem?_getD,List.getElem?_append_right (Nat.le_refl _)];simp
    simp only[hg]
    obtain⟨m,rfl⟩:∃ m:Nat,k=m:=⟨k.toNat,by omega⟩
    have hm1:((m:Int)+1)=((m+1:Nat):Int):=by omega
    have hlast:q.elR.take (m+1)=q.elR.take m++[⟨x,q.afAt m,q.rs.getD m 0⟩]:=by
     have hl:m<q.elR.length:=by rw[zAA];omega
     rw[zAH _ _ hl,zAK,h4]
    by_cases hc:q.cutE ((m:Int)+1)=0
    ·rw[if_pos hc]
     rw[Rn.cutE_iff] at hc
     have hd:(L1++q::L2).drop (L1.length+1)=L2:=by simp
     have ht:(L1++q::L2).take L1.length=L1:=by simp
     simp only[hd,ht,hm1]
     refine⟨by simp,fun r hr=>?_, ?_,.inr ⟨elsR L1++q.elR.take m,⟨x,q.afAt m,q.rs.getD m 0⟩, ?_,rfl⟩⟩
     ·rcases List.mem_append.1 hr with hr | hr
      ·rcases List.mem_append.1 hr with hr | hr
       ·exact h r (by simp [hr])
       ·rcases List.mem_cons.1 hr with rfl | hr
        ·exact zHZ hq (by omega) (by omega)
        ·rw[List.mem_singleton] at hr;subst hr
         exact zIO hq (by omega) (by omega)
      ·exact h r (by simp [hr])
     ·have e1:elsR (L1++q::L2)=elsR L1++q.elR++elsR L2:=by simp [elsR]
      have e2:elsR [q.fst ((m+1:Nat):Int),q.snd ((m+1:Nat):Int)]=q.elR:=by
       have:elsR [q.fst ((m+1:Nat):Int),q.snd ((m+1:Nat):Int)]=(q.fst ((m+1:Nat):Int)).elR++(q.snd ((m+1:Nat):Int)).elR:=by simp [elsR]
       rw[this,zKD (by omega),zLH (by omega),List.take_append_drop]
      rw[zCA,zCA,e1,e2]
     ·have e1:(L1++[q.fst ((m+1:Nat):Int),q.snd ((m+1:Nat):Int)]++L2).take (L1.length+1)=L1++[q.fst ((m+1:Nat):Int)]:=by
       rw[List.append_assoc,List.take_length_add_append];rfl
      rw[e1,zB2,zKD (by omega),hlast,List.append_assoc]
    ·rw[if_neg hc]
     rw[Rn.cutE_iff] at hc
     have hmn:(m:Int)+1=q.sp.n:=Classical.byContradiction fun k=>hc ⟨hq,by omega,by omega⟩
     refine⟨by simp,h,rfl,.inr ⟨elsR L1++q.elR.take m,⟨x,q.afAt m,q.rs.getD m 0⟩, ?_,rfl⟩⟩
     have e1:(L1++q::L2).take (L1.length+1)=L1++[q]:=by
      rw[List.take_length_add_append];rfl
     rw[e1,zB2,List.append_assoc,← hlast,List.take_of_length_le (by rw[zAA];omega)]
theorem zOU {r:Rn}(hr:r.may=true){x:Eid}(h:x.less r.sp.f=true):∀ e∈r.elR,x.less e.id=true:=by
 intro e he
 obtain⟨i,hi,rfl⟩:=List.getElem_of_mem he
 rw[zAK]
 cases i with
 | zero=>simpa [Spn.at] using h
 | succ i =>
  refine zF2 h (zGE ?_)
  simp only[Spn.at];omega
structure Put (l:List Rn) (r:Rn) (A0 A1 B:List El):Prop where
 e:elsR l=A0++A1++B
 a:(r.af=Eid.z∧A0=[]) ∨ ∃ A w,A0=A++[w]∧w.id=r.af
 g:∀ x∈A1,r.sp.f.less x.id=true
 t:TxtM (A0++A1++r.elR++B)
 i:insL l r=zB9 (A0++A1++r.elR++B)
theorem zIK {l:List Rn}{r:Rn}:putE l r=0↔zBG l∧r.may=true∧(r.af=Eid.z ∨ ∃ e∈elsR l,e.id=r.af)∧(∀ x∈r.elR,∀ e∈elsR l,x.id≠e.id)∧(elsR l).length+r.elR.length≤8192:=by
 unfold putE
 by_cases h:zBG l∧r.may=true
 ·rw[if_pos h]
  obtain⟨ht,hr⟩:=h
  have hw:=fun x=>zGY ht.1 x
  have br:=Spn.may_le (Rn.may_sp hr)
  have hn:(r.elR.length:Int)=r.sp.n:=by rw[zAA];omega
  rw[zBP ht.1]
  by_cases h1:r.af≠Eid.z∧zAB l r.af=none
  ·rw[if_pos h1]
   refine⟨fun h=>(by cases h), ?_⟩
   rintro⟨_,_,h3,_⟩
   rcases h3 with h3 | ⟨e,he,h3⟩
   ·exact absurd h3 h1.1
   ·exact absurd h3 ((hw _).1 h1.2 e he)
  ·rw[if_neg h1]
   have h1':r.af=Eid.z ∨ ∃ e∈elsR l,e.id=r.af:=by
    by_cases hz:r.af=Eid.z
    ·exact .inl hz
    ·right
     have:¬∀ e∈elsR l,e.id≠r.af:=fun k=>h1 ⟨hz,(hw _).2 k⟩
     exact Classical.byContradiction fun k=>this fun e he k2=>k ⟨e,he,k2⟩
   by_cases h2:∃ i:Nat,(i:Int)<r.sp.n∧zAB l (r.sp.at i)≠none
   ·rw[if_pos h2]
    refine⟨fun h=>(by cases h), ?_⟩
    rintro⟨_,_,_,h3,_⟩
    obtain⟨i,hi,h2⟩:=h2
    refine absurd ((hw _).2 fun e he=>?_) h2
    have hl:i<r.elR.length:=by omega
    have:=h3 _ (List.getElem_mem hl) e he
    rw[zAK] at this
    exact fun k=>this k.symm
   ·rw[if_neg h2]
    have h2':∀ x∈r.elR,∀ e∈elsR l,x.id≠e.id:=fun x hx e he k=>by
     obtain⟨i,hi,rfl⟩:=List.getElem_of_mem hx
     rw[zAK] at k
     refine h2 ⟨i,by omega,fun k2=>?_⟩
     exact(hw _).1 k2 e he k.symm
    by_cases h3:8192<((elsR l).length:Int)+r.sp.n
    ·rw[if_pos h3]
     refine⟨fun h=>(by cases h), ?_⟩
     rintro⟨_,_,_,_,h4⟩
     omega
    ·rw[if_neg h3]
     exact⟨fun _=>⟨ht,hr,h1',h2',by omega⟩,fun _=>rfl⟩
 ·rw[if_neg h]
  exact⟨fun h=>(by cases h),fun k=>absurd ⟨k.1,k.2.1⟩ h⟩
theorem put_ok {l:List Rn}{r:Rn}(h:putE l r=0):∃ A0 A1 B,Put l r A0 A1 B:=by
 obtain⟨ht,hr,ha,hf,hn⟩:=zIK.1 h
 obtain⟨hE,hl⟩:=zAW ht
 have hx:r.af=Eid.z∨zAB l r.af≠none:=by
  rcases ha with ha | ⟨e,he,ha⟩
  ·exact .inl ha
  ·exact .inr fun k=>(zGY ht.1 _).1 k e he ha
 obtain⟨p1,p2,p3,p4⟩:=zHD ht.1 hx
 have hi:insL l r=zAJ ((zA9 l r.af).1.take (zCE (zA9 l r.af).1 r.sp.f (zA9 l r.af).2)++[r]++(zA9 l r.af).1.drop (zCE (zA9 l r.af).1 r.sp.f (zA9 l r.af).2)):=rfl
 generalize zA9 l r.af=P at *
 obtain⟨l',n⟩:=P
 simp only at p1 p2 p3 p4 hi
 have hsp:l'=l'.take n++((l'.drop n).takeWhile fun q=>r.sp.f.less q.sp.f)++((l'.drop n).dropWhile fun q=>r.sp.f.less q.sp.f):=by
  rw[List.append_assoc,List.takeWhile_append_dropWhile,List.take_append_drop]
 have hg1:∀ q∈(l'.drop n).takeWhile fun q=>r.sp.f.less q.sp.f,r.sp.f.less q.sp.f=true:=fun q hq=>by
  have:=List.all_takeWhile (l:=l'.drop n) (p:=fun q=>r.sp.f.less q.sp.f)
  exact List.all_eq_true.1 this q hq
 have hg2:∀ q D,((l'.drop n).dropWhile fun q=>r.sp.f.less q.sp.f)=q::D→r.sp.f.less q.sp.f=false:=fun q D e=>by
  have:=List.head?_dropWhile_not (fun q:Rn=>r.sp.f.less q.sp.f) (l'.drop n)
  rw[e] at this
  simpa using this
 have hlen:(l'.take n).length=n:=by rw[List.length_take];omega
 unfold zCE at hi
 generalize hD1:(l'.drop n).takeWhile (fun q=>r.sp.f.less q.sp.f)=D1 at *
 generalize (l'.drop n).dropWhile (fun q=>r.sp.f.less q.sp.f)=D2 at *
 generalize l'.take n=T at *
 clear hD1
 have htk:l'.take (n+D1.length)=T++D1:=by
  rw[hsp,List.take_append_of_le_length (by rw[List.length_append];omega),List.take_of_length_le (by rw[List.length_append];omega)]
 have hdr:l'.drop (n+D1.length)=D2:=by
  rw[hsp,List.drop_append_of_le_length (by rw[List.length_append];omega),List.drop_of_length_le (by rw[List.length_append];omega),List.nil_append]
 rw[htk,hdr] at hi
 have hE':elsR l=elsR T++elsR D1++elsR D2:=by rw[← p3,hsp,zCA,zCA]
 have hmT:∀ q∈T,q.may=true:=fun q hq=>p2 q (by rw[hsp];simp [hq])
 have hmD1:∀ q∈D1,q.may=true:=fun q hq=>p2 q (by rw[hsp];simp [hq])
 have hmD2:∀ q∈D2,q.may=true:=fun q hq=>p2 q (by rw[hsp];simp [hq])
 have br:=Spn.may_le (Rn.may_sp hr)
 have hg:∀ x∈elsR D1,r.sp.f.less x.id=true:=fun x hx=>by
  obtain⟨q,hq,hx⟩:=List.mem_flatMap.1 hx
  exact zOU (hmD1 q hq) (hg1 q hq) x hx
 have hA:(r.af=Eid.z∧elsR T=[]) ∨ ∃ A w,elsR T=A++[w]∧w.id=r.af:=by
  rcases p4 with⟨h1,h2⟩ | h1
  ·have:T=[]:=List.eq_nil_of_length_eq_zero (by omega)
   subst this
   exact .inl ⟨h1,rfl⟩
  ·exact .inr h1
 have hB:∀ b B',elsR D2=b::B'→r.sp.f.less b.id=false:=fun b B' e=>by
  cases D2 with
  | nil=>exact absurd e (by simp [elsR])
  | cons q D =>
   have bq:=Spn.may_le (Rn.may_sp (hmD2 q List.mem_cons_self))
   have e2:elsR (q::D)=q.elR++elsR D:=by simp [elsR]
   rw[e2,zB1 (by omega),List.cons_append] at e
   injection e with e _
   rw[← e]
   exact hg2 q D rfl
 have hcons:=zB1 (r:=r) (by omega)
 have hT:Txt (elsR T++elsR D1++r.elR++elsR D2):=Txt.put (r:=⟨r.sp.f,r.af,r.rs.getD 0 0⟩) (by rw[← hE'];exact hE.t) hcons (zNW hr) hA (fun x hx y hy=>hf x hx y (by rw[hE'];exact hy)) hg hB
 have hmR:=zH6 hr
 refine⟨elsR T,elsR D1,elsR D2,hE',hA,hg,⟨hT,fun x hx=>?_, ?_⟩, ?_⟩
 ·rcases List.mem_append.1 hx with h | h
  ·rcases List.mem_append.1 h with h | h
   ·exact hE.m x (by rw[hE'];exact List.mem_append_left _ h)
   ·exact hmR x h
  ·exact hE.m x (by rw[hE'];exact List.mem_append_right _ h)
 ·rw[hE'] at hn
  simp only[List.length_append] at hn ⊢
  omega
 ·rw[hi,(zAV (fun q hq=>?_)).1]
  ·rw[zCA,zB2,zCA]
  ·rcases List.mem_append.1 hq with hq | hq
   ·rcases List.mem_append.1 hq with hq | hq
    ·rcases List.mem_append.1 hq with hq | hq
     ·exact hmT q hq
     ·exact hmD1 q hq
    ·rw[List.mem_singleton] at hq;subst hq;exact hr
   ·exact hmD2 q hq
theorem Put.mem {l:List Rn}{r:Rn}{A0 A1 B:List El}(h:Put l r A0 A1 B)(x:El):x∈elsR (insL l r)↔x∈elsR l∨x∈r.elR:=by
 rw[h.i,(zBA _).1,h.e]
 simp only[List.mem_append]
 constructor
 ·exact zB0B
 ·exact zB0B
theorem zE8 {l:List Rn}{r:Rn}(h:putE l r=0)(x:El):x∈elsR (insL l r)↔x∈elsR l∨x∈r.elR:=by
 obtain⟨A0,A1,B,h⟩:=put_ok h
 exact h.mem x
theorem zP1 {l:List Rn}{r:Rn}(h:putE l r=0):zBG (insL l r):=by
 obtain⟨A0,A1,B,h⟩:=put_ok h
 rw[h.i]
 exact zGX h.t
theorem zO7 {l:List Rn}{r:Rn}(h:putE l r=0):(elsR (insL l r)).length=(elsR l).length+r.elR.length:=by
 obtain⟨A0,A1,B,h⟩:=put_ok h
 rw[h.i,(zBA _).1,h.e]
 simp only[List.length_append]
 omega
theorem text_eq {l m:List Rn}(hl:zBG l)(hm:zBG m)(h:∀ x,x∈elsR l↔x∈elsR m):l=m:=by
 obtain⟨h1,e1⟩:=zAW hl
 obtain⟨h2,e2⟩:=zAW hm
 rw[e1,e2,h1.t.eq h2.t h]
def zFD (l:List Rn):Bool:=l.all fun r=>r.af.hd.lb.leq r.sp.f.hd.lb
def upTo (v:Lb)(l:List Rn):List Rn:=zAJ (l.filter fun r=>r.sp.f.hd.lb.leq v)
def lowE (v:Lb)(x:El):Bool:=x.id.hd.lb.leq v
theorem zG6 {r:Rn}{x:El}(h:x∈r.elR):x.id.hd=r.sp.f.hd:=by
 obtain⟨i,hi,rfl⟩:=List.getElem_of_mem h
 rw[zAK];rfl
theorem zJ1 (v:Lb)(l:List Rn):elsR (l.filter fun r=>r.sp.f.hd.lb.leq v)=(elsR l).filter (lowE v):=by
 induction l with
 | nil=>rfl
 | cons r l ih =>
  have he:elsR (r::l)=r.elR++elsR l:=by simp [elsR]
  rw[he,List.filter_append,← ih]
  cases h:r.sp.f.hd.lb.leq v with
  | true =>
   rw[List.filter_cons_of_pos (p:=fun r:Rn=>r.sp.f.hd.lb.leq v) h]
   have e2:elsR (r::l.filter fun r=>r.sp.f.hd.lb.leq v)=r.elR++elsR (l.filter fun r=>r.sp.f.hd.lb.leq v):=by simp [elsR]
   rw[e2]
   congr 1
   symm
   rw[List.filter_eq_self]
   exact fun x hx=>by unfold lowE;rw[zG6 hx];exact h
  | false =>
   rw[List.filter_cons_of_neg (p:=fun r:Rn=>r.sp.f.hd.lb.leq v) (by rw[h];simp)]
   have:r.elR.filter (lowE v)=[]:=by
    rw[List.filter_eq_nil_iff]
    exact fun x hx=>by unfold lowE;rw[zG6 hx,h];simp
   rw[this,List.nil_append]
def zF7 (E:List El):Prop:=∀ x∈E,x.af.hd.lb.leq x.id.hd.lb=true
theorem zIX {l:List Rn}(h:∀ r∈l,r.may=true)(hrefl:∀ a:Lb,a.leq a=true):zFD l=true↔zF7 (elsR l):=by
 unfold zFD zF7
 rw[List.all_eq_true]
 constructor
 ·intro k x hx
  obtain⟨r,hr,hx⟩:=List.mem_flatMap.1 hx
  have hk:=k r hr
  obtain⟨i,hi,rfl⟩:=List.getElem_of_mem hx
  rw[zAK]
  simp only[Spn.at]
  unfold Rn.afAt
  by_cases h0:(0:Int)<i
  ·rw[if_pos h0];exact hrefl _
  ·rw[if_neg h0];exact hk
 ·intro k r hr
  have br:=Spn.may_le (Rn.may_sp (h r hr))
  have hm:(⟨r.sp.f,r.af,r.rs.getD 0 0⟩:El)∈elsR l:=List.mem_flatMap.2 ⟨r,hr,by rw[zB1 (by omega)];exact List.mem_cons_self⟩
  exact k _ hm
theorem zO8 {E:List El}(h:TxtM E)(hc:zF7 E)(htrans:∀ a b c:Lb,a.leq b=true→b.leq c=true→a.leq c=true)(v:Lb):TxtM (E.filter (lowE v)):=by
 refine⟨h.t.filter _ fun x hx y hy h1 h2=>?_,fun x hx=>h.m x (List.mem_filter.1 hx).1,Nat.le_trans (List.length_filter_le _ _) h.n⟩
 unfold lowE at h1 ⊢
 rw[h2]
 exact htrans _ _ _ (hc x hx) h1
theorem zIR {l:List Rn}(h:∀ r∈l,r.may=true)(v:Lb):upTo v l=zB9 ((elsR l).filter (lowE v)):=by
 unfold upTo
 rw[(zAV fun r hr=>h r (List.mem_filter.1 hr).1).1,zJ1]
theorem zCL {o:Op}(h:o.may=true)(hk:o.kd=1):o.sp.f.hd=o.hd∧(o.rs.length:Int)=o.sp.n:=by
 unfold Op.may Op.part at h
 rw[if_pos hk] at h
 simp only[Bool.and_eq_true,decide_eq_true_eq] at h
 exact⟨h.2.1.1.2,h.2.1.2⟩
theorem zD8 {s:Spn}{x:Eid}(h:x∈s.ids):x.hd=s.f.hd:=by
 unfold Spn.ids at h
 obtain⟨i,_,rfl⟩:=List.mem_map.1 h
 rfl
theorem zGG {l:List Op}{x:Eid}:x∈zA2 l ↔ ∃ o∈l,o.kd=1∧x∈o.sp.ids:=by
 unfold zA2
 rw[List.mem_flatMap]
 constructor
 ·rintro⟨o,ho,h⟩
  split at h
  ·exact⟨o,ho,by assumption,h⟩
  ·cases h
 ·rintro⟨o,ho,hk,h⟩
  exact⟨o,ho,by rw[if_pos hk];exact h⟩
theorem zES {l:List Op}(hm:∀ o∈l,o.may=true){v:Lb}{x:Eid}(hx:x.hd.lb.leq v=true):x∈zA2 (lowL l v)↔x∈zA2 l:=by
 rw[zGG,zGG]
 constructor
 ·rintro⟨o,ho,h⟩
  exact⟨o,(List.mem_filter.1 ho).1,h⟩
 ·rintro⟨o,ho,hk,h⟩
  refine⟨o,List.mem_filter.2 ⟨ho, ?_⟩,hk,h⟩
  have:=zD8 h
  rw[← (zCL (hm o ho) hk).1,← this]
  exact hx
theorem zG0 (l:List Op)(v:Lb):(zA2 (lowL l v)).length≤(zA2 l).length:=by
 induction l with
 | nil=>exact Nat.le_refl _
 | cons o l ih =>
  unfold lowL zA2 at *
  rw[List.filter_cons]
  split
  ·simp only[List.flatMap_cons,List.length_append];omega
  ·simp only[List.flatMap_cons,List.length_append];omega
section
variable {pre : List Op} {o : Op}
theorem zIM (hm:∀ o∈pre,o.may=true)(ho:o.hd.lb.leq v=true)(x:Eid):zBF (lowL pre v) o x=zBF pre o x:=by
 unfold zBF
 cases h:x.hd.lb.leq o.hd.lb with
 | false=>simp
 | true =>
  have:=zES hm (zEA h ho)
  rw[decide_eq_decide.2 this]
theorem zJS (hm:∀ o∈pre,o.may=true)(ho:o.hd.lb.leq v=true):allB (lowL pre v) o=allB pre o:=by
 unfold allB
 congr 1
 funext x
 exact zIM hm ho x
theorem zMF (hm:∀ o∈pre,o.may=true)(ho:o.hd.lb.leq v=true)(hom:o.may=true)(hc:zAZ pre=0)(hc2:zAZ (lowL pre v)=0)(hb:o.kd=1 → ¬8192<((zA2 pre).length:Int)+o.sp.n):zBM (lowL pre v) o=zBM pre o:=by
 unfold zBM
 by_cases hk:o.kd=1
 ·rw[if_pos hk,if_pos hk]
  unfold insE
  have h1:(o.sp.ids.any fun x=>decide (x∈zA2 (lowL pre v)))=(o.sp.ids.any fun x=>decide (x∈zA2 pre)):=by
   rw[Bool.eq_iff_iff,List.any_eq_true,List.any_eq_true]
   constructor
   ·rintro⟨x,hx,h⟩
    refine⟨x,hx, ?_⟩
    rw[decide_eq_true_eq] at h ⊢
    exact(zES hm (by rw[zD8 hx,(zCL hom hk).1];exact ho)).1 h
   ·rintro⟨x,hx,h⟩
    refine⟨x,hx, ?_⟩
    rw[decide_eq_true_eq] at h ⊢
    exact(zES hm (by rw[zD8 hx,(zCL hom hk).1];exact ho)).2 h
  have:=zG0 pre v
  have hb:=hb hk
  rw[zIM hm ho,h1,if_neg (show ¬8192<((zA2 (lowL pre v)).length:Int)+o.sp.n by omega),if_neg hb]
 ·rw[if_neg hk,if_neg hk]
  split
  ·unfold remE
   rw[zJS hm ho]
  ·unfold raiE chfB chfE
   rw[zJS hm ho,hc,hc2,zHJ pre v o ho]
theorem zMD (h:zBM pre o=0):o.kd=1 → ¬8192<((zA2 pre).length:Int)+o.sp.n:=by
 intro hk hb
 unfold zBM insE at h
 rw[if_pos hk] at h
 split at h
 ·cases h
 ·split at h
  ·cases h
  ·first | (rw[if_pos hb] at h;cases h) | cases h
theorem zJ5 (hm:∀ o∈pre,o.may=true)(ho:o.hd.lb.leq v=true)(hom:o.may=true)(hc:zAZ pre=0)(hc2:zAZ (lowL pre v)=0)(hb:o.kd=1 → ¬8192<((zA2 pre).length:Int)+o.sp.n)(hl:pre.length<2048):fitE (lowL pre v) o=fitE pre o:=by
 have:=zFL pre v
 unfold fitE
 rw[zMF hm ho hom hc hc2 hb,if_neg (show ¬2048≤pre.length by omega),if_neg (show ¬2048≤(lowL pre v).length by omega)]
theorem zNY (hm:∀ o∈pre,o.may=true)(ho:o.hd.lb.leq v=true)(hom:o.may=true)(hc:zAZ pre=0)(hc2:zAZ (lowL pre v)=0)(h:fitE pre o=0):fitE (lowL pre v) o=0:=by
 rw[zJ5 hm ho hom hc hc2 (zMD (zCV h)) (zKB h)]
 exact h
end
theorem zCX:∀ (pre a b:List Op),zA1 pre (a++b)=(zA1 pre a&&zA1 (pre++a) b)
 | pre,[],b=>by simp [zA1]
 | pre,o::a,b=>by
  simp only[List.cons_append,zA1]
  rw[zCX (pre++[o]) a b,List.append_assoc]
  simp only[List.cons_append,List.nil_append,Bool.and_assoc]
theorem zFF (v:Lb):∀ (l pre:List Op),zA1 [] pre=true→zA1 [] (lowL pre v)=true→zA1 pre l=true→zA1 (lowL pre v) (lowL l v)=true
 | [],pre,_,_,_=>rfl
 | o::l,pre,hp,hq,h=>by
  simp only[zA1,Bool.and_eq_true,decide_eq_true_eq] at h
  have hp':zA1 [] (pre++[o])=true:=by
   rw[zCX,hp]
   simp only[List.nil_append,zA1,h.1.1,h.1.2,decide_true,Bool.and_self]
  have hs:=zI9 pre o v
  unfold lowL at hs ⊢
  rw[List.filter_cons]
  cases ho:o.hd.lb.leq v with
  | false =>
   rw[ho,if_neg (by decide),List.append_nil] at hs
   have:=zFF v l (pre++[o]) hp' (by unfold lowL;rw[hs];exact hq) h.2
   unfold lowL at this
   rw[hs] at this
   simpa using this
  | true =>
   rw[ho,if_pos rfl] at hs
   have hf:=zNY (zBI hp) ho h.1.1 (zB0 hp) (zB0 hq) h.1.2
   unfold lowL at hf
   have hq':zA1 [] (lowL (pre++[o]) v)=true:=by
    unfold lowL
    rw[hs,zCX]
    unfold lowL at hq
    rw[hq]
    simp only[List.nil_append,zA1,h.1.1,hf,decide_true,Bool.and_self]
   have:=zFF v l (pre++[o]) hp' hq' h.2
   unfold lowL at this
   rw[hs] at this
   simp only[if_true,zA1,h.1.1,hf,decide_true,Bool.true_and]
   exact this
theorem zC2 {l:List Op}(v:Lb)(h:zA1 [] l=true):zA1 [] (lowL l v)=true:=zFF v l [] rfl rfl h
def stepT (t:List Rn)(o:Op):List Rn:=if rofE o=0 then insL t o.rn else t
def textOf (l:List Op):List Rn:=l.foldl stepT []
theorem zCS (l:List Op)(o:Op):textOf (l++[o])=stepT (textOf l) o:=by simp [textOf]
theorem zE6 (l:List Op)(o:Op):zA1 [] (l++[o])=(zA1 [] l&&(o.may&&decide (fitE l o=0))):=by
 rw[zCX]
 simp [zA1]
theorem zE2 (o:Op):o.rn.elR.map (·.id)=o.sp.ids:=by
 simp [Rn.elR,Spn.ids,Op.rn,Function.comp_def]
theorem zEO {o:Op}(h:rofE o=0):o.may=true∧o.kd=1∧o.rn.may=true:=by
 unfold rofE at h
 split at h
 ·rename_i h1
  split at h
  ·rename_i h2;exact⟨h1,h2.1,h2.2⟩
  ·cases h
 ·cases h
structure HT (l:List Op) (t:List Rn):Prop where
 ok:zBG t
 mem:∀ x,x∈elsR t ↔ ∃ o∈l,rofE o=0∧x∈o.rn.elR
 ids:∀ y,y∈zA2 l ↔ ∃ x∈elsR t,x.id=y
 len:(elsR t).length=(zA2 l).length
 cl:(∀ o∈l,o.ok)→zF7 (elsR t)
theorem z_leq {b:Lb}(h:b.ok):Lb.z.leq b=true:=by
 unfold Lb.leq
 simp only[Bool.and_eq_true,decide_eq_true_eq,zD7]
 refine⟨h.1, ?_⟩
 simp
theorem HT.step {l:List Op}{t:List Rn}{o:Op}(h:HT l t)(hf:fitE l o=0)(hm:o.may=true):HT (l++[o]) (stepT t o)∧(o.kd=1→putE t o.rn=0∧rofE o=0):=by
 have hk:=zCV hf
 have hth:=zF6 l o
 by_cases h1:o.kd=1
 ·unfold zBM at hk
  rw[if_pos h1] at hk
  unfold insE at hk
  split at hk
  ·cases hk
  rename_i hs
  split at hk
  ·cases hk
  rename_i hr
  split at hk
  ·cases hk
  rename_i hn
  have hr0:rofE o=0:=Classical.byContradiction fun k=>hr (.inl k)
  have hfr:∀ y∈o.sp.ids,y ∉ zA2 l:=fun y hy k=>hr (.inr (List.any_eq_true.2 ⟨y,hy,decide_eq_true k⟩))
  obtain⟨_,_,hrm⟩:=zEO hr0
  have hsee:o.af≠Eid.z→zBF l o o.af=true:=fun hz=>Classical.byContradiction fun k=>hs ⟨hz,by simpa using k⟩
  have hp:putE t o.rn=0:=by
   rw[zIK]
   refine⟨h.ok,hrm, ?_,fun x hx e he k=>?_, ?_⟩
   ·by_cases hz:o.af=Eid.z
    ·exact .inl hz
    ·right
     have:=hsee hz
     unfold zBF at this
     simp only[Bool.and_eq_true,decide_eq_true_eq] at this
     exact(h.ids _).1 this.1
   ·have h2:x.id∈o.sp.ids:=by rw[← zE2];exact List.mem_map.2 ⟨x,hx,rfl⟩
    exact hfr _ h2 ((h.ids _).2 ⟨e,he,k.symm⟩)
   ·have hl:o.rn.elR.length=o.sp.n.toNat:=zAA _
    have hb:=Spn.may_le (Rn.may_sp hrm)
    have e1:o.rn.sp.n=o.sp.n:=rfl
    rw[e1] at hb
    rw[h.len,hl]
    omega
  have hst:stepT t o=insL t o.rn:=by unfold stepT;rw[if_pos hr0]
  rw[hst]
  refine⟨⟨zP1 hp,fun x=>?_,fun y=>?_, ?_,fun hok=>?_⟩,fun _=>⟨hp,hr0⟩⟩
  ·rw[zE8 hp,h.mem]
   constructor
   ·rintro (⟨p,h2,h3⟩ | h2)
    ·exact⟨p,List.mem_append_left _ h2,h3⟩
    ·exact⟨o,List.mem_append_right _ List.mem_cons_self,hr0,h2⟩
   ·rintro⟨p,h2,h3,h4⟩
    rcases List.mem_append.1 h2 with h2 | h2
    ·exact .inl ⟨p,h2,h3,h4⟩
    ·rw[List.mem_singleton] at h2;subst h2;exact .inr h4
  ·rw[hth,if_pos h1,List.mem_append,h.ids]
   constructor
   ·rintro (⟨x,h2,h3⟩ | h2)
    ·exact⟨x,(zE8 hp x).2 (.inl h2),h3⟩
    ·rw[← zE2] at h2
     obtain⟨x,h3,h4⟩:=List.mem_map.1 h2
     exact⟨x,(zE8 hp x).2 (.inr h3),h4⟩
   ·rintro⟨x,h2,h3⟩
    rcases (zE8 hp x).1 h2 with h2 | h2
    ·exact .inl ⟨x,h2,h3⟩
    ·right
     rw[← zE2]
     exact List.mem_map.2 ⟨x,h2,h3⟩
  ·rw[zO7 hp,hth,if_pos h1,List.length_append,h.len,← zE2,List.length_map]
  ·intro x hx
   rcases (zE8 hp x).1 hx with hx | hx
   ·exact h.cl (fun p hp=>hok p (List.mem_append_left _ hp)) x hx
   ·have hhd:=(zCL hm h1).1
    have ho:=hok o (List.mem_append_right _ List.mem_cons_self)
    rw[zG6 hx]
    obtain⟨i,hi,rfl⟩:=List.getElem_of_mem hx
    rw[zAK]
    unfold Rn.afAt
    by_cases h0:(0:Int)<i
    ·rw[if_pos h0];exact zI7 _
    ·rw[if_neg h0]
     show o.af.hd.lb.leq o.sp.f.hd.lb=true
     by_cases hz:o.af=Eid.z
     ·rw[hz,hhd];exact z_leq ho.2.1.1
     ·have:=hsee hz
      unfold zBF at this
      simp only[Bool.and_eq_true,decide_eq_true_eq] at this
      rw[hhd];exact this.2
 ·have hr0:¬rofE o=0:=fun k=>h1 (zEO k).2.1
  have hst:stepT t o=t:=by unfold stepT;rw[if_neg hr0]
  rw[hst]
  refine⟨⟨h.ok,fun x=>?_,fun y=>?_, ?_,fun hok=>h.cl fun p hp=>hok p (List.mem_append_left _ hp)⟩,fun k=>absurd k h1⟩
  ·rw[h.mem]
   constructor
   ·rintro⟨p,h2,h3⟩
    exact⟨p,List.mem_append_left _ h2,h3⟩
   ·rintro⟨p,h2,h3,h4⟩
    rcases List.mem_append.1 h2 with h2 | h2
    ·exact⟨p,h2,h3,h4⟩
    ·rw[List.mem_singleton] at h2;subst h2;exact absurd h3 hr0
  ·rw[hth,if_neg h1,List.append_nil];exact h.ids y
  ·rw[hth,if_neg h1,List.append_nil];exact h.len
theorem zHN:zBG []:=⟨fun _ h=>absurd h (by simp),by simp [zA7],by rw[show elsL []=[] from rfl];exact Ord.nil,rfl⟩
theorem zOZ:HT [] []:=⟨zHN,fun x=>by simp [elsR],fun y=>by simp [zA2,elsR],rfl,fun _ x hx=>absurd hx (by simp [elsR])⟩
theorem zAI {l:List Op}:zA1 [] l=true→HT l (textOf l):=by
 refine zAR (P:=fun l=>zA1 [] l=true→HT l (textOf l)) (fun _=>zOZ) (fun l o ih h=>?_) l
 rw[zE6] at h
 simp only[Bool.and_eq_true,decide_eq_true_eq] at h
 rw[zCS]
 exact((ih h.1).step h.2.2 h.2.1).1
theorem zI1 {l m:List Op}(h:zA1 [] (l++m)=true):zA1 [] l=true:=by
 rw[zCX] at h
 simp only[Bool.and_eq_true] at h
 exact h.1
theorem zM9 {l m:List Op}{o:Op}(h:zA1 [] (l++o::m)=true)(hr:rofE o=0):putE (textOf l) o.rn=0:=by
 have e:l++o::m=(l++[o])++m:=by simp
 rw[e] at h
 have h:=zI1 h
 rw[zE6] at h
 simp only[Bool.and_eq_true,decide_eq_true_eq] at h
 exact(((zAI h.1).step h.2.2 h.2.1).2 (zEO hr).2.1).1
theorem zN1 {l:List Op}(h:zA1 [] l=true)(hok:∀ o∈l,o.ok)(v:Lb):textOf (lowL l v)=upTo v (textOf l)∧zFD (textOf l)=true:=by
 have hT:=zAI h
 have hL:=zAI (zC2 v h)
 have hE:=(zAW hT.ok).1
 have hC:=hT.cl hok
 have hcl:zFD (textOf l)=true:=(zIX hT.ok.1 zI7).2 hC
 refine⟨?_,hcl⟩
 rw[zIR hT.ok.1]
 have hM:=zO8 hE hC (fun _ _ _=>zEA) v
 refine text_eq hL.ok (zGX hM) fun x=>?_
 rw[(zBA _).1,List.mem_filter,hL.mem,hT.mem]
 have hmay:=zBI h
 constructor
 ·rintro⟨o,ho,h1,h2⟩
  obtain⟨h3,h4⟩:=List.mem_filter.1 ho
  refine⟨⟨o,h3,h1,h2⟩, ?_⟩
  unfold lowE
  rw[zG6 h2]
  show o.sp.f.hd.lb.leq v=true
  rw[(zCL (hmay o h3) (zEO h1).2.1).1]
  exact h4
 ·rintro⟨⟨o,h3,h1,h2⟩,h4⟩
  refine⟨o,List.mem_filter.2 ⟨h3, ?_⟩,h1,h2⟩
  unfold lowE at h4
  rw[zG6 h2] at h4
  have h5:o.sp.f.hd.lb.leq v=true:=h4
  rw[(zCL (hmay o h3) (zEO h1).2.1).1] at h5
  exact h5
end Go.Proofs.YtginjhihkleaoaaGreat
