/-
  Texts joined: VqF VqJ RiG VqG SwR SwG SwY RgL RiH SwV RiI.
-/
import Derived.Test.YtmkkecnafjhdmaaGreatEg
import Derived.Test.YtmkkecnafjhdmaaGreatPc
set_option linter.unusedSimpArgs false
set_option linter.unusedVariables false
set_option maxHeartbeats 64000000
set_option maxRecDepth 100000
namespace Go.Proofs.YtmkkecnafjhdmaaGreat
open Go Go.Ax
variable {fuel : Nat} {M : Mem} {Q : AV → Mem → Prop} {d : Nat} {l : List Op} {a : AV} {v : Lb}
def zAW (c:List CellV):Nat:=(c.filter fun x=>decide (x.ch = -1)).length
theorem zGU (c:List CellV)(x:CellV):zBE (c++[x])=zBE c+(if x.ch = -1 then 0 else 1):=by
 unfold zBE
 rw[List.filter_append,List.length_append]
 by_cases h:x.ch = -1 <;> simp [h]
theorem zDJ (c:List CellV)(x:CellV):zAW (c++[x])=zAW c+(if x.ch = -1 then 1 else 0):=by
 unfold zAW
 rw[List.filter_append,List.length_append]
 by_cases h:x.ch = -1 <;> simp [h]
theorem zCB (c:List CellV):zBE c+zAW c=c.length:=by
 induction c with
 | nil=>rfl
 | cons x c ih =>
  unfold zBE zAW at *
  rw[List.filter_cons,List.filter_cons]
  by_cases h:x.ch = -1 <;> simp [h] <;> simp at ih <;> omega
theorem zIY {bb bs:Nat}{c:CellV}{n m:Int}(wf:Wf M)(g1:M.get bb=some (.row false [I64 n]))(g2:M.get bs=some (.row false [I64 m]))(hn:0≤n∧n≤1000000000)(hm:0≤m∧m≤1000000000)
  (k:∀ z N,N=(if c.ch = -1 then (M.add z).upd bb (.row false [I64 (n+1)]) else (M.add z).upd bs (.row false [I64 (m+1)]))→Q (.tup [I64 0,BL false]) N):W3 (zCN fuel (d+1) 32 [zMN c,.ptr bb 0,.ptr bs 0] M) Q:=by
 have l1:=Mem.get_lt g1
 have l2:=Mem.get_lt g2
 have w1:IntKind.i64.wrap (n+1)=n+1:=wrap_i64 (by omega) (by omega)
 have w2:IntKind.i64.wrap (m+1)=m+1:=wrap_i64 (by omega) (by omega)
 refine call_0 tf32 rfl (by simp [a32]) fun b' ht hx=>?_
 have h0:=hx 0 _ rfl
 have h1:=hx 1 _ rfl
 have h2:=hx 2 _ rfl
 clear hx
 simp only[a32,c32] at ht ⊢
 by_cases q:c.ch = -1
 ·have q':=decide_eq_true q
  simp (disch:=try exact SX) only[RV,seval,h0,h1,g1,w1,q']
  exact k _ _ (by rw[if_pos q])
 ·have q':=decide_eq_false q
  simp (disch:=try exact SX) only[RV,seval,h0,h2,g2,w2,q']
  exact k _ _ (by rw[if_neg q])
theorem zLV {cs:List CellV}{bb bs:Nat}(hA:Sl 5 zAY a cs)(hcl:cs.length≤1000000)(hf:cs.length<fuel)(wf:Wf M)(hne:bb≠bs)(g1:M.get bb=some (.row false [I64 0]))(g2:M.get bs=some (.row false [I64 0]))
  (k:∀ N,Wf N→M.size≤N.size→(∀ j,j<M.size→j≠bb→j≠bs→N.get j=M.get j)→N.get bb=some (.row false [I64 (zAW cs)])→N.get bs=some (.row false [I64 (zBE cs)])→Q NIL N) :
  W3 (zCN fuel (d+2) 31 [a,.fn 32 [] [.ptr bb 0,.ptr bs 0]] M) Q:=by
 have la:=hA.len
 have l1:=Mem.get_lt g1
 have l2:=Mem.get_lt g2
 refine call_0 tf31 rfl (by simp [a31]) fun b' ht hx=>?_
 have h0:=hx 0 _ rfl
 have h1:=hx 1 _ rfl
 clear hx
 simp only[a31,c31] at ht ⊢
 simp (disch:=try exact SX) only[RV,seval,h0,la]
 refine w_loop (I:=fun n t N => ∃ (i:Nat),n=cs.length - i∧i≤cs.length∧nth undefA t 1 = .fn 32 [] [.ptr bb 0,.ptr bs 0]∧nth undefA t 4=NIL∧nth undefA t 9=a∧nth undefA t 10=I64 cs.length∧nth undefA t 11=I64 i∧Wf N∧M.size≤N.size∧(∀ j,j<M.size→j≠bb→j≠bs→N.get j=M.get j)∧N.get bb=some (.row false [I64 (zAW (cs.take i))])∧N.get bs=some (.row false [I64 (zBE (cs.take i))])) (n:=cs.length) (by omega) ?_ ?_
 ·refine⟨0,rfl,Nat.zero_le _, ?_, ?_, ?_, ?_, ?_,wf,Nat.le_refl _,(fun _ _ _ _=>rfl),g1,g2⟩ <;> simp (disch:=try exact SX) only[RV,seval,h1]
  all_goals first | rfl | assumption | done
 ·rintro n t N hlt ⟨i,rfl,hi,g1,g4,g9,g10,g11,w,le,kp,b1,b2⟩
  simp only[ht] at hlt ⊢
  by_cases hc:i<cs.length
  ·have q1:decide ((i:Int)<cs.length)=true:=DT
   have w1:IntKind.i64.wrap ((i:Int)+1)=((i+1:Nat):Int):=by rw[wrap_i64] <;> omega
   obtain⟨r,hiad,hr,hrl⟩:=hA.iad i hc
   have hb:=zDJ (cs.take i) cs[i]
   have hs:=zGU (cs.take i) cs[i]
   rw[← take_snoc cs i hc] at hb hs
   have hcc:=zCB (cs.take i)
   rw[List.length_take] at hcc
   generalize cs[i]=c at *
   obtain⟨rfl,hok⟩:=hr
   have l1':bb<N.size:=by omega
   have l2':bs<N.size:=by omega
   have wY:=(w.add (.row false (zB8 ⟨Eid.z,0⟩))).upd N.size (.row false (zB8 c))
   have gY:∀ j,j<N.size→((N.add (.row false (zB8 ⟨Eid.z,0⟩))).upd N.size (.row false (zB8 c))).get j=N.get j:=fun j hj=>by
    rw[get_upd_ne (w.add _) _ _ _ (by omega),get_add w _ _ hj]
   have sY:((N.add (.row false (zB8 ⟨Eid.z,0⟩))).upd N.size (.row false (zB8 c))).size=N.size+1:=rfl
   simp (disch:=try exact SX) only[RV,seval,g1,g9,g10,g11,q1,hiad]
   revert wY gY sY
   generalize ((N.add _).upd N.size _)=Y
   intro wY gY sY
   refine zIY (d:=d) (c:=c) (n:=zAW (cs.take i)) (m:=zBE (cs.take i)) wY ((gY _ l1').trans b1) ((gY _ l2').trans b2) (by omega) (by omega) fun z N2 hN2=>?_
   have hw2:Wf N2:=by rw[hN2];split <;> exact(wY.add _).upd _ _
   have hs2:N2.size=N.size+2:=by rw[hN2];split <;> simp only[upd_size,add_size] <;> omega
   have hg2:∀ j,j<N.size→j≠bb→j≠bs→N2.get j=N.get j:=fun j hj e1 e2=>by
    rw[hN2]
    split
    ·rw[get_upd_ne (wY.add _) _ _ _ (fun e=>e1 e.symm),get_add wY _ _ (by omega)];exact gY j hj
    ·rw[get_upd_ne (wY.add _) _ _ _ (fun e=>e2 e.symm),get_add wY _ _ (by omega)];exact gY j hj
   have hb2:N2.get bb=some (.row false [I64 (zAW (cs.take (i+1)))]):=by
    rw[hN2,hb]
    split
    ·rw[get_upd_eq (wY.add _) _ _ (by simp only[add_size];omega)];rfl
    ·rw[get_upd_ne (wY.add _) _ _ _ (fun e=>hne e.symm),get_add wY _ _ (by omega)];exact(gY _ l1').trans b1
   have hs3:N2.get bs=some (.row false [I64 (zBE (cs.take (i+1)))]):=by
    rw[hN2,hs]
    split
    ·rw[get_upd_ne (wY.add _) _ _ _ hne,get_add wY _ _ (by omega)];exact(gY _ l2').trans b2
    ·rw[get_upd_eq (wY.add _) _ _ (by simp only[add_size];omega)];rfl
   clear hN2
   simp (disch:=try exact SX) only[RV,seval,g1,g4,g9,g10,g11,w1,hw2]
   refine⟨hlt,cs.length - (i+1),by omega,i+1,rfl,by omega,rfl,by omega,fun j hj e1 e2=>(hg2 j (by omega) e1 e2).trans (kp j hj e1 e2),hb2,hs3⟩
  ·obtain rfl:i=cs.length:=by omega
   have q1:decide ((cs.length:Int)<cs.length)=false:=DF
   rw[List.take_length] at b1 b2
   simp (disch:=try exact SX) only[RV,seval,g4,g10,g11]
   exact k N w le kp b1 b2
def topC (cs:List CellV)(v:Lb):Int:=cs.foldl (fun m c=>if c.id.hd.lb.leq v=true then imax m c.id.c else m) 0
theorem zCV (cs:List CellV)(v:Lb)(c:CellV):topC (cs++[c]) v=if c.id.hd.lb.leq v=true then imax (topC cs v) c.id.c else topC cs v:=by simp [topC]
theorem zFD {cs:List CellV}{v:Lb}:0≤topC cs v ∧ ∀ c∈cs,c.id.hd.lb.leq v=true→c.id.c≤topC cs v:=by
 refine zAN (P:=fun cs=>0≤topC cs v ∧ ∀ c∈cs,c.id.hd.lb.leq v=true→c.id.c≤topC cs v) ⟨Int.le_refl 0,fun c h=>absurd h (by simp)⟩ (fun cs x ih=>?_) cs
 rw[zCV]
 unfold imax
 refine⟨?_,fun c hc hq=>?_⟩
 ·split
  ·split <;> omega
  ·exact ih.1
 ·rcases List.mem_append.1 hc with hc | hc
  ·have:=ih.2 c hc hq
   split
   ·split <;> omega
   ·exact this
  ·rw[List.mem_singleton] at hc
   subst hc
   rw[if_pos hq]
   split <;> omega
def topH (l:List Op)(h:Hd):Int:=topC (zAG (elsR (textOf l))) h.lb
def zGI (l:List Op)(h:Hd):Int:=if zA1 [] l=true then (if h.may=true then (if 1099511627776≤topH l h then 9 else 0) else 8) else 8
def zI9 (l:List Op)(h:Hd):Int:=if zGI l h=0 then topH l h+1 else 0
theorem zJ9 (x:Hd):∀ y∈hdR x,Fz y:=fun y hy=>by
 simp only[hdR,List.mem_cons,List.not_mem_nil,or_false] at hy
 rcases hy with rfl | rfl | rfl <;> exact fz_sc_int _ _
theorem zKE {h:Hd}(hS:Sl 17 isOp a l)(hl:l.length≤200)(hf:3200000<fuel)(M:Mem):zCN fuel (d+19) 14 [a,hdA h] M=some (.tup [I64 (zI9 l h),I64 (zGI l h)],M):=by
 obtain⟨rt,⟨r3,rfl,hr3⟩,htx⟩:=zHR (fuel:=fuel) (d:=d+3) hS (by omega) (by omega)
 have hch:=fun M=>@zCA fuel (d+16) h M
 apply w3_eq
 refine call_gc tf14 rfl (by simp only[icyL,fun M=>hS.icy M 12 (by omega),fz_icyA (zJ9 h) (show 1<12 by omega)]) (by simp [a14]) fun b' ht hx=>?_
 have h0:=hx 0 _ rfl
 have h1:=hx 1 _ rfl
 clear hx
 simp only[a14,c14] at ht ⊢
 unfold zI9 zGI
 cases q1:zA1 [] l with
 | false =>
  rw[q1] at htx
  simp (disch:=try exact SX) only[RV,reduceIte,Nat.reduceEqDiff,Int.reduceEq,h0,h1,htx,zAD]
  rfl
 | true =>
  rw[q1] at htx hr3
  simp only[if_true] at hr3
  have hT:=zAH q1
  have htl:=zDF l
  have hel:=zD9 hT.ok.1
  cases q2:h.may with
  | false =>
   rw[q2] at hch
   simp (disch:=try exact SX) only[RV,reduceIte,Nat.reduceEqDiff,Int.reduceEq,h0,h1,htx,hch,zA6,zAD]
   rfl
  | true =>
   rw[q2] at hch
   obtain⟨r4,hr4,hal⟩:=zIS (fuel:=fuel) (d:=d+10) hr3 hT.ok.1 (by omega) (by omega)
   have lr4:=hr4.len
   have hcl:=zBI (elsR (textOf l))
   unfold topH
   generalize zAG (elsR (textOf l))=cs at *
   simp (disch:=try exact SX) only[RV,reduceIte,Nat.reduceEqDiff,h0,h1,htx,hch,hal,zA6,lr4]
   refine w_loop (I:=fun n t N => ∃ (i:Nat),n=cs.length - i∧i≤cs.length∧nth undefA t 3 = .ptr 0 0∧nth undefA t 9=I64 (topC (cs.take i) h.lb)∧nth undefA t 26=r4∧nth undefA t 27=I64 cs.length∧nth undefA t 28=I64 i∧Wf N∧1≤N.size∧N.get 0=some (.row false (hdR h))) (n:=cs.length) (by omega) ?_ ?_
   ·refine⟨0,rfl,Nat.zero_le _, ?_, ?_, ?_, ?_, ?_,Wf.mem0.add _,Nat.le_refl 1,by simp (disch:=try exact SX) only[RV]⟩ <;> simp (disch:=try exact SX) only[RV,reduceIte,Nat.reduceEqDiff]
    all_goals first | rfl | assumption | done
   ·rintro n t N hlt ⟨i,rfl,hi,g3,g9,g26,g27,g28,w,le,m0⟩
    simp only[ht] at hlt ⊢
    have l0:0<N.size:=by omega
    by_cases hc:i<cs.length
    ·have q3:decide ((i:Int)<cs.length)=true:=DT
     have w1:IntKind.i64.wrap ((i:Int)+1)=((i+1:Nat):Int):=by rw[wrap_i64] <;> omega
     obtain⟨r,hiad,hr,hrl⟩:=hr4.iad i hc
     have hts:=zCV (cs.take i) h.lb cs[i]
     rw[← take_snoc cs i hc] at hts
     generalize cs[i]=c at *
     obtain⟨rfl,hok⟩:=hr
     have hle:=fun M=>zCZ (fuel:=fuel) (d:=d+17) c.id.hd.lb h.lb M
     have gY:∀ z r,((N.add z).upd N.size r).get 0=some (.row false (hdR h)):=fun z r=>by
      rw[get_upd_ne (w.add _) _ _ _ (by omega),get_add w _ _ l0];exact m0
     cases q4:c.id.hd.lb.leq h.lb with
     | true =>
      rw[q4,if_pos rfl] at hts
      simp only[q4] at hle
      simp (disch:=try exact SX) only[RV,reduceIte,Nat.reduceEqDiff,Nat.reduceAdd,Nat.reduceLeDiff,g3,g9,g26,g27,g28,q3,hiad,w,m0,hle,w1,pB_max2,BMM]
      exact⟨hlt,cs.length - (i+1),by omega,i+1,rfl,by omega,by rw[hts],rfl⟩
     | false =>
      rw[q4,if_neg (by decide)] at hts
      simp only[q4] at hle
      simp (disch:=try exact SX) only[RV,reduceIte,Nat.reduceEqDiff,Nat.reduceAdd,Nat.reduceLeDiff,g3,g9,g26,g27,g28,q3,hiad,w,m0,hle,w1]
      exact⟨hlt,cs.length - (i+1),by omega,i+1,rfl,by omega,by rw[hts],rfl⟩
    ·obtain rfl:i=cs.length:=by omega
     have q3:decide ((cs.length:Int)<cs.length)=false:=DF
     rw[List.take_length] at g9
     have htp:=(zFD (cs:=cs) (v:=h.lb)).1
     by_cases q5:1099511627776≤topC cs h.lb
     ·have q5':=decide_eq_true q5
      rw[if_pos q5]
      simp (disch:=try exact SX) only[RV,reduceIte,Nat.reduceEqDiff,Int.reduceEq,g9,g27,g28,q5']
     ·have q5':=decide_eq_false q5
      have w2:IntKind.i64.wrap (topC cs h.lb+1)=topC cs h.lb+1:=by rw[wrap_i64] <;> omega
      rw[if_neg q5]
      simp (disch:=try exact SX) only[RV,reduceIte,Nat.reduceEqDiff,g9,g27,g28,q5',w2]
variable {x : Eid}
def cntL (l:List Op)(v:Lb):List CellV:=if zAT l v=0 then zAI l v else []
theorem zHZ (hS:Sl 17 isOp a l)(hl:l.length≤200)(hf:3200000<fuel)(hd:∀ o∈l,o.rs.length≤1000000000)(M:Mem):zCN fuel (d+19) 12 [a,lbA v] M=some (.tup [I64 (zBE (cntL l v)),I64 (zAW (cntL l v)),I64 (zAT l v)],M):=by
 obtain⟨rc,⟨r2,rfl,hr2⟩,hce⟩:=zCK (fuel:=fuel) (d:=d) (v:=v) hS hl hf hd
 have hvl:(cntL l v).length≤100000:=by
  unfold cntL
  split
  ·rename_i h0z
   have:=zBF (zBY h0z).1 v
   omega
  ·exact Nat.zero_le _
 unfold cntL at hvl ⊢
 generalize (if zAT l v=0 then zAI l v else [])=C at *
 apply w3_eq
 refine call_gc tf12 rfl (by simp only[icyL,fun M=>hS.icy M 12 (by omega),fz_icyA (zAB v) (show 1<12 by omega)]) (by simp [a12]) fun b' ht hx=>?_
 have h0:=hx 0 _ rfl
 have h1:=hx 1 _ rfl
 clear hx
 simp only[a12,c12] at ht ⊢
 simp (disch:=try exact SX) only[RV,seval,h0,h1,hce]
 refine zLV (d:=d+16) hr2 (by omega) (by omega) ?_ (by decide) ?_ ?_ fun N w le kp b1 b2=>?_
 ·exact zB04
 ·exact zB04
 ·exact zB04
 ·have l1:=Mem.get_lt b1
  have l2:=Mem.get_lt b2
  simp (disch:=try exact SX) only[RV,seval,b1,b2]
  rfl
theorem zF5 (hS:Sl 17 isOp a l)(hv:v.ok)(hl:l.length≤200)(hf:100000<fuel)(M:Mem):zCN fuel (d+9) 13 [a,lbA v] M=some (.tup [I64 (zBE (cntL l v)),I64 (zAW (cntL l v)),I64 (zAT l v)],M):=by
 have ha:=fun M=>zBD (fuel:=fuel) (d:=d) (v:=v) hS hl hf M
 apply w3_eq
 refine call_gc tf13 rfl (by simp only[icyL,fun M=>hS.icy M 12 (by omega),fz_icyA (zAB v) (show 1<12 by omega)]) (by simp [a13]) fun b' ht hx=>?_
 have h0:=hx 0 _ rfl
 have h1:=hx 1 _ rfl
 clear hx
 simp only[a13,c13] at ht ⊢
 unfold cntL
 by_cases q:zAT l v=0
 ·have q':=decide_eq_true q
  obtain⟨q1,q2⟩:=zBY q
  obtain⟨r,hr,hse⟩:=zBN (fuel:=fuel) (d:=d+3) hS q1 hv q2 hl hf
  have lr:=hr.len
  have hvl:=zBF q1 v
  rw[q] at ha ⊢
  simp only[if_true]
  generalize zAI l v=C at *
  simp (disch:=try exact SX) only[RV,seval,h0,h1,ha,hse]
  refine w_loop (I:=fun nq tq Nq => ∃ (iq:Nat),nq=C.length - iq∧iq≤C.length∧nth undefA tq 0=a∧nth undefA tq 8=r∧nth undefA tq 9=I64 (zAW (C.take iq))∧nth undefA tq 10=I64 iq∧Wf Nq) (n:=C.length) (by omega) ?_ ?_
  ·refine⟨0,rfl,Nat.zero_le _, ?_, ?_, ?_, ?_,Wf.mem0.add _⟩ <;> simp (disch:=try exact SX) only[RV,seval,h0]
   all_goals first | rfl | assumption | done
  ·rintro nq tq Nq hltq ⟨iq,rfl,hiq,gq0,gq8,gq9,gq10,w⟩
   simp only[ht] at hltq ⊢
   by_cases hc:iq<C.length
   ·have c1:decide ((iq:Int)<C.length)=true:=DT
    have w1:IntKind.i64.wrap ((iq:Int)+1)=((iq+1:Nat):Int):=by rw[wrap_i64] <;> omega
    obtain⟨r5,hiad,⟨rfl,_⟩,_⟩:=hr.iad iq hc
    have hsn:=zDJ (C.take iq) C[iq]
    rw[← take_snoc C iq hc] at hsn
    have hcc:=zCB (C.take iq)
    rw[List.length_take] at hcc
    generalize C[iq]=c at *
    by_cases h1:c.ch = -1
    ·have h1':=decide_eq_true h1
     rw[if_pos h1] at hsn
     have w2:IntKind.i64.wrap ((zAW (C.take iq):Int)+1)=((zAW (C.take iq)+1:Nat):Int):=by rw[wrap_i64] <;> omega
     simp (disch:=try exact SX) only[RV,seval,gq0,gq8,gq9,gq10,lr,c1,w1,hiad,h1',w2]
     exact⟨hltq,C.length - (iq+1),by omega,iq+1,rfl,by omega,by rw[hsn],rfl,w⟩
    ·have h1':=decide_eq_false h1
     rw[if_neg h1] at hsn
     simp (disch:=try exact SX) only[RV,seval,gq0,gq8,gq9,gq10,lr,c1,w1,hiad,h1']
     exact⟨hltq,C.length - (iq+1),by omega,iq+1,rfl,by omega,congrArg (fun n:Nat=>I64 n) hsn.symm,rfl,w⟩
   ·obtain rfl:iq=C.length:=by omega
    have c1:decide ((C.length:Int)<C.length)=false:=DF
    rw[List.take_length] at gq9
    have hcc:=zCB C
    have w2:IntKind.i64.wrap ((C.length:Int) - (zAW C:Int))=(zBE C:Int):=by rw[wrap_i64] <;> omega
    simp (disch:=try exact SX) only[RV,seval,gq8,gq9,gq10,lr,w2]
 ·have q':=decide_eq_false q
  rw[if_neg q]
  simp (disch:=try exact SX) only[RV,seval,h0,h1,ha,q']
  rfl
theorem zFZ {k m:Int}(hS:Sl 17 isOp a l)(hv:v.ok)(hl:l.length≤200)(hf:100000<fuel):∃ r,vspK l v k m r ∧ ∀ M,zCN fuel (d+9) 11 [a,lbA v,I64 k,I64 m] M=some (r,M):=by
 have ha:=fun M=>zBD (fuel:=fuel) (d:=d) (v:=v) hS hl hf M
 refine gc_ex tf11 rfl (fun M=>by simp only[icyL,fun M=>hS.icy M 12 (by omega),fz_icyA (zAB v) (show 1<12 by omega),icy12]) ?_
 refine call_gc tf11 rfl (by simp only[icyL,fun M=>hS.icy M 12 (by omega),fz_icyA (zAB v) (show 1<12 by omega),icy12]) (by simp [a11]) fun b' ht hx=>?_
 have h0:=hx 0 _ rfl
 have h1:=hx 1 _ rfl
 have h2:=hx 2 _ rfl
 have h3:=hx 3 _ rfl
 clear hx
 simp only[a11,c11] at ht ⊢
 unfold vspK vspE
 by_cases q1:zAT l v=0
 ·have q1':=decide_eq_true q1
  obtain⟨p1,p2⟩:=zBY q1
  obtain⟨r2,hr2,hse⟩:=zBN (fuel:=fuel) (d:=d+3) hS p1 hv p2 hl hf
  rw[q1] at ha
  have hvl:=zBF p1 v
  have lr2:=hr2.len
  simp only[q1,if_true]
  by_cases q2:k<0
  ·have q2':=decide_eq_true q2
   simp only[q2,true_or,if_true]
   simp (disch:=try exact SX) only[RV,seval,h0,h1,h2,ha,hse,q2']
   exact zB06
  have q2':=decide_eq_false q2
  by_cases q3:((zAI l v).length:Int)<k
  ·have q3':=decide_eq_true q3
   simp only[q3,true_or,or_true,if_true]
   simp (disch:=try exact SX) only[RV,seval,h0,h1,h2,ha,hse,q2',q3',lr2]
   exact zB06
  have q3':=decide_eq_false q3
  by_cases q4:m<1
  ·have q4':=decide_eq_true q4
   simp only[q4,true_or,or_true,if_true]
   simp (disch:=try exact SX) only[RV,seval,h0,h1,h2,h3,ha,hse,q2',q3',q4',lr2]
   exact zB06
  have q4':=decide_eq_false q4
  obtain⟨k,rfl⟩:∃ n:Nat,k=n:=⟨k.toNat,by omega⟩
  have w0:IntKind.i64.wrap (((zAI l v).length:Int) - k)=(zAI l v).length - k:=by rw[wrap_i64] <;> omega
  by_cases q5:((zAI l v).length:Int) - k<m
  ·have q5':=decide_eq_true q5
   simp only[q5,or_true,if_true]
   simp (disch:=try exact SX) only[RV,seval,h0,h1,h2,h3,ha,hse,q2',q3',q4',q5',w0,lr2]
   exact zB06
  have q5':=decide_eq_false q5
  obtain⟨m,rfl⟩:∃ n:Nat,m=n:=⟨m.toNat,by omega⟩
  have q6:¬((k:Int)<0∨((zAI l v).length:Int)<k∨(m:Int)<1∨(zAI l v).length - (k:Int)<m):=by omega
  simp only[q6,if_false,if_true]
  unfold midC
  simp only[Int.toNat_natCast]
  have w1:IntKind.i64.wrap ((k:Int)+m)=((k+m:Nat):Int):=by rw[wrap_i64] <;> omega
  obtain⟨sa,hsa,hsl⟩:=zML hr2 (i:=k) (j:=k+m) (by omega) (by omega)
  rw[Nat.add_sub_cancel_left] at hsl
  have hcm:∀ c∈((zAI l v).drop k).take m,c.id.may=true:=fun c hc=>by
   obtain⟨x,x1,x2,_⟩:=zKD (List.mem_of_mem_drop (List.mem_of_mem_take hc))
   rw[← x2]
   exact(zJ0 p1 x x1).2.2
  have hlm:(((zAI l v).drop k).take m).length=m:=by rw[List.length_take,List.length_drop];omega
  generalize ((zAI l v).drop k).take m=cs at *
  obtain⟨rs,hrs,hof⟩:=zJZ (fuel:=fuel) (d:=d+7) hsl hcm (by omega) (by omega)
  simp (disch:=try exact SX) only[RV,seval,h0,h1,h2,h3,ha,hse,hr2.fz.rows,q2',q3',q4',q5',w0,w1,lr2,hsa,hof,hrs.fz.frz]
  exact⟨_,⟨rs,rfl,hrs⟩,rfl⟩
 ·have q1':=decide_eq_false q1
  simp only[q1,if_false]
  simp (disch:=try exact SX) only[RV,seval,h0,h1,ha,q1']
  exact zB06
theorem zGX {cs:List CellV}{v:Lb}:topC cs v=0 ∨ ∃ c∈cs,c.id.hd.lb.leq v=true∧c.id.c=topC cs v:=by
 refine zAN (P:=fun cs=>topC cs v=0 ∨ ∃ c∈cs,c.id.hd.lb.leq v=true∧c.id.c=topC cs v) (.inl rfl) (fun cs x ih=>?_) cs
 rw[zCV]
 have ih':∀ t,t=topC cs v→t=0 ∨ ∃ c∈cs++[x],c.id.hd.lb.leq v=true∧c.id.c=t:=fun t ht=>by
  subst ht
  rcases ih with h | ⟨c,h1,h2,h3⟩
  ·exact .inl h
  ·exact .inr ⟨c,List.mem_append_left _ h1,h2,h3⟩
 unfold imax
 by_cases hq:x.id.hd.lb.leq v=true
 ·rw[if_pos hq]
  split
  ·exact .inr ⟨x,by simp,hq,rfl⟩
  ·exact ih' _ rfl
 ·rw[if_neg hq];exact ih' _ rfl
theorem zLX {cs cs':List CellV}{v:Lb}(h:∀ c,c∈cs↔c∈cs'):topC cs v=topC cs' v:=by
 have a1:=zFD (cs:=cs) (v:=v)
 have a2:=zFD (cs:=cs') (v:=v)
 have b1:topC cs v≤topC cs' v:=by
  rcases zGX (cs:=cs) (v:=v) with e | ⟨c,h1,h2,h3⟩
  ·rw[e];exact a2.1
  ·rw[← h3];exact a2.2 c ((h c).1 h1) h2
 have b2:topC cs' v≤topC cs v:=by
  rcases zGX (cs:=cs') (v:=v) with e | ⟨c,h1,h2,h3⟩
  ·rw[e];exact a1.1
  ·rw[← h3];exact a1.2 c ((h c).2 h1) h2
 omega
theorem zLY {l:List Op}(h:zA1 [] l=true)(v:Lb):topC (zAG (zAZ l)) v=topC (zAG (elsR (textOf l))) v:=by
 refine zLX fun c=>?_
 unfold zAG
 rw[List.mem_map,List.mem_map]
 constructor
 ·rintro⟨x,hx,rfl⟩;exact⟨x,(zDE h x).1 hx,rfl⟩
 ·rintro⟨x,hx,rfl⟩;exact⟨x,(zDE h x).2 hx,rfl⟩
theorem zIE (hS:Sl 17 isOp a l)(hh:zA1 [] l=true)(hv:v.ok)(hl:l.length≤200)(hf:100000<fuel)(M:Mem):zCN fuel (d+5) 37 [a,lbA v] M=some (I64 (topC (zAG (elsR (textOf l))) v),M):=by
 have hrn:=zDP hh
 obtain⟨ro,hro,hon⟩:=zCF (fuel:=fuel) (d:=d) hS hrn (by omega) (by omega)
 have hom:=zDD hrn
 have lro:=hro.len
 rw[← zLY hh]
 generalize zAZ l=E at *
 apply w3_eq
 refine call_gc tf37 rfl (by simp only[icyL,fun M=>hS.icy M 12 (by omega),fz_icyA (zAB v) (show 1<12 by omega)]) (by simp [a37]) fun b' ht hx=>?_
 have h0:=hx 0 _ rfl
 have h1:=hx 1 _ rfl
 clear hx
 simp only[a37,c37] at ht ⊢
 simp (disch:=try exact SX) only[RV,seval,h0,h1,hon]
 refine w_loop (I:=fun nq tq Nq => ∃ (iq:Nat),nq=E.length - iq∧iq≤E.length∧nth undefA tq 0=a∧nth undefA tq 3 = .ptr 0 0∧nth undefA tq 5=I64 (topC (zAG (E.take iq)) v)∧nth undefA tq 6=ro∧nth undefA tq 7=I64 iq∧Wf Nq∧Nq.get 0=some (.row false (lbR v))) (n:=E.length) (by omega) ?_ ?_
 ·exact zB0j
 ·rintro nq tq Nq hltq ⟨iq,rfl,hiq,gq0,gq3,gq5,gq6,gq7,w,g⟩
  simp only[ht] at hltq ⊢
  have l0:=Mem.get_lt g
  by_cases hc:iq<E.length
  ·have c1:decide ((iq:Int)<E.length)=true:=DT
   have w1:IntKind.i64.wrap ((iq:Int)+1)=((iq+1:Nat):Int):=by rw[wrap_i64] <;> omega
   obtain⟨r9,hiad,hr9,_⟩:=hro.iad iq hc
   have hsn:topC (zAG (E.take (iq+1))) v=if E[iq].id.hd.lb.leq v=true then imax (topC (zAG (E.take iq)) v) E[iq].id.c else topC (zAG (E.take iq)) v:=by
    rw[take_snoc E iq hc]
    unfold zAG
    rw[List.map_append,List.map_cons,List.map_nil,zCV]
   generalize E[iq]=x at *
   obtain⟨rfl,hok,_⟩:=hr9
   have hle:=fun M=>zB6 (fuel:=fuel) (d:=d+2) x.id.hd.lb v hok.1.1 hv (by omega) M
   generalize topC (zAG (E.take iq)) v=t at *
   cases q2:x.id.hd.lb.leq v with
   | false =>
    rw[q2] at hle hsn
    rw[if_neg (by decide)] at hsn
    simp (disch:=try exact SX) only[RV,seval,gq0,gq3,gq5,gq6,gq7,lro,c1,w1,hiad,g,hle]
    exact⟨hltq,E.length - (iq+1),by omega,iq+1,rfl,by omega,by rw[hsn],rfl,w⟩
   | true =>
    rw[q2] at hle hsn
    rw[if_pos rfl] at hsn
    unfold imax at hsn
    by_cases h3:t<x.id.c
    ·have h3':=decide_eq_true h3
     rw[if_pos h3] at hsn
     exact zB0r
    ·have h3':=decide_eq_false h3
     rw[if_neg h3] at hsn
     exact zB0r
  ·obtain rfl:iq=E.length:=by omega
   have c1:decide ((E.length:Int)<E.length)=false:=DF
   rw[List.take_length] at gq5
   simp (disch:=try exact SX) only[RV,seval,gq5,gq6,gq7,lro]
theorem zGR {h:Hd}(hS:Sl 17 isOp a l)(hho:h.ok)(hl:l.length≤200)(hf:100000<fuel)(M:Mem):zCN fuel (d+9) 15 [a,hdA h] M=some (.tup [I64 (zI9 l h),I64 (zGI l h)],M):=by
 have hm:=fun M=>zEJ (fuel:=fuel) (d:=d+1) hS (by omega) (by omega) M
 have hv:=fun M=>zD0 (fuel:=fuel) (d:=d+6) h M
 apply w3_eq
 refine call_gc tf15 rfl (by simp only[icyL,fun M=>hS.icy M 12 (by omega),fz_icyA (zJ9 h) (show 1<12 by omega)]) (by simp [a15]) fun b' ht hx=>?_
 have h0:=hx 0 _ rfl
 have h1:=hx 1 _ rfl
 clear hx
 simp only[a15,c15] at ht ⊢
 unfold zI9 zGI
 cases q1:zA1 [] l with
 | false =>
  rw[q1] at hm
  simp (disch:=try exact SX) only[RV,seval,h0,h1,hm]
  rfl
 | true =>
  rw[q1] at hm
  cases q2:h.may with
  | false =>
   rw[q2] at hv
   simp (disch:=try exact SX) only[RV,seval,h0,h1,hm,hv]
   rfl
  | true =>
   rw[q2] at hv
   have ht:=fun M=>zIE (fuel:=fuel) (d:=d+3) (v:=h.lb) hS q1 hho.1 hl hf M
   have hT:=zAH q1
   have hmx:topH l h≤1099511627776∧0≤topH l h:=by
    unfold topH
    refine⟨?_,zFD.1⟩
    rcases zGX (cs:=zAG (elsR (textOf l))) (v:=h.lb) with e | ⟨c,h1,h2,h3⟩
    ·omega
    ·rw[← h3]
     unfold zAG at h1
     obtain⟨x,hx,rfl⟩:=List.mem_map.1 h1
     exact(Eid.may_iff.1 (El.may_iff.1 ((zAO hT.ok).1.m x hx)).1).2.2
   have ht':∀ M,_=some (I64 (topH l h),M):=ht
   generalize topH l h=t at *
   by_cases q3:1099511627776≤t
   ·have e:t=1099511627776:=by omega
    subst e
    have q3':decide ((1099511627776:Int)=1099511627776)=true:=rfl
    simp (disch:=try exact SX) only[RV,seval,h0,h1,hm,hv,ht']
   ·have q3':decide (t=1099511627776)=false:=DF
    have w1:IntKind.i64.wrap (t+1)=t+1:=by rw[wrap_i64] <;> omega
    simp (disch:=try exact SX) only[RV,seval,h0,h1,hm,hv,ht',q3',w1]
    simp only[q3,if_true,if_false]
theorem zF9 {a b:AV}{l:List Spn}(ha:Sl 5 zGF a l)(hb:Sl 5 zGF b l)(hf:l.length<fuel)(hl:l.length≤1000000000)(M:Mem):zCN fuel (d+1) 17 [a,b] M=some (BL true,M):=by
 have la:=ha.len
 have lb:=hb.len
 have q0:decide ((l.length:Int)=l.length)=true:=decide_eq_true rfl
 apply w3_eq
 refine call_gc tf17 rfl (by simp (disch:=try exact SX) only[icyL,ha.fz.icy,hb.fz.icy]) (by simp [a17]) fun b' ht hx=>?_
 have h0:=hx 0 _ rfl
 have h1:=hx 1 _ rfl
 clear hx
 simp only[a17,c17] at ht ⊢
 simp (disch:=try exact SX) only[RV,seval,h0,h1,la,lb]
 refine w_loop (I:=fun nq tq Nq => ∃ (iq:Nat),nq=l.length - iq∧iq≤l.length∧nth undefA tq 0=a∧nth undefA tq 1=b∧nth undefA tq 5=I64 iq∧Wf Nq) (n:=l.length) (by omega) ?_ ?_
 ·refine⟨0,rfl,Nat.zero_le _, ?_, ?_, ?_,Wf.mem0⟩ <;> simp (disch:=try exact SX) only[RV,seval,h0,h1]
  all_goals first | rfl | assumption | done
 ·rintro nq tq Nq hltq ⟨iq,rfl,hiq,gq0,gq1,gq5,w⟩
  simp only[ht] at hltq ⊢
  by_cases hc:iq<l.length
  ·have c1:decide ((iq:Int)<l.length)=true:=DT
   have w1:IntKind.i64.wrap ((iq:Int)+1)=((iq+1:Nat):Int):=by rw[wrap_i64] <;> omega
   obtain⟨r1,i1,⟨rfl,_⟩,_⟩:=ha.iad iq hc
   obtain⟨r2,i2,⟨rfl,_⟩,_⟩:=hb.iad iq hc
   have q1:decide (l[iq]=l[iq])=true:=decide_eq_true rfl
   simp (disch:=try exact SX) only[RV,seval,gq0,gq1,gq5,la,c1,w1,i1,i2,↓pSpN,zJT,ETA]
   exact⟨hltq,l.length - (iq+1),by omega,iq+1,rfl,by omega,rfl,w⟩
  ·obtain rfl:iq=l.length:=by omega
   have c1:decide ((l.length:Int)<l.length)=false:=DF
   simp (disch:=try exact SX) only[RV,seval,gq0,gq5,la]
theorem zF8 {a b:AV}{l m:List CellV}(ha:Sl 5 zAY a l)(hb:Sl 5 zAY b m)(hf:l.length<fuel)(hl:l.length≤1000000000)(M:Mem) :
  zCN fuel (d+1) 16 [a,b] M=some (BL (decide (l=m)),M):=by
 have hla:=ha.len
 have hlb:=hb.len
 apply w3_eq
 refine call_gc tf16 rfl (by simp only[icyL,fun M=>ha.icy M 12 (by omega),fun M=>hb.icy M 12 (by omega)]) (by simp [a16]) fun b' ht hx=>?_
 have h0:=hx 0 _ rfl
 have h1:=hx 1 _ rfl
 clear hx
 simp only[a16,c16] at ht ⊢
 by_cases hll:l.length=m.length
 ·have q1:decide ((l.length:Int)=m.length)=true:=by simp;omega
  simp (maxSteps:=2000000) (disch:=try exact SX) only[RV,reduceIte,Nat.reduceEqDiff,h0,h1,hla,hlb,q1]
  refine w_loop (I:=fun n t N => ∃ (i:Nat),n=l.length - i∧i≤l.length∧nth undefA t 0=a∧nth undefA t 1=b∧nth undefA t 5=I64 i∧l.take i=m.take i) (n:=l.length) (by omega) ?_ ?_
  ·refine⟨0,rfl,Nat.zero_le _, ?_, ?_, ?_,rfl⟩ <;> simp (maxSteps:=2000000) (disch:=try exact SX) only[RV,reduceIte,Nat.reduceEqDiff,h0,h1]
   all_goals first | rfl | assumption | done
  ·rintro n t N hlt ⟨i,rfl,hi,g0,g1,g5,tk⟩
   simp only[ht] at hlt ⊢
   by_cases hlt':i<l.length
   ·have hc':decide ((i:Int)<l.length)=true:=by simp;omega
    have hmt:i<m.length:=by omega
    have w1:IntKind.i64.wrap ((i:Int)+1)=((i+1:Nat):Int):=by rw[wrap_i64] <;> omega
    obtain⟨r,hr,⟨rfl,_⟩,_⟩:=ha.iad i hlt'
    obtain⟨r2,hr2,⟨rfl,_⟩,_⟩:=hb.iad i hmt
    by_cases he:l[i]=m[i]
    ·have q2:decide (l[i]=m[i])=true:=by simp [he]
     simp (maxSteps:=2000000) (disch:=try exact SX) only[RV,reduceIte,Nat.reduceEqDiff,Nat.reduceBEq,Nat.reduceAdd,g0,g1,g5,hla,hc',hr,hr2,w1,↓pCeN,zFU,ETA,CellV.eta,q2]
     exact zB0c
    ·have q2:decide (l[i]=m[i])=false:=by simp [he]
     simp (maxSteps:=2000000) (disch:=try exact SX) only[RV,reduceIte,Nat.reduceEqDiff,Nat.reduceBEq,Nat.reduceAdd,g0,g1,g5,hla,hc',hr,hr2,↓pCeN,zFU,ETA,CellV.eta,q2]
     exact zB0h
   ·have hc':decide ((i:Int)<l.length)=false:=by simp;omega
    simp (maxSteps:=2000000) (disch:=try exact SX) only[RV,reduceIte,Nat.reduceEqDiff,g0,g5,hla,hc']
    exact zB0a
 ·have q1:decide ((l.length:Int)=m.length)=false:=by simp;omega
  have q3:decide (l=m)=false:=by
   simp only[decide_eq_false_iff_not]
   rintro rfl;exact hll rfl
  simp (maxSteps:=2000000) (disch:=try exact SX) only[RV,reduceIte,Nat.reduceEqDiff,h0,h1,hla,hlb,q1,q3]
theorem zK4 {a b:AV}{l m:List Int}(ha:Sl 1 zA3 a l)(hb:Sl 1 zA3 b m)(hf:l.length<fuel)(hl:l.length≤1000000000)(M:Mem) :
  zCN fuel (d+1) 62 [a,b] M=some (BL (decide (l=m)),M):=by
 have hla:=ha.len
 have hlb:=hb.len
 apply w3_eq
 refine call_gc tf62 rfl (by simp (disch:=try exact SX) only[icyL,ha.fz.icy,hb.fz.icy]) (by simp [a62]) fun b' ht hx=>?_
 have h0:=hx 0 _ rfl
 have h1:=hx 1 _ rfl
 clear hx
 simp only[a62,c62] at ht ⊢
 by_cases hll:l.length=m.length
 ·have q1:decide ((l.length:Int)=m.length)=true:=by simp;omega
  simp (disch:=try exact SX) only[RV,seval,h0,h1,hla,hlb,q1]
  refine w_loop (I:=fun n t N => ∃ (i:Nat),n=l.length - i∧i≤l.length∧nth undefA t 0=a∧nth undefA t 1=b∧nth undefA t 5=I64 i∧l.take i=m.take i) (n:=l.length) (by omega) ?_ ?_
  ·refine⟨0,rfl,Nat.zero_le _, ?_, ?_, ?_,rfl⟩ <;> simp (disch:=try exact SX) only[RV,seval,h0,h1]
   all_goals first | rfl | assumption | done
  ·rintro n t N hlt ⟨i,rfl,hi,g0,g1,g5,tk⟩
   simp only[ht] at hlt ⊢
   by_cases hlt':i<l.length
   ·have hc':decide ((i:Int)<l.length)=true:=by simp;omega
    have hmt:i<m.length:=by omega
    have w1:IntKind.i64.wrap ((i:Int)+1)=((i+1:Nat):Int):=by rw[wrap_i64] <;> omega
    obtain⟨r,hr,rfl,_⟩:=ha.iad i hlt'
    obtain⟨r2,hr2,rfl,_⟩:=hb.iad i hmt
    by_cases he:l[i]=m[i]
    ·have q2:decide (l[i]=m[i])=true:=by simp [he]
     simp (disch:=try exact SX) only[RV,seval,g0,g1,g5,hla,hc',hr,hr2,w1,q2]
     exact zB0c
    ·have q2:decide (l[i]=m[i])=false:=by simp [he]
     simp (disch:=try exact SX) only[RV,seval,g0,g1,g5,hla,hc',hr,hr2,q2]
     exact zB0h
   ·have hc':decide ((i:Int)<l.length)=false:=by simp;omega
    simp (disch:=try exact SX) only[RV,seval,g0,g5,hla,hc']
    exact zB0a
 ·exact zB0g
def opEq (o p:Op):Bool:=decide (o.kd=p.kd)&&decide (o.hd=p.hd)&&decide (o.sr=p.sr)&&decide (o.sp=p.sp)&&decide (o.af=p.af)&&decide (o.to=p.to)&&decide (o.rs=p.rs)
theorem zLG (o p:Op):opEq o p=true↔o=p:=by
 obtain⟨a1,a2,a3,a4,a5,a6,a7⟩:=o
 obtain⟨b1,b2,b3,b4,b5,b6,b7⟩:=p
 simp [opEq,and_assoc]
theorem zIA {o p:Op}{ra rb:AV}(hR:Sl 1 zA3 ra o.rs)(hP:Sl 1 zA3 rb p.rs)(hl:o.rs.length≤1000000000)(hf:o.rs.length<fuel)(M:Mem):zCN fuel (d+2) 38 [.agg (opR o ra),.agg (opR p rb)] M=some (BL (opEq o p),M):=by
 have ora:=hR.one
 have orb:=hP.one
 have hs:=fun M=>zK4 (fuel:=fuel) (d:=d) hR hP hf hl M
 apply w3_eq
 refine call_gc tf38 rfl (by simp only[icyL,zC9 hR.fz,zC9 hP.fz]) (by simp [a38]) fun b' ht hx=>?_
 have h0:=hx 0 _ rfl
 have h1:=hx 1 _ rfl
 clear hx
 simp only[a38,c38] at ht ⊢
 unfold opEq
 cases q1:decide (o.kd=p.kd)
 ·simp (disch:=try exact SX) only[RV,seval,h0,h1,q1,Bool.false_and,sc_ex]
 cases q2:decide (o.hd=p.hd)
 ·simp (disch:=try exact SX) only[RV,seval,h0,h1,↓pHdE,zAC,ETA,q1,q2,Bool.false_and,sc_ex]
 cases q3:decide (o.sr=p.sr)
 ·simp (disch:=try exact SX) only[RV,seval,h0,h1,↓pHdE,zAC,ETA,q1,q2,q3,Bool.false_and,sc_ex]
 cases q4:decide (o.sp=p.sp)
 ·simp (disch:=try exact SX) only[RV,seval,h0,h1,↓pHdE,zAC,↓pSpE,zB5,ETA,q1,q2,q3,q4,Bool.false_and,sc_ex]
 cases q5:decide (o.af=p.af)
 ·simp (disch:=try exact SX) only[RV,seval,h0,h1,↓pIdE,zA0,↓pHdE,zAC,↓pSpE,zB5,ETA,q1,q2,q3,q4,q5,Bool.false_and,sc_ex]
 cases q6:decide (o.to=p.to)
 ·simp (disch:=try exact SX) only[RV,seval,h0,h1,↓pIdE,zA0,↓pHdE,zAC,↓pLbE,zA5,↓pSpE,zB5,ETA,q1,q2,q3,q4,q5,q6,Bool.false_and,sc_ex]
 ·simp (disch:=try exact SX) only[RV,seval,h0,h1,↓pIdE,zA0,↓pHdE,zAC,↓pLbE,zA5,↓pSpE,zB5,ETA,q1,q2,q3,q4,q5,q6,hs,sc_ex]
def zJQ (l m:List Op):Bool:=eqL opEq l m
theorem zJR {l m:List Op}:zJQ l m=true↔l=m:=eqL_eq zLG
theorem zGT {a b:AV}{l m:List Op}(h1':Sl 17 isOp a l)(h2':Sl 17 isOp b m)(hl:l.length≤1000000)(hc:∀ o∈l,o.rs.length≤1000000000∧o.rs.length<fuel)(hf:l.length<fuel)(M:Mem):zCN fuel (d+3) 18 [a,b] M=some (BL (zJQ l m),M):=by
 have la:=h1'.len
 have lb:=h2'.len
 apply w3_eq
 refine call_gc tf18 rfl (by simp (disch:=try exact SX) only[icyL,h1'.fz.icy,h2'.fz.icy]) (by simp [a18]) fun b' ht hx=>?_
 have h0:=hx 0 _ rfl
 have h1:=hx 1 _ rfl
 clear hx
 simp only[a18,c18] at ht ⊢
 by_cases q:l.length=m.length
 ·have q0:decide ((l.length:Int)=m.length)=true:=DT
  simp (disch:=try exact SX) only[RV,seval,h0,h1,la,lb,q0]
  refine w_loop (I:=fun n t N => ∃ (i:Nat),n=l.length - i∧i≤l.length∧nth undefA t 0=a∧nth undefA t 1=b∧nth undefA t 5=I64 i∧N=mem0∧(∀ j (x1:j<l.length) (x2:j<m.length),j<i→opEq l[j] m[j]=true)) (n:=l.length) (by omega) ?_ ?_
  ·refine⟨0,rfl,Nat.zero_le _, ?_, ?_, ?_,rfl,(fun _ _ _ h=>absurd h (by omega))⟩ <;> simp (disch:=try exact SX) only[RV,seval,h0,h1]
   all_goals first | rfl | assumption | done
  ·rintro n t N hlt ⟨i,rfl,hi,g0,g1,g5,hm,hj⟩
   simp only[ht] at hlt ⊢
   subst hm
   by_cases hc':i<l.length
   ·have q1:decide ((i:Int)<l.length)=true:=DT
    have hc2:i<m.length:=by omega
    obtain⟨r1,i1,⟨ra,hr1,s1,_⟩,hl1⟩:=h1'.iad i hc'
    obtain⟨r2,i2,⟨rb,hr2,s2,_⟩,hl2⟩:=h2'.iad i hc2
    have hcr:=hc l[i] (List.getElem_mem hc')
    have hp:=fun M=>zIA (fuel:=fuel) (d:=d) s1 s2 hcr.1 hcr.2 M
    have w1:IntKind.i64.wrap ((i:Int)+1)=((i+1:Nat):Int):=by rw[wrap_i64] <;> omega
    subst hr1 hr2
    cases q2:opEq l[i] m[i] with
    | true =>
     rw[q2] at hp
     simp (disch:=try exact SX) only[RV,seval,g0,g1,g5,la,q1,i1,i2,w1,hp]
     exact⟨hlt,l.length - (i+1),by omega,i+1,rfl,by omega,rfl,fun j x1 x2 hj'=>by
      rcases Nat.lt_succ_iff_lt_or_eq.1 hj' with h | rfl
      ·exact hj j x1 x2 h
      ·exact q2⟩
    | false =>
     rw[q2] at hp
     have e:zJQ l m=false:=eqL_at hc' hc2 q2
     simp (disch:=try exact SX) only[RV,seval,g0,g1,g5,la,q1,i1,i2,hp,e,sc_ex]
   ·obtain rfl:i=l.length:=by omega
    have q1:decide ((l.length:Int)<l.length)=false:=DF
    have e:zJQ l m=true:=eqL_all q fun j x1 x2 _=>hj j x1 x2 x1
    simp (disch:=try exact SX) only[RV,seval,g0,g5,la,e,sc_ex]
 ·have q0:decide ((l.length:Int)=m.length)=false:=DF
  have e:zJQ l m=false:=eqL_ne q
  simp (disch:=try exact SX) only[RV,seval,h0,h1,la,lb,q0,e,sc_ex]
def wO (o:Op):Int:=imax (imin (imax o.sp.n 0) 100) (imin (o.rs.length:Int) 1000)
def sumW (l:List Op):Int:=(l.map wO).sum
def zFJ (l:List Op)(many:Int):Bool:=decide (many<l.length) || decide (300<sumW (l.take 300))
theorem zHT (o:Op):0≤wO o∧wO o≤1000∧((o.rs.length:Int)≤wO o∨1000≤wO o):=by
 unfold wO imax imin
 repeat' split
 all_goals omega
theorem sumW_snoc (l:List Op)(o:Op):sumW (l++[o])=sumW l+wO o:=by unfold sumW;simp
theorem zFA:∀ (l:List Op),0≤sumW l∧sumW l≤1000*l.length
 | []=>by simp [sumW]
 | o::l=>by
  have h1:=zFA l
  have h2:=zHT o
  unfold sumW at *
  simp only[List.map_cons,List.sum_cons,List.length_cons]
  omega
theorem zHQ:∀ (l:List Op) (o:Op),o∈l→wO o≤sumW l
 | [],_,h=>by cases h
 | p::l,o,h=>by
  have h1:=zFA l
  have h2:=zHT p
  rcases List.mem_cons.1 h with rfl | h
  ·unfold sumW at *;simp only[List.map_cons,List.sum_cons];omega
  ·have:=zHQ l o h
   unfold sumW at *;simp only[List.map_cons,List.sum_cons];omega
theorem zGD {many:Int}(hm:many≤300)(h:zFJ l many=false):(l.length:Int)≤many ∧ ∀ o∈l,o.rs.length≤300:=by
 unfold zFJ at h
 simp only[Bool.or_eq_false_iff,decide_eq_false_iff_not] at h
 refine⟨by omega,fun o ho=>?_⟩
 have ht:l.take 300=l:=List.take_of_length_le (by omega)
 rw[ht] at h
 have:=zHQ l o ho
 have:=zHT o
 omega
theorem zJA {many:Int}(hS:Sl 17 isOp a l)(hf:400<fuel)(M:Mem):zCN fuel (d+1) 4 [a,I64 many] M=some (BL (zFJ l many),M):=by
 have ll:=hS.len
 apply w3_eq
 refine call_gc tf4 rfl (by simp only[icyL,fun M=>hS.icy M 12 (by omega),icy12]) (by simp [a4]) fun b' ht hx=>?_
 have h0:=hx 0 _ rfl
 have h1:=hx 1 _ rfl
 clear hx
 simp only[a4,c4] at ht ⊢
 unfold zFJ
 simp (disch:=try exact SX) only[RV]
 refine w_loop (I:=fun n t N => ∃ (i:Nat),n=300 - i∧i≤300∧nth undefA t 0=a∧nth undefA t 1=I64 many∧nth undefA t 5=I64 (sumW (l.take i))∧nth undefA t 6=I64 i∧N=mem0∧i≤l.length) (n:=300) (by omega) ?_ ?_
 ·refine⟨0,rfl,Nat.zero_le _, ?_, ?_, ?_, ?_,rfl,Nat.zero_le _⟩ <;> simp (disch:=try exact SX) only[RV,reduceIte,Nat.reduceEqDiff,h0,h1]
  all_goals first | rfl | assumption | done
 ·rintro n t N hlt ⟨i,rfl,hi,g0,g1,g5,g6,hm,hil⟩
  simp only[ht] at hlt ⊢
  subst hm
  by_cases hc:i<l.length
  ·have q1:decide ((i:Int)<l.length)=true:=DT
   by_cases hc3:i<300
   ·have q2:decide ((i:Int)<300)=true:=DT
    have w1:IntKind.i64.wrap ((i:Int)+1)=((i+1:Nat):Int):=by rw[wrap_i64] <;> omega
    obtain⟨r,hiad,hr,hrl⟩:=hS.iad i hc
    have hsn:=sumW_snoc (l.take i) l[i]
    rw[← take_snoc l i hc] at hsn
    have hps:=zFA (l.take i)
    rw[List.length_take] at hps
    have hwo:=zHT l[i]
    generalize l[i]=e at *
    obtain⟨ra,rfl,hra,hok⟩:=hr
    have lra:=hra.len
    have w2:IntKind.i64.wrap (sumW (l.take i)+wO e)=sumW (l.take (i+1)):=by rw[hsn];exact wrap_i64 (by omega) (by omega)
    simp (disch:=try exact SX) only[RV,reduceIte,Nat.reduceEqDiff,Nat.reduceBEq,Nat.reduceAdd,g0,g1,g5,g6,ll,q1,q2,w1,hiad,lra,pB_max2,BMM]
    refine⟨hlt,300 - (i+1),by omega,i+1,rfl,by omega, ?_,rfl,by omega⟩
    show AV.sc (.int .i64 (IntKind.i64.wrap (sumW (l.take i)+wO e)))=I64 _
    rw[w2]
   ·have q2:decide ((i:Int)<300)=false:=DF
    obtain rfl:i=300:=by omega
    cases q3:decide (many<(l.length:Int))
    all_goals simp (disch:=try exact SX) only[RV,reduceIte,Nat.reduceEqDiff,Nat.reduceSub,g0,g1,g5,g6,ll,q1,q2,q3]
  ·have q1:decide ((i:Int)<l.length)=false:=DF
   obtain rfl:i=l.length:=by omega
   have et:l.take 300=l.take l.length:=by rw[List.take_of_length_le (Nat.le_refl _),List.take_of_length_le (by omega)]
   rw[et]
   cases q3:decide (many<(l.length:Int))
   all_goals simp (disch:=try exact SX) only[RV,reduceIte,Nat.reduceEqDiff,g0,g1,g5,g6,ll,q3]
theorem zND {o:Op}{ra:AV}(hS:Sl 1 zA3 ra o.rs)(hl:o.rs.length≤1000000000)(wf:Wf M)(hw:M.wm≤M.size)(k:∀ a' N,Wf N→M.size≤N.size→(∀ j,j<M.size→N.get j=M.get j)→SlM N 1 zA3 a' o.rs→(∀ id,rowOf a'=some id→M.size≤id)→N.wm=M.wm→Q (.agg (opR o a')) N) :
  W3 (zCN fuel (d+1) 19 [.agg (opR o ra)] M) Q:=by
 have ora:=hS.one
 have hwf:=wf
 refine call_0 tf19 rfl (by simp [a19]) fun b' ht hx=>?_
 have h0:=hx 0 _ rfl
 clear hx
 simp only[a19,c19] at ht ⊢
 simp (disch:=try exact SX) only[RV,seval,h0,hS.fz.rows]
 refine w3_app (by simp (disch:=try exact SX) only[RV,wf]) SlM.nil zCP.cel hS (by omega) (by simp;omega) (by simp;omega) fun a' N m' w' le' sz' kp' nw' wm' rl' on' oc'=>?_
 simp only[add_size] at le' kp' nw'
 rw[List.nil_append] at m'
 have g0:N.get M.size=some (.row false (opR o ra)):=by rw[kp' _ (by omega) (by simp [rowOf])];simp (disch:=try exact SX) only[RV]
 have g1:N.get (M.size+1)=some (.row false (opR ⟨0,Hd.z,0,⟨Eid.z,0⟩,Eid.z,Lb.z,[]⟩ NIL)):=by rw[kp' _ (by omega) (by simp [rowOf])];simp (disch:=try exact SX) only[RV]
 have nr:∀ id,rowOf a'=some id→M.size+2≤id:=fun id h=>by
  rcases nw' id h with h' | h'
  ·cases h'
  ·omega
 have z0:M.size<N.size:=by omega
 have z1:M.size+1<N.size:=by omega
 simp (disch:=try exact SX) only[RV,seval,g0,g1,oc']
 refine k a' _ ((w'.upd _ _).upd _ _) (by simp only[upd_size];omega) (fun j hj=>?_) (m'.keep fun j hj=>?_) (fun id h=>by have:=nr id h;omega) wm'
 ·rw[get_upd_ne (w'.upd _ _) _ _ _ (by omega),get_upd_ne w' _ _ _ (by omega),kp' j (by omega) (by simp [rowOf]),get_add (wf.add _) _ _ (by rw[add_size];omega),get_add wf _ _ hj]
 ·have:=nr j hj
  rw[get_upd_ne (w'.upd _ _) _ _ _ (by omega),get_upd_ne w' _ _ _ (by omega)]
theorem zGO (hS:Sl 17 isOp a l)(hl:l.length≤100000)(hd:∀ o∈l,o.rs.length≤1000000000)(hf:l.length+100<fuel):∃ r,Sl 17 isOp r l ∧ ∀ M,zCN fuel (d+2) 5 [a] M=some (r,M):=by
 have ll:=hS.len
 refine gc_ex tf5 rfl (fun M=>by simp only[icyL,fun M=>hS.icy M 12 (by omega)]) ?_
 refine call_gc tf5 rfl (by simp only[icyL,fun M=>hS.icy M 12 (by omega)]) (by simp [a5]) fun b' ht hx=>?_
 have h0:=hx 0 _ rfl
 clear hx
 simp only[a5,c5] at ht ⊢
 simp (disch:=try exact SX) only[RV]
 refine w_loop (I:=fun n t N => ∃ (i:Nat) (out:AV),n=l.length - i∧i≤l.length∧nth undefA t 0=a∧nth undefA t 3=out∧nth undefA t 4=I64 i∧Wf N∧N.wm=0∧opK.NN N 0 out (l.take i)) (n:=l.length) (by omega) ?_ ?_
 ·refine⟨0,NIL,rfl,Nat.zero_le _, ?_, ?_, ?_,Wf.mem0,rfl,NK.NN.nil _ _⟩ <;> simp (disch:=try exact SX) only[RV,seval,h0]
  all_goals first | rfl | assumption | done
 ·rintro n t N hlt ⟨i,out,rfl,hi,g0,g3,g4,w,wm,hN⟩
  simp only[ht] at hlt ⊢
  have oo:=hN.one
  have oc:=hN.cells
  by_cases hc:i<l.length
  ·have q3:decide ((i:Int)<l.length)=true:=DT
   have w1:IntKind.i64.wrap ((i:Int)+1)=((i+1:Nat):Int):=by rw[wrap_i64] <;> omega
   obtain⟨r,hiad,hr,hrl⟩:=hS.iad i hc
   have hsn:=take_snoc l i hc
   have hlo:=hd l[i] (List.getElem_mem hc)
   generalize l[i]=e at *
   obtain⟨ra,rfl,hra,hok⟩:=hr
   have ora:=hra.one
   simp (disch:=try exact SX) only[RV,seval,g0,g3,g4,ll,q3,hiad]
   refine zND (d:=d) hra hlo w (by omega) fun a' N2 w2 le2 kp2 sm2 nw2 wm2=>?_
   have oa2:=sm2.one
   have ca2:=sm2.cells
   have rl2:=rows_lt sm2.rl (Nat.le_refl N2.size)
   have rr2:=hN.rows (show N.size≤N2.size+1 by omega)
   have hli:(l.take i).length≤i:=by rw[List.length_take];omega
   simp (disch:=try exact SX) only[RV,seval,fillA,rr2]
   refine NK.NN.app (K:=opK) (B:=0) (l:=l.take i) (x:=e) (ra:=a') w2 (hN.keep fun j a b=>kp2 j b) ⟨rfl,oa2,ca2⟩ ⟨sm2,fun j hj=>Nat.zero_le _,hok⟩ (fun j hj hj2=>by have h1:=hN.lt j hj;have h2:=nw2 j hj2;omega) (by omega) (by omega) (by omega) fun o' M' hN' w' le' kp' nw' wm'=>?_
   simp (disch:=try exact SX) only[RV,seval,g0,g3,g4,w1]
   exact⟨hlt,l.length - (i+1),by omega,i+1,o',rfl,by omega,rfl,rfl,w',by rw[wm',wm2];exact wm,by rw[hsn];exact hN'⟩
  ·obtain rfl:i=l.length:=by omega
   have q3:decide ((l.length:Int)<l.length)=false:=DF
   rw[List.take_length] at hN
   obtain⟨o',hz,hs⟩:=hN.frz (k:=11) (by omega)
   have hz:=hz N (fun _ _=>rfl)
   simp (disch:=try exact SX) only[RV,seval,g0,g3,g4,ll,hz]
   exact⟨o',zMH hs,rfl⟩
theorem zIL {k m:Int}{h:Hd}(hS:Sl 17 isOp a l)(hv:v.ok)(hho:h.ok)(hk:k≤9223372036854775807 ∧ -9223372036854775808≤k)(M:Mem):zCN 4000000 61 3 [a,lbA v,I64 k,I64 m,hdA h] M=some (BL true,M):=by
 have hgr:=fun M=>zJA (fuel:=4000000) (d:=59) (many:=25) hS (by omega) M
 apply w3_eq
 refine call_gc tf3 rfl (by simp only[icyL,fun M=>hS.icy M 12 (by omega),fz_icyA (zAB v) (show 1<12 by omega),fz_icyA (zJ9 h) (show 1<12 by omega),icy12]) (by simp [a3]) fun b' ht hx=>?_
 have h0:=hx 0 _ rfl
 have h1:=hx 1 _ rfl
 have h2:=hx 2 _ rfl
 have h3:=hx 3 _ rfl
 have h4:=hx 4 _ rfl
 clear hx
 simp only[a3,c3] at ht ⊢
 cases q1:zFJ l 25 with
 | true =>
  rw[q1] at hgr
  simp (maxSteps:=2000000) (disch:=try exact SX) only[RV,reduceIte,Nat.reduceEqDiff,Nat.reduceAdd,h0,h1,h4,hgr]
 | false =>
  rw[q1] at hgr
  obtain⟨hl25,hrs⟩:=zGD (by omega) q1
  have hrs2:∀ o∈l,o.rs.length≤1000000000:=fun o ho=>by have:=hrs o ho;omega
  obtain⟨own,hown,hownr⟩:=zGO (fuel:=4000000) (d:=58) hS (by omega) hrs2 (by omega)
  obtain⟨_,⟨rc,rfl,hrc⟩,hce⟩:=zCK (fuel:=4000000) (d:=42) (v:=v) hown (by omega) (by omega) hrs2
  obtain⟨_,⟨rd,rfl,hrd⟩,hce2⟩:=zFY (fuel:=4000000) (d:=51) (v:=v) hS hv (by omega) (by omega)
  have hle:=fun M=>zLA (fuel:=4000000) (d:=41) (v:=v) (k:=k) hown (by omega) (by omega) hrs2 M
  have hle2:=fun M=>zGQ (fuel:=4000000) (d:=51) (v:=v) (k:=k) hS hv (by omega) (by omega) hk M
  obtain⟨_,⟨rp,rfl,hrp⟩,hsp⟩:=zIK (fuel:=4000000) (d:=41) (v:=v) (k:=k) (m:=m) hown (by omega) (by omega) hrs2
  obtain⟨_,⟨rq,rfl,hrq⟩,hsp2⟩:=zFZ (fuel:=4000000) (d:=51) (v:=v) (k:=k) (m:=m) hS hv (by omega) (by omega)
  have hct:=fun M=>zHZ (fuel:=4000000) (d:=41) (v:=v) hown (by omega) (by omega) hrs2 M
  have hct2:=fun M=>zF5 (fuel:=4000000) (d:=51) (v:=v) hS hv (by omega) (by omega) M
  have hnx:=fun M=>zKE (fuel:=4000000) (d:=41) (h:=h) hown (by omega) (by omega) M
  have hnx2:=fun M=>zGR (fuel:=4000000) (d:=51) (h:=h) hS hho (by omega) (by omega) M
  have s1:(if zAT l v=0 then zAI l v else []).length≤100000:=by
   split
   ·rename_i q
    have:=zBF (zBY q).1 v
    omega
   ·exact Nat.zero_le _
  have s2:(if vspE l v k m=0 then spansOf ((midC l v k m).map (·.id)) else []).length≤100000:=by
   split
   ·have h1:=zE9 ((midC l v k m).map (·.id))
    rename_i q
    have q0:zAT l v=0:=by
     unfold vspE at q
     split at q
     ·assumption
     ·rename_i q2;exact absurd q q2
    have:=zBF (zBY q0).1 v
    unfold midC at h1
    rw[List.length_map,List.length_take,List.length_drop] at h1
    unfold midC
    omega
   ·exact Nat.zero_le _
  have hsc:=fun M=>zF8 (fuel:=4000000) (d:=59) hrc hrd (by omega) (by omega) M
  rw[decide_eq_true (rfl:_=_)] at hsc
  have hss:=fun M=>zF9 (fuel:=4000000) (d:=59) hrp hrq (by omega) (by omega) M
  have hso:=fun M=>zGT (fuel:=4000000) (d:=57) hown hS (by omega) (fun o ho=>by have:=hrs o ho;omega) (by omega) M
  rw[zJR.2 rfl] at hso
  have e1:decide (zAT l v=zAT l v)=true:=decide_eq_true rfl
  have e2:decide (zGH l v k=zGH l v k)=true:=decide_eq_true rfl
  have e3:decide (zGG l v k=zGG l v k)=true:=decide_eq_true rfl
  have e4:decide (vspE l v k m=vspE l v k m)=true:=decide_eq_true rfl
  have e5:decide ((zBE (cntL l v):Int)=zBE (cntL l v))=true:=decide_eq_true rfl
  have e6:decide ((zAW (cntL l v):Int)=zAW (cntL l v))=true:=decide_eq_true rfl
  have e7:decide (zI9 l h=zI9 l h)=true:=decide_eq_true rfl
  have e8:decide (zGI l h=zGI l h)=true:=decide_eq_true rfl
  generalize (if zAT l v=0 then zAI l v else [])=X1 at *
  generalize (if vspE l v k m=0 then spansOf ((midC l v k m).map (·.id)) else [])=X2 at *
  generalize zGH l v k=X3 at *
  generalize cntL l v=X4 at *
  clear s1 s2 hrs hrs2
  simp (maxSteps:=2000000) (disch:=try exact SX) only[RV,reduceIte,Nat.reduceEqDiff,Nat.reduceAdd,h0,h1,h2,h3,h4,hgr,hownr,hce,hce2,hle,hle2]
  clear hce hce2 hle hle2 hgr hownr
  simp (maxSteps:=2000000) (disch:=try exact SX) only[RV,reduceIte,Nat.reduceEqDiff,Nat.reduceAdd,h0,h2,h3,hsp,hsp2]
  clear hsp hsp2
  simp (maxSteps:=2000000) (disch:=try exact SX) only[RV,reduceIte,Nat.reduceEqDiff,Nat.reduceAdd,h0,hct,hct2]
  clear hct hct2
  simp (maxSteps:=2000000) (disch:=try exact SX) only[RV,reduceIte,Nat.reduceEqDiff,Nat.reduceAdd,h0,hnx,hnx2]
  clear hnx hnx2
  simp (maxSteps:=2000000) (disch:=try exact SX) only[RV,reduceIte,Nat.reduceEqDiff,Nat.reduceAdd,hsc,↓pIdE,zA0,ETA]
  simp (maxSteps:=20000000) (disch:=try exact SX) only[RV,reduceIte,Nat.reduceEqDiff,Nat.reduceAdd,h0,hss,hso]
abbrev gLb:GT:=.ag [.int .u8,.int .u32]
abbrev gHd:GT:=.ag [gLb,.int .u8]
abbrev gId:GT:=.ag [gHd,.int .i64]
abbrev gSp:GT:=.ag [gId,.int .i64]
abbrev gOp:GT:=.ag [.int .u8,gHd,.int .i64,gSp,gId,gLb,.sl (.int .i32)]
theorem zBP {n:Int}(h:(Lit.int .u8 n).wf=true):0≤n∧n≤255:=by
 simp [Lit.wf,IntKind.min,IntKind.max,IntKind.signed,IntKind.bits] at h
 omega
theorem zCG {n:Int}(h:(Lit.int .u32 n).wf=true):0≤n∧n<4294967296:=by
 simp [Lit.wf,IntKind.min,IntKind.max,IntKind.signed,IntKind.bits] at h
 omega
theorem zE5 {n:Int}(h:(Lit.int .i64 n).wf=true):i64R n:=by
 simp [Lit.wf,IntKind.min,IntKind.max,IntKind.signed,IntKind.bits] at h
 unfold i64R
 omega
def zJE (r:List AV)(x:Int):Prop:=zA3 r x∧(-2147483648≤x∧x≤2147483647)
theorem zNQ (r:List AV)(h:Is (.int .i32) r):∃ x,zJE r x:=by
 simp only[Is] at h
 obtain⟨n,rfl,hw⟩:=h
 refine⟨n,rfl, ?_⟩
 simp [Lit.wf,IntKind.min,IntKind.max,IntKind.signed,IntKind.bits] at hw
 omega
theorem zH0:∀ {rows:List (List AV)} {l:List Int},All2 zJE rows l→All2 zA3 rows l∧i32s l
 | _,_,.nil=>⟨.nil,fun x h=>by cases h⟩
 | _,_,.cons a t=>by
  obtain⟨h1,h2⟩:=zH0 t
  refine⟨.cons a.1 h1,fun x h=>?_⟩
  rcases List.mem_cons.1 h with rfl | h
  ·exact a.2
  ·exact h2 x h
theorem zNY {a:AV}{l:List Int}(h:Sl 1 zJE a l):Sl 1 zA3 a l∧i32s l:=by
 rcases h with⟨rfl,rfl⟩ | ⟨rows,cap,rfl,hA,hr⟩
 ·exact⟨.inl ⟨rfl,rfl⟩,fun x h=>by cases h⟩
 ·obtain⟨h1,h2⟩:=zH0 hA
  exact⟨.inr ⟨rows,cap,rfl,h1,hr⟩,h2⟩
theorem zLC {r:List AV}(h:Is (.sl (.int .i32)) r):∃ a l,r=[a]∧Sl 1 zA3 a l∧i32s l:=by
 obtain⟨a,l,e,hs⟩:=Is.slice zNQ h
 obtain⟨h1,h2⟩:=zNY hs
 exact⟨a,l,e,h1,h2⟩
theorem of_lb (r:List AV)(h:Is gLb r):∃ x,isLb r x:=by
 simp only[Is,IsL] at h
 obtain⟨_,_,rfl,⟨n1,rfl,w1⟩,_,_,rfl,⟨n2,rfl,w2⟩,rfl⟩:=h
 exact⟨⟨n1,n2⟩,rfl,(zBP w1).1,(zBP w1).2,(zCG w2).1,(zCG w2).2⟩
theorem of_op (r:List AV)(h:Is gOp r):∃ x,isOp r x:=by
 simp only[Is,IsL] at h
 obtain⟨_,_,rfl,⟨n1,rfl,w1⟩,_,_,rfl,⟨_,_,rfl,⟨_,_,rfl,⟨n2,rfl,w2⟩,_,_,rfl,⟨n3,rfl,w3⟩,rfl⟩,_,_,rfl,⟨n4,rfl,w4⟩,rfl⟩,_,_,rfl,⟨n5,rfl,w5⟩,_,_,rfl,⟨_,_,rfl,⟨_,_,rfl,⟨_,_,rfl,⟨_,_,rfl,⟨n6,rfl,w6⟩,_,_,rfl,⟨n7,rfl,w7⟩,rfl⟩,_,_,rfl,⟨n8,rfl,w8⟩,rfl⟩,_,_,rfl,⟨n9,rfl,w9⟩,rfl⟩,_,_,rfl,⟨n10,rfl,w10⟩,rfl⟩,_,_,rfl,⟨_,_,rfl,⟨_,_,rfl,⟨_,_,rfl,⟨n11,rfl,w11⟩,_,_,rfl,⟨n12,rfl,w12⟩,rfl⟩,_,_,rfl,⟨n13,rfl,w13⟩,rfl⟩,_,_,rfl,⟨n14,rfl,w14⟩,rfl⟩,_,_,rfl,⟨_,_,rfl,⟨n15,rfl,w15⟩,_,_,rfl,⟨n16,rfl,w16⟩,rfl⟩,_,_,rfl,hr,rfl⟩:=h
 have r1:0≤n1∧n1≤255:=by exact zBP w1
 have r2:0≤n2∧n2≤255:=by exact zBP w2
 have r3:0≤n3∧n3<4294967296:=by exact zCG w3
 have r4:0≤n4∧n4≤255:=by exact zBP w4
 have r5:i64R n5:=by exact zE5 w5
 have r6:0≤n6∧n6≤255:=by exact zBP w6
 have r7:0≤n7∧n7<4294967296:=by exact zCG w7
 have r8:0≤n8∧n8≤255:=by exact zBP w8
 have r9:i64R n9:=by exact zE5 w9
 have r10:i64R n10:=by exact zE5 w10
 have r11:0≤n11∧n11≤255:=by exact zBP w11
 have r12:0≤n12∧n12<4294967296:=by exact zCG w12
 have r13:0≤n13∧n13≤255:=by exact zBP w13
 have r14:i64R n14:=by exact zE5 w14
 have r15:0≤n15∧n15≤255:=by exact zBP w15
 have r16:0≤n16∧n16<4294967296:=by exact zCG w16
 obtain⟨ra,l,e,hs,hi⟩:=zLC (r:=_) (by simp only[Is];exact hr)
 subst e
 exact⟨⟨n1,⟨⟨n2,n3⟩,n4⟩,n5,⟨⟨⟨⟨n6,n7⟩,n8⟩,n9⟩,n10⟩,⟨⟨⟨n11,n12⟩,n13⟩,n14⟩,⟨n15,n16⟩,l⟩,ra,rfl,hs,r1,⟨⟨r2.1,r2.2,r3.1,r3.2⟩,r4⟩,r5,⟨⟨⟨⟨r6.1,r6.2,r7.1,r7.2⟩,r8⟩,r9⟩,r10⟩,⟨⟨⟨r11.1,r11.2,r12.1,r12.2⟩,r13⟩,r14⟩,⟨r15.1,r15.2,r16.1,r16.2⟩,hi⟩
end Go.Proofs.YtmkkecnafjhdmaaGreat
namespace Go.Proofs.YtmkkecnafjhdmaaGreat.viewTells
open Go Go.Ax
theorem of_hd (r:List AV)(h:Is gHd r):∃ x:Hd,r=hdR x∧x.ok:=by
 simp only[Is,IsL] at h
 obtain⟨_,_,rfl,⟨_,_,rfl,⟨n1,rfl,w1⟩,_,_,rfl,⟨n2,rfl,w2⟩,rfl⟩,_,_,rfl,⟨n3,rfl,w3⟩,rfl⟩:=h
 have r1:=zBP w1
 have r2:=zCG w2
 have r3:=zBP w3
 exact⟨⟨⟨n1,n2⟩,n3⟩,rfl,⟨r1.1,r1.2,r2.1,r2.2⟩,r3.1,r3.2⟩
theorem run_args (a0 a1 a2 a3 a4:AV)(h0:IsA (.sl gOp) a0)(h1:IsA gLb a1)(h2:IsA (.int .i64) a2)(h3:IsA (.int .i64) a3)(h4:IsA gHd a4):zCN 4000000 61 3 [a0,a1,a2,a3,a4] mem0=some (BL true,mem0):=by
 obtain⟨a,l,ha,hl⟩:=Is.slice of_op h0
 obtain rfl:a0=a:=by simpa using ha
 obtain⟨c1,rfl,h1⟩:=h1
 obtain⟨v,rfl,hv⟩:=of_lb c1 h1
 have h2:Is (.int .i64) [a2]:=h2
 simp only[Is] at h2
 obtain⟨k,hk,wk⟩:=h2
 obtain rfl:a2=I64 k:=by simpa using hk
 have h3:Is (.int .i64) [a3]:=h3
 simp only[Is] at h3
 obtain⟨m,hm,wm⟩:=h3
 obtain rfl:a3=I64 m:=by simpa using hm
 obtain⟨c4,rfl,h4⟩:=h4
 obtain⟨h,rfl,hho⟩:=of_hd c4 h4
 have hkr:=zE5 wk
 unfold i64R at hkr
 exact zIL hl hv hho ⟨by omega,by omega⟩ mem0
end Go.Proofs.YtmkkecnafjhdmaaGreat.viewTells
