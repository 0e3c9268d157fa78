/-
  Texts joined: VqG SwR SwG SwY RgL RiH SwV RiI.
-/
import Derived.Test.YtmkkecnafjhdmaaGreatEg
import Derived.Test.YtmkkecnafjhdmaaGreatPc
set_option linter.unusedSimpArgs false
set_option linter.unusedVariables false
set_option maxHeartbeats 64000000
set_option maxRecDepth 100000
namespace Go.Proofs.YtmkkecnafjhdmaaGreat
open Go Go.Ax
variable {fuel : Nat} {M : Mem} {Q : AV → Mem → Prop} {d : Nat}
theorem zF7 {a b:AV}{l m:List CellV}(ha:Sl 5 zAY a l)(hb:Sl 5 zAY b m)(hf:l.length<fuel)(hl:l.length≤1000000000)(M:Mem) :
  zCN fuel (d+1) 16 [a,b] M=some (BL (decide (l=m)),M):=by
 have hla:=ha.len
 have hlb:=hb.len
 apply w3_eq
 refine call_gc tf16 rfl (by simp only[icyL,fun M=>ha.icy M 12 (by omega),fun M=>hb.icy M 12 (by omega)]) (by simp [a16]) fun b' ht hx=>?_
 obtain⟨h0,h1⟩:=hx2 hx
 clear hx
 simp only[a16,c16] at ht ⊢
 by_cases hll:l.length=m.length
 ·have q1:decide ((l.length:Int)=m.length)=true:=by simp;omega
  simp (maxSteps:=2000000) (disch:=try exact SX) only[RUN,RU,footA,feetIn,reduceIte,Nat.reduceEqDiff,h0,h1,hla,hlb,q1]
  refine w_loop (I:=fun n t N => ∃ (i:Nat),n=l.length - i∧i≤l.length∧nth undefA t 0=a∧nth undefA t 1=b∧nth undefA t 5=I64 i∧l.take i=m.take i) (n:=l.length) (by omega) ?_ ?_
  ·refine⟨0,rfl,Nat.zero_le _, ?_, ?_, ?_,rfl⟩ <;> simp (maxSteps:=2000000) (disch:=try exact SX) only[RUN,reduceIte,Nat.reduceEqDiff,h0,h1]
   all_goals first | rfl | assumption | done
  ·rintro n t N hlt ⟨i,rfl,hi,g0,g1,g5,tk⟩
   simp only[ht] at hlt ⊢
   by_cases hlt':i<l.length
   ·have hc':decide ((i:Int)<l.length)=true:=by simp;omega
    have hmt:i<m.length:=by omega
    have w1:IntKind.i64.wrap ((i:Int)+1)=((i+1:Nat):Int):=WI
    obtain⟨r,hr,⟨rfl,_⟩,_⟩:=ha.iad i hlt'
    obtain⟨r2,hr2,⟨rfl,_⟩,_⟩:=hb.iad i hmt
    by_cases he:l[i]=m[i]
    ·have q2:decide (l[i]=m[i])=true:=by simp [he]
     simp (maxSteps:=2000000) (disch:=try exact SX) only[RUN,RU,footA,feetIn,slot,reduceIte,Nat.reduceEqDiff,Nat.reduceBEq,Nat.reduceAdd,g0,g1,g5,hla,hc',hr,hr2,w1,↓pCeN,zFT,ETA,CellV.eta,q2]
     exact zB0c
    ·have q2:decide (l[i]=m[i])=false:=by simp [he]
     simp (maxSteps:=2000000) (disch:=try exact SX) only[RUN,RU,footA,feetIn,resultsA,tupOf,frzL,slot,reduceIte,Nat.reduceEqDiff,Nat.reduceBEq,Nat.reduceAdd,g0,g1,g5,hla,hc',hr,hr2,↓pCeN,zFT,ETA,CellV.eta,q2]
     exact zB0h
   ·have hc':decide ((i:Int)<l.length)=false:=by simp;omega
    simp (maxSteps:=2000000) (disch:=try exact SX) only[RUN,RU,footA,feetIn,resultsA,tupOf,frzL,reduceIte,Nat.reduceEqDiff,g0,g5,hla,hc']
    exact zB0a
 ·have q1:decide ((l.length:Int)=m.length)=false:=by simp;omega
  have q3:decide (l=m)=false:=by
   simp only[decide_eq_false_iff_not]
   rintro rfl;exact hll rfl
  simp (maxSteps:=2000000) (disch:=try exact SX) only[RUN,RU,footA,feetIn,resultsA,tupOf,frzL,reduceIte,Nat.reduceEqDiff,h0,h1,hla,hlb,q1,q3]
theorem zK4 {a b:AV}{l m:List Int}(ha:Sl 1 zA3 a l)(hb:Sl 1 zA3 b m)(hf:l.length<fuel)(hl:l.length≤1000000000)(M:Mem) :
  zCN fuel (d+1) 62 [a,b] M=some (BL (decide (l=m)),M):=by
 have hla:=ha.len
 have hlb:=hb.len
 apply w3_eq
 refine call_gc tf62 rfl (by simp (disch:=try exact SX) only[icyL,ha.fz.icy,hb.fz.icy]) (by simp [a62]) fun b' ht hx=>?_
 obtain⟨h0,h1⟩:=hx2 hx
 clear hx
 simp only[a62,c62] at ht ⊢
 by_cases hll:l.length=m.length
 ·have q1:decide ((l.length:Int)=m.length)=true:=by simp;omega
  simp (disch:=try exact SX) only[RV,seval,h0,h1,hla,hlb,q1]
  refine w_loop (I:=fun n t N => ∃ (i:Nat),n=l.length - i∧i≤l.length∧nth undefA t 0=a∧nth undefA t 1=b∧nth undefA t 5=I64 i∧l.take i=m.take i) (n:=l.length) (by omega) ?_ ?_
  ·refine⟨0,rfl,Nat.zero_le _, ?_, ?_, ?_,rfl⟩ <;> simp (disch:=try exact SX) only[RV,seval,h0,h1]
   all_goals first | rfl | assumption | done
  ·rintro n t N hlt ⟨i,rfl,hi,g0,g1,g5,tk⟩
   simp only[ht] at hlt ⊢
   by_cases hlt':i<l.length
   ·have hc':decide ((i:Int)<l.length)=true:=by simp;omega
    have hmt:i<m.length:=by omega
    have w1:IntKind.i64.wrap ((i:Int)+1)=((i+1:Nat):Int):=WI
    obtain⟨r,hr,rfl,_⟩:=ha.iad i hlt'
    obtain⟨r2,hr2,rfl,_⟩:=hb.iad i hmt
    by_cases he:l[i]=m[i]
    ·have q2:decide (l[i]=m[i])=true:=by simp [he]
     simp (disch:=try exact SX) only[RV,seval,g0,g1,g5,hla,hc',hr,hr2,w1,q2]
     exact zB0c
    ·have q2:decide (l[i]=m[i])=false:=by simp [he]
     simp (disch:=try exact SX) only[RV,seval,g0,g1,g5,hla,hc',hr,hr2,q2]
     exact zB0h
   ·have hc':decide ((i:Int)<l.length)=false:=by simp;omega
    simp (disch:=try exact SX) only[RV,seval,g0,g5,hla,hc']
    exact zB0a
 ·exact zB0g
def opEq (o p:Op):Bool:=decide (o.kd=p.kd)&&decide (o.hd=p.hd)&&decide (o.sr=p.sr)&&decide (o.sp=p.sp)&&decide (o.af=p.af)&&decide (o.to=p.to)&&decide (o.rs=p.rs)
theorem zLG (o p:Op):opEq o p=true↔o=p:=by
 obtain⟨a1,a2,a3,a4,a5,a6,a7⟩:=o
 obtain⟨b1,b2,b3,b4,b5,b6,b7⟩:=p
 simp [opEq,and_assoc]
theorem zIA {o p:Op}{ra rb:AV}(hR:Sl 1 zA3 ra o.rs)(hP:Sl 1 zA3 rb p.rs)(hl:o.rs.length≤1000000000)(hf:o.rs.length<fuel)(M:Mem):zCN fuel (d+2) 38 [.agg (opR o ra),.agg (opR p rb)] M=some (BL (opEq o p),M):=by
 have hs:=fun M=>zK4 (fuel:=fuel) (d:=d) hR hP hf hl M
 apply w3_eq
 refine call_gc tf38 rfl (by simp only[icyL,zC9 hR.fz,zC9 hP.fz]) (by simp [a38]) fun b' ht hx=>?_
 obtain⟨h0,h1⟩:=hx2 hx
 clear hx
 simp only[a38,c38] at ht ⊢
 unfold opEq
 cases q1:decide (o.kd=p.kd)
 ·simp (disch:=try exact SX) only[RV,seval,h0,h1,q1,Bool.false_and,sc_ex]
 cases q2:decide (o.hd=p.hd)
 ·simp (disch:=try exact SX) only[RV,seval,h0,h1,↓pHdE,zAC,ETA,q1,q2,Bool.false_and,sc_ex]
 cases q3:decide (o.sr=p.sr)
 ·simp (disch:=try exact SX) only[RV,seval,h0,h1,↓pHdE,zAC,ETA,q1,q2,q3,Bool.false_and,sc_ex]
 cases q4:decide (o.sp=p.sp)
 ·simp (disch:=try exact SX) only[RV,seval,h0,h1,↓pHdE,zAC,↓pSpE,zB5,ETA,q1,q2,q3,q4,Bool.false_and,sc_ex]
 cases q5:decide (o.af=p.af)
 ·simp (disch:=try exact SX) only[RV,seval,h0,h1,↓pIdE,zA0,↓pHdE,zAC,↓pSpE,zB5,ETA,q1,q2,q3,q4,q5,Bool.false_and,sc_ex]
 cases q6:decide (o.to=p.to)
 ·simp (disch:=try exact SX) only[RV,seval,h0,h1,↓pIdE,zA0,↓pHdE,zAC,↓pLbE,zA5,↓pSpE,zB5,ETA,q1,q2,q3,q4,q5,q6,Bool.false_and,sc_ex]
 ·simp (disch:=try exact SX) only[RV,seval,h0,h1,↓pIdE,zA0,↓pHdE,zAC,↓pLbE,zA5,↓pSpE,zB5,ETA,q1,q2,q3,q4,q5,q6,hs,sc_ex]
def zJQ (l m:List Op):Bool:=eqL opEq l m
theorem zJR {l m:List Op}:zJQ l m=true↔l=m:=eqL_eq zLG
theorem zGS {a b:AV}{l m:List Op}(h1':Sl 17 isOp a l)(h2':Sl 17 isOp b m)(hl:l.length≤1000000)(hc:∀ o∈l,o.rs.length≤1000000000∧o.rs.length<fuel)(hf:l.length<fuel)(M:Mem):zCN fuel (d+3) 18 [a,b] M=some (BL (zJQ l m),M):=by
 have la:=h1'.len
 have lb:=h2'.len
 apply w3_eq
 refine call_gc tf18 rfl (by simp (disch:=try exact SX) only[icyL,h1'.fz.icy,h2'.fz.icy]) (by simp [a18]) fun b' ht hx=>?_
 obtain⟨h0,h1⟩:=hx2 hx
 clear hx
 simp only[a18,c18] at ht ⊢
 by_cases q:l.length=m.length
 ·have q0:decide ((l.length:Int)=m.length)=true:=DT
  simp (disch:=try exact SX) only[RV,seval,h0,h1,la,lb,q0]
  refine w_loop (I:=fun n t N => ∃ (i:Nat),n=l.length - i∧i≤l.length∧nth undefA t 0=a∧nth undefA t 1=b∧nth undefA t 5=I64 i∧N=mem0∧(∀ j (x1:j<l.length) (x2:j<m.length),j<i→opEq l[j] m[j]=true)) (n:=l.length) (by omega) ?_ ?_
  ·refine⟨0,rfl,Nat.zero_le _, ?_, ?_, ?_,rfl,(fun _ _ _ h=>absurd h (by omega))⟩ <;> simp (disch:=try exact SX) only[RV,seval,h0,h1]
   all_goals first | rfl | assumption | done
  ·rintro n t N hlt ⟨i,rfl,hi,g0,g1,g5,hm,hj⟩
   simp only[ht] at hlt ⊢
   subst hm
   by_cases hc':i<l.length
   ·have q1:decide ((i:Int)<l.length)=true:=DT
    have hc2:i<m.length:=by omega
    obtain⟨r1,i1,⟨ra,hr1,s1,_⟩,hl1⟩:=h1'.iad i hc'
    obtain⟨r2,i2,⟨rb,hr2,s2,_⟩,hl2⟩:=h2'.iad i hc2
    have hcr:=hc l[i] (List.getElem_mem hc')
    have hp:=fun M=>zIA (fuel:=fuel) (d:=d) s1 s2 hcr.1 hcr.2 M
    have w1:IntKind.i64.wrap ((i:Int)+1)=((i+1:Nat):Int):=WI
    subst hr1 hr2
    cases q2:opEq l[i] m[i] with
    | true =>
     rw[q2] at hp
     simp (disch:=try exact SX) only[RV,seval,g0,g1,g5,la,q1,i1,i2,w1,hp]
     exact⟨hlt,l.length - (i+1),by omega,i+1,rfl,by omega,rfl,fun j x1 x2 hj'=>by
      rcases Nat.lt_succ_iff_lt_or_eq.1 hj' with h | rfl
      ·exact hj j x1 x2 h
      ·exact q2⟩
    | false =>
     rw[q2] at hp
     have e:zJQ l m=false:=eqL_at hc' hc2 q2
     simp (disch:=try exact SX) only[RV,seval,g0,g1,g5,la,q1,i1,i2,hp,e,sc_ex]
   ·obtain rfl:i=l.length:=by omega
    have e:zJQ l m=true:=eqL_all q fun j x1 x2 _=>hj j x1 x2 x1
    simp (disch:=try exact SX) only[RV,seval,g0,g5,la,e,sc_ex]
 ·have q0:decide ((l.length:Int)=m.length)=false:=DF
  have e:zJQ l m=false:=eqL_ne q
  simp (disch:=try exact SX) only[RV,seval,h0,h1,la,lb,q0,e,sc_ex]
variable {l : List Op} {a : AV}
def wO (o:Op):Int:=imax (imin (imax o.sp.n 0) 100) (imin (o.rs.length:Int) 1000)
def sumW (l:List Op):Int:=(l.map wO).sum
def zFI (l:List Op)(many:Int):Bool:=decide (many<l.length) || decide (300<sumW (l.take 300))
theorem zHS (o:Op):0≤wO o∧wO o≤1000∧((o.rs.length:Int)≤wO o∨1000≤wO o):=by
 unfold wO imax imin
 repeat' split
 all_goals omega
theorem sumW_snoc (l:List Op)(o:Op):sumW (l++[o])=sumW l+wO o:=by unfold sumW;simp
theorem zF9:∀ (l:List Op),0≤sumW l∧sumW l≤1000*l.length
 | []=>by simp [sumW]
 | o::l=>by
  have h1:=zF9 l
  have h2:=zHS o
  unfold sumW at *
  simp only[List.map_cons,List.sum_cons,List.length_cons]
  omega
theorem zHP:∀ (l:List Op) (o:Op),o∈l→wO o≤sumW l
 | [],_,h=>by cases h
 | p::l,o,h=>by
  have h1:=zF9 l
  have h2:=zHS p
  rcases List.mem_cons.1 h with rfl | h
  ·unfold sumW at *;simp only[List.map_cons,List.sum_cons];omega
  ·have:=zHP l o h
   unfold sumW at *;simp only[List.map_cons,List.sum_cons];omega
theorem zGC {many:Int}(hm:many≤300)(h:zFI l many=false):(l.length:Int)≤many ∧ ∀ o∈l,o.rs.length≤300:=by
 unfold zFI at h
 simp only[Bool.or_eq_false_iff,decide_eq_false_iff_not] at h
 refine⟨by omega,fun o ho=>?_⟩
 have ht:l.take 300=l:=List.take_of_length_le (by omega)
 rw[ht] at h
 have:=zHP l o ho
 have:=zHS o
 omega
theorem zJA {many:Int}(hS:Sl 17 isOp a l)(hf:400<fuel)(M:Mem):zCN fuel (d+1) 4 [a,I64 many] M=some (BL (zFI l many),M):=by
 have ll:=hS.len
 apply w3_eq
 refine call_gc tf4 rfl (by simp only[icyL,fun M=>hS.icy M 12 (by omega),icy12]) (by simp [a4]) fun b' ht hx=>?_
 obtain⟨h0,h1⟩:=hx2 hx
 clear hx
 simp only[a4,c4] at ht ⊢
 unfold zFI
 simp (disch:=try exact SX) only[RV]
 refine w_loop (I:=fun n t N => ∃ (i:Nat),n=300 - i∧i≤300∧nth undefA t 0=a∧nth undefA t 1=I64 many∧nth undefA t 5=I64 (sumW (l.take i))∧nth undefA t 6=I64 i∧N=mem0∧i≤l.length) (n:=300) (by omega) ?_ ?_
 ·refine⟨0,rfl,Nat.zero_le _, ?_, ?_, ?_, ?_,rfl,Nat.zero_le _⟩ <;> simp (disch:=try exact SX) only[RV,reduceIte,Nat.reduceEqDiff,h0,h1]
  all_goals first | rfl | assumption | done
 ·rintro n t N hlt ⟨i,rfl,hi,g0,g1,g5,g6,hm,hil⟩
  simp only[ht] at hlt ⊢
  subst hm
  by_cases hc:i<l.length
  ·have q1:decide ((i:Int)<l.length)=true:=DT
   by_cases hc3:i<300
   ·have q2:decide ((i:Int)<300)=true:=DT
    have w1:IntKind.i64.wrap ((i:Int)+1)=((i+1:Nat):Int):=WI
    obtain⟨r,hiad,hr,hrl⟩:=hS.iad i hc
    have hsn:=sumW_snoc (l.take i) l[i]
    rw[← take_snoc l i hc] at hsn
    have hps:=zF9 (l.take i)
    rw[List.length_take] at hps
    have hwo:=zHS l[i]
    generalize l[i]=e at *
    obtain⟨ra,rfl,hra,hok⟩:=hr
    have lra:=hra.len
    have w2:IntKind.i64.wrap (sumW (l.take i)+wO e)=sumW (l.take (i+1)):=by rw[hsn];exact wrap_i64 (by omega) (by omega)
    simp (disch:=try exact SX) only[RV,reduceIte,Nat.reduceEqDiff,Nat.reduceBEq,Nat.reduceAdd,g0,g1,g5,g6,ll,q1,q2,w1,hiad,lra,pB_max2,BMM]
    refine⟨hlt,300 - (i+1),by omega,i+1,rfl,by omega, ?_,rfl,by omega⟩
    show AV.sc (.int .i64 (IntKind.i64.wrap (sumW (l.take i)+wO e)))=I64 _
    rw[w2]
   ·have q2:decide ((i:Int)<300)=false:=DF
    obtain rfl:i=300:=by omega
    cases q3:decide (many<(l.length:Int))
    all_goals simp (disch:=try exact SX) only[RV,reduceIte,Nat.reduceEqDiff,Nat.reduceSub,g0,g1,g5,g6,ll,q1,q2,q3]
  ·have q1:decide ((i:Int)<l.length)=false:=DF
   obtain rfl:i=l.length:=by omega
   have et:l.take 300=l.take l.length:=by rw[List.take_of_length_le (Nat.le_refl _),List.take_of_length_le (by omega)]
   rw[et]
   cases q3:decide (many<(l.length:Int))
   all_goals simp (disch:=try exact SX) only[RV,reduceIte,Nat.reduceEqDiff,g0,g1,g5,g6,ll,q3]
theorem zNB {o:Op}{ra:AV}(hS:Sl 1 zA3 ra o.rs)(hl:o.rs.length≤1000000000)(wf:Wf M)(hw:M.wm≤M.size)(k:∀ a' N,Wf N→M.size≤N.size→(∀ j,j<M.size→N.get j=M.get j)→SlM N 1 zA3 a' o.rs→(∀ id,rowOf a'=some id→M.size≤id)→N.wm=M.wm→Q (.agg (opR o a')) N) :
  W3 (zCN fuel (d+1) 19 [.agg (opR o ra)] M) Q:=by
 have hwf:=wf
 refine call_0 tf19 rfl (by simp [a19]) fun b' ht hx=>?_
 have h0:=hx 0 _ rfl
 clear hx
 simp only[a19,c19] at ht ⊢
 simp (disch:=try exact SX) only[RV,seval,h0,hS.fz.rows]
 refine w3_app (by simp (disch:=try exact SX) only[RV,wf]) SlM.nil zCP.cel hS (by omega) (by simp;omega) (by simp;omega) fun a' N m' w' le' sz' kp' nw' wm' rl' on' oc'=>?_
 simp only[add_size] at le' kp' nw'
 rw[List.nil_append] at m'
 have g0:N.get M.size=some (.row false (opR o ra)):=by rw[kp' _ (by omega) (by simp [rowOf])];simp (disch:=try exact SX) only[RV]
 have g1:N.get (M.size+1)=some (.row false (opR ⟨0,Hd.z,0,⟨Eid.z,0⟩,Eid.z,Lb.z,[]⟩ NIL)):=by rw[kp' _ (by omega) (by simp [rowOf])];simp (disch:=try exact SX) only[RV]
 have nr:∀ id,rowOf a'=some id→M.size+2≤id:=fun id h=>by
  rcases nw' id h with h' | h'
  ·cases h'
  ·omega
 have z0:M.size<N.size:=by omega
 have z1:M.size+1<N.size:=by omega
 simp (disch:=try exact SX) only[RV,seval,g0,g1,oc']
 refine k a' _ ((w'.upd _ _).upd _ _) (by simp only[upd_size];omega) (fun j hj=>?_) (m'.keep fun j hj=>?_) (fun id h=>by have:=nr id h;omega) wm'
 ·rw[get_upd_ne (w'.upd _ _) _ _ _ (by omega),get_upd_ne w' _ _ _ (by omega),kp' j (by omega) (by simp [rowOf]),get_add (wf.add _) _ _ (by rw[add_size];omega),get_add wf _ _ hj]
 ·have:=nr j hj
  rw[get_upd_ne (w'.upd _ _) _ _ _ (by omega),get_upd_ne w' _ _ _ (by omega)]
theorem zGN (hS:Sl 17 isOp a l)(hl:l.length≤100000)(hd:∀ o∈l,o.rs.length≤1000000000)(hf:l.length+100<fuel):∃ r,Sl 17 isOp r l ∧ ∀ M,zCN fuel (d+2) 5 [a] M=some (r,M):=by
 have ll:=hS.len
 refine gc_ex tf5 rfl (fun M=>by simp only[icyL,fun M=>hS.icy M 12 (by omega)]) ?_
 refine call_gc tf5 rfl (by simp only[icyL,fun M=>hS.icy M 12 (by omega)]) (by simp [a5]) fun b' ht hx=>?_
 have h0:=hx 0 _ rfl
 clear hx
 simp only[a5,c5] at ht ⊢
 simp (disch:=try exact SX) only[RV]
 refine w_loop (I:=fun n t N => ∃ (i:Nat) (out:AV),n=l.length - i∧i≤l.length∧nth undefA t 0=a∧nth undefA t 3=out∧nth undefA t 4=I64 i∧Wf N∧N.wm=0∧opK.NN N 0 out (l.take i)) (n:=l.length) (by omega) ?_ ?_
 ·refine⟨0,NIL,rfl,Nat.zero_le _, ?_, ?_, ?_,Wf.mem0,rfl,NK.NN.nil _ _⟩ <;> simp (disch:=try exact SX) only[RV,seval,h0]
  all_goals first | rfl | assumption | done
 ·rintro n t N hlt ⟨i,out,rfl,hi,g0,g3,g4,w,wm,hN⟩
  simp only[ht] at hlt ⊢
  by_cases hc:i<l.length
  ·have q3:decide ((i:Int)<l.length)=true:=DT
   have w1:IntKind.i64.wrap ((i:Int)+1)=((i+1:Nat):Int):=WI
   obtain⟨r,hiad,hr,hrl⟩:=hS.iad i hc
   have hsn:=take_snoc l i hc
   have hlo:=hd l[i] (List.getElem_mem hc)
   generalize l[i]=e at *
   obtain⟨ra,rfl,hra,hok⟩:=hr
   simp (disch:=try exact SX) only[RV,seval,g0,g3,g4,ll,q3,hiad]
   refine zNB (d:=d) hra hlo w (by omega) fun a' N2 w2 le2 kp2 sm2 nw2 wm2=>?_
   have oa2:=sm2.one
   have ca2:=sm2.cells
   have rr2:=hN.rows (show N.size≤N2.size+1 by omega)
   have hli:(l.take i).length≤i:=by rw[List.length_take];omega
   simp (disch:=try exact SX) only[RV,seval,fillA,rr2]
   refine NK.NN.app (K:=opK) (B:=0) (l:=l.take i) (x:=e) (ra:=a') w2 (hN.keep fun j a b=>kp2 j b) ⟨rfl,oa2,ca2⟩ ⟨sm2,fun j hj=>Nat.zero_le _,hok⟩ (fun j hj hj2=>by have h1:=hN.lt j hj;have h2:=nw2 j hj2;omega) (by omega) (by omega) (by omega) fun o' M' hN' w' le' kp' nw' wm'=>?_
   simp (disch:=try exact SX) only[RV,seval,g0,g3,g4,w1]
   exact⟨hlt,l.length - (i+1),by omega,i+1,o',rfl,by omega,rfl,rfl,w',by rw[wm',wm2];exact wm,by rw[hsn];exact hN'⟩
  ·obtain rfl:i=l.length:=by omega
   have q3:decide ((l.length:Int)<l.length)=false:=DF
   rw[List.take_length] at hN
   obtain⟨o',hz,hs⟩:=hN.frz (k:=11) (by omega)
   have hz:=hz N (fun _ _=>rfl)
   simp (disch:=try exact SX) only[RV,seval,g0,g3,g4,ll,hz]
   exact⟨o',zMG hs,rfl⟩
variable {v : Lb} {x : Eid}
theorem zIL {k m:Int}{h:Hd}(hS:Sl 17 isOp a l)(hv:v.ok)(hho:h.ok)(hk:k≤9223372036854775807 ∧ -9223372036854775808≤k)(M:Mem):zCN 4000000 61 3 [a,lbA v,I64 k,I64 m,hdA h] M=some (BL true,M):=by
 have hgr:=fun M=>zJA (fuel:=4000000) (d:=59) (many:=25) hS (by omega) M
 apply w3_eq
 refine call_gc tf3 rfl (by simp only[icyL,fun M=>hS.icy M 12 (by omega),fz_icyA (zAB v) (show 1<12 by omega),fz_icyA (zJ9 h) (show 1<12 by omega),icy12]) (by simp [a3]) fun b' ht hx=>?_
 obtain⟨h0,h1,h2⟩:=hx3 hx
 have h3:=hx 3 _ rfl
 have h4:=hx 4 _ rfl
 clear hx
 simp only[a3,c3] at ht ⊢
 cases q1:zFI l 25 with
 | true =>
  rw[q1] at hgr
  simp (maxSteps:=2000000) (disch:=try exact SX) only[RUN,RU,footA,feetIn,resultsA,tupOf,frzL,reduceIte,Nat.reduceEqDiff,Nat.reduceAdd,h0,h1,h4,hgr]
 | false =>
  rw[q1] at hgr
  obtain⟨hl25,hrs⟩:=zGC (by omega) q1
  have hrs2:∀ o∈l,o.rs.length≤1000000000:=fun o ho=>by have:=hrs o ho;omega
  obtain⟨own,hown,hownr⟩:=zGN (fuel:=4000000) (d:=58) hS (by omega) hrs2 (by omega)
  obtain⟨_,⟨rc,rfl,hrc⟩,hce⟩:=zCK (fuel:=4000000) (d:=42) (v:=v) hown (by omega) (by omega) hrs2
  obtain⟨_,⟨rd,rfl,hrd⟩,hce2⟩:=zFX (fuel:=4000000) (d:=51) (v:=v) hS hv (by omega) (by omega)
  have hle:=fun M=>zLA (fuel:=4000000) (d:=41) (v:=v) (k:=k) hown (by omega) (by omega) hrs2 M
  have hle2:=fun M=>zGP (fuel:=4000000) (d:=51) (v:=v) (k:=k) hS hv (by omega) (by omega) hk M
  obtain⟨_,⟨rp,rfl,hrp⟩,hsp⟩:=zIK (fuel:=4000000) (d:=41) (v:=v) (k:=k) (m:=m) hown (by omega) (by omega) hrs2
  obtain⟨_,⟨rq,rfl,hrq⟩,hsp2⟩:=zFY (fuel:=4000000) (d:=51) (v:=v) (k:=k) (m:=m) hS hv (by omega) (by omega)
  have hct:=fun M=>zHY (fuel:=4000000) (d:=41) (v:=v) hown (by omega) (by omega) hrs2 M
  have hct2:=fun M=>zF4 (fuel:=4000000) (d:=51) (v:=v) hS hv (by omega) (by omega) M
  have hnx:=fun M=>zKE (fuel:=4000000) (d:=41) (h:=h) hown (by omega) (by omega) M
  have hnx2:=fun M=>zGQ (fuel:=4000000) (d:=51) (h:=h) hS hho (by omega) (by omega) M
  have s1:(if zAS l v=0 then zAI l v else []).length≤100000:=by
   split
   ·rename_i q
    have:=zBF (zBY q).1 v
    omega
   ·exact Nat.zero_le _
  have s2:(if vspE l v k m=0 then spansOf ((midC l v k m).map (·.id)) else []).length≤100000:=by
   split
   ·have h1:=zE9 ((midC l v k m).map (·.id))
    rename_i q
    have q0:zAS l v=0:=by
     unfold vspE at q
     split at q
     ·assumption
     ·rename_i q2;exact absurd q q2
    have:=zBF (zBY q0).1 v
    unfold midC at h1
    rw[List.length_map,List.length_take,List.length_drop] at h1
    unfold midC
    omega
   ·exact Nat.zero_le _
  have hsc:=fun M=>zF7 (fuel:=4000000) (d:=59) hrc hrd (by omega) (by omega) M
  rw[decide_eq_true (rfl:_=_)] at hsc
  have hss:=fun M=>zF8 (fuel:=4000000) (d:=59) hrp hrq (by omega) (by omega) M
  have hso:=fun M=>zGS (fuel:=4000000) (d:=57) hown hS (by omega) (fun o ho=>by have:=hrs o ho;omega) (by omega) M
  rw[zJR.2 rfl] at hso
  have e1:decide (zAS l v=zAS l v)=true:=decide_eq_true rfl
  have e2:decide (zGG l v k=zGG l v k)=true:=decide_eq_true rfl
  have e3:decide (zGF l v k=zGF l v k)=true:=decide_eq_true rfl
  have e4:decide (vspE l v k m=vspE l v k m)=true:=decide_eq_true rfl
  have e5:decide ((zBE (cntL l v):Int)=zBE (cntL l v))=true:=decide_eq_true rfl
  have e6:decide ((zAW (cntL l v):Int)=zAW (cntL l v))=true:=decide_eq_true rfl
  have e7:decide (zI9 l h=zI9 l h)=true:=decide_eq_true rfl
  have e8:decide (zGH l h=zGH l h)=true:=decide_eq_true rfl
  generalize (if zAS l v=0 then zAI l v else [])=X1 at *
  generalize (if vspE l v k m=0 then spansOf ((midC l v k m).map (·.id)) else [])=X2 at *
  generalize zGG l v k=X3 at *
  generalize cntL l v=X4 at *
  clear s1 s2 hrs hrs2
  simp (maxSteps:=2000000) (disch:=try exact SX) only[RUN,RU,footA,feetIn,slot,lay,reduceIte,Nat.reduceEqDiff,Nat.reduceAdd,h0,h1,h2,h3,h4,hgr,hownr,hce,hce2,hle,hle2]
  clear hce hce2 hle hle2 hgr hownr
  simp (maxSteps:=2000000) (disch:=try exact SX) only[RUN,RU,footA,feetIn,slot,reduceIte,Nat.reduceEqDiff,Nat.reduceAdd,h0,h2,h3,hsp,hsp2]
  clear hsp hsp2
  simp (maxSteps:=2000000) (disch:=try exact SX) only[RUN,RU,footA,feetIn,slot,reduceIte,Nat.reduceEqDiff,Nat.reduceAdd,h0,hct,hct2]
  clear hct hct2
  simp (maxSteps:=2000000) (disch:=try exact SX) only[RUN,RU,footA,feetIn,slot,reduceIte,Nat.reduceEqDiff,Nat.reduceAdd,h0,hnx,hnx2]
  clear hnx hnx2
  simp (maxSteps:=2000000) (disch:=try exact SX) only[RUN,RU,footA,feetIn,slot,reduceIte,Nat.reduceEqDiff,Nat.reduceAdd,hsc,↓pIdE,zA0,ETA]
  simp (maxSteps:=20000000) (disch:=try exact SX) only[RUN,RU,footA,feetIn,resultsA,tupOf,frzL,reduceIte,Nat.reduceEqDiff,Nat.reduceAdd,h0,hss,hso]
abbrev gLb:GT:=.ag [.int .u8,.int .u32]
abbrev gHd:GT:=.ag [gLb,.int .u8]
abbrev gId:GT:=.ag [gHd,.int .i64]
abbrev gSp:GT:=.ag [gId,.int .i64]
abbrev gOp:GT:=.ag [.int .u8,gHd,.int .i64,gSp,gId,gLb,.sl (.int .i32)]
theorem zBP {n:Int}(h:(Lit.int .u8 n).wf=true):0≤n∧n≤255:=by
 simp [Lit.wf,IntKind.min,IntKind.max,IntKind.signed,IntKind.bits] at h
 omega
theorem zCG {n:Int}(h:(Lit.int .u32 n).wf=true):0≤n∧n<4294967296:=by
 simp [Lit.wf,IntKind.min,IntKind.max,IntKind.signed,IntKind.bits] at h
 omega
theorem zE5 {n:Int}(h:(Lit.int .i64 n).wf=true):i64R n:=by
 simp [Lit.wf,IntKind.min,IntKind.max,IntKind.signed,IntKind.bits] at h
 unfold i64R
 omega
def zJE (r:List AV)(x:Int):Prop:=zA3 r x∧(-2147483648≤x∧x≤2147483647)
theorem zNP (r:List AV)(h:Is (.int .i32) r):∃ x,zJE r x:=by
 simp only[Is] at h
 obtain⟨n,rfl,hw⟩:=h
 refine⟨n,rfl, ?_⟩
 simp [Lit.wf,IntKind.min,IntKind.max,IntKind.signed,IntKind.bits] at hw
 omega
theorem zGZ:∀ {rows:List (List AV)} {l:List Int},All2 zJE rows l→All2 zA3 rows l∧i32s l
 | _,_,.nil=>⟨.nil,fun x h=>by cases h⟩
 | _,_,.cons a t=>by
  obtain⟨h1,h2⟩:=zGZ t
  refine⟨.cons a.1 h1,fun x h=>?_⟩
  rcases List.mem_cons.1 h with rfl | h
  ·exact a.2
  ·exact h2 x h
theorem zNY {a:AV}{l:List Int}(h:Sl 1 zJE a l):Sl 1 zA3 a l∧i32s l:=by
 rcases h with⟨rfl,rfl⟩ | ⟨rows,cap,rfl,hA,hr⟩
 ·exact⟨.inl ⟨rfl,rfl⟩,fun x h=>by cases h⟩
 ·obtain⟨h1,h2⟩:=zGZ hA
  exact⟨.inr ⟨rows,cap,rfl,h1,hr⟩,h2⟩
theorem zLC {r:List AV}(h:Is (.sl (.int .i32)) r):∃ a l,r=[a]∧Sl 1 zA3 a l∧i32s l:=by
 obtain⟨a,l,e,hs⟩:=Is.slice zNP h
 obtain⟨h1,h2⟩:=zNY hs
 exact⟨a,l,e,h1,h2⟩
theorem of_lb (r:List AV)(h:Is gLb r):∃ x,isLb r x:=by
 simp only[Is,IsL] at h
 obtain⟨_,_,rfl,⟨n1,rfl,w1⟩,_,_,rfl,⟨n2,rfl,w2⟩,rfl⟩:=h
 exact⟨⟨n1,n2⟩,rfl,(zBP w1).1,(zBP w1).2,(zCG w2).1,(zCG w2).2⟩
theorem of_op (r:List AV)(h:Is gOp r):∃ x,isOp r x:=by
 simp only[Is,IsL] at h
 obtain⟨_,_,rfl,⟨n1,rfl,w1⟩,_,_,rfl,⟨_,_,rfl,⟨_,_,rfl,⟨n2,rfl,w2⟩,_,_,rfl,⟨n3,rfl,w3⟩,rfl⟩,_,_,rfl,⟨n4,rfl,w4⟩,rfl⟩,_,_,rfl,⟨n5,rfl,w5⟩,_,_,rfl,⟨_,_,rfl,⟨_,_,rfl,⟨_,_,rfl,⟨_,_,rfl,⟨n6,rfl,w6⟩,_,_,rfl,⟨n7,rfl,w7⟩,rfl⟩,_,_,rfl,⟨n8,rfl,w8⟩,rfl⟩,_,_,rfl,⟨n9,rfl,w9⟩,rfl⟩,_,_,rfl,⟨n10,rfl,w10⟩,rfl⟩,_,_,rfl,⟨_,_,rfl,⟨_,_,rfl,⟨_,_,rfl,⟨n11,rfl,w11⟩,_,_,rfl,⟨n12,rfl,w12⟩,rfl⟩,_,_,rfl,⟨n13,rfl,w13⟩,rfl⟩,_,_,rfl,⟨n14,rfl,w14⟩,rfl⟩,_,_,rfl,⟨_,_,rfl,⟨n15,rfl,w15⟩,_,_,rfl,⟨n16,rfl,w16⟩,rfl⟩,_,_,rfl,hr,rfl⟩:=h
 have r1:0≤n1∧n1≤255:=by exact zBP w1
 have r2:0≤n2∧n2≤255:=by exact zBP w2
 have r3:0≤n3∧n3<4294967296:=by exact zCG w3
 have r4:0≤n4∧n4≤255:=by exact zBP w4
 have r5:i64R n5:=by exact zE5 w5
 have r6:0≤n6∧n6≤255:=by exact zBP w6
 have r7:0≤n7∧n7<4294967296:=by exact zCG w7
 have r8:0≤n8∧n8≤255:=by exact zBP w8
 have r9:i64R n9:=by exact zE5 w9
 have r10:i64R n10:=by exact zE5 w10
 have r11:0≤n11∧n11≤255:=by exact zBP w11
 have r12:0≤n12∧n12<4294967296:=by exact zCG w12
 have r13:0≤n13∧n13≤255:=by exact zBP w13
 have r14:i64R n14:=by exact zE5 w14
 have r15:0≤n15∧n15≤255:=by exact zBP w15
 have r16:0≤n16∧n16<4294967296:=by exact zCG w16
 obtain⟨ra,l,e,hs,hi⟩:=zLC (r:=_) (by simp only[Is];exact hr)
 subst e
 exact⟨⟨n1,⟨⟨n2,n3⟩,n4⟩,n5,⟨⟨⟨⟨n6,n7⟩,n8⟩,n9⟩,n10⟩,⟨⟨⟨n11,n12⟩,n13⟩,n14⟩,⟨n15,n16⟩,l⟩,ra,rfl,hs,r1,⟨⟨r2.1,r2.2,r3.1,r3.2⟩,r4⟩,r5,⟨⟨⟨⟨r6.1,r6.2,r7.1,r7.2⟩,r8⟩,r9⟩,r10⟩,⟨⟨⟨r11.1,r11.2,r12.1,r12.2⟩,r13⟩,r14⟩,⟨r15.1,r15.2,r16.1,r16.2⟩,hi⟩
end Go.Proofs.YtmkkecnafjhdmaaGreat
namespace Go.Proofs.YtmkkecnafjhdmaaGreat.viewTells
open Go Go.Ax
theorem of_hd (r:List AV)(h:Is gHd r):∃ x:Hd,r=hdR x∧x.ok:=by
 simp only[Is,IsL] at h
 obtain⟨_,_,rfl,⟨_,_,rfl,⟨n1,rfl,w1⟩,_,_,rfl,⟨n2,rfl,w2⟩,rfl⟩,_,_,rfl,⟨n3,rfl,w3⟩,rfl⟩:=h
 have r1:=zBP w1
 have r2:=zCG w2
 have r3:=zBP w3
 exact⟨⟨⟨n1,n2⟩,n3⟩,rfl,⟨r1.1,r1.2,r2.1,r2.2⟩,r3.1,r3.2⟩
theorem run_args (a0 a1 a2 a3 a4:AV)(h0:IsA (.sl gOp) a0)(h1:IsA gLb a1)(h2:IsA (.int .i64) a2)(h3:IsA (.int .i64) a3)(h4:IsA gHd a4):zCN 4000000 61 3 [a0,a1,a2,a3,a4] mem0=some (BL true,mem0):=by
 obtain⟨a,l,ha,hl⟩:=Is.slice of_op h0
 obtain rfl:a0=a:=by simpa using ha
 obtain⟨c1,rfl,h1⟩:=h1
 obtain⟨v,rfl,hv⟩:=of_lb c1 h1
 have h2:Is (.int .i64) [a2]:=h2
 simp only[Is] at h2
 obtain⟨k,hk,wk⟩:=h2
 obtain rfl:a2=I64 k:=by simpa using hk
 have h3:Is (.int .i64) [a3]:=h3
 simp only[Is] at h3
 obtain⟨m,hm,wm⟩:=h3
 obtain rfl:a3=I64 m:=by simpa using hm
 obtain⟨c4,rfl,h4⟩:=h4
 obtain⟨h,rfl,hho⟩:=of_hd c4 h4
 have hkr:=zE5 wk
 unfold i64R at hkr
 exact zIL hl hv hho ⟨by omega,by omega⟩ mem0
end Go.Proofs.YtmkkecnafjhdmaaGreat.viewTells
