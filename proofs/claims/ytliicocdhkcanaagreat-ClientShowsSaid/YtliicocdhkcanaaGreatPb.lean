/-
  Texts joined: CcE CcF SaZ SwK SwP SwQ SbF EdA VpD VqC TrA TrB TrC TrE TrF TpZ TpA TpB TpC TrD TpD VqA TwB SbO VqB TpE TpH VpA VpB.
-/
import Derived.Test.YtliicocdhkcanaaGreatEg
import Derived.Test.YtliicocdhkcanaaGreatPa
set_option linter.unusedSimpArgs false
set_option linter.unusedVariables false
set_option maxHeartbeats 64000000
set_option maxRecDepth 100000
namespace Go.Proofs.YtliicocdhkcanaaGreat
open Go Go.Ax
variable {fuel : Nat} {M : Mem} {Q : AV -> Mem -> Prop} {d : Nat} {c : Cl} {o m dn p : AV}
theorem IsC.end (h:IsC c o m dn p):zXE (.agg [I64 c.e.ep,I64 c.e.nx,o,I64 c.e.want,I64 c.e.since,BL c.e.owe]) c.e:=⟨o,rfl,h.ho⟩
theorem zHE (h:IsC c o m dn p)(hl0:c.mine.length<=3000)(hl1:c.done.length<=3000)(hl2:c.pend.length<=3000)(hf:10000<fuel)(hr:∀ x∈c.pend,x.rs.length<=1000)(M:Mem):zCN fuel (d+16) 10 [.agg (clR c o m dn p)] M=some (I64 (err c.may),M):=by
 have om:=h.hm.one
 have od:=h.hd.one
 have op:=h.hp.one
 have oo:=h.ho.one
 have hh:=fun M=>@zDL fuel (d+13) c.h M
 have he:=fun M=>zSD (P:=Tryz.prog) (fuel:=fuel) (d:=d+13) (M:=M) c.e _ h.end (by omega)
 have hL:=fun M=>zVE (fuel:=fuel) (d:=d) h hl0 hl1 hl2 hf hr M
 have hN:=fun M=>zPJ (fuel:=fuel) (d:=d+10) h (by omega) M
 unfold clR at hL hN
 apply zB1
 refine zAD tf10 rfl (by simp only[icyL,zAP (zGT h) (show 1<12 by omega)]) (by simp [a10]) fun b' ht hx=>?_
 have h0:=hx 0 _ rfl
 clear hx
 simp only[a10,c10] at ht ⊢
 unfold clR at h0
 unfold Cl.may
 cases q1:c.h.may with
 | false =>
  rw[q1] at hh
  simp (disch:=try exact SX) only[RV,seval,h0,hh,zBA,Bool.false_and]
 | true =>
  rw[q1] at hh
  cases q2:c.e.may with
  | false =>
   rw[q2] at he
   simp (disch:=try exact SX) only[RV,seval,h0,hh,he,zAU,zBA,Bool.false_and,Bool.false_eq_true]
  | true =>
   rw[q2] at he
   cases q3:c.lst with
   | false =>
    rw[q3] at hL
    simp (disch:=try exact SX) only[RV,seval,h0,hh,he,hL,zAU,zBA,Bool.false_and]
   | true =>
    rw[q3] at hL
    cases q4:c.nums with
    | false =>
     rw[q4] at hN
     simp (disch:=try exact SX) only[RV,seval,h0,hh,he,hL,hN,zAU,zBA]
    | true =>
     rw[q4] at hN
     simp (disch:=try exact SX) only[RV,seval,h0,hh,he,hL,hN,zAU]
theorem zOT {a:AV}{l:List Op}(hS:Sl 17 isOp a l)(hl:l.length<=10000)(hf:l.length+100<fuel)(hd:∀ x∈l,x.rs.length<=1000000000)(wf:Wf M)(hw:M.wm<=M.size)
  (k:∀ o N,Kept M N->opK.MW N (fun j=>M.size<=j) o l->Q o N):W3 (zCN fuel (d+3) 116 [a] M) Q:=by
 have ll:=hS.len
 refine zAT tf116 rfl (by simp [a116]) fun b' ht hx=>?_
 have h0:=hx 0 _ rfl
 clear hx
 simp only[a116,c116] at ht ⊢
 simp (disch:=try exact SX) only[RV,seval,h0,ll]
 refine zBB (I:=fun n t N => ∃ (i:Nat) (out:AV),n=l.length - i/\i<=l.length/\nth zA3 t 2=out/\nth zA3 t 5=a/\nth zA3 t 6=I64 l.length/\nth zA3 t 7=I64 i/\Kept M N/\opK.MW N (fun j=>M.size<=j) out (l.take i)) (n:=l.length) (by omega) ?_ ?_
 ·refine⟨0,NIL,rfl,Nat.zero_le _, ?_, ?_, ?_, ?_,Kept.refl wf,NK.MW.of_nn (NK.NN.nil _ _)⟩ <;> simp (disch:=try exact SX) only[RV,seval]
  all_goals first | rfl | assumption | done
 ·rintro n t N hlt ⟨i,out,rfl,hi,g2,g5,g6,g7,hk,hN⟩
  simp only[ht] at hlt ⊢
  have oo:=hN.mr.one
  have oc:=hN.mr.cells
  by_cases hc:i<l.length
  ·have q3:decide ((i:Int)<l.length)=true:=DT
   have w1:IntKind.i64.wrap ((i:Int)+1)=((i+1:Nat):Int):=WI
   obtain⟨r,hiad,hr,hrl⟩:=hS.iad i hc
   have hls:=take_snoc l i hc
   have hlo:=hd l[i] (List.getElem_mem hc)
   have hll:(l.take i).length<=i:=by rw[List.length_take];omega
   generalize l[i]=e at *
   obtain⟨ra,rfl,hra,hok⟩:=hr
   have ora:=hra.one
   have w:=hk.wf
   have hwN:=hk.wml hw
   have kX:=((Kept.refl w).add (.row false (opR ⟨0,Hd.z,0,⟨Eid.z,0⟩,Eid.z,Lb.z,[]⟩ NIL))).upd hwN (Nat.le_refl _) (.row false (opR e ra))
   simp (disch:=try exact SX) only[RV,seval,g2,g5,g6,g7,q3,hiad]
   refine zRC (d:=d) hra hlo kX.wf (kX.wml hwN) fun a' N2 hN2 sm2 nw2=>?_
   have k2:=kX.trans hN2
   have w2:=k2.wf
   have oa:=sm2.one
   have ca:=sm2.cells
   have rl2:=zB3 sm2.rl (Nat.le_refl N2.size)
   have rr2:=hN.mr.rows (show N.size<=N2.size+1 by have:=k2.le;omega)
   have hlt2:=hN.mr.lt
   simp (disch:=try exact SX) only[RV,seval,zAB,rr2]
   have hsz:N.size+1<=N2.size:=hN2.le
   have hle:=hk.le
   refine zX5 (fun j hj=>by have:=(hlt2 j hj).1;have:=hk.wm;have:=k2.wm;show N2.wm<=j;omega) ?_
   refine NK.MW.app (K:=opK) (l:=l.take i) (x:=e) (ra:=a') w2 (hN.kept k2) ⟨rfl,oa,ca⟩ ⟨.inr (NK.Rd1.of sm2),hok,fun j hj=>by have:=nw2 j hj;simp only[zA7,zA2] at this;omega⟩ (fun j hj hj2=>by have h1:=hlt2 j hj;have h2:=nw2 j hj2;simp only[zA7,zA2] at h2;omega) (by omega) (by omega) (fun j hj=>by omega) fun o' M' hN' w' le' kp' nw' wm' rl' on' oc'=>?_
   intro hdi
   simp (disch:=try exact SX) only[RV,seval,g2,g5,g6,g7,w1]
   refine⟨hlt,l.length - (i+1),by omega,i+1,o',rfl,by omega,rfl,rfl,⟨w',by omega,fun j hj=>?_,by rw[wm',k2.wm,hk.wm], ?_⟩,by rw[hls];exact hN'⟩
   ·rw[kp' j (by omega) (fun h=>by have:=(hlt2 j h).1;omega),k2.get j (by omega),hk.get j hj]
   ·rw[hdi];exact k2.di.trans hk.di
  ·obtain rfl:i=l.length:=by omega
   have q3:decide ((l.length:Int)<l.length)=false:=DF
   rw[List.take_length] at hN
   simp (disch:=try exact SX) only[RV,seval,g2,g6,g7]
   exact k _ _ hk hN
structure OwnC (M:Mem) (O B D:Nat->Prop) (c:Cl) (o m dn p:AV):Prop where
 ho:SlM M 2 zG0 o c.e.out
 hoB:∀ j,rowOf o=some j->O j
 hm:opK.MR M B m c.mine
 hd:opK.MR M B dn c.done
 hp:opK.MW M D p c.pend
 ap:∀ j,(O j -> ¬ B j /\ ¬ D j)/\(B j -> ¬ D j)
theorem OwnC.keep {N : Mem} {O B D : Nat -> Prop} (h : OwnC M O B D c o m dn p) (k : ∀ j,O j ∨ B j ∨ D j -> j < M.size -> N.get j = M.get j) : OwnC N O B D c o m dn p :=
  ⟨h.ho.keep fun j hj=>k j (.inl (h.hoB j hj)) (h.ho.lt j hj),h.hoB,h.hm.keep fun j hB hj=>by rw [zB0,zB0,k j (.inr (.inl hB)) hj],h.hd.keep fun j hB hj=>by rw [zB0,zB0,k j (.inr (.inl hB)) hj],
   h.hp.keep (fun j hB hj=>by rw [zB0,zB0,k j (.inr (.inr hB)) hj]) fun j hj=>k j (.inr (.inr (h.hp.mr.lt j hj).1)) (h.hp.mr.lt j hj).2,h.ap⟩
theorem zc9 (h:IsC c o m dn p)(hl0:c.mine.length<=3000)(hl1:c.done.length<=3000)(hl2:c.pend.length<=3000)(hn:c.e.out.length<=32)(hb:∀ x∈c.e.out,x.body.length<=900)(hd:∀ x∈c.has,x.rs.length<=1000)(hf:10000<fuel)(wf:Wf M)(hw:M.wm<=M.size)
  (k:∀ o m dn p N O B D,Kept M N->OwnC N O B D c o m dn p->(∀ j,O j∨B j∨D j->M.size<=j/\j<N.size)->Q (.agg (clR c o m dn p)) N) :
  W3 (zCN fuel (d+5) 74 [.agg (clR c o m dn p)] M) Q:=by
 have om:=h.hm.one
 have od:=h.hd.one
 have op:=h.hp.one
 have oo:=h.ho.one
 unfold Cl.has at hd
 have hd0:∀ x∈c.mine,x.rs.length<=1000000000:=fun x hx=>by have:=hd x (by simp [hx]);omega
 have hd1:∀ x∈c.done,x.rs.length<=1000000000:=fun x hx=>by have:=hd x (by simp [hx]);omega
 have hd2:∀ x∈c.pend,x.rs.length<=1000000000:=fun x hx=>by have:=hd x (by simp [hx]);omega
 refine zAT tf74 rfl (by simp [a74]) fun b' ht hx=>?_
 have h0:=hx 0 _ rfl
 clear hx
 simp only[a74,c74] at ht ⊢
 unfold clR at h0
 simp (disch:=try exact SX) only[RV,seval,h0]
 refine zUL (d:=d+2) c.e _ h.end (by omega) hn hb (by simp (disch:=try exact SX) only[RV,seval,wf]) (by show M.wm<=M.size+1+1;omega) fun o1 N1 K1 S1 R1=>?_
 have oo1:=S1.one
 have oc1:=S1.cells
 have w1:=K1.wf
 simp only[zA2] at R1
 have s1:M.size+2<=N1.size:=by have:=K1.le;simp only[zA2] at this;omega
 have gA:=K1.get M.size (by simp only[zA2];omega)
 have gB:=K1.get (M.size+1) (by simp only[zA2];omega)
 simp (disch:=try exact SX) only[RV,seval] at gA gB
 have K1':=(((Kept.refl wf).add _).add _).trans K1
 simp (disch:=try exact SX) only[RV,seval,gA]
 have kX:=K1'.upd hw (Nat.le_refl _) (.row false (clL c o1 m dn p))
 have gX:(N1.upd M.size (.row false (clL c o1 m dn p))).get M.size=some (.row false (clL c o1 m dn p)):=zAC w1 _ _ (by omega)
 have gY:=(zA0 w1 (.row false (clL c o1 m dn p)) M.size (M.size+1) (by omega)).trans gB
 have sK:=S1.keep (N:=N1.upd M.size (.row false (clL c o1 m dn p))) fun j hj=>zA0 w1 _ _ _ (by have:=R1 j hj;omega)
 have sX:M.size+2<=(N1.upd M.size (.row false (clL c o1 m dn p))).size:=s1
 clear gA gB K1 K1' S1
 generalize N1.upd M.size (.row false (clL c o1 m dn p))=X at *
 have wX:=kX.wf
 have lX:M.size<X.size:=by omega
 refine zOT (d:=d+1) h.hm (by omega) (by omega) hd0 (by rw[zDQ];exact wX) (Nat.le_refl _) fun o2 N2 k2 mw2=>?_
 have e2:N2.dirty=false:=k2.di
 have b2:=k2.bk
 have on2:=mw2.mr.one
 have oc2:=mw2.mr.cells
 have w2:=k2.wf
 have z2:=k2.le
 have g2:=(k2.get M.size lX).trans ((zDF _ _).trans gX)
 have l2:M.size<N2.size:=Nat.lt_of_lt_of_le lX z2
 simp (disch:=try exact SX) only[RV,seval,g2,e2,zBD,zGJ]
 refine zOT (d:=d+1) h.hd (by omega) (by omega) hd1 (by rw[zDQ,zEZ];exact w2) (Nat.le_refl _) fun o3 N3 k3 mw3=>?_
 have e3:N3.dirty=false:=k3.di
 have b3:=k3.bk
 have on3:=mw3.mr.one
 have oc3:=mw3.mr.cells
 have w3:=k3.wf
 have z3:N2.size<=N3.size:=k3.le
 have g3:N3.get M.size=some _:=(k3.get M.size l2).trans g2
 have l3:M.size<N3.size:=by omega
 simp (disch:=try exact SX) only[RV,seval,g3,e3,zBD,zGJ]
 refine zOT (d:=d+1) h.hp (by omega) (by omega) hd2 (by rw[zDQ,zEZ];exact w3) (Nat.le_refl _) fun o4 N4 k4 mw4=>?_
 have e4:N4.dirty=false:=k4.di
 have b4:=k4.bk
 have on4:=mw4.mr.one
 have oc4:=mw4.mr.cells
 have w4:=k4.wf
 have z4:N3.size<=N4.size:=k4.le
 have g4:N4.get M.size=some _:=(k4.get M.size l3).trans g3
 have l4:M.size<N4.size:=by omega
 have n2:M.size+1<N2.size:=by have:X.size<=N2.size:=z2;omega
 have n3:M.size+1<N3.size:=by omega
 have n4:M.size+1<N4.size:=by omega
 have h5:N4.get (M.size+1)=some _:=(k4.get (M.size+1) n3).trans ((k3.get (M.size+1) n2).trans ((k2.get (M.size+1) (by show M.size+1<X.size;omega)).trans gY))
 simp (disch:=try exact SX) only[RV,seval,oc2,oc3,oc4,g4,e4,h5,zBD]
 have kN:=(((((((kX.trans b2).trans b3).trans b4).upd hw (Nat.le_refl _) (.row false (clL c o1 o2 dn p))).upd hw (Nat.le_refl _) (.row false (clL c o1 o2 o3 p))).upd hw (Nat.le_refl _) (.row false (clL c o1 o2 o3 o4))).upd hw (Nat.le_succ _) (.row false (clL c o1 o2 o3 o4)))
 have q0:Wf (((X.bk N2).bk N3).bk N4):=w4
 have s2:X.size<=N2.size:=z2
 have up:∀ j,M.size+2<=j->(((((((X.bk N2).bk N3).bk N4).upd M.size (.row false (clR c o1 o2 dn p))).upd M.size (.row false (clR c o1 o2 o3 p))).upd M.size (.row false (clR c o1 o2 o3 o4))).upd (M.size+1) (.row false (clR c o1 o2 o3 o4))).get j=N4.get j:=fun j hj=>by
  rw[zA0 (((q0.upd _ _).upd _ _).upd _ _) _ _ _ (by omega),zA0 ((q0.upd _ _).upd _ _) _ _ _ (by omega),zA0 (q0.upd _ _) _ _ _ (by omega),zA0 q0 _ _ _ (by omega),zFX]
 have sZ:(((((((X.bk N2).bk N3).bk N4).upd M.size (.row false (clR c o1 o2 dn p))).upd M.size (.row false (clR c o1 o2 o3 p))).upd M.size (.row false (clR c o1 o2 o3 o4))).upd (M.size+1) (.row false (clR c o1 o2 o3 o4))).size=N4.size:=rfl
 unfold clR at up sZ
 refine k o1 o2 o3 o4 _ (fun j=>M.size+2<=j/\j<X.size) (fun j=>X.size<=j/\j<N3.size) (fun j=>N3.size<=j/\j<N4.size) kN ⟨?_,fun j hj=>⟨R1 j hj,sK.lt j hj⟩, ?_, ?_, ?_,fun j=>by omega⟩ (fun j h=>by rw[sZ];omega)
 ·exact sK.keep fun j hj=>(up j (R1 j hj)).trans ((k4.get j (by have:=sK.lt j hj;show j<N3.size;omega)).trans ((k3.get j (by have:=sK.lt j hj;show j<N2.size;omega)).trans (k2.get j (sK.lt j hj))))
 ·refine(mw2.mr.bnd.mono (B':=fun j=>X.size<=j/\j<N3.size) fun j h=>?_).keep fun j hB hj=>?_
  ·have:X.size<=j:=h.1
   have:=h.2
   constructor <;> omega
  ·rw[zB0,zB0,up j (by omega),k4.get j (show j<N3.size by omega),zDF,zFX,k3.get j hj,zDF,zFX]
 ·refine(mw3.mr.bnd.mono (B':=fun j=>X.size<=j/\j<N3.size) fun j h=>?_).keep fun j hB hj=>?_
  ·have:N2.size<=j:=h.1
   have:=h.2
   constructor <;> omega
  ·rw[zB0,zB0,up j (by omega),k4.get j hj,zDF,zFX]
 ·have e:∀ j,N3.size<=j->j<N4.size->M.size+2<=j:=fun j h _=>by omega
  refine(mw4.bnd.mono (B':=fun j=>N3.size<=j/\j<N4.size) fun j h=>h).keep (fun j hB hj=>?_) fun j hj=>?_
  ·rw[zB0,zB0,up j (e j hB.1 hB.2)]
  ·have:=mw4.mr.lt j hj
   exact up j (e j this.1 this.2)
theorem cof_0 (h:IsC c o m dn p)(hl0:c.mine.length<=3000)(hl1:c.done.length<=3000)(hl2:c.pend.length<=3000)(hd:∀ x∈c.has,x.rs.length<=1000)(hf:10000<fuel)(wf:Wf M)(hw:M.wm<=M.size)
  (k0:c.may=false -> ∀ N,Kept M N->Q (.tup [.sc (.pointer none),I64 8]) N)
  (k:c.may=true -> ∀ o m dn p x N O B D,Kept M N->OwnC N O B D c o m dn p->(∀ j,O j∨B j∨D j->M.size<=j/\j<x)->M.size<=x->x<N.size->N.get x=some (.row false (clR c o m dn p))->Q (.tup [.ptr x 0,I64 0]) N) :
  W3 (zCN fuel (d+17) 33 [.agg (clR c o m dn p)] M) Q:=by
 have om:=h.hm.one
 have od:=h.hd.one
 have op:=h.hp.one
 have oo:=h.ho.one
 have hck:=fun M=>zHE (fuel:=fuel) (d:=d) h hl0 hl1 hl2 hf (fun x hx=>hd x (by unfold Cl.has;simp [hx])) M
 unfold clR at hck
 refine zAT tf33 rfl (by simp [a33]) fun b' ht hx=>?_
 have h0:=hx 0 _ rfl
 clear hx
 simp only[a33,c33] at ht ⊢
 unfold clR at h0
 cases q:c.may with
 | false =>
  rw[q] at hck
  simp (disch:=try exact SX) only[RV,seval,h0,hck,zBA]
  exact k0 q _ ((Kept.refl wf).add _)
 | true =>
  rw[q] at hck
  simp (disch:=try exact SX) only[RV,seval,h0,hck,zAU]
  have hq:=q
  unfold Cl.may at hq
  simp only[Bool.and_eq_true] at hq
  have he:=hq.1.1.2
  have hn:c.e.out.length<=32:=by
   unfold End.may at he
   simp only[Bool.and_eq_true,decide_eq_true_eq] at he
   exact he.1.1.1.2
  have hb:∀ x∈c.e.out,x.body.length<=900:=fun x hx=>by
   obtain⟨i,hi,rfl⟩:=List.getElem_of_mem hx
   unfold End.may at he
   simp only[Bool.and_eq_true,List.all_eq_true] at he
   have:=he.2 i (List.mem_range.2 hi)
   rw[List.getElem?_eq_getElem hi] at this
   simp only[Bool.and_eq_true,decide_eq_true_eq] at this
   exact this.2
  refine zc9 (d:=d+11) h hl0 hl1 hl2 hn hb hd hf (by simp (disch:=try exact SX) only[RV,seval,wf]) (by show M.wm<=M.size+1;omega) fun o' m' dn' p' N O B D kN hO hBD=>?_
  have oo':=hO.ho.one
  have om':=hO.hm.one
  have od':=hO.hd.one
  have op':=hO.hp.mr.one
  have wN:=kN.wf
  have kN':=((Kept.refl wf).add _).trans kN
  simp only[zA2] at hBD
  unfold clR
  simp (disch:=try exact SX) only[RV,seval,zAB]
  refine k q o' m' dn' p' N.size _ O B D (kN'.add _) (hO.keep fun j h hj=>zAA wN _ _ hj) (fun j h=>by have:=hBD j h;omega) kN'.le (by rw[zA2];omega) ?_
  rw[zAE wN _ _ (Nat.le_refl _) (Nat.lt_succ_self _)]
  rfl
theorem zLS:∀ {pre l:List Op},zAS pre l=true -> ∀ o∈l,o.may=true
 | _,[],_,_,h=>by cases h
 | pre,o::l,h,p,hp=>by
  simp only[zAS,Bool.and_eq_true] at h
  rcases List.mem_cons.1 hp with rfl | hp
  ·exact h.1.1
  ·exact zLS h.2 p hp
theorem zHL (a b:Int):zVA a b=0↔BitVec.ofInt 32 a &&& ~~~ BitVec.ofInt 32 b=0#32:=by
 have e:zVA a b=((BitVec.ofInt 32 a &&& ~~~ BitVec.ofInt 32 b).toNat:Int):=by
  have:=(BitVec.ofInt 32 a &&& ~~~ BitVec.ofInt 32 b).isLt
  unfold zVA
  generalize (BitVec.ofInt 32 a &&& ~~~ BitVec.ofInt 32 b).toNat=z at *
  simp [IntKind.wrap,IntKind.bits,IntKind.signed]
  omega
 rw[e,<- BitVec.toNat_inj]
 simp
theorem zS2 (x y z:BitVec 32)(h1:x &&& ~~~ y=0#32)(h2:y &&& ~~~ z=0#32):x &&& ~~~ z=0#32:=by
 apply BitVec.eq_of_getLsbD_eq
 intro i hi
 have a1:=congrArg (fun v=>BitVec.getLsbD v i) h1
 have a2:=congrArg (fun v=>BitVec.getLsbD v i) h2
 simp only[BitVec.getLsbD_and,BitVec.getLsbD_not,hi,BitVec.getLsbD_zero,decide_true,Bool.true_and] at a1 a2 ⊢
 cases hx:x.getLsbD i <;> cases hy:y.getLsbD i <;> cases hz:z.getLsbD i <;> simp_all
theorem zJ4 {a b c:Lb}(h1:a.leq b=true)(h2:b.leq c=true):a.leq c=true:=by
 unfold Lb.leq at *
 simp only[Bool.and_eq_true,decide_eq_true_eq,zHL] at *
 exact⟨Int.le_trans h1.1 h2.1,zS2 _ _ _ h1.2 h2.2⟩
theorem zGY (a:Lb):a.leq a=true:=by
 unfold Lb.leq
 simp only[Bool.and_eq_true,decide_eq_true_eq,zHL]
 refine⟨Int.le_refl _, ?_⟩
 apply BitVec.eq_of_getLsbD_eq
 intro i hi
 simp only[BitVec.getLsbD_and,BitVec.getLsbD_not,hi,BitVec.getLsbD_zero,decide_true,Bool.true_and]
 cases (BitVec.ofInt 32 a.cats).getLsbD i <;> rfl
theorem zT3 (l:List Op)(v u:Lb)(h:u.leq v=true)(x:Eid):zCB (lowL l v) x u=zCB l x u:=by
 unfold zCB lowL
 rw[List.filter_filter]
 congr 1
 apply List.filter_congr
 intro o _
 cases hc:zCJ x u o with
 | false=>rfl
 | true =>
  have hl:o.hd.lb.leq u=true:=by
   unfold zCJ at hc
   simp only[Bool.and_eq_true] at hc
   exact hc.2
  rw[zJ4 hl h];rfl
theorem zZD (l:List Op)(v u:Lb)(h:u.leq v=true)(x:Eid):made (lowL l v) x u=made l x u:=by
 unfold made
 rw[zT3 l v u h]
theorem zPV (l:List Op)(v:Lb)(o:Op)(h:o.hd.lb.leq v=true):zE5 (lowL l v) o=zE5 l o:=by
 unfold zE5
 simp only[zZD l v _ h]
theorem zUP {pre:List Op}{o:Op}(h:fitE pre o=0):pre.length<2048:=by
 unfold fitE at h
 split at h
 ·split at h
  ·cases h
  ·omega
 ·rename_i h1;exact absurd h h1
theorem zI9 {pre:List Op}{o:Op}(h:fitE pre o=0):zE4 pre o=0:=by
 unfold fitE at h
 split at h
 ·assumption
 ·exact h
theorem zUQ {pre:List Op}{o:Op}(hm:o.may=true)(h:fitE pre o=0):zE5 pre o=true:=by
 by_cases hk:o.kd=3
 ·have h1:=zI9 h
  unfold zE4 at h1
  rw[if_neg (by omega),if_neg (by omega)] at h1
  unfold raiE at h1
  split at h1
  ·split at h1
   ·rename_i h2
    have:=h2.2
    unfold chfB at this
    simp only[Bool.and_eq_true] at this
    exact this.2
   ·cases h1
  ·cases h1
 ·unfold zE5
  rw[if_neg hk]
theorem zKF:∀ {pre l:List Op},zAS pre l=true->zI3 pre l=true
 | _,[],_=>rfl
 | pre,o::l,h=>by
  simp only[zAS,Bool.and_eq_true,decide_eq_true_eq] at h
  simp only[zI3,Bool.and_eq_true]
  exact⟨⟨h.1.1,zUQ h.1.1 h.1.2⟩,zKF h.2⟩
theorem zQT:∀ {pre l:List Op},zAS pre l=true->l≠[]->pre.length+l.length<=2048
 | _,[],_,h=>absurd rfl h
 | pre,[o],h,_=>by
  simp only[zAS,Bool.and_eq_true,decide_eq_true_eq] at h
  have:=zUP h.1.2
  simp only[List.length_singleton]
  omega
 | pre,o::p::l,h,_=>by
  simp only[zAS,Bool.and_eq_true] at h
  have:=zQT (pre:=pre++[o]) (l:=p::l) (by simp only[zAS,Bool.and_eq_true];exact h.2) (by simp)
  simp only[List.length_append,List.length_cons,List.length_nil] at this ⊢
  omega
theorem zEC {l:List Op}(h:zAS [] l=true):zCU l=0:=by
 have h1:¬2048<l.length:=by
  by_cases e:l=[]
  ·subst e;simp
  ·have:=zQT h e
   simp only[List.length_nil] at this
   omega
 unfold zCU
 rw[if_neg h1,zKF h]
 rfl
theorem zGD {o:Op}(h:o.may=true)(hk:o.kd=1):o.sp.f.hd=o.hd/\(o.rs.length:Int)=o.sp.n:=by
 unfold Op.may Op.part at h
 rw[if_pos hk] at h
 simp only[Bool.and_eq_true,decide_eq_true_eq] at h
 exact⟨h.2.1.1.2,h.2.1.2⟩
theorem zM7 {s:Spn}{x:Eid}(h:x∈s.ids):x.hd=s.f.hd:=by
 unfold Spn.ids at h
 obtain⟨i,_,rfl⟩:=List.mem_map.1 h
 rfl
theorem zNP {l:List Op}{x:Eid}:x∈zAO l ↔ ∃ o∈l,o.kd=1/\x∈o.sp.ids:=by
 unfold zAO
 rw[List.mem_flatMap]
 constructor
 ·rintro⟨o,ho,h⟩
  split at h
  ·exact⟨o,ho,by assumption,h⟩
  ·cases h
 ·rintro⟨o,ho,hk,h⟩
  exact⟨o,ho,by rw[if_pos hk];exact h⟩
theorem zK2 {l:List Op}(hm:∀ o∈l,o.may=true){v:Lb}{x:Eid}(hx:x.hd.lb.leq v=true):x∈zAO (lowL l v)↔x∈zAO l:=by
 rw[zNP,zNP]
 constructor
 ·rintro⟨o,ho,h⟩
  exact⟨o,(List.mem_filter.1 ho).1,h⟩
 ·rintro⟨o,ho,hk,h⟩
  refine⟨o,List.mem_filter.2 ⟨ho, ?_⟩,hk,h⟩
  have:=zM7 h
  rw[<- (zGD (hm o ho) hk).1,<- this]
  exact hx
theorem zMU (l:List Op)(v:Lb):(zAO (lowL l v)).length<=(zAO l).length:=by
 induction l with
 | nil=>exact Nat.le_refl _
 | cons o l ih =>
  unfold lowL zAO at *
  rw[List.filter_cons]
  split
  ·simp only[List.flatMap_cons,List.length_append];omega
  ·simp only[List.flatMap_cons,List.length_append];omega
section
variable {pre : List Op} {o : Op} {v : Lb}
theorem zRL (hm:∀ o∈pre,o.may=true)(ho:o.hd.lb.leq v=true)(x:Eid):zFH (lowL pre v) o x=zFH pre o x:=by
 unfold zFH
 cases h:x.hd.lb.leq o.hd.lb with
 | false=>simp
 | true =>
  have:=zK2 hm (zJ4 h ho)
  rw[decide_eq_decide.2 this]
theorem zTI (hm:∀ o∈pre,o.may=true)(ho:o.hd.lb.leq v=true):allB (lowL pre v) o=allB pre o:=by
 unfold allB
 congr 1
 funext x
 exact zRL hm ho x
theorem zZ6 (hm:∀ o∈pre,o.may=true)(ho:o.hd.lb.leq v=true)(hom:o.may=true)(hc:zCU pre=0)(hc2:zCU (lowL pre v)=0)(hb:o.kd=1 -> ¬8192<((zAO pre).length:Int)+o.sp.n):zE4 (lowL pre v) o=zE4 pre o:=by
 unfold zE4
 by_cases hk:o.kd=1
 ·rw[if_pos hk,if_pos hk]
  unfold insE
  have h1:(o.sp.ids.any fun x=>decide (x∈zAO (lowL pre v)))=(o.sp.ids.any fun x=>decide (x∈zAO pre)):=by
   rw[Bool.eq_iff_iff,List.any_eq_true,List.any_eq_true]
   constructor
   ·rintro⟨x,hx,h⟩
    refine⟨x,hx, ?_⟩
    rw[decide_eq_true_eq] at h ⊢
    exact(zK2 hm (by rw[zM7 hx,(zGD hom hk).1];exact ho)).1 h
   ·rintro⟨x,hx,h⟩
    refine⟨x,hx, ?_⟩
    rw[decide_eq_true_eq] at h ⊢
    exact(zK2 hm (by rw[zM7 hx,(zGD hom hk).1];exact ho)).2 h
  have:=zMU pre v
  have hb:=hb hk
  rw[zRL hm ho,h1,if_neg (show ¬8192<((zAO (lowL pre v)).length:Int)+o.sp.n by omega),if_neg hb]
 ·rw[if_neg hk,if_neg hk]
  split
  ·unfold remE
   rw[zTI hm ho]
  ·unfold raiE chfB chfE
   rw[zTI hm ho,hc,hc2,zPV pre v o ho]
theorem zZ1 (h:zE4 pre o=0):o.kd=1 -> ¬8192<((zAO pre).length:Int)+o.sp.n:=by
 intro hk hb
 unfold zE4 insE at h
 rw[if_pos hk] at h
 split at h
 ·cases h
 ·split at h
  ·cases h
  ·first | (rw[if_pos hb] at h;cases h) | cases h
theorem zSM (hm:∀ o∈pre,o.may=true)(ho:o.hd.lb.leq v=true)(hom:o.may=true)(hc:zCU pre=0)(hc2:zCU (lowL pre v)=0)(hb:o.kd=1 -> ¬8192<((zAO pre).length:Int)+o.sp.n)(hl:pre.length<2048):fitE (lowL pre v) o=fitE pre o:=by
 have:=zM5 pre v
 unfold fitE
 rw[zZ6 hm ho hom hc hc2 hb,if_neg (show ¬2048<=pre.length by omega),if_neg (show ¬2048<=(lowL pre v).length by omega)]
theorem zcQ (hm:∀ o∈pre,o.may=true)(ho:o.hd.lb.leq v=true)(hom:o.may=true)(hc:zCU pre=0)(hc2:zCU (lowL pre v)=0)(h:fitE pre o=0):fitE (lowL pre v) o=0:=by
 rw[zSM hm ho hom hc hc2 (zZ1 (zI9 h)) (zUP h)]
 exact h
end
theorem zGV:∀ (pre a b:List Op),zAS pre (a++b)=(zAS pre a&&zAS (pre++a) b)
 | pre,[],b=>by simp [zAS]
 | pre,o::a,b=>by
  simp only[List.cons_append,zAS]
  rw[zGV (pre++[o]) a b,List.append_assoc]
  simp only[List.cons_append,List.nil_append,Bool.and_assoc]
theorem zLR (v:Lb):∀ (l pre:List Op),zAS [] pre=true->zAS [] (lowL pre v)=true->zAS pre l=true->zAS (lowL pre v) (lowL l v)=true
 | [],pre,_,_,_=>rfl
 | o::l,pre,hp,hq,h=>by
  simp only[zAS,Bool.and_eq_true,decide_eq_true_eq] at h
  have hp':zAS [] (pre++[o])=true:=by
   rw[zGV,hp]
   simp only[List.nil_append,zAS,h.1.1,h.1.2,decide_true,Bool.and_self]
  have hs:=zM6 pre o v
  unfold lowL at hs ⊢
  rw[List.filter_cons]
  cases ho:o.hd.lb.leq v with
  | false =>
   rw[ho,if_neg (by decide),List.append_nil] at hs
   have:=zLR v l (pre++[o]) hp' (by unfold lowL;rw[hs];exact hq) h.2
   unfold lowL at this
   rw[hs] at this
   simpa using this
  | true =>
   rw[ho,if_pos rfl] at hs
   have hf:=zcQ (zLS hp) ho h.1.1 (zEC hp) (zEC hq) h.1.2
   unfold lowL at hf
   have hq':zAS [] (lowL (pre++[o]) v)=true:=by
    unfold lowL
    rw[hs,zGV]
    unfold lowL at hq
    rw[hq]
    simp only[List.nil_append,zAS,h.1.1,hf,decide_true,Bool.and_self]
   have:=zLR v l (pre++[o]) hp' hq' h.2
   unfold lowL at this
   rw[hs] at this
   simp only[if_true,zAS,h.1.1,hf,decide_true,Bool.true_and]
   exact this
theorem zDP {l:List Op}(v:Lb)(h:zAS [] l=true):zAS [] (lowL l v)=true:=zLR v l [] rfl rfl h
variable {l : List Op} {a ra : AV} {v : Lb} {o : Op}
def zSB (l:List Op)(o:Op):Int:=if zAS [] l=true then (if o.may=true then fitE l o else 8) else 8
theorem zOU (hS:Sl 17 isOp a l)(hl:l.length<=10000)(hf:l.length+400<fuel)(hR:Sl 1 isI32 ra o.rs)(ho:o.ok)(M:Mem):zCN fuel (d+14) 42 [a,.agg (opR o ra)] M=some (I64 (zSB l o),M):=by
 have hck:=fun M=>@zDR fuel (d+6) o ra hR ho (by omega) M
 apply zB1
 refine zIO tf42 rfl (by simp only[icyL,fun M=>hS.icy M 12 (by omega),zJE hR.fz]) (by simp [a42]) fun b' ht hx=>?_
 obtain⟨h0,h1⟩:=hx2 hx
 clear hx
 simp only[a42,c42] at ht ⊢
 unfold zSB
 simp (disch:=try exact SX) only[RV,seval,h0,h1]
 refine of_0 (d:=d) hS hl hf (Wf.mem0.add _) (Nat.zero_le _) (fun N w s k hh=>?_) (fun N ops w s wm k hh hH htl=>?_)
 ·rw[if_neg (by rw[hh];decide)]
  simp (disch:=try exact SX) only[RV,seval]
  all_goals exact⟨_,rfl⟩
 ·rw[if_pos hh]
  have g0:N.get 0=some (.row false (opR o ra)):=by rw[k 0 (by simp (disch:=try exact SX) only[RV,seval])];simp (disch:=try exact SX) only[RV,seval]
  have l0:=Mem.get_lt g0
  cases hm:o.may with
  | false =>
   rw[hm] at hck
   simp (disch:=try exact SX) only[RV,seval,g0,hck,zBA,Bool.false_eq_true]
   all_goals exact⟨_,rfl⟩
  | true =>
   rw[hm] at hck
   simp (disch:=try exact SX) only[RV,seval,g0,hck,zAU]
   refine zb3 (d:=d+1) hH (by omega) (by omega) hR ho hm (by omega) w (by rw[wm];exact Nat.zero_le _) fun N2 hN2=>?_
   simp (disch:=try exact SX) only[RV,seval]
   all_goals exact⟨_,rfl⟩
theorem zQQ (x:Hd):∀ y∈hdR x,Fz y:=fun y hy=>by
 exact zB0y
def edE (l:List Op)(h:Hd)(s:Int):Int:=if zAS [] l=true/\h.may=true then (if s<1∨16777152<=s then 2 else 0) else 8
theorem ed_z {h:Hd}{s:Int}(e:edE l h s=0):zAS [] l=true/\h.may=true/\1<=s/\s<16777152:=by
 unfold edE at e
 split at e
 ·rename_i h1
  split at e
  ·cases e
  ·exact⟨h1.1,h1.2,by omega,by omega⟩
 ·cases e
theorem zSC {h:Hd}{s:Int}(hS:Sl 17 isOp a l)(hl:l.length<=10000)(hf:l.length+400<fuel)(M:Mem):zCN fuel (d+15) 38 [a,hdA h,I64 s] M=some (I64 (edE l h s),M):=by
 have hck:=fun M=>zD8 (fuel:=fuel) (d:=d) hS hl hf M
 have hch:=fun M=>@zDL fuel (d+12) h M
 apply zB1
 refine zAD tf38 rfl (by simp only[icyL,fun M=>hS.icy M 12 (by omega),zAP (zQQ h) (show 1<12 by omega),zF1]) (by simp [a38]) fun b' ht hx=>?_
 obtain⟨h0,h1,h2⟩:=hx3 hx
 clear hx
 simp only[a38,c38] at ht ⊢
 unfold edE
 cases q1:zAS [] l <;> cases q2:h.may <;> rw[q1] at hck <;> rw[q2] at hch
 ·simp (disch:=try exact SX) only[RV,reduceIte,Nat.reduceEqDiff,Nat.reduceBEq,Nat.reduceAdd,Int.reduceEq,h0,h1,hck,hch,zBA,zC5,BMM,IMX]
  rfl
 ·exact zB0l
 ·exact zB0l
 ·by_cases q3:s<1
  ·have q3':=decide_eq_true q3
   simp (disch:=try exact SX) only[RV,reduceIte,Nat.reduceEqDiff,Nat.reduceBEq,Nat.reduceAdd,h0,h1,h2,hck,hch,zAU,zC5,BMM,IMX,q3']
   rw[if_pos (Or.inl q3)]
  ·have q3':=decide_eq_false q3
   by_cases q4:16777152<=s
   ·have q4':=decide_eq_true q4
    simp (disch:=try exact SX) only[RV,reduceIte,Nat.reduceEqDiff,Nat.reduceBEq,Nat.reduceAdd,h0,h1,h2,hck,hch,zAU,zC5,BMM,IMX,q3',q4']
    rw[if_pos (Or.inr q4)]
   ·have q4':=decide_eq_false q4
    simp (disch:=try exact SX) only[RV,reduceIte,Nat.reduceEqDiff,Nat.reduceBEq,Nat.reduceAdd,h0,h1,h2,hck,hch,zAU,zC5,BMM,IMX,q3',q4']
    rw[if_neg (by omega)]
structure CellV where
 id:Eid
 ch:Int
 deriving DecidableEq
abbrev zGN (x:CellV):List AV:=[U8 x.id.hd.lb.lv,U32 x.id.hd.lb.cats,U8 x.id.hd.num,I64 x.id.c,I32 x.ch]
abbrev zfK (x:CellV):AV:=.agg (zGN x)
def zDE (r:List AV)(x:CellV):Prop:=r=zGN x/\x.id.ok
theorem zYO (x:CellV):∀ y∈zGN x,Fz y:=fun y hy=>by
 simp only[zGN,List.mem_cons,List.not_mem_nil,or_false] at hy
 rcases hy with rfl | rfl | rfl | rfl | rfl <;> exact zC1 _ _
theorem zLN:FzT zDE:=fun r x h=>by rw[h.1];exact zYO x
theorem CellV.eta (x:CellV):CellV.mk x.id x.ch=x:=rfl
theorem zbE (a0:Int)(a1:Int)(a2:Int)(a3:Int)(a4:Int):PT.iss [.st [.st [.st [.int .u8,.int .u32],.int .u8],.int .i64],.int .i32] [.int .u8 a0,.int .u32 a1,.int .u8 a2,.int .i64 a3,.int .i32 a4]:=by
 simp only[PT.iss,PT.is]
 exact⟨[.int .u8 a0,.int .u32 a1,.int .u8 a2,.int .i64 a3],[.int .i32 a4],rfl,⟨[.int .u8 a0,.int .u32 a1,.int .u8 a2],[.int .i64 a3],rfl,⟨[.int .u8 a0,.int .u32 a1],[.int .u8 a2],rfl,⟨[.int .u8 a0],[.int .u32 a1],rfl,⟨_,rfl⟩,⟨[.int .u32 a1],[],rfl,⟨_,rfl⟩,rfl⟩⟩,⟨[.int .u8 a2],[],rfl,⟨_,rfl⟩,rfl⟩⟩,⟨[.int .i64 a3],[],rfl,⟨_,rfl⟩,rfl⟩⟩,⟨[.int .i32 a4],[],rfl,⟨_,rfl⟩,rfl⟩⟩
def zZZ (d:Option AV)(u v:AV):Option AV:=match u,v with
 | .agg [.sc (.int .u8 a0),.sc (.int .u32 a1),.sc (.int .u8 a2),.sc (.int .i64 a3),.sc (.int .i32 a4)],.agg [.sc (.int .u8 b0),.sc (.int .u32 b1),.sc (.int .u8 b2),.sc (.int .i64 b3),.sc (.int .i32 b4)]=>some (BL (!(decide (a0=b0)&&decide (a1=b1)&&decide (a2=b2)&&decide (a3=b3)&&decide (a4=b4))))
 | _,_=>d
theorem pCeN {t:List AV}(i j:Nat):zB9 Tryz.prog t (mkO (.binOp .neq 50 (.tmp i) (.tmp j) 50) 4)=zZZ (zDJ Tryz.prog t (mkO (.binOp .neq 50 (.tmp i) (.tmp j) 50) 4)) (zA5 t (.tmp i)) (zA5 t (.tmp j)):=by
 unfold zZZ
 split
 ·rename_i a0 a1 a2 a3 a4 b0 b1 b2 b3 b4 h1 h2
  obtain⟨r,hr,he⟩:=pEqS (P:=Tryz.prog) [.st [.st [.st [.int .u8,.int .u32],.int .u8],.int .i64],.int .i32] true 50 50 4 i j (by kernel_rfl) (by decide) (by kernel_rfl) h1 h2 rfl rfl (zbE _ _ _ _ _) (zbE _ _ _ _ _)
  exact zB0o
 ·rfl
theorem zH2 (d:Option AV)(a0 a1 a2 a3 a4:Int)(b0 b1 b2 b3 b4:Int):zZZ d (.agg [.sc (.int .u8 a0),.sc (.int .u32 a1),.sc (.int .u8 a2),.sc (.int .i64 a3),.sc (.int .i32 a4)]) (.agg [.sc (.int .u8 b0),.sc (.int .u32 b1),.sc (.int .u8 b2),.sc (.int .i64 b3),.sc (.int .i32 b4)])=some (BL (!decide ((⟨⟨⟨⟨a0,a1⟩,a2⟩,a3⟩,a4⟩:CellV)=⟨⟨⟨⟨b0,b1⟩,b2⟩,b3⟩,b4⟩))):=by
 simp only[zZZ]
 exact zB0f
def Lb.ahead (a b:Lb):Bool:=decide (a.lv<b.lv) || (decide (a.lv=b.lv)&&decide (a.cats<b.cats))
def Eid.less (x y:Eid):Bool:=if x.c=y.c then (if x.hd.lb=y.hd.lb then decide (x.hd.num<y.hd.num) else x.hd.lb.ahead y.hd.lb) else decide (x.c<y.c)
theorem zTG (a b:Lb)(M:Mem):zCN fuel (d+1) 208 [lbA a,lbA b] M=some (BL (a.ahead b),M):=by
 have pLbE:=@pLbE
 apply zB1
 refine zAD tf208 rfl (by simp (disch:=try exact SX) only[RV,seval]) (by simp [a208]) fun b' ht hx=>?_
 obtain⟨h0,h1⟩:=hx2 hx
 clear hx
 simp only[a208,c208] at ht ⊢
 unfold Lb.ahead
 cases q1:decide (a.lv<b.lv) with
 | true=>simp (disch:=try exact SX) only[RV,seval,zAB,h0,h1,q1]
 | false =>
  have e:decide (a=(⟨b.lv,a.cats⟩:Lb))=decide (a.lv=b.lv):=by
   rw[Bool.eq_iff_iff,decide_eq_true_iff,decide_eq_true_iff]
   constructor
   ·intro h;rw[h]
   ·intro h
    obtain⟨x,y⟩:=a
    simp only at h ⊢
    rw[h]
  cases q2:decide (a.lv=b.lv) with
  | true =>
   rw[q2] at e
   simp (disch:=try exact SX) only[RV,seval,zAB,h0,h1,q1,↓pLbE,zFE,ETA,e]
  | false =>
   rw[q2] at e
   simp (disch:=try exact SX) only[RV,seval,zAB,h0,h1,q1,↓pLbE,zFE,ETA,e,Bool.false_and]
theorem zFQ (x y:Eid)(M:Mem):zCN fuel (d+2) 152 [idA x,idA y] M=some (BL (x.less y),M):=by
 have pLbN:=@pLbN
 have ha:=fun M=>@zTG fuel d x.hd.lb y.hd.lb M
 apply zB1
 refine zAD tf152 rfl (by simp (disch:=try exact SX) only[RV,seval]) (by simp [a152]) fun b' ht hx=>?_
 obtain⟨h0,h1⟩:=hx2 hx
 clear hx
 simp only[a152,c152] at ht ⊢
 unfold Eid.less
 by_cases q1:x.c=y.c
 ·have q1':decide (x.c=y.c)=true:=decide_eq_true q1
  by_cases q2:x.hd.lb=y.hd.lb
  ·have q2':decide (x.hd.lb=y.hd.lb)=true:=decide_eq_true q2
   simp only[if_pos q1,if_pos q2]
   simp (disch:=try exact SX) only[RV,seval,h0,h1,q1',↓pLbN,zH3,ETA,q2']
  ·have q2':decide (x.hd.lb=y.hd.lb)=false:=decide_eq_false q2
   simp only[if_pos q1,if_neg q2]
   simp (disch:=try exact SX) only[RV,seval,h0,h1,q1',↓pLbN,zH3,ETA,q2',ha]
 ·have q1':decide (x.c=y.c)=false:=decide_eq_false q1
  simp only[if_neg q1]
  simp (disch:=try exact SX) only[RV,seval,h0,h1,q1']
def cutE (s:Spn)(n:Int):Int:=if s.may then (if n<=0∨s.n<=n then 2 else 0) else 8
def spZ:Spn:=⟨Eid.z,0⟩
theorem zSS (s:Spn)(n:Int)(M:Mem):zCN fuel (d+6) 238 [spA s,I64 n] M=some (if cutE s n=0 then .tup [spA ⟨s.f,n⟩,spA ⟨s.at n,s.n - n⟩,I64 0] else .tup [spA spZ,spA spZ,I64 (cutE s n)],M):=by
 have hat:=fun M=>@zJ0 fuel d s n M
 apply zB1
 refine zAD tf238 rfl (by simp (disch:=try exact SX) only[RV,seval]) (by simp [a238]) fun b' ht hx=>?_
 obtain⟨h0,h1⟩:=hx2 hx
 clear hx
 simp only[a238,c238] at ht ⊢
 unfold cutE spZ
 cases hm:s.may with
 | false =>
  simp only[hm,Bool.false_eq_true,if_false] at hat
  simp (disch:=try exact SX) only[RV,seval,h0,h1,hat,Bool.false_eq_true]
  all_goals rfl
 | true =>
  simp only[hm,if_true] at hat
  have hb:=Spn.may_le hm
  by_cases q0:n<0∨s.n<=n
  ·simp only[q0,if_true] at hat
   have q2:n<=0∨s.n<=n:=by omega
   have q3:decide (n=0)=false:=DF
   simp (disch:=try exact SX) only[RV,seval,h0,h1,hat,q2]
   all_goals rfl
  ·simp only[q0,if_false] at hat
   by_cases q3:n=0
   ·have q3':decide (n=0)=true:=decide_eq_true q3
    have q2:n<=0∨s.n<=n:=by omega
    simp (disch:=try exact SX) only[RV,seval,h0,h1,hat,q2,q3']
    all_goals rfl
   ·have q3':decide (n=0)=false:=decide_eq_false q3
    have q2:¬(n<=0∨s.n<=n):=by omega
    have w1:IntKind.i64.wrap (s.n - n)=s.n - n:=wrap_i64 (by omega) (by omega)
    simp (disch:=try exact SX) only[RV,seval,zAB,h0,h1,hat,q2,q3',w1]
    rfl
theorem zUK {a b:AV}{l m:List Int}(ha:Sl 1 isI32 a l)(hb:Sl 1 isI32 b m)(hf:l.length<fuel)(hl:l.length<=1000000000)(M:Mem) :
  zCN fuel (d+1) 187 [a,b] M=some (BL (decide (l=m)),M):=by
 have hla:=ha.len
 have hlb:=hb.len
 apply zB1
 refine zAD tf187 rfl (by simp (disch:=try exact SX) only[RV,seval,ha.fz.icy,hb.fz.icy]) (by simp [a187]) fun b' ht hx=>?_
 obtain⟨h0,h1⟩:=hx2 hx
 clear hx
 simp only[a187,c187] at ht ⊢
 by_cases hll:l.length=m.length
 ·have q1:decide ((l.length:Int)=m.length)=true:=by simp;omega
  simp (disch:=try exact SX) only[RV,seval,h0,h1,hla,hlb,q1]
  refine zBB (I:=fun n t N => ∃ (i:Nat),n=l.length - i/\i<=l.length/\nth zA3 t 0=a/\nth zA3 t 1=b/\nth zA3 t 11=a/\nth zA3 t 12=I64 l.length/\nth zA3 t 13=I64 i/\l.take i=m.take i) (n:=l.length) (by omega) ?_ ?_
  ·refine⟨0,rfl,Nat.zero_le _, ?_, ?_, ?_, ?_, ?_,rfl⟩ <;> simp (disch:=try exact SX) only[RV,seval,h0,h1]
   all_goals first | rfl | assumption | done
  ·rintro n t N hlt ⟨i,rfl,hi,g0,g1,g11,g12,g13,tk⟩
   simp only[ht] at hlt ⊢
   by_cases hlt':i<l.length
   ·have hc':decide ((i:Int)<l.length)=true:=by simp;omega
    have hmt:i<m.length:=by omega
    have w1:IntKind.i64.wrap ((i:Int)+1)=((i+1:Nat):Int):=WI
    obtain⟨r,hr,rfl,_⟩:=ha.iad i hlt'
    obtain⟨r2,hr2,rfl,_⟩:=hb.iad i hmt
    by_cases he:l[i]=m[i]
    ·have q2:decide (l[i]=m[i])=true:=by simp [he]
     simp (disch:=try exact SX) only[RV,seval,g0,g1,g11,g12,g13,hc',hr,hr2,w1,q2]
     exact zB0g
    ·have q2:decide (l[i]=m[i])=false:=by simp [he]
     simp (disch:=try exact SX) only[RV,seval,g0,g1,g12,g13,hc',hr,hr2,q2]
     exact zB0u
   ·have hc':decide ((i:Int)<l.length)=false:=by simp;omega
    simp (disch:=try exact SX) only[RV,seval,g12,g13,hc']
    exact zB0e
 ·exact zB0a
def rnEq (o p:Rn):Bool:=decide (o.sp=p.sp)&&decide (o.af=p.af)&&decide (o.rs=p.rs)
theorem zH5 (o p:Rn):rnEq o p=true↔o=p:=by
 obtain⟨a1,a2,a3⟩:=o
 obtain⟨b1,b2,b3⟩:=p
 simp [rnEq,and_assoc]
theorem zGH {o p:Rn}{ra rb:AV}(hR:Sl 1 isI32 ra o.rs)(hP:Sl 1 isI32 rb p.rs)(hl:o.rs.length<=1000000000)(hf:o.rs.length<fuel)(M:Mem):zCN fuel (d+2) 237 [.agg (rnR o ra),.agg (rnR p rb)] M=some (BL (rnEq o p),M):=by
 have hs:=fun M=>zUK (fuel:=fuel) (d:=d) hR hP hf hl M
 apply zB1
 refine zAD tf237 rfl (by simp only[icyL,zCW hR.fz,zCW hP.fz]) (by simp [a237]) fun b' ht hx=>?_
 obtain⟨h0,h1⟩:=hx2 hx
 clear hx
 simp only[a237,c237] at ht ⊢
 unfold rnEq
 cases q1:decide (o.sp=p.sp)
 ·simp (disch:=try exact SX) only[RV,seval,h0,h1,↓pSpE,zJF,ETA,q1,Bool.false_and]
 ·cases q2:decide (o.af=p.af)
  ·simp (disch:=try exact SX) only[RV,seval,h0,h1,↓pIdE,zB2,↓pSpE,zJF,ETA,q1,q2,Bool.false_and]
  ·simp (disch:=try exact SX) only[RV,seval,h0,h1,↓pIdE,zB2,↓pSpE,zJF,ETA,q1,q2,hs]
theorem zJX {o:Rn}{ra:AV}(hR:Sl 1 isI32 ra o.rs)(hl:o.rs.length<=1000000000):∃ r,Sl 1 isI32 r o.rs /\ ∀ M,zCN fuel (d+2) 211 [.agg (rnR o ra)] M=some (.agg (rnR o r),M):=by
 refine zF9 tf211 rfl (fun M=>by simp only[icyL,zCW hR.fz]) ?_
 refine zAD tf211 rfl (by simp only[icyL,zCW hR.fz]) (by simp [a211]) fun b' ht hx=>?_
 have h0:=hx 0 _ rfl
 clear hx
 simp only[a211,c211] at ht ⊢
 simp (disch:=try exact SX) only[RV,seval,h0]
 refine zMH hR hl (by simp (disch:=try exact SX) only[RV,seval]) fun a' M' wf' le' kp' sm' new' wm' di'=>?_
 have hsz:2<=M'.size:=le'
 have g0:M'.get 0=some (.row false (rnR o ra)):=by rw[kp' 0 (by show 0<2;omega)];simp (disch:=try exact SX) only[RV,seval]
 have g1:M'.get 1=some (.row false (rnR ⟨⟨Eid.z,0⟩,Eid.z,[]⟩ NIL)):=by rw[kp' 1 (by show 1<2;omega)];simp (disch:=try exact SX) only[RV,seval]
 have oa:=sm'.one
 have ca:=sm'.cells
 have rl:=zB3 sm'.rl (Nat.le_refl M'.size)
 have nr:∀ j,rowOf a'=some j->2<=j:=new'
 obtain⟨ro,hro,hfr⟩:=zFS sm' zFZ.cel 11 (by omega)
 have hfr:=hfr ((M'.upd 0 (.row false (rnR o a'))).upd 1 (.row false (rnR o a'))) fun id h=>by
  have:=nr id h
  rw[zA0 (wf'.upd _ _) _ _ _ (by omega),zA0 wf' _ _ _ (by omega)]
 simp (disch:=try exact SX) only[RV,seval,g0,g1,ca,hfr]
 exact⟨_,hro,rfl⟩
def Rn.last (r:Rn):Eid:=if r.sp.may then r.sp.at (r.sp.n - 1) else Eid.z
theorem zZ7 {o:Rn}{ra:AV}(hR:Sl 1 isI32 ra o.rs)(ho:o.ok)(M:Mem):zCN fuel (d+6) 209 [.agg (rnR o ra)] M=some (idA o.last,M):=by
 have hat:=fun M=>@zJ0 fuel d o.sp (IntKind.i64.wrap (o.sp.n - 1)) M
 apply zB1
 refine zAD tf209 rfl (by simp only[icyL,zCW hR.fz]) (by simp [a209]) fun b' ht hx=>?_
 have h0:=hx 0 _ rfl
 clear hx
 simp only[a209,c209] at ht ⊢
 unfold Rn.last
 cases hm:o.sp.may with
 | false =>
  simp only[hm,Bool.false_eq_true,if_false] at hat
  simp (disch:=try exact SX) only[RV,seval,h0,hat,Bool.false_eq_true]
 | true =>
  have hb:=Spn.may_le hm
  rw[wrap_i64 (by omega) (by omega)] at hat
  have w1:IntKind.i64.wrap (o.sp.n - 1)=o.sp.n - 1:=wrap_i64 (by omega) (by omega)
  simp only[hm,if_true,if_neg (show ¬(o.sp.n - 1<0∨o.sp.n<=o.sp.n - 1) by omega)] at hat
  simp (disch:=try exact SX) only[RV,seval,h0,hat,w1]
def Rn.z:Rn:=⟨⟨Eid.z,0⟩,Eid.z,[]⟩
theorem zH1 {o:Rn}{ra:AV}(hR:Sl 1 isI32 ra o.rs)(hl:o.rs.length<=1000000000):∃ r,Sl 1 isI32 r o.rs /\ ∀ M,zCN fuel (d+2) 239 [.agg (rnR o ra)] M=some (.agg (rnR o r),M):=by
 refine zF9 tf239 rfl (fun M=>by simp only[icyL,zCW hR.fz]) ?_
 refine zAD tf239 rfl (by simp only[icyL,zCW hR.fz]) (by simp [a239]) fun b' ht hx=>?_
 have h0:=hx 0 _ rfl
 clear hx
 simp only[a239,c239] at ht ⊢
 simp (disch:=try exact SX) only[RV,seval,h0]
 refine zMH hR hl (by simp (disch:=try exact SX) only[RV,seval]) fun a' M' wf' le' kp' sm' new' wm' di'=>?_
 have hd:M'.dirty=false:=di'
 have hsz:2<=M'.size:=le'
 have g0:M'.get 0=some (.row false (rnR o ra)):=by rw[kp' 0 (by show 0<2;omega)];simp (disch:=try exact SX) only[RV,seval]
 have g1:M'.get 1=some (.row false (rnR ⟨⟨Eid.z,0⟩,Eid.z,[]⟩ NIL)):=by rw[kp' 1 (by show 1<2;omega)];simp (disch:=try exact SX) only[RV,seval]
 have oa:=sm'.one
 have ca:=sm'.cells
 have rl:=zB3 sm'.rl (Nat.le_refl M'.size)
 have nr:∀ j,rowOf a'=some j->2<=j:=new'
 obtain⟨ro,hro,hfr⟩:=zFS sm' zFZ.cel 11 (by omega)
 have hfr:=hfr ((((mem0.add (.row false (rnR o ra))).add (.row false (rnR ⟨⟨Eid.z,0⟩,Eid.z,[]⟩ NIL))).bk M').upd 1 (.row false (rnR o a'))) fun id h=>by
  have:=nr id h
  exact zB04
 simp (disch:=try exact SX) only[RV,seval,zAB,hd,g1,ca,hfr]
 exact⟨_,hro,rfl⟩
def Rn.cutE (r:Rn)(n:Int):Int:=if r.may then Go.Proofs.YtliicocdhkcanaaGreat.cutE r.sp n else 8
def Rn.fst (r:Rn)(n:Int):Rn:=⟨⟨r.sp.f,n⟩,r.af,r.rs.take n.toNat⟩
def Rn.snd (r:Rn)(n:Int):Rn:=⟨⟨r.sp.at n,r.sp.n - n⟩,r.sp.at (n - 1),r.rs.drop n.toNat⟩
def Rn.cutA (r:Rn)(n:Int):Rn:=if r.cutE n=0 then r.fst n else Rn.z
def Rn.cutB (r:Rn)(n:Int):Rn:=if r.cutE n=0 then r.snd n else Rn.z
theorem cutE_iff {s:Spn}{n:Int}:cutE s n=0↔s.may=true/\0<n/\n<s.n:=by
 unfold cutE
 cases s.may <;> simp
theorem Rn.cutE_iff {r:Rn}{n:Int}:r.cutE n=0↔r.may=true/\0<n/\n<r.sp.n:=by
 unfold Rn.cutE
 cases h:r.may
 ·simp
 ·rw[if_pos rfl,Go.Proofs.YtliicocdhkcanaaGreat.cutE_iff]
  unfold Rn.may at h
  simp only[Bool.and_eq_true] at h
  simp [h.1.1.1]
theorem Rn.may_sp {r:Rn}(h:r.may=true):r.sp.may=true:=by
 unfold Rn.may at h
 simp only[Bool.and_eq_true] at h
 exact h.1.1.1
theorem Rn.may_len {r:Rn}(h:r.may=true):(r.rs.length:Int)=r.sp.n:=by
 unfold Rn.may at h
 simp only[Bool.and_eq_true,decide_eq_true_eq] at h
 exact h.1.2
theorem zcY {s:Spn}{n:Int}(h:s.may=true)(h0:0<n)(h1:n<=s.n):(⟨s.f,n⟩:Spn).may=true:=by
 have:=Spn.may_le h
 unfold Spn.may at *
 simp only[Bool.and_eq_true,decide_eq_true_eq] at *
 exact⟨⟨⟨h.1.1.1,by omega⟩,by omega⟩,by omega⟩
def cutK (r:Rn)(n:Int)(v:AV):Prop:=∃ ra rb,v = .tup [.agg (rnR (r.cutA n) ra),.agg (rnR (r.cutB n) rb),I64 (r.cutE n)]/\Sl 1 isI32 ra (r.cutA n).rs/\Sl 1 isI32 rb (r.cutB n).rs
theorem zHP {o:Rn}{ra:AV}{n:Int}(hR:Sl 1 isI32 ra o.rs)(hf:100<fuel):∃ v,cutK o n v /\ ∀ M,zCN fuel (d+7) 206 [.agg (rnR o ra),I64 n] M=some (v,M):=by
 have hck:=fun M=>@zCC fuel d o ra hR hf M
 have hic:=fun M=>@zSS fuel d o.sp n M
 unfold cutK Rn.cutA Rn.cutB Rn.cutE
 refine zF9 tf206 rfl (fun M=>by simp only[icyL,zCW hR.fz,zF1]) ?_
 refine zAD tf206 rfl (by simp only[icyL,zCW hR.fz,zF1]) (by simp [a206]) fun b' ht hx=>?_
 obtain⟨h0,h1⟩:=hx2 hx
 clear hx
 simp only[a206,c206] at ht ⊢
 cases hm:o.may with
 | false =>
  rw[hm] at hck
  simp only[Bool.false_eq_true,if_false]
  simp (disch:=try exact SX) only[RV,seval,h0,hck,zBA]
  exact⟨rfl,_,⟨NIL,NIL,rfl,.inl ⟨rfl,rfl⟩,.inl ⟨rfl,rfl⟩⟩,rfl⟩
 | true =>
  rw[hm] at hck
  simp only[if_true]
  by_cases q:cutE o.sp n=0
  ·simp only[q,if_true] at hic ⊢
   obtain⟨c1,c2,c3⟩:=cutE_iff.1 q
   have hb:=Spn.may_le c1
   have hml:=Rn.may_len hm
   obtain⟨m,rfl⟩:∃ m:Nat,n=m:=⟨n.toNat,by omega⟩
   have hat:=fun M=>@zJ0 fuel (d+1) ⟨o.sp.f,m⟩ ((m:Int) - 1) M
   rw[if_pos (zcY c1 c2 (by omega))] at hat
   simp only[if_neg (show ¬((m:Int) - 1<0∨(m:Int)<=(m:Int) - 1) by omega)] at hat
   have w1:IntKind.i64.wrap ((m:Int) - 1)=(m:Int) - 1:=wrap_i64 (by omega) (by omega)
   obtain⟨r1,s1,b1⟩:=zeL hR (j:=m) (by omega)
   obtain⟨r2,s2,b2⟩:=zWP hR (i:=m) (by omega)
   have o1:=b1.one
   have o2:=b2.one
   obtain⟨p1,hp1,hr1⟩:=zH1 (fuel:=fuel) (d:=d+4) (o:=o.fst m) b1 (by simp only[Rn.fst,List.length_take,Int.toNat_natCast];omega)
   obtain⟨p2,hp2,hr2⟩:=zH1 (fuel:=fuel) (d:=d+4) (o:=o.snd m) b2 (by simp only[Rn.snd,List.length_drop,Int.toNat_natCast];omega)
   have op1:=hp1.one
   have op2:=hp2.one
   unfold Rn.fst at hr1 hp1
   unfold Rn.snd at hr2 hp2
   have e1:(⟨o.sp.f,(m:Int)⟩:Spn).at ((m:Int) - 1)=o.sp.at ((m:Int) - 1):=rfl
   rw[e1] at hat
   simp (disch:=try exact SX) only[RV,seval,zAB,h0,h1,hR.fz.rows,hck,zAU,hic,hat,w1,s1,s2,b1.fz.cells,b2.fz.cells,hr1,hr2,hp1.fz.frz,hp2.fz.frz]
   exact⟨_,⟨p1,p2,rfl,hp1,hp2⟩,rfl⟩
  ·simp only[q,if_false] at hic ⊢
   have q':decide (cutE o.sp n=0)=false:=decide_eq_false q
   simp (disch:=try exact SX) only[RV,seval,h0,h1,hck,zAU,hic,q']
   exact⟨rfl,_,⟨NIL,NIL,rfl,.inl ⟨rfl,rfl⟩,.inl ⟨rfl,rfl⟩⟩,rfl⟩
theorem zBR {α:Type}(l:List α)(i:Nat)(h:i<l.length):l.take (i+1)=l.take i++[l[i]]:=by
 rw[List.take_add_one,List.getElem?_eq_getElem h];rfl
def rowL (l:List Rn):List Int:=l.flatMap (·.rs)
theorem zWF (l:List Rn)(x:Rn):rowL (l++[x])=rowL l++x.rs:=by simp [rowL]
theorem row_0 {a:AV}{l:List Rn}(hS:SlM M 10 isRn a l)(hl:l.length<=10)(hd:∀ r∈l,r.rs.length<=1000000)(hf:100<fuel)(wf:Wf M)(hw:M.wm<=M.size)(k:∀ o N,Kept M N->SlM N 1 isI32 o (rowL l)->(∀ j,rowOf o=some j->M.size<=j)->Q o N) :
  W3 (zCN fuel (d+1) 241 [a] M) Q:=by
 have ll:=hS.len
 refine zAT tf241 rfl (by simp [a241]) fun b' ht hx=>?_
 have h0:=hx 0 _ rfl
 clear hx
 simp only[a241,c241] at ht ⊢
 simp (disch:=try exact SX) only[RV,seval,h0,ll]
 refine zBB (I:=fun n t N => ∃ (i:Nat) (o:AV),n=l.length - i/\i<=l.length/\nth zA3 t 2=o/\nth zA3 t 5=a/\nth zA3 t 6=I64 l.length/\nth zA3 t 7=I64 i/\Kept M N/\SlM N 1 isI32 o (rowL (l.take i))/\(∀ j,rowOf o=some j->M.size<=j)/\(rowL (l.take i)).length<=1000000*i) (n:=l.length) (by omega) ?_ ?_
 ·refine⟨0,NIL,rfl,Nat.zero_le _, ?_, ?_, ?_, ?_,Kept.refl wf,SlM.nil,(fun _ h=>by cases h),Nat.le_refl 0⟩ <;> simp (disch:=try exact SX) only[RV,seval]
  all_goals first | rfl | assumption | done
 ·rintro n t N hlt ⟨i,o,rfl,hi,g2,g5,g6,g7,kN,sm,nr,bd⟩
  simp only[ht] at hlt ⊢
  have oo:=sm.one
  have oc:=sm.cells
  have w:=kN.wf
  have le:=kN.le
  have wm:=kN.wm
  by_cases hc:i<l.length
  ·have q1:decide ((i:Int)<l.length)=true:=DT
   have w1:IntKind.i64.wrap ((i:Int)+1)=((i+1:Nat):Int):=WI
   obtain⟨id,cs,r,hrow,lid,hg,hcs,hiad,hr,hrl,hpt,_⟩:=hS.atS hc
   have gN:=(kN.get id lid).trans hg
   have hts:=zWF (l.take i) l[i]
   rw[<- zBR l i hc] at hts
   have hde:=hd l[i] (List.getElem_mem hc)
   generalize l[i]=e at *
   obtain⟨ra,rfl,hra,hok⟩:=hr
   have ora:=hra.one
   have lid':id<N.size:=by omega
   have rlo:=zB3 sm.rl (show N.size<=N.size+1 by omega)
   simp (disch:=try exact SX) only[RV,seval,g2,g5,g6,g7,q1,hiad,gN,hpt,hra.fz.rows,rlo]
   refine zX5 (fun j hj=>by have:=nr j hj;simp only[zi1,zfD];omega) (zi2 (bytes:=4) (by simp (disch:=try exact SX) only[RV,seval,w]) (sm.keep fun j hj=>?_) zFZ.cel hra (by omega) (by omega) (by omega) fun o' M' sm' w' le1 le2 kp nw wm' rl on oc' di'=>?_)
   ·have:=sm.lt j hj
    exact zB04
   simp only[zA7,zA2] at le1 le2 kp nw
   simp (disch:=try exact SX) only[RV,seval,g2,g5,g6,g7,w1]
   refine⟨hlt,l.length - (i+1),by omega,i+1,o',rfl,by omega,rfl,rfl,⟨w',by omega,fun j hj=>?_,wm'.trans wm,di'.trans ((kN.add _).upd hw le _).di⟩,by rw[hts];exact sm',fun j hj=>(nw j hj).elim (nr j) (fun h=>by omega), ?_⟩
   ·rw[kp j (by omega) (fun h=>by have:=nr j h;omega),zA0 (w.add _) _ _ _ (by omega),zAA w _ _ (by omega)]
    exact kN.get j hj
   ·rw[hts,List.length_append];omega
  ·obtain rfl:i=l.length:=by omega
   have q1:decide ((l.length:Int)<l.length)=false:=DF
   rw[List.take_length] at sm
   simp (disch:=try exact SX) only[RV,seval,g2,g6,g7]
   exact k o N kN sm nr
def Rn.both (a b:Rn):Rn:=⟨⟨a.sp.f,a.sp.n+b.sp.n⟩,a.af,a.rs++b.rs⟩
def zI5 (a b:Rn):Int:=if a.may=true/\b.may=true then (if (a.both b).cutE a.sp.n=0/\(a.both b).fst a.sp.n=a/\(a.both b).snd a.sp.n=b then 0 else 2) else 8
def zFD (a b:Rn):Rn:=if zI5 a b=0 then a.both b else Rn.z
def zgD (a b:Rn)(v:AV):Prop:=∃ r,v = .tup [.agg (rnR (zFD a b) r),I64 (zI5 a b)]/\Sl 1 isI32 r (zFD a b).rs
theorem zY9 (r:Rn)(n:Int):(r.cutA n).rs.length<=r.rs.length:=by
 unfold Rn.cutA
 split
 ·simp only[Rn.fst,List.length_take];omega
 ·exact Nat.zero_le _
theorem zYA (r:Rn)(n:Int):(r.cutB n).rs.length<=r.rs.length:=by
 unfold Rn.cutB
 split
 ·simp only[Rn.snd,List.length_drop];omega
 ·exact Nat.zero_le _
theorem zQX {a b:Rn}{ra rb:AV}(hA:Sl 1 isI32 ra a.rs)(hB:Sl 1 isI32 rb b.rs)(ha:a.ok)(hb:b.ok):All2 isRn [rnR a ra,rnR b rb] [a,b]:=.cons ⟨ra,rfl,hA,ha⟩ (.cons ⟨rb,rfl,hB,hb⟩ .nil)
theorem zJW {a b:Rn}{ra rb:AV}(hA:Sl 1 isI32 ra a.rs)(hB:Sl 1 isI32 rb b.rs)(ha:a.ok)(hb:b.ok)(hla:a.rs.length<=1000000)(hlb:b.rs.length<=1000000)(hf:2000000<fuel):∃ v,zgD a b v /\ ∀ M,zCN fuel (d+8) 210 [.agg (rnR a ra),.agg (rnR b rb)] M=some (v,M):=by
 have hca:=fun M=>@zCC fuel (d+1) a ra hA (by omega) M
 have hcb:=fun M=>@zCC fuel (d+1) b rb hB (by omega) M
 refine zF9 tf210 rfl (fun M=>by simp only[icyL,zCW hA.fz,zCW hB.fz]) ?_
 refine zAD tf210 rfl (by simp only[icyL,zCW hA.fz,zCW hB.fz]) (by simp [a210]) fun b' ht hx=>?_
 obtain⟨h0,h1⟩:=hx2 hx
 clear hx
 simp only[a210,c210] at ht ⊢
 unfold zgD zFD zI5
 by_cases hm:a.may=true/\b.may=true
 ·obtain⟨ma,mb⟩:=hm
  rw[ma] at hca
  rw[mb] at hcb
  simp only[ma,mb,and_self,if_true]
  have ba:=Spn.may_le (Rn.may_sp ma)
  have bb:=Spn.may_le (Rn.may_sp mb)
  have w1:IntKind.i64.wrap (a.sp.n+b.sp.n)=a.sp.n+b.sp.n:=wrap_i64 (by omega) (by omega)
  simp (disch:=try exact SX) only[RV,seval,zAB,h0,h1,hca,hcb,zAU,IMX,zC5,BMM,w1]
  refine row_0 (d:=d+6) (l:=[a,b]) (zWU (zQX hA hB ha hb) (by simp) rfl (.inr rfl) (by simp (disch:=try exact SX) only[RV,seval];rfl)) (by simp) (by simp;exact⟨hla,hlb⟩) (by omega) (by simp (disch:=try exact SX) only[RV,seval]) (by simp (disch:=try exact SX) only[RV,seval];exact Nat.le_refl _) fun o X kX sm nr=>?_
  have wX:=kX.wf
  have hd:X.dirty=false:=kX.di
  have hsX:4<=X.size:=kX.le
  have k0:=kX.get 0 (by show 0<4;omega)
  have k1:=kX.get 1 (by show 1<4;omega)
  have k2:=kX.get 2 (by show 2<4;omega)
  simp (disch:=try exact SX) only[RV,seval] at k0 k1 k2
  have oo:=sm.one
  have oc:=sm.cells
  have nr':∀ j,rowOf o=some j->4<=j:=nr
  have rlo:=zB3 sm.rl (show X.size<=X.size by omega)
  have rlo1:=zB3 sm.rl (show X.size<=X.size+1 by omega)
  have sm':SlM X 1 isI32 o (a.rs++b.rs):=by simpa [rowL] using sm
  simp (disch:=try exact SX) only[RV,seval,zAB,hd,k0,oc]
  refine⟨rfl, ?_⟩
  have kY:=((kX.bk.add (.row false (rnR Rn.z NIL))).upd (Nat.zero_le _) (show _<=X.size from kX.le) (.row false (rnR (a.both b) o)))
  have wY:=kY.wf
  refine zQ2 (n:=d+6) (R:=cutK (a.both b) a.sp.n) (spR (a.both b).sp++idR a.af) o (rest:=[I64 a.sp.n]) (l:=(a.both b).rs) tf206 rfl (fun y hy=>(List.mem_append.1 hy).elim (zQR _ y) (zEX _ y)) (sm'.keep fun j hj=>?_) (by simp (disch:=try exact SX) only[RV,seval,wX]) zFZ (fun M=>by simp only[icyL,zF1]) (fun a2 b2=>?_) fun v a2 N2 hv b2 w2 s2 k2' r2 f2=>?_
  ·have:=sm'.lt j hj
   exact zB04
  ·exact zHP (o:=a.both b) (d:=d) b2 (by omega)
  obtain⟨ca,cb,rfl,hca',hcb'⟩:=hv
  have oca:=hca'.one
  have ocb:=hcb'.one
  have j0:=k2' 0 (fun h=>by have:=nr' 0 h;omega)
  have j1:=k2' 1 (fun h=>by have:=nr' 1 h;omega)
  have j2:=k2' 2 (fun h=>by have:=nr' 2 h;omega)
  have j3:=k2' X.size (fun h=>by have:=sm'.lt _ h;omega)
  simp only[zA7,zA2,zB5] at s2
  simp (disch:=try exact SX) only[RV,seval,k0,k1,k2] at j0 j1 j2 j3
  have z0:=Mem.get_lt j0
  have z1:=Mem.get_lt j1
  have z2:=Mem.get_lt j2
  have z3:=Mem.get_lt j3
  clear kY wY k2' kX k0 k1 k2 nr
  have bl:(a.both b).rs.length<=2000000:=by show (a.rs++b.rs).length<=_;rw[List.length_append];omega
  have la:=zY9 (a.both b) a.sp.n
  have lb:=zYA (a.both b) a.sp.n
  have hsa:=fun M=>zGH (fuel:=fuel) (d:=d+5) (o:=(a.both b).cutA a.sp.n) (p:=a) hca' hA (by omega) (by omega) M
  have hsb:=fun M=>zGH (fuel:=fuel) (d:=d+5) (o:=(a.both b).cutB a.sp.n) (p:=b) hcb' hB (by omega) (by omega) M
  have hfr:=fun N7 hN=>f2 N7 11 (by omega) hN
  clear f2
  have eA:∀ (q:(a.both b).cutE a.sp.n=0),(a.both b).cutA a.sp.n=(a.both b).fst a.sp.n:=fun q=>by unfold Rn.cutA;rw[if_pos q]
  have eB:∀ (q:(a.both b).cutE a.sp.n=0),(a.both b).cutB a.sp.n=(a.both b).snd a.sp.n:=fun q=>by unfold Rn.cutB;rw[if_pos q]
  generalize hA':(a.both b).cutA a.sp.n=cA at *
  generalize hB':(a.both b).cutB a.sp.n=cB at *
  by_cases q1:(a.both b).cutE a.sp.n=0
  ·have q1':decide ((a.both b).cutE a.sp.n=0)=true:=decide_eq_true q1
   rw[<- eA q1,<- eB q1]
   cases q2:rnEq cA a with
   | false =>
    have q2':¬(cA=a):=fun h=>by rw[(zH5 cA a).2 h] at q2;cases q2
    rw[q2] at hsa
    simp only[q2',false_and,and_false,if_false]
    simp (disch:=try exact SX) only[RV,seval,zAB,j0,j2,q1',hsa]
    exact zB08
   | true =>
    have q2':=(zH5 cA a).1 q2
    rw[q2] at hsa
    cases q3:rnEq cB b with
    | false =>
     have q3':¬(cB=b):=fun h=>by rw[(zH5 cB b).2 h] at q3;cases q3
     rw[q3] at hsb
     simp only[q3',and_false,if_false]
     simp (disch:=try exact SX) only[RV,seval,zAB,j0,j1,j2,q1',hsa,hsb]
     exact zB08
    | true =>
     have q3':=(zH5 cB b).1 q3
     rw[q3] at hsb
     simp only[eq_true (show (a.both b).cutE a.sp.n=0/\cA=a/\cB=b from⟨q1,q2',q3'⟩),if_true]
     simp (disch:=try exact SX) only[RV,seval,j0,j1,j2,j3,q1',hsa,hsb]
     have lo:∀ j,rowOf o=some j->j<N2.size:=fun j hj=>by have:=sm'.lt j hj;omega
     rw[hfr _ (fun j hj=>by
      have u1:=lo j hj
      have u2:=nr' j hj
      simp (disch:=try exact SX) only[RV,seval])]
     exact⟨_,⟨a2,rfl,b2⟩,rfl⟩
  ·have q1':decide ((a.both b).cutE a.sp.n=0)=false:=decide_eq_false q1
   simp only[q1,false_and,if_false]
   simp (disch:=try exact SX) only[RV,seval,zAB,j2,q1']
   exact zB08
 ·have hz:imax (err a.may) (err b.may)=8:=by
   cases ma:a.may <;> cases mb:b.may <;> first | rfl | exact absurd ⟨ma,mb⟩ hm
  simp only[hm,if_false]
  have q8:((8:Int)=0)=False:=by decide
  simp (disch:=try exact SX) only[RV,seval,zAB,h0,h1,hca,hcb,hz,zC5,BMM,q8]
  exact zB08
def atE (r:Rn)(n:Int):Int:=if r.may=true then (if n<0∨r.sp.n<=n then 2 else 0) else 8
def Rn.afAt (r:Rn)(n:Int):Eid:=if 0<n then r.sp.at (n - 1) else r.af
theorem zO4 {o:Rn}{ra:AV}{n:Int}(hR:Sl 1 isI32 ra o.rs)(hf:100<fuel)(M:Mem):zCN fuel (d+7) 89 [.agg (rnR o ra),I64 n] M=some (if atE o n=0 then .tup [idA (o.sp.at n),idA (o.afAt n),I32 (o.rs.getD n.toNat 0),I64 0] else .tup [idA Eid.z,idA Eid.z,I32 0,I64 (atE o n)],M):=by
 have hck:=fun M=>@zCC fuel d o ra hR hf M
 have hat:=fun n M=>@zJ0 fuel (d+1) o.sp n M
 apply zB1
 refine zAD tf89 rfl (by simp only[icyL,zCW hR.fz,zF1]) (by simp [a89]) fun b' ht hx=>?_
 obtain⟨h0,h1⟩:=hx2 hx
 clear hx
 simp only[a89,c89] at ht ⊢
 unfold atE
 cases hm:o.may with
 | false =>
  rw[hm] at hck
  have q8:((8:Int)=0)=False:=by decide
  simp only[Bool.false_eq_true,if_false,q8]
  simp (disch:=try exact SX) only[RV,seval,h0,hck,zBA]
  all_goals rfl
 | true =>
  rw[hm] at hck
  have hs:=Rn.may_sp hm
  have hb:=Spn.may_le hs
  have hml:=Rn.may_len hm
  simp only[hs,if_true] at hat ⊢
  by_cases q:n<0∨o.sp.n<=n
  ·have hat:=hat n
   simp only[q,if_true] at hat ⊢
   have q2:((2:Int)=0)=False:=by decide
   simp only[q2,if_false]
   simp (disch:=try exact SX) only[RV,seval,h0,h1,hck,hat,zAU]
   all_goals rfl
  ·obtain⟨m,rfl⟩:∃ m:Nat,n=m:=⟨n.toNat,by omega⟩
   have hat0:=hat (m:Int)
   simp only[q,if_false] at hat0 ⊢
   simp only[if_true]
   obtain⟨r,hr,rfl,_⟩:=hR.iad m (by omega)
   have eg:o.rs.getD (m:Int).toNat 0=o.rs[m]:=by
    rw[Int.toNat_natCast,List.getD_eq_getElem?_getD,List.getElem?_eq_getElem (by omega)];rfl
   rw[eg]
   unfold Rn.afAt
   by_cases q0:(0:Int)<m
   ·have q0':decide ((0:Int)<m)=true:=decide_eq_true q0
    have hat1:=hat ((m:Int) - 1)
    simp only[show ¬((m:Int) - 1<0∨o.sp.n<=(m:Int) - 1) by omega,if_false] at hat1
    have w1:IntKind.i64.wrap ((m:Int) - 1)=(m:Int) - 1:=wrap_i64 (by omega) (by omega)
    simp (disch:=try exact SX) only[RV,seval,h0,h1,hck,hat0,hat1,zAU,q0,w1,hr]
    all_goals exact⟨rfl,rfl⟩
   ·have q0':decide ((0:Int)<m)=false:=decide_eq_false q0
    simp (disch:=try exact SX) only[RV,seval,h0,h1,hck,hat0,zAU,q0,hr]
    all_goals exact⟨rfl,rfl⟩
def zB8:List Rn->Int
 | []=>0
 | r::l=>r.sp.n+zB8 l
theorem zSA (l m:List Rn):zB8 (l++m)=zB8 l+zB8 m:=by
 induction l with
 | nil=>simp [zB8]
 | cons r l ih=>simp only[List.cons_append,zB8,ih];omega
theorem zOS (l:List Rn)(r:Rn):zB8 (l++[r])=zB8 l+r.sp.n:=by rw[zSA];simp [zB8]
theorem zF7 {l:List Rn}(h:∀ r∈l,r.may=true):0<=zB8 l/\zB8 l<=64*l.length:=by
 induction l with
 | nil=>simp [zB8]
 | cons r l ih =>
  have:=Spn.may_le (Rn.may_sp (h r List.mem_cons_self))
  have:=ih fun r hr=>h r (List.mem_cons_of_mem _ hr)
  simp only[zB8,List.length_cons]
  omega
theorem zIU {a:AV}{l:List Rn}(hS:Sl 10 isRn a l)(hm:∀ r∈l,r.may=true)(hl:l.length<=1000000)(hf:l.length<fuel)(M:Mem):zCN fuel (d+1) 150 [a] M=some (I64 (zB8 l),M):=by
 have ll:=hS.len
 apply zB1
 refine zAD tf150 rfl (by simp only[icyL,fun M=>hS.icy M 12 (by omega)]) (by simp [a150]) fun b' ht hx=>?_
 have h0:=hx 0 _ rfl
 clear hx
 simp only[a150,c150] at ht ⊢
 simp (disch:=try exact SX) only[RV,seval,h0,ll]
 refine zBB (I:=fun n t N => ∃ (i:Nat),n=l.length - i/\i<=l.length/\nth zA3 t 2=I64 (zB8 (l.take i))/\nth zA3 t 5=a/\nth zA3 t 6=I64 l.length/\nth zA3 t 7=I64 i/\Wf N) (n:=l.length) (by omega) ?_ ?_
 ·refine⟨0,rfl,Nat.zero_le _, ?_, ?_, ?_, ?_,Wf.mem0⟩ <;> simp (disch:=try exact SX) only[RV,seval,zB8]
  all_goals first | rfl | assumption | done
 ·rintro n t N hlt ⟨i,rfl,hi,g2,g5,g6,g7,w⟩
  simp only[ht] at hlt ⊢
  by_cases hc:i<l.length
  ·have q1:decide ((i:Int)<l.length)=true:=DT
   have w1:IntKind.i64.wrap ((i:Int)+1)=((i+1:Nat):Int):=WI
   obtain⟨r,hiad,hr,hrl⟩:=hS.iad i hc
   have hts:=zOS (l.take i) l[i]
   rw[<- zBR l i hc] at hts
   have hb:=Spn.may_le (Rn.may_sp (hm l[i] (List.getElem_mem hc)))
   have hcl:=zF7 (l:=l.take i) (fun r hr=>hm r (List.mem_of_mem_take hr))
   rw[List.length_take] at hcl
   generalize l[i]=e at *
   obtain⟨ra,rfl,hra,hok⟩:=hr
   have ora:=hra.one
   have w2:IntKind.i64.wrap (zB8 (l.take i)+e.sp.n)=zB8 (l.take (i+1)):=by rw[hts,wrap_i64] <;> omega
   simp (disch:=try exact SX) only[RV,seval,g2,g5,g6,g7,q1,hiad,w,w1,w2]
   exact⟨hlt,l.length - (i+1),by omega,i+1,rfl,by omega,rfl,rfl⟩
  ·obtain rfl:i=l.length:=by omega
   have q1:decide ((l.length:Int)<l.length)=false:=DF
   rw[List.take_length] at g2
   simp (disch:=try exact SX) only[RV,seval,g2,g6,g7]
def zMM (l m:List Rn):Bool:=eqL rnEq l m
theorem zO6 {l m:List Rn}:zMM l m=true↔l=m:=zb2 zH5
theorem zSI {a b:AV}{l m:List Rn}(h1':Sl 10 isRn a l)(h2':Sl 10 isRn b m)(hl:l.length<=1000000)(hc:∀ e∈l,e.rs.length<=1000000/\e.rs.length<fuel)(hf:l.length<fuel)(M:Mem):zCN fuel (d+3) 236 [a,b,.fn 237 [] []] M=some (BL (zMM l m),M):=by
 have la:=h1'.len
 have lb:=h2'.len
 apply zB1
 refine zAD tf236 rfl (by simp (disch:=try exact SX) only[RV,seval,h1'.fz.icy,h2'.fz.icy]) (by simp [a236]) fun b' ht hx=>?_
 obtain⟨h0,h1,h2⟩:=hx3 hx
 clear hx
 simp only[a236,c236] at ht ⊢
 by_cases q:l.length=m.length
 ·have q0:decide ((l.length:Int)=m.length)=true:=DT
  simp (disch:=try exact SX) only[RV,seval,h0,h1,la,lb,q0]
  refine zBB (I:=fun n t N => ∃ (i:Nat),n=l.length - i/\i<=l.length/\nth zA3 t 0=a/\nth zA3 t 1=b/\nth zA3 t 2 = .fn 237 [] []/\nth zA3 t 15=a/\nth zA3 t 16=I64 l.length/\nth zA3 t 17=I64 i/\Wf N/\(∀ j (x1:j<l.length) (x2:j<m.length),j<i->rnEq l[j] m[j]=true)) (n:=l.length) (by omega) ?_ ?_
  ·refine⟨0,rfl,Nat.zero_le _, ?_, ?_, ?_, ?_, ?_, ?_,Wf.mem0,(fun _ _ _ h=>absurd h (by omega))⟩ <;> simp (disch:=try exact SX) only[RV,seval,h0,h1,h2]
   all_goals first | rfl | assumption | done
  ·rintro n t N hlt ⟨i,rfl,hi,g0,g1,g2,g15,g16,g17,wN,hj⟩
   simp only[ht] at hlt ⊢
   by_cases hc':i<l.length
   ·have q1:decide ((i:Int)<l.length)=true:=DT
    have hc2:i<m.length:=by omega
    obtain⟨r1,i1,hr1,hl1⟩:=h1'.iad i hc'
    obtain⟨r2,i2,hr2,hl2⟩:=h2'.iad i hc2
    have hcr:=hc l[i] (List.getElem_mem hc')
    have w1:IntKind.i64.wrap ((i:Int)+1)=((i+1:Nat):Int):=WI
    have qat:=fun q2=>zfN (p:=rnEq) hc' hc2 q2
    have hj':=hj
    have key:rnEq l[i] m[i]=true -> ∀ j (x1:j<l.length) (x2:j<m.length),j<i+1->rnEq l[j] m[j]=true:=fun q2 j x1 x2 hj'=>by
     rcases Nat.lt_succ_iff_lt_or_eq.1 hj' with h | rfl
     ·exact hj j x1 x2 h
     ·exact q2
    generalize l[i]=e1 at *
    generalize m[i]=e2 at *
    obtain⟨ra1,rfl,b1,_⟩:=hr1
    obtain⟨ra2,rfl,b2,_⟩:=hr2
    have hp:=fun M=>zGH (fuel:=fuel) (d:=d) b1 b2 (by omega) hcr.2 M
    have o1:=b1.one
    have o3:=b2.one
    cases q2:rnEq e1 e2 with
    | true =>
     rw[q2] at hp
     simp (disch:=try exact SX) only[RV,seval,g0,g1,g2,g15,g16,g17,q1,i1,i2,w1,hp,wN]
     exact⟨hlt,l.length - (i+1),by omega,i+1,rfl,by omega,rfl,key q2⟩
    | false =>
     rw[q2] at hp
     have e:zMM l m=false:=qat q2
     simp (disch:=try exact SX) only[RV,seval,g1,g2,g15,g16,g17,q1,i1,i2,hp,e]
   ·obtain rfl:i=l.length:=by omega
    have q1:decide ((l.length:Int)<l.length)=false:=DF
    have e:zMM l m=true:=zcK q fun j x1 x2 _=>hj j x1 x2 x1
    simp (disch:=try exact SX) only[RV,seval,g16,g17,e]
 ·have q0:decide ((l.length:Int)=m.length)=false:=DF
  have e:zMM l m=false:=zfO q
  simp (disch:=try exact SX) only[RV,seval,h0,h1,la,lb,q0,e]
theorem zX2 {a b:AV}{l m:List Rn}(h1':Sl 10 isRn a l)(h2':Sl 10 isRn b m)(hl:l.length<=1000000)(hc:∀ e∈l,e.rs.length<=1000000/\e.rs.length<fuel)(hf:l.length<fuel)(M:Mem):zCN fuel (d+4) 205 [a,b] M=some (BL (zMM l m),M):=by
 have he:=fun M=>@zSI fuel d a b l m h1' h2' hl hc hf M
 apply zB1
 refine zAD tf205 rfl (by simp (disch:=try exact SX) only[RV,seval,h1'.fz.icy,h2'.fz.icy]) (by simp [a205]) fun b' ht hx=>?_
 obtain⟨h0,h1⟩:=hx2 hx
 clear hx
 simp only[a205,c205] at ht ⊢
 simp (disch:=try exact SX) only[RV,seval,h0,h1,he]
def zBI:List Rn->Eid->Option (Nat × Int)
 | [],_=>none
 | r::l,x=>match r.sp.has x with
  | some k=>some (0,k)
  | none=>(zBI l x).map fun p=>(p.1+1,p.2)
theorem zT9 {l:List Rn}{x:Eid}(h:∀ r∈l,r.sp.has x=none):zBI l x=none:=by
 induction l with
 | nil=>rfl
 | cons r l ih =>
  unfold zBI
  rw[h r List.mem_cons_self,ih fun r hr=>h r (List.mem_cons_of_mem _ hr)]
  rfl
theorem zaT {l:List Rn}{x:Eid}{i:Nat}{k:Int}(hi:i<l.length)(hk:l[i].sp.has x=some k)(h:∀ j (hj:j<i),l[j].sp.has x=none):zBI l x=some (i,k):=by
 induction l generalizing i with
 | nil=>exact absurd hi (by simp)
 | cons r l ih =>
  unfold zBI
  cases i with
  | zero=>rw[show r.sp.has x=some k from hk]
  | succ i =>
   rw[show r.sp.has x=none from h 0 (by omega),ih (i:=i) (by simpa using hi) hk fun j hj=>h (j+1) (by omega)]
   rfl
def wN (p:Option (Nat × Int)):Int:=match p with
 | some p=>p.1
 | none => -1
def wK (p:Option (Nat × Int)):Int:=match p with
 | some p=>p.2
 | none=>0
theorem zOG {a:AV}{l:List Rn}{x:Eid}(hS:Sl 10 isRn a l)(hl:l.length<=1000000)(hf:l.length<fuel)(M:Mem):zCN fuel (d+6) 148 [a,idA x] M=some (.tup [I64 (wN (zBI l x)),I64 (wK (zBI l x))],M):=by
 have ll:=hS.len
 apply zB1
 refine zAD tf148 rfl (by simp only[icyL,fun M=>hS.icy M 12 (by omega),zAP (zEX x) (show 1<12 by omega)]) (by simp [a148]) fun b' ht hx=>?_
 obtain⟨h0,h1⟩:=hx2 hx
 clear hx
 simp only[a148,c148] at ht ⊢
 simp (disch:=try exact SX) only[RV,seval,h0,h1,ll]
 refine zBB (I:=fun n t N => ∃ (i:Nat),n=l.length - i/\i<=l.length/\nth zA3 t 3 = .ptr 0 0/\nth zA3 t 10=a/\nth zA3 t 11=I64 l.length/\nth zA3 t 12=I64 i/\Wf N/\N.get 0=some (.row false (idR x))/\(∀ j (h:j<l.length),j<i->l[j].sp.has x=none)) (n:=l.length) (by omega) ?_ ?_
 ·refine⟨0,rfl,Nat.zero_le _, ?_, ?_, ?_, ?_,Wf.mem0.add _,by simp (disch:=try exact SX) only[RV,seval],(fun _ _ h=>absurd h (by omega))⟩ <;> simp (disch:=try exact SX) only[RV,seval]
  all_goals first | rfl | assumption | done
 ·rintro n t N hlt ⟨i,rfl,hi,g3,g10,g11,g12,w,g,hj⟩
  simp only[ht] at hlt ⊢
  have lN:=Mem.get_lt g
  by_cases hc:i<l.length
  ·have q1:decide ((i:Int)<l.length)=true:=DT
   have w1:IntKind.i64.wrap ((i:Int)+1)=((i+1:Nat):Int):=WI
   obtain⟨r,hiad,hr,hrl⟩:=hS.iad i hc
   have wat:=fun k (hk:l[i].sp.has x=some k)=>zaT hc hk fun j hj'=>hj j (by omega) hj'
   have key:l[i].sp.has x=none -> ∀ j (h:j<l.length),j<i+1->l[j].sp.has x=none:=fun q2 j h hj'=>by
    rcases Nat.lt_succ_iff_lt_or_eq.1 hj' with h' | rfl
    ·exact hj j h h'
    ·exact q2
   generalize l[i]=e at *
   obtain⟨ra,rfl,hra,hok⟩:=hr
   have ora:=hra.one
   have hh:=fun M=>@zP8 fuel d e.sp x M
   cases q:e.sp.has x with
   | none =>
    rw[q] at hh
    simp only[Option.getD_none,Option.isSome_none] at hh
    simp (disch:=try exact SX) only[RV,seval,g3,g10,g11,g12,q1,hiad,w,g,w1,hh]
    exact⟨hlt,l.length - (i+1),by omega,i+1,rfl,by omega,rfl,key q⟩
   | some k =>
    rw[q] at hh
    simp only[Option.getD_some,Option.isSome_some] at hh
    rw[wat k q]
    simp (disch:=try exact SX) only[RV,seval,g3,g10,g11,g12,q1,hiad,g,hh,wN,wK]
  ·obtain rfl:i=l.length:=by omega
   have q1:decide ((l.length:Int)<l.length)=false:=DF
   have e:zBI l x=none:=zT9 fun r hr=>by
    obtain⟨j,hj',rfl⟩:=List.getElem_of_mem hr
    exact hj j hj' hj'
   rw[e]
   simp (disch:=try exact SX) only[RV,seval,g11,g12,wN,wK]
def Rn.els (r:Rn):List (Eid × Eid):=(List.range r.sp.n.toNat).map fun (i:Nat)=>(r.sp.at i,r.afAt i)
def elsL (l:List Rn):List (Eid × Eid):=l.flatMap Rn.els
theorem zYD (l:List Rn)(r:Rn):elsL (l++[r])=elsL l++r.els:=by simp [elsL]
theorem zUE {l:List Rn}{i k:Nat}(hi:i<l.length)(hk:k<l[i].sp.n.toNat):∃ post,elsL l=(elsL (l.take i)++l[i].els.take k)++(l[i].sp.at k,l[i].afAt k)::post:=by
 refine⟨l[i].els.drop (k+1)++elsL (l.drop (i+1)), ?_⟩
 have h1:l=l.take i++l[i]::l.drop (i+1):=by rw[<- List.drop_eq_getElem_cons hi,List.take_append_drop]
 have hkl:k<l[i].els.length:=by unfold Rn.els;simpa using hk
 have h2:l[i].els=l[i].els.take k++l[i].els[k]::l[i].els.drop (k+1):=by rw[<- List.drop_eq_getElem_cons hkl,List.take_append_drop]
 have h3:l[i].els[k]=(l[i].sp.at k,l[i].afAt k):=by simp [Rn.els]
 rw[h3] at h2
 refine(congrArg elsL h1).trans ?_
 have h4:elsL (l.take i++l[i]::l.drop (i+1))=elsL (l.take i)++(l[i].els++elsL (l.drop (i+1))):=by
  unfold elsL
  rw[List.flatMap_append,List.flatMap_cons]
 rw[h4,List.append_assoc,<- List.cons_append,<- List.append_assoc (l[i].els.take k),<- h2]
theorem zUC (r:Rn):r.els.length=r.sp.n.toNat:=by simp [Rn.els]
theorem zUD (r:Rn)(k:Nat)(hk:k<r.sp.n.toNat):r.els.take (k+1)=r.els.take k++[(r.sp.at k,r.afAt k)]:=by
 rw[zBR _ _ (by rw[zUC];exact hk)]
 simp [Rn.els]
structure Yl (J:List (Eid × Eid)->(Nat->Prop)->Mem->Prop) (pre:List (Eid × Eid)) (O:Nat->Prop) (B:Nat) (N N':Mem):Prop where
 ok:∃ O',J pre O' N'/\(∀ j,O' j->O j∨N.size<=j)
 wf:Wf N'
 le:N.size<=N'.size
 kp:∀ j,j<N.size -> ¬O j->N'.get j=N.get j
theorem zYC {J:List (Eid × Eid)->(Nat->Prop)->Mem->Prop}{S:Mem->Prop}{O:Nat->Prop}{a:AV}{l:List Rn}{p id:Nat}(hS:Sl 10 isRn a l)(hl:l.length<=100000)(hm:∀ r∈l,r.may=true)(hf:l.length+100<fuel)(wf:Wf M)(hg:M.get p=some (.row false [a]))
  (hJ0:J [] O M)
  (hJ:∀ pre O N N',J pre O N->Wf N'->N.size<=N'.size->(∀ j,j<N.size->N'.get j=N.get j)->J pre O N')
  (hJl:∀ pre O N,J pre O N -> ∀ j,O j->j<N.size)
  (hy:∀ pre x post O N,elsL l=pre++x::post->J pre O N->Wf N->M.size<=N.size->W3 (zAF Tryz.prog (fsT tbl) fuel (d+7) (.yl id) [idA x.1,idA x.2] N) (fun v N'=>(v=BL true/\Yl J (pre++[x]) O M.size N N')∨(v=BL false/\S N')))
  (kk:∀ u N O,J (elsL l) O N->Wf N->M.size<=N.size->Q u N) (ks:∀ u N,S N->Q u N) :
  W3 (zCN fuel (d+8) 248 [.yl id,.ptr p 0] M) Q:=by
 have ll:=hS.len
 have lp:=Mem.get_lt hg
 refine zAT tf248 rfl (by simp [a248]) fun b' ht hx=>?_
 obtain⟨h0,h1⟩:=hx2 hx
 clear hx
 simp only[a248,c248] at ht ⊢
 simp (disch:=try exact SX) only[RV,seval,h1,ll,hg]
 refine zBB (I:=fun n t N => ∃ (i:Nat) (O':Nat->Prop),n=l.length - i/\i<=l.length/\nth zA3 t 0 = .yl id/\nth zA3 t 10=a/\nth zA3 t 11=I64 l.length/\nth zA3 t 12=I64 i/\Wf N/\M.size<=N.size/\J (elsL (l.take i)) O' N) (n:=l.length) (by omega) ?_ ?_
 ·refine⟨0,O,rfl,Nat.zero_le _, ?_, ?_, ?_, ?_,wf,Nat.le_refl _,hJ0⟩ <;> simp (disch:=try exact SX) only[RV,seval,h0]
  all_goals first | rfl | assumption | done
 ·rintro n t N hlt ⟨i,O',rfl,hi,g0,g10,g11,g12,w,le,hj⟩
  simp only[ht] at hlt ⊢
  by_cases hc:i<l.length
  ·have q1:decide ((i:Int)<l.length)=true:=DT
   have w1:IntKind.i64.wrap ((i:Int)+1)=((i+1:Nat):Int):=WI
   obtain⟨r,hiad,hr,hrl⟩:=hS.iad i hc
   have hts:=zYD (l.take i) l[i]
   rw[<- zBR l i hc] at hts
   have hsp:=fun k=>@zUE l i k hc
   have hme:=hm l[i] (List.getElem_mem hc)
   generalize l[i]=e at *
   obtain⟨ra,rfl,hra,hok⟩:=hr
   have ora:=hra.one
   have hb:=Spn.may_le (Rn.may_sp hme)
   obtain⟨m,hmn⟩:∃ m:Nat,e.sp.n=m:=⟨e.sp.n.toNat,by omega⟩
   have hmt:e.sp.n.toNat=m:=by omega
   have hes:=zUD e
   have hel:=zUC e
   have wX:Wf ((N.add (.row false (rnR Rn.z NIL))).upd N.size (.row false (rnR e ra))):=(w.add _).upd _ _
   have jX:=hJ _ _ _ _ hj wX (by rw[zA7,zA2];omega) (fun j hj'=>by rw[zA0 (w.add _) _ _ _ (by omega),zAA w _ _ hj'])
   have gX:((N.add (.row false (rnR Rn.z NIL))).upd N.size (.row false (rnR e ra))).get N.size=some (.row false (rnR e ra)):=zAC (w.add _) _ _ (by rw[zA2];omega)
   have nX:N.size<((N.add (.row false (rnR Rn.z NIL))).upd N.size (.row false (rnR e ra))).size:=by rw[zA7,zA2];omega
   have nO:¬O' N.size:=fun h=>by have:=hJl _ _ _ hj _ h;omega
   simp (disch:=try exact SX) only[RV,seval,g10,g11,g12,q1,hiad]
   refine zBB (I:=fun nk tk Nk => ∃ (ik:Nat) (O2:Nat->Prop),nk=m - ik/\ik<=m/\nth zA3 tk 0 = .yl id/\nth zA3 tk 4 = .ptr N.size 0/\nth zA3 tk 10=a/\nth zA3 tk 11=I64 l.length/\nth zA3 tk 12=I64 i/\nth zA3 tk 18=I64 e.sp.n/\nth zA3 tk 19=I64 ik/\Wf Nk/\N.size<Nk.size/\J (elsL (l.take i)++e.els.take ik) O2 Nk/\Nk.get N.size=some (.row false (rnR e ra)) /\ ¬O2 N.size) (n:=m) (by omega) ?_ ?_
   ·refine⟨0,O',rfl,Nat.zero_le _, ?_, ?_, ?_, ?_, ?_, ?_, ?_,wX,nX,(by rw[List.take_zero,List.append_nil];exact jX),gX,nO⟩ <;> simp (disch:=try exact SX) only[RV,seval,g0,g10,g11,g12]
    all_goals first | rfl | assumption | done
   ·rintro nk tk Nk hltk ⟨ik,O2,rfl,hik,gk0,gk4,gk10,gk11,gk12,gk18,gk19,wk,lk,jk,gk,nk⟩
    simp only[hlt] at hltk ⊢
    have kX:∀ p q,Wf ((((Nk.add p).add q).upd Nk.size (.row false (idR (e.sp.at ik)))).upd (Nk.size+1) (.row false (idR (e.afAt ik)))):=fun p q=>(((wk.add _).add _).upd _ _).upd _ _
    by_cases hck:ik<m
    ·have q2:decide ((ik:Int)<e.sp.n)=true:=DT
     have w2:IntKind.i64.wrap ((ik:Int)+1)=((ik+1:Nat):Int):=WI
     have hatE:atE e ik=0:=by
      unfold atE
      rw[if_pos hme,if_neg (by omega)]
     have hat:=fun M=>@zO4 fuel d e ra (ik:Int) hra (by omega) M
     simp only[hatE,if_true] at hat
     obtain⟨post,hsp⟩:=hsp ik (by omega)
     have hes:=hes ik (by omega)
     rw[hmt] at hel
     simp (disch:=try exact SX) only[RV,seval,gk0,gk4,gk18,gk19,q2,gk,hat]
     have jY:=hJ _ _ _ _ jk (kX (.row false (idR Eid.z)) (.row false (idR Eid.z))) (by simp only[zA7,zA2];omega) (fun j hj'=>by
      rw[zA0 (((wk.add _).add _).upd _ _) _ _ _ (by omega),zA0 ((wk.add _).add _) _ _ _ (by omega),zAA (wk.add _) _ _ (by rw[zA2];omega),zAA wk _ _ hj'])
     obtain⟨v,N',hcall,hv⟩:=hy _ _ _ _ _ hsp jY (kX _ _) (by simp only[zA7,zA2];omega)
     refine⟨v,N',hcall, ?_⟩
     rcases hv with⟨rfl,⟨O3,jO,hO3⟩,wY,lY,kY⟩ | ⟨rfl,hst⟩
     ·simp only[zA7,zA2] at lY kY hO3
      have g3:N'.get N.size=some (.row false (rnR e ra)):=by
       rw[kY _ (by omega) nk,zA0 (((wk.add _).add _).upd _ _) _ _ _ (by omega),zA0 ((wk.add _).add _) _ _ _ (by omega),zAA (wk.add _) _ _ (by rw[zA2];omega),zAA wk _ _ (by omega)]
       exact gk
      rw[List.append_assoc,<- hes] at jO
      simp (disch:=try exact SX) only[RV,seval,gk0,gk4,gk10,gk11,gk12,gk18,gk19,w2]
      exact⟨hltk,m - (ik+1),by omega,ik+1,O3,rfl,by omega,rfl,wY,by omega,jO,g3,fun h=>(hO3 _ h).elim nk (fun h=>by omega)⟩
     ·simp (disch:=try exact SX) only[RV,seval]
      exact ks _ _ hst
    ·obtain rfl:ik=m:=by omega
     have q2:decide ((ik:Int)<e.sp.n)=false:=DF
     rw[List.take_of_length_le (l:=e.els) (by omega)] at jk
     simp (disch:=try exact SX) only[RV,seval,gk0,gk10,gk11,gk12,gk18,gk19,q2,w1]
     exact⟨hltk,l.length - (i+1),by omega,i+1,O2,rfl,by omega,rfl,wk,by omega,by rw[hts];exact jk⟩
  ·obtain rfl:i=l.length:=by omega
   have q1:decide ((l.length:Int)<l.length)=false:=DF
   rw[List.take_length] at hj
   simp (disch:=try exact SX) only[RV,seval,g11,g12]
   exact kk _ _ _ hj w le
structure El where
 id:Eid
 af:Eid
 ch:Int
 deriving DecidableEq
theorem zEQ (x y:Eid):x.less y=true↔x.c<y.c∨(x.c=y.c/\(x.hd.lb.lv<y.hd.lb.lv∨(x.hd.lb.lv=y.hd.lb.lv/\(x.hd.lb.cats<y.hd.lb.cats∨(x.hd.lb.cats=y.hd.lb.cats/\x.hd.num<y.hd.num))))):=by
 obtain⟨⟨⟨a,b⟩,c⟩,e⟩:=x
 obtain⟨⟨⟨a',b'⟩,c'⟩,e'⟩:=y
 unfold Eid.less Lb.ahead
 by_cases h1:e=e'
 ·subst h1
  by_cases h2:(⟨a,b⟩:Lb)=⟨a',b'⟩
  ·injection h2 with h2 h3
   subst h2;subst h3
   simp
  ·have h3:¬(a=a'/\b=b'):=fun h=>h2 (by rw[h.1,h.2])
   simp only[h2,if_true,if_false,Bool.or_eq_true,Bool.and_eq_true,decide_eq_true_eq,Int.lt_irrefl,true_and,false_or]
   omega
 ·simp only[h1,if_false,decide_eq_true_eq,false_and,or_false]
theorem zM4 (x:Eid):x.less x=false:=by
 rw[<- Bool.not_eq_true,zEQ];omega
theorem zKJ {x y z:Eid}(h1:x.less y=true)(h2:y.less z=true):x.less z=true:=by
 rw[zEQ] at *;omega
theorem zVC {x y:Eid}(h1:x.less y=true):y.less x=false:=by
 rw[<- Bool.not_eq_true];rw[zEQ] at *;omega
theorem zZA {x y:Eid}(h:x≠y):x.less y=true∨y.less x=true:=by
 rw[zEQ,zEQ]
 obtain⟨⟨⟨a,b⟩,c⟩,e⟩:=x
 obtain⟨⟨⟨a',b'⟩,c'⟩,e'⟩:=y
 simp only
 have:¬(a=a'/\b=b'/\c=c'/\e=e'):=fun k=>h (by rw[k.1,k.2.1,k.2.2.1,k.2.2.2])
 omega
theorem zVD {x y:Eid}(h:x.less y=true):x.c<=y.c:=by
 rw[zEQ] at h;omega
theorem zNM {x y:Eid}(h:x.c<y.c):x.less y=true:=by
 rw[zEQ];omega
def ahd:List Eid->List Eid->Prop
 | [],[]=>False
 | [],_::_=>True
 | _::_,[]=>False
 | a::p,b::q=>b.less a=true∨(a=b/\ahd p q)
theorem zHC:∀ p:List Eid,¬ahd p p
 | []=>fun h=>h
 | a::p=>fun h=>by
  rcases h with h | ⟨_,h⟩
  ·rw[zM4] at h;cases h
  ·exact zHC p h
theorem zF5:∀ {p q r:List Eid},ahd p q->ahd q r->ahd p r
 | [],[],_=>fun h _=>h.elim
 | [],_::_,[]=>fun _ h=>h.elim
 | [],_::_,_::_=>fun _ _=>trivial
 | _::_,[],_=>fun h _=>h.elim
 | _::_,_::_,[]=>fun _ h=>h.elim
 | a::p,b::q,c::r=>fun h1 h2=>by
  rcases h1 with h1 | ⟨rfl,h1⟩ <;> rcases h2 with h2 | ⟨rfl,h2⟩
  ·exact .inl (zKJ h2 h1)
  ·exact .inl h1
  ·exact .inl h2
  ·exact .inr ⟨rfl,zF5 h1 h2⟩
theorem zF4 (p:List Eid)(x:Eid)(q:List Eid):ahd p (p++x::q):=by
 induction p with
 | nil=>trivial
 | cons a p ih=>exact .inr ⟨rfl,ih⟩
theorem zN1 (p:List Eid){a b:Eid}(q r:List Eid)(h:b.less a=true):ahd (p++a::q) (p++b::r):=by
 induction p with
 | nil=>exact .inl h
 | cons a p ih=>exact .inr ⟨rfl,ih⟩
theorem zL2:∀ {p q:List Eid},ahd p q->(∃ x r,q=p++x::r) ∨ ∃ c a b s t,p=c++a::s/\q=c++b::t/\b.less a=true
 | [],[]=>fun h=>h.elim
 | [],x::r=>fun _ => .inl ⟨x,r,rfl⟩
 | _::_,[]=>fun h=>h.elim
 | a::p,b::q=>fun h=>by
  rcases h with h | ⟨rfl,h⟩
  ·exact .inr ⟨[],a,b,p,q,rfl,rfl,h⟩
  ·rcases zL2 h with⟨x,r,rfl⟩ | ⟨c,x,y,s,t,rfl,rfl,k⟩
   ·exact .inl ⟨x,r,rfl⟩
   ·exact .inr ⟨a::c,x,y,s,t,rfl,rfl,k⟩
inductive Pth (E:List El):Eid->List Eid->Prop
 | root {x:El}:x∈E->x.af=Eid.z->Pth E x.id [x.id]
 | step {x:El} {p:List Eid}:x∈E->Pth E x.af p->Pth E x.id (p++[x.id])
theorem Pth.mono {E F:List El}(h:∀ x∈E,x∈F){x:Eid}{p:List Eid}(k:Pth E x p):Pth F x p:=by
 induction k with
 | root m e=>exact .root (h _ m) e
 | step m _ ih=>exact .step (h _ m) ih
theorem Pth.mem {E:List El}{x:Eid}{p:List Eid}(k:Pth E x p):∃ e∈E,e.id=x:=by
 cases k with
 | root m _=>exact⟨_,m,rfl⟩
 | step m _=>exact⟨_,m,rfl⟩
theorem Pth.last {E:List El}{x:Eid}{p:List Eid}(k:Pth E x p):∃ q,p=q++[x]:=by
 cases k with
 | root m _=>exact⟨[],rfl⟩
 | step m _=>exact⟨_,rfl⟩
theorem Pth.pre {E:List El}{x:Eid}{p:List Eid}(k:Pth E x p):∀ {q y r},p=q++y::r->Pth E y (q++[y]):=by
 induction k with
 | root m e =>
  intro q y r h
  cases q with
  | nil=>cases h;exact .root m e
  | cons a q=>simp at h
 | @step x p m kp ih =>
  intro q y r h
  rcases List.eq_nil_or_concat r with rfl | ⟨r',b,rfl⟩
  ·have h2:=List.append_inj' h rfl
   rw[<- h2.1]
   injection h2.2 with h3
   rw[<- h3]
   exact .step m kp
  ·have h':p++[x.id]=(q++y::r')++[b]:=by rw[h];simp
   exact ih (List.append_inj' h' rfl).1
structure Set1 (E:List El):Prop where
 nd:(E.map (·.id)).Nodup
 ct:∀ x∈E,x.af.c<x.id.c/\0<x.id.c
 rt:∀ x∈E,x.af=Eid.z ∨ ∃ y∈E,y.id=x.af
theorem zVK {E:List El}(h:(E.map (·.id)).Nodup){x y:El}(hx:x∈E)(hy:y∈E)(e:x.id=y.id):x=y:=by
 induction E with
 | nil=>cases hx
 | cons a E ih =>
  rw[List.map_cons,List.nodup_cons] at h
  rcases List.mem_cons.1 hx with rfl | hx' <;> rcases List.mem_cons.1 hy with rfl | hy'
  ·rfl
  ·exact absurd (List.mem_map.2 ⟨y,hy',e.symm⟩) h.1
  ·exact absurd (List.mem_map.2 ⟨x,hx',e⟩) h.1
  ·exact ih h.2 hx' hy'
theorem Pth.nz {E:List El}(h:∀ x∈E,0<x.id.c){x:Eid}{p:List Eid}(k:Pth E x p):x≠Eid.z:=by
 obtain⟨e,he,rfl⟩:=k.mem
 intro hz
 have:=h e he
 rw[hz] at this
 exact absurd this (by decide)
theorem Pth.fn {E:List El}(h:Set1 E){x:Eid}{p:List Eid}(k:Pth E x p):∀ {q},Pth E x q->p=q:=by
 have hz:=fun x hx=>(h.ct x hx).2
 induction k with
 | @root x m e =>
  intro q k'
  generalize hx:x.id=i at k'
  cases k' with
  | root m' e'=>rfl
  | @step x' p' m' kp' =>
   have:=zVK h.nd m m' hx
   subst this
   exact absurd e (kp'.nz hz)
 | @step x p m kp ih =>
  intro q k'
  generalize hx:x.id=i at k'
  cases k' with
  | @root x' m' e' =>
   have:=zVK h.nd m m' hx
   subst this
   exact absurd e' (kp.nz hz)
  | @step x' p' m' kp' =>
   have:=zVK h.nd m m' hx
   subst this
   rw[ih kp']
theorem Pth.ex {E:List El}(h:Set1 E):∀ (n:Nat) (x:El),x∈E->x.id.c<=n -> ∃ p,Pth E x.id p
 | 0,x,hx,hn=>absurd (h.ct x hx).2 (by omega)
 | n+1,x,hx,hn=>by
  rcases h.rt x hx with e | ⟨y,hy,e⟩
  ·exact⟨_,.root hx e⟩
  ·have hc:=h.ct x hx
   obtain⟨p,hp⟩:=Pth.ex h n y hy (by rw[e];omega)
   rw[e] at hp
   exact⟨_,.step hx hp⟩
theorem Set1.path {E:List El}(h:Set1 E){x:El}(hx:x∈E):∃ p,Pth E x.id p:=Pth.ex h x.id.c.toNat x hx (by have:=h.ct x hx;omega)
theorem Pth.grow {E:List El}(h:∀ x∈E,x.af.c<x.id.c){x:Eid}{p:List Eid}(k:Pth E x p):∀ y∈p,y.c<=x.c:=by
 induction k with
 | root m e=>intro y hy;rw[List.mem_singleton] at hy;subst hy;exact Int.le_refl _
 | @step x p m kp ih =>
  intro y hy
  rcases List.mem_append.1 hy with hy | hy
  ·have:=ih y hy
   have:=h _ m
   omega
  ·rw[List.mem_singleton] at hy;subst hy;exact Int.le_refl _
def Ah (E:List El)(x y:El):Prop:=∃ p q,Pth E x.id p/\Pth E y.id q/\ahd p q
theorem Ah.irr {E:List El}(h:Set1 E)(x:El):¬Ah E x x:=fun⟨p,q,hp,hq,k⟩=>by
 rw[hp.fn h hq] at k
 exact zHC _ k
theorem Ah.trans {E:List El}(h:Set1 E){x y z:El}(h1:Ah E x y)(h2:Ah E y z):Ah E x z:=by
 obtain⟨p,q,hp,hq,k⟩:=h1
 obtain⟨q',r,hq',hr,k'⟩:=h2
 rw[hq'.fn h hq] at k'
 exact⟨p,r,hp,hr,zF5 k k'⟩
theorem Ah.mono {E F:List El}(h:∀ x∈E,x∈F){x y:El}(k:Ah E x y):Ah F x y:=by
 obtain⟨p,q,hp,hq,k⟩:=k
 exact⟨p,q,hp.mono h,hq.mono h,k⟩
structure Txt (E:List El):Prop where
 s1:Set1 E
 pw:E.Pairwise (Ah E)
theorem zhQ {α:Type}{R:α->α->Prop}:∀ {l m:List α},(∀ x y,R x y -> ¬R y x)->l.Pairwise R->m.Pairwise R->(∀ x,x∈l↔x∈m)->l=m
 | [],[],_,_,_,_=>rfl
 | [],b::m,_,_,_,h=>absurd ((h b).2 List.mem_cons_self) (by simp)
 | a::l,[],_,_,_,h=>absurd ((h a).1 List.mem_cons_self) (by simp)
 | a::l,b::m,hR,hl,hm,h=>by
  have hl':=List.pairwise_cons.1 hl
  have hm':=List.pairwise_cons.1 hm
  have e:a=b:=by
   rcases List.mem_cons.1 ((h a).1 List.mem_cons_self) with e | ha
   ·exact e
   ·rcases List.mem_cons.1 ((h b).2 List.mem_cons_self) with e | hb
    ·exact e.symm
    ·exact absurd (hm'.1 a ha) (hR _ _ (hl'.1 b hb))
  subst e
  rw[zhQ hR hl'.2 hm'.2 fun x=>?_]
  have na:a ∉ l:=fun k=>(hR _ _ (hl'.1 a k)) (hl'.1 a k)
  have nb:a ∉ m:=fun k=>(hR _ _ (hm'.1 a k)) (hm'.1 a k)
  have hx:=h x
  simp only[List.mem_cons] at hx
  by_cases k:x=a
  ·subst k;exact⟨fun k=>absurd k na,fun k=>absurd k nb⟩
  ·simpa [k] using hx
theorem Txt.eq {E F:List El}(hE:Txt E)(hF:Txt F)(h:∀ x,x∈E↔x∈F):E=F:=by
 refine zhQ (R:=Ah E) (fun x y h1 h2=>Ah.irr hE.s1 x (Ah.trans hE.s1 h1 h2)) hE.pw (hF.pw.imp fun k=>k.mono fun x=>(h x).2) h
theorem Txt.nil:Txt []:=⟨⟨List.nodup_nil,fun _ h=>absurd h (by simp),fun _ h=>absurd h (by simp)⟩,.nil⟩
theorem Txt.filter {E:List El}(hE:Txt E)(f:El->Bool)(hf:∀ x∈E,∀ y∈E,f x=true->y.id=x.af->f y=true):Txt (E.filter f):=by
 have hs:Set1 (E.filter f):=by
  refine⟨?_,fun x hx=>hE.s1.ct x (List.mem_filter.1 hx).1,fun x hx=>?_⟩
  ·exact(hE.s1.nd.sublist (List.Sublist.map _ List.filter_sublist))
  ·obtain⟨h1,h2⟩:=List.mem_filter.1 hx
   rcases hE.s1.rt x h1 with e | ⟨y,hy,e⟩
   ·exact .inl e
   ·exact .inr ⟨y,List.mem_filter.2 ⟨hy,hf x h1 y hy h2 e⟩,e⟩
 refine⟨hs, ?_⟩
 have h1:=hE.pw.sublist (List.filter_sublist (p:=f))
 refine List.Pairwise.imp_of_mem (fun {a b} ha hb k=>?_) h1
 obtain⟨p,q,hp,hq,k⟩:=k
 obtain⟨p',hp'⟩:=hs.path ha
 obtain⟨q',hq'⟩:=hs.path hb
 rw[(hp'.mono fun x hx=>(List.mem_filter.1 hx).1).fn hE.s1 hp] at hp'
 rw[(hq'.mono fun x hx=>(List.mem_filter.1 hx).1).fn hE.s1 hq] at hq'
 exact⟨p,q,hp',hq',k⟩
theorem zTF (p:List Eid):¬ahd p []:=by
 cases p <;> exact fun h=>h
theorem zDY {α:Type}(l:List α):l=[] ∨ ∃ q b,l=q++[b]:=by
 rcases List.eq_nil_or_concat l with h | ⟨q,b,h⟩
 ·exact .inl h
 ·exact .inr ⟨q,b,by rw[h,List.concat_eq_append]⟩
def popT (af:Eid):List Eid->Eid->Eid × List Eid
 | [],el=>(el,[])
 | t::s,el=>if t=af then (el,t::s) else popT af s t
def ordS (x:Eid × Eid)(s seen:List Eid):Bool:=!((decide ((popT x.2 s Eid.z).2=[]) && !decide (x.2=Eid.z)) || (!decide ((popT x.2 s Eid.z).1=Eid.z) && !x.1.less (popT x.2 s Eid.z).1) || decide (x.1∈seen))
def stk (l:List (Eid × Eid)):List Eid:=l.foldl (fun s x=>x.1::(popT x.2 s Eid.z).2) []
theorem zES (l:List (Eid × Eid))(x:Eid × Eid):stk (l++[x])=x.1::(popT x.2 (stk l) Eid.z).2:=by simp [stk]
def Ord (l:List (Eid × Eid)):Prop:=∀ pre x post,l=pre++x::post->ordS x (stk pre) (pre.map (·.1))=true
theorem Ord.nil:Ord []:=fun pre x post h=>absurd h (by simp)
theorem Ord.pre {l m:List (Eid × Eid)}(h:Ord (l++m)):Ord l:=fun pre x post e=>h pre x (post++m) (by rw[e];simp)
theorem Ord.snoc {l:List (Eid × Eid)}{x:Eid × Eid}(h:Ord l)(k:ordS x (stk l) (l.map (·.1))=true):Ord (l++[x]):=by
 intro pre y post e
 rcases zDY post with rfl | ⟨q,b,rfl⟩
 ·have:=List.append_inj' e rfl
  obtain⟨rfl,h2⟩:=this
  injection h2 with h2
  subst h2
  exact k
 ·have e':l++[x]=(pre++y::q)++[b]:=by rw[e];simp
  exact h pre y q (List.append_inj' e' rfl).1
theorem zJK {af:Eid}:∀ {m:List Eid} {q:List Eid} {el:Eid},(∀ t∈m,t≠af)->(q=[] ∨ ∃ t,q=af::t)->popT af (m++q) el=(m.getLast?.getD el,q)
 | [],q,el,_,hq=>by
  rcases hq with rfl | ⟨t,rfl⟩
  ·rfl
  ·show popT af (af::t) el=_
   rw[popT,if_pos rfl];rfl
 | a::m,q,el,hm,hq=>by
  rw[List.cons_append,popT,if_neg (hm a List.mem_cons_self),zJK (fun t ht=>hm t (List.mem_cons_of_mem _ ht)) hq]
  cases m with
  | nil=>rfl
  | cons b m=>simp [List.getLast?_cons]
theorem zbU (af:Eid):∀ s:List Eid,∃ m q,s=m++q/\(∀ t∈m,t≠af)/\(q=[] ∨ ∃ t,q=af::t)
 | []=>⟨[],[],rfl,(fun _ h=>absurd h (by simp)),.inl rfl⟩
 | a::s=>by
  by_cases h:a=af
  ·subst h
   exact⟨[],a::s,rfl,(fun _ h=>absurd h (by simp)),.inr ⟨s,rfl⟩⟩
  ·obtain⟨m,q,rfl,hm,hq⟩:=zbU af s
   exact⟨a::m,q,rfl,fun t ht=>(List.mem_cons.1 ht).elim (fun e=>e ▸ h) (hm t),hq⟩
def prs (E:List El):List (Eid × Eid):=E.map fun x=>(x.id,x.af)
theorem zW7 (E:List El):(prs E).map (·.1)=E.map (·.id):=by simp [prs]
theorem Txt.ins {A R B:List El}(h:Txt (A++B))(hs:Set1 (A++R++B))(h1:∀ a∈A,∀ r∈R,Ah (A++R++B) a r)(h2:R.Pairwise (Ah (A++R++B)))(h3:∀ r∈R,∀ b∈B,Ah (A++R++B) r b):Txt (A++R++B):=by
 refine⟨hs, ?_⟩
 have hm:∀ x∈A++B,x∈A++R++B:=fun x hx=>by
  rcases List.mem_append.1 hx with h | h
  ·exact List.mem_append.2 (.inl (List.mem_append.2 (.inl h)))
  ·exact List.mem_append.2 (.inr h)
 have hp:=h.pw.imp (fun k=>Ah.mono hm k)
 obtain⟨pA,pB,pAB⟩:=List.pairwise_append.1 hp
 refine List.pairwise_append.2 ⟨List.pairwise_append.2 ⟨pA,h2,h1⟩,pB,fun a ha b hb=>?_⟩
 rcases List.mem_append.1 ha with ha | ha
 ·exact pAB a ha b hb
 ·exact h3 a ha b hb
def Stk (E:List El)(s:List Eid):Prop:=(E=[]/\s=[]) ∨ ∃ E' y,E=E'++[y]/\Pth E y.id s.reverse
theorem zD5 {α:Type}{P:List α->Prop}(h0:P [])(h1:∀ l x,P l->P (l++[x]))(l:List α):P l:=by
 suffices h:∀ n (l:List α),l.length=n->P l from h _ l rfl
 intro n
 induction n with
 | zero=>intro l hl;rw[List.eq_nil_of_length_eq_zero hl];exact h0
 | succ n ih =>
  intro l hl
  rcases zDY l with rfl | ⟨q,b,rfl⟩
  ·exact h0
  ·exact h1 q b (ih q (by simpa using hl))
theorem Stk.pos {E:List El}{s:List Eid}(hs:Set1 E)(h:Stk E s):∀ t∈s,t≠Eid.z:=by
 rcases h with⟨_,rfl⟩ | ⟨E',y,rfl,hp⟩
 ·exact fun _ h=>absurd h (by simp)
 ·intro t ht
  obtain⟨q,r,e⟩:=List.append_of_mem (List.mem_reverse.2 ht)
  exact(hp.pre e).nz fun x hx=>(hs.ct x hx).2
theorem zdZ (E:List El):(∀ x∈E,x.af.c<x.id.c/\0<x.id.c)->Ord (prs E)->Txt E/\Stk E (stk (prs E)):=by
 refine zD5 (P:=fun E=>(∀ x∈E,x.af.c<x.id.c/\0<x.id.c)->Ord (prs E)->Txt E/\Stk E (stk (prs E))) (fun _ _=>⟨Txt.nil,.inl ⟨rfl,rfl⟩⟩) (fun E x ih hc ho=>?_) E
 have he:prs (E++[x])=prs E++[(x.id,x.af)]:=by simp [prs]
 rw[he] at ho ⊢
 obtain⟨hT,hS⟩:=ih (fun y hy=>hc y (List.mem_append_left _ hy)) ho.pre
 have hx:=hc x (List.mem_append_right _ List.mem_cons_self)
 have hst:=ho (prs E) (x.id,x.af) [] rfl
 obtain⟨m,q,hmq,hm,hq⟩:=zbU x.af (stk (prs E))
 have hpe:=zJK (el:=Eid.z) hm hq
 rw[<- hmq] at hpe
 unfold ordS at hst
 rw[hpe,zW7] at hst
 simp only[Bool.not_eq_true',Bool.or_eq_false_iff,Bool.and_eq_false_iff,Bool.not_eq_false',decide_eq_false_iff_not,decide_eq_true_eq] at hst
 obtain⟨⟨h1,h2⟩,h3⟩:=hst
 rw[zES,hpe]
 have hmem:∀ y∈E,y∈E++[x]:=fun y hy=>List.mem_append_left _ hy
 have hxm:x∈E++[x]:=List.mem_append_right _ List.mem_cons_self
 have hpos:=hS.pos hT.s1
 -- the path of the new one
 have hrt:x.af=Eid.z ∨ ∃ y∈E,y.id=x.af:=by
  rcases hq with rfl | ⟨t,rfl⟩
  ·rcases h1 with h1 | h1
   ·exact absurd rfl h1
   ·exact .inl h1
  ·rcases hS with⟨_,h⟩ | ⟨E',y,rfl,hp⟩
   ·rw[h] at hmq
    exact absurd hmq.symm (by simp)
   ·rw[hmq] at hp
    exact .inr (hp.pre (q:=t.reverse) (y:=x.af) (r:=m.reverse) (by simp)).mem
 have hs1:Set1 (E++[x]):=by
  refine⟨?_,hc,fun y hy=>?_⟩
  ·rw[List.map_append,List.nodup_append]
   refine⟨hT.s1.nd,by simp,fun a ha b hb e=>?_⟩
   simp at hb
   subst hb
   subst e
   exact h3 ha
  ·rcases List.mem_append.1 hy with hy | hy
   ·rcases hT.s1.rt y hy with e | ⟨w,hw,e⟩
    ·exact .inl e
    ·exact .inr ⟨w,hmem w hw,e⟩
   ·rw[List.mem_singleton] at hy;subst hy
    rcases hrt with e | ⟨w,hw,e⟩
    ·exact .inl e
    ·exact .inr ⟨w,hmem w hw,e⟩
 have hpx:Pth (E++[x]) x.id (x.id::q).reverse:=by
  rcases hq with rfl | ⟨t,rfl⟩
  ·rcases h1 with h1 | h1
   ·exact absurd rfl h1
   ·exact .root hxm h1
  ·rcases hS with⟨_,h⟩ | ⟨E',y,rfl,hp⟩
   ·rw[h] at hmq
    exact absurd hmq.symm (by simp)
   ·rw[hmq] at hp
    have:=hp.pre (q:=t.reverse) (y:=x.af) (r:=m.reverse) (by simp)
    have:=Pth.step hxm (this.mono hmem)
    simpa using this
 refine⟨?_,.inr ⟨E,x,rfl,hpx⟩⟩
 have hT':Txt (E++[]):=by rw[List.append_nil];exact hT
 have:=hT'.ins (R:=[x]) (by rw[List.append_nil];exact hs1) (fun a ha r hr=>?_) (List.pairwise_singleton _ _) (fun r hr b hb=>absurd hb (by simp))
 ·rwa [List.append_nil] at this
 ·rw[List.mem_singleton] at hr;subst hr
  rw[List.append_nil]
  rcases hS with⟨rfl,h⟩ | ⟨E',y,rfl,hp⟩
  ·exact absurd ha (by simp)
  ·have hyx:Ah (E'++[y]++[r]) y r:=by
    refine⟨_,_,hp.mono hmem,hpx, ?_⟩
    rw[hmq,List.reverse_append,List.reverse_cons]
    rcases zDY m with rfl | ⟨m',e,rfl⟩
    ·rw[List.reverse_nil,List.append_nil];exact zF4 _ _ _
    ·rw[List.reverse_append]
     have hle:(m'++[e]).getLast?.getD Eid.z=e:=by simp
     rw[hle] at h2
     have hez:e≠Eid.z:=hpos e (by rw[hmq];simp)
     rcases h2 with h2 | h2
     ·exact absurd h2 hez
     ·exact zN1 _ _ _ h2
   rcases List.mem_append.1 ha with ha | ha
   ·have:=(List.pairwise_append.1 hT.pw).2.2 a ha y List.mem_cons_self
    exact(this.mono hmem).trans hs1 hyx
   ·rw[List.mem_singleton] at ha;subst ha;exact hyx
theorem zIH:∀ {c p q:List Eid},ahd (c++p) (c++q)->ahd p q
 | [],_,_,h=>h
 | a::c,p,q,h=>by
  rcases h with h | ⟨_,h⟩
  ·rw[zM4] at h;cases h
  ·exact zIH h
theorem Txt.pre {E:List El}{x:El}(h:Txt (E++[x])):Txt E:=by
 have hmem:∀ y∈E,y∈E++[x]:=fun y hy=>List.mem_append_left _ hy
 have hxm:x∈E++[x]:=List.mem_append_right _ List.mem_cons_self
 have hp:=List.pairwise_append.1 h.pw
 have hcl:∀ y∈E,y.af≠x.id:=fun y hy e=>by
  have h1:=hp.2.2 y hy x List.mem_cons_self
  obtain⟨p,hpx⟩:=h.s1.path hxm
  have hpx':=hpx
  rw[<- e] at hpx'
  have h2:Ah (E++[x]) x y:=⟨_,_,hpx,.step (hmem y hy) hpx',zF4 _ _ _⟩
  exact Ah.irr h.s1 x (h2.trans h.s1 h1)
 have hs:Set1 E:=by
  refine⟨?_,fun y hy=>h.s1.ct y (hmem y hy),fun y hy=>?_⟩
  ·have:=h.s1.nd
   rw[List.map_append,List.nodup_append] at this
   exact this.1
  ·rcases h.s1.rt y (hmem y hy) with e | ⟨w,hw,e⟩
   ·exact .inl e
   ·rcases List.mem_append.1 hw with hw | hw
    ·exact .inr ⟨w,hw,e⟩
    ·rw[List.mem_singleton] at hw;subst hw
     exact absurd e.symm (hcl y hy)
 refine⟨hs,List.Pairwise.imp_of_mem (fun {a b} ha hb k=>?_) hp.1⟩
 obtain⟨p,q,k1,k2,k⟩:=k
 obtain⟨p',hp'⟩:=hs.path ha
 obtain⟨q',hq'⟩:=hs.path hb
 rw[(hp'.mono hmem).fn h.s1 k1] at hp'
 rw[(hq'.mono hmem).fn h.s1 k2] at hq'
 exact⟨p,q,hp',hq',k⟩
theorem zeU (E:List El):Txt E->Ord (prs E)/\Stk E (stk (prs E)):=by
 refine zD5 (P:=fun E=>Txt E->Ord (prs E)/\Stk E (stk (prs E))) (fun _=>⟨Ord.nil,.inl ⟨rfl,rfl⟩⟩) (fun E x ih hT=>?_) E
 have he:prs (E++[x])=prs E++[(x.id,x.af)]:=by simp [prs]
 rw[he]
 have hE:=hT.pre
 obtain⟨hO,hS⟩:=ih hE
 have hmem:∀ y∈E,y∈E++[x]:=fun y hy=>List.mem_append_left _ hy
 have hxm:x∈E++[x]:=List.mem_append_right _ List.mem_cons_self
 have hpos:=hS.pos hE.s1
 have hps:=List.pairwise_append.1 hT.pw
 have hnx:x.id ∉ E.map (·.id):=by
  have:=hT.s1.nd
  rw[List.map_append,List.nodup_append] at this
  exact fun k=>this.2.2 _ k x.id (by simp) rfl
 have key:∃ m q,stk (prs E)=m++q/\(∀ t∈m,t≠x.af)/\((q=[]/\x.af=Eid.z) ∨ ∃ t,q=x.af::t)/\(m=[]∨x.id.less (m.getLast?.getD Eid.z)=true)/\Pth (E++[x]) x.id (q.reverse++[x.id]):=by
  rcases hT.s1.rt x hxm with e | ⟨w,hw,e⟩
  ·refine⟨stk (prs E),[],by simp,fun t ht=>e ▸ hpos t ht,.inl ⟨rfl,e⟩, ?_,.root hxm e⟩
   rcases hS with⟨rfl,h⟩ | ⟨E',y,rfl,hp⟩
   ·exact .inl h
   ·right
    obtain⟨p,q,k1,k2,k⟩:=hps.2.2 y (List.mem_append_right _ List.mem_cons_self) x List.mem_cons_self
    rw[(hp.mono hmem).fn hT.s1 k1 |>.symm,k2.fn hT.s1 (.root hxm e)] at k
    generalize stk (prs (E'++[y]))=s at *
    rcases zDY s with rfl | ⟨s',a,rfl⟩
    ·obtain⟨z,hz⟩:=hp.last
     exact absurd hz (by simp)
    ·rw[List.reverse_append] at k
     simp only[List.reverse_cons,List.reverse_nil,List.nil_append,List.singleton_append] at k
     rcases k with k | ⟨_,k⟩
     ·simpa using k
     ·exact absurd k (zTF _)
  ·have hwE:w∈E:=by
    rcases List.mem_append.1 hw with h | h
    ·exact h
    ·rw[List.mem_singleton] at h;subst h
     have:=hT.s1.ct w hxm
     rw[e] at this
     omega
   obtain⟨pw,hpw⟩:=hT.s1.path hw
   have hpx:Pth (E++[x]) x.id (pw++[x.id]):=.step hxm (e ▸ hpw)
   rcases hS with⟨rfl,h⟩ | ⟨E',y,rfl,hp⟩
   ·exact absurd hwE (by simp)
   ·have hyx:=hps.2.2 y (List.mem_append_right _ List.mem_cons_self) x List.mem_cons_self
    obtain⟨p,q,k1,k2,k⟩:=hyx
    rw[(hp.mono hmem).fn hT.s1 k1 |>.symm,k2.fn hT.s1 hpx] at k
    have hpm:=hp.mono hmem
    generalize hsp:stk (prs (E'++[y]))=s at *
    have hpre:∃ r,s.reverse=pw++r:=by
     rcases List.mem_append.1 hwE with h | h
     ·obtain⟨p',q',j1,j2,j⟩:=(List.pairwise_append.1 hE.pw).2.2 w h y List.mem_cons_self
      rw[(j1.mono hmem).fn hT.s1 hpw,(j2.mono hmem).fn hT.s1 hpm] at j
      rcases zL2 j with⟨b,r,e2⟩ | ⟨c,a,b,s1,t1,e1,e2,hl⟩
      ·exact⟨_,e2⟩
      ·rw[e1,e2,List.append_assoc] at k
       have k:=zIH k
       rcases k with k | ⟨k,_⟩
       ·rw[zVC hl] at k;cases k
       ·rw[k,zM4] at hl;cases hl
     ·rw[List.mem_singleton] at h;subst h
      exact⟨[],by rw[hpm.fn hT.s1 hpw];simp⟩
    obtain⟨r,hr⟩:=hpre
    obtain⟨p0,hp0⟩:=hpw.last
    rw[e] at hp0
    have hs:s=r.reverse++pw.reverse:=by rw[<- List.reverse_append,<- hr,List.reverse_reverse]
    refine⟨r.reverse,pw.reverse,hs,fun t ht et=>?_,.inr ⟨p0.reverse,by rw[hp0];simp⟩, ?_,by rw[List.reverse_reverse];exact hpx⟩
    ·subst et
     obtain⟨a1,b1,e1⟩:=List.append_of_mem (List.mem_reverse.1 ht)
     have g1:=hpm.pre (q:=p0) (y:=x.af) (r:=r) (by rw[hr,hp0];simp)
     have g2:=hpm.pre (q:=pw++a1) (y:=x.af) (r:=b1) (by rw[hr,e1];simp)
     have g3:=congrArg List.length (g1.fn hT.s1 g2)
     rw[hp0] at g3
     simp at g3
    ·rw[hr] at k
     cases r with
     | nil=>exact .inl rfl
     | cons a r =>
      right
      have k:=zIH k
      rcases k with k | ⟨_,k⟩
      ·simpa using k
      ·exact absurd k (zTF _)
 obtain⟨m,q,hmq,hm,hq,hl,hp⟩:=key
 have hpe:=zJK (el:=Eid.z) (q:=q) hm (hq.elim (fun h => .inl h.1) .inr)
 rw[<- hmq] at hpe
 refine⟨hO.snoc ?_, ?_⟩
 ·unfold ordS
  rw[hpe,zW7]
  simp only[Bool.not_eq_true',Bool.or_eq_false_iff,Bool.and_eq_false_iff,Bool.not_eq_false',decide_eq_false_iff_not,decide_eq_true_eq]
  refine⟨⟨?_, ?_⟩,hnx⟩
  ·rcases hq with⟨_,h⟩ | ⟨t,rfl⟩
   ·exact .inr h
   ·exact .inl (by simp)
  ·rcases hl with rfl | h
   ·exact .inl rfl
   ·exact .inr h
 ·rw[zES,hpe]
  exact .inr ⟨E,x,rfl,by simpa using hp⟩
theorem zW0 {E:List El}(h:∀ x∈E,x.af.c<x.id.c/\0<x.id.c):Ord (prs E)↔Txt E:=⟨fun k=>(zdZ E h k).1,fun k=>(zeU E k).1⟩
def Chn:Eid->List El->Prop
 | _,[]=>True
 | a,x::R=>x.af=a/\a.c<x.id.c/\Chn x.id R
theorem Chn.path {F:List El}:∀ {R:List El} {a:Eid} {p:List Eid},Chn a R->(∀ x∈R,x∈F)->((a=Eid.z/\p=[])∨Pth F a p) -> ∀ x∈R,∃ q,Pth F x.id (p++q) /\ ∀ y R',R=y::R' -> ∃ q',q=y.id::q'
 | [],_,_,_,_,_=>fun x hx=>absurd hx (by simp)
 | y::R,a,p,hC,hm,ha=>by
  intro x hx
  obtain⟨h1,h2,h3⟩:=hC
  have hy:Pth F y.id (p++[y.id]):=by
   exact zB0q
  rcases List.mem_cons.1 hx with rfl | hx
  ·exact⟨[x.id],hy,fun y' R' e=>by injection e with e1 e2;subst e1;exact⟨[],rfl⟩⟩
  ·obtain⟨q,hq,_⟩:=Chn.path h3 (fun x hx=>hm x (List.mem_cons_of_mem _ hx)) (.inr hy) x hx
   rw[List.append_assoc] at hq
   exact⟨_,hq,fun y' R' e=>by injection e with e1 e2;subst e1;exact⟨q,rfl⟩⟩
theorem Chn.pw {F:List El}:∀ {R:List El} {a:Eid} {p:List Eid},Chn a R->(∀ x∈R,x∈F)->((a=Eid.z/\p=[])∨Pth F a p)->R.Pairwise (Ah F)
 | [],_,_,_,_,_ => .nil
 | y::R,a,p,hC,hm,ha=>by
  obtain⟨h1,h2,h3⟩:=hC
  have hy:Pth F y.id (p++[y.id]):=by
   exact zB0q
  refine List.pairwise_cons.2 ⟨fun x hx=>?_,Chn.pw h3 (fun x hx=>hm x (List.mem_cons_of_mem _ hx)) (.inr hy)⟩
  obtain⟨q,hq,hh⟩:=Chn.path h3 (fun x hx=>hm x (List.mem_cons_of_mem _ hx)) (.inr hy) x hx
  cases R with
  | nil=>exact absurd hx (by simp)
  | cons w R =>
   obtain⟨q',rfl⟩:=hh w R rfl
   exact⟨_,_,hy,hq,zF4 _ _ _⟩
theorem Chn.grow:∀ {R:List El} {a:Eid},Chn a R -> ∀ x∈R,a.c<x.id.c
 | [],_,_=>fun x hx=>absurd hx (by simp)
 | y::R,a,hC=>fun x hx=>by
  obtain⟨h1,h2,h3⟩:=hC
  rcases List.mem_cons.1 hx with rfl | hx
  ·exact h2
  ·have:=h3.grow x hx
   omega
theorem Chn.ct:∀ {R:List El} {a:Eid},Chn a R->0<=a.c -> ∀ x∈R,x.af.c<x.id.c/\0<x.id.c
 | [],_,_,_=>fun x hx=>absurd hx (by simp)
 | y::R,a,hC,ha=>fun x hx=>by
  obtain⟨h1,h2,h3⟩:=hC
  rcases List.mem_cons.1 hx with rfl | hx
  ·rw[h1];omega
  ·exact h3.ct (by omega) x hx
theorem Chn.rt:∀ {R:List El} {a:Eid},Chn a R -> ∀ x∈R,x.af=a ∨ ∃ y∈R,y.id=x.af
 | [],_,_=>fun x hx=>absurd hx (by simp)
 | y::R,a,hC=>fun x hx=>by
  obtain⟨h1,h2,h3⟩:=hC
  rcases List.mem_cons.1 hx with rfl | hx
  ·exact .inl h1
  ·rcases h3.rt x hx with e | ⟨w,hw,e⟩
   ·exact .inr ⟨y,List.mem_cons_self,e.symm⟩
   ·exact .inr ⟨w,List.mem_cons_of_mem _ hw,e⟩
theorem Chn.nd:∀ {R:List El} {a:Eid},Chn a R->(R.map (·.id)).Nodup
 | [],_,_=>List.nodup_nil
 | y::R,a,hC=>by
  obtain⟨h1,h2,h3⟩:=hC
  rw[List.map_cons,List.nodup_cons]
  refine⟨fun h=>?_,h3.nd⟩
  obtain⟨x,hx,e⟩:=List.mem_map.1 h
  have:=h3.grow x hx
  rw[e] at this
  omega
theorem Txt.put {A0 A1 B R:List El}{r:El}{R':List El}(hT:Txt (A0++A1++B))(hR:R=r::R')(hC:Chn r.af R)
  (ha:(r.af=Eid.z/\A0=[]) ∨ ∃ A00 w,A0=A00++[w]/\w.id=r.af)
  (hf:∀ x∈R,∀ y∈A0++A1++B,x.id≠y.id)
  (h1:∀ x∈A1,r.id.less x.id=true)
  (h2:∀ b B',B=b::B'->r.id.less b.id=false):Txt (A0++A1++R++B):=by
 have hrc:0<=r.af.c:=by
  rcases ha with⟨h,_⟩ | ⟨A00,w,rfl,h⟩
  ·rw[h];decide
  ·have:=(hT.s1.ct w (by simp)).2
   rw[h] at this
   omega
 have hrm:r∈R:=by rw[hR];exact List.mem_cons_self
 have hm:∀ x∈A0++A1++B,x∈A0++A1++R++B:=fun x hx=>by
  rcases List.mem_append.1 hx with h | h
  ·exact List.mem_append_left _ (List.mem_append_left _ h)
  ·exact List.mem_append_right _ h
 have hmR:∀ x∈R,x∈A0++A1++R++B:=fun x hx=>List.mem_append_left _ (List.mem_append_right _ hx)
 have hs:Set1 (A0++A1++R++B):=by
  refine⟨?_,fun x hx=>?_,fun x hx=>?_⟩
  ·have hn:=hT.s1.nd
   have hd:∀ x∈R,x.id ∉ (A0++A1++B).map (·.id):=fun x hx k=>by
    obtain⟨y,hy,e⟩:=List.mem_map.1 k
    exact hf x hx y hy e.symm
   rw[List.map_append,List.nodup_append] at hn
   rw[List.map_append,List.map_append,List.nodup_append,List.nodup_append]
   refine⟨⟨hn.1,hC.nd,fun a ha b hb e=>?_⟩,hn.2.1,fun a ha b hb e=>?_⟩
   ·obtain⟨x,hx,rfl⟩:=List.mem_map.1 hb
    subst e
    exact hd x hx (by rw[List.map_append];exact List.mem_append_left _ ha)
   ·rcases List.mem_append.1 ha with ha | ha
    ·exact hn.2.2 a ha b hb e
    ·obtain⟨x,hx,rfl⟩:=List.mem_map.1 ha
     subst e
     exact hd x hx (by rw[List.map_append];exact List.mem_append_right _ hb)
  ·rcases List.mem_append.1 hx with h | h
   ·rcases List.mem_append.1 h with h | h
    ·exact hT.s1.ct x (List.mem_append_left _ h)
    ·exact hC.ct hrc x h
   ·exact hT.s1.ct x (List.mem_append_right _ h)
  ·have old:x∈A0++A1++B->x.af=Eid.z ∨ ∃ y∈A0++A1++R++B,y.id=x.af:=fun h=>by
    rcases hT.s1.rt x h with e | ⟨y,hy,e⟩
    ·exact .inl e
    ·exact .inr ⟨y,hm y hy,e⟩
   rcases List.mem_append.1 hx with h | h
   ·rcases List.mem_append.1 h with h | h
    ·exact old (List.mem_append_left _ h)
    ·rcases hC.rt x h with e | ⟨y,hy,e⟩
     ·rcases ha with⟨h7,_⟩ | ⟨A00,w,rfl,h7⟩
      ·exact .inl (e.trans h7)
      ·exact .inr ⟨w,by simp,h7.trans e.symm⟩
     ·exact .inr ⟨y,hmR y hy,e⟩
   ·exact old (List.mem_append_right _ h)
 -- the path of the one that it names
 have hpa:∃ p,((r.af=Eid.z/\p=[])∨Pth (A0++A1++R++B) r.af p)/\(∀ u∈p,u.c<=r.af.c)/\(∀ x∈A0,∀ q,Pth (A0++A1++R++B) x.id q->q=p∨ahd q p)/\(∀ x∈A1++B,∀ q,Pth (A0++A1++R++B) x.id q->ahd p q):=by
  rcases ha with⟨h,rfl⟩ | ⟨A00,w,rfl,h⟩
  ·refine⟨[],.inl ⟨h,rfl⟩,(fun _ h=>absurd h (by simp)),(fun _ h=>absurd h (by simp)),fun x hx q hq=>?_⟩
   obtain⟨q0,rfl⟩:=hq.last
   cases q0 <;> trivial
  ·have hw:w∈A00++[w]++A1++B:=by simp
   obtain⟨p,hp⟩:=hT.s1.path hw
   have hpF:=hp.mono hm
   have hpw:=hT.pw
   have hpw':(A00++([w]++(A1++B))).Pairwise (Ah (A00++[w]++A1++B)):=by simpa using hpw
   have q1:=List.pairwise_append.1 hpw'
   have q2:=List.pairwise_append.1 q1.2.1
   refine⟨p,.inr (h ▸ hpF),fun u hu=>?_,fun x hx q hq=>?_,fun x hx q hq=>?_⟩
   ·have:=hp.grow (fun x hx=>(hT.s1.ct x hx).1) u hu
    rw[h] at this
    exact this
   ·rcases List.mem_append.1 hx with hx | hx
    ·obtain⟨p1,p2,k1,k2,k⟩:=q1.2.2 x hx w (by simp)
     rw[(k1.mono hm).fn hs hq,(k2.mono hm).fn hs hpF] at k
     exact .inr k
    ·rw[List.mem_singleton] at hx;subst hx
     exact .inl (hq.fn hs hpF)
   ·obtain⟨p1,p2,k1,k2,k⟩:=q2.2.2 w (by simp) x hx
    rw[(k1.mono hm).fn hs hpF,(k2.mono hm).fn hs hq] at k
    exact k
 obtain⟨p,hp,hpc,hA0,hAB⟩:=hpa
 have hCp:=hC.path hmR hp
 have hpr:∀ x∈R,∃ q',Pth (A0++A1++R++B) x.id (p++r.id::q'):=fun x hx=>by
  obtain⟨q,hq,hh⟩:=hCp x hx
  obtain⟨q',rfl⟩:=hh r R' hR
  exact⟨q',hq⟩
 have hrl:r.af.c<r.id.c:=hC.grow r hrm
 refine hT.ins hs (fun a ha x hx=>?_) (hC.pw hmR hp) (fun x hx b hb=>?_)
 ·-- what stands ahead
  obtain⟨q',hq'⟩:=hpr x hx
  have haE:a∈A0++A1++B:=List.mem_append_left _ ha
  obtain⟨pa,hpa⟩:=hs.path (hm a haE)
  refine⟨_,_,hpa,hq', ?_⟩
  rcases List.mem_append.1 ha with ha | ha
  ·rcases hA0 a ha pa hpa with rfl | k
   ·exact zF4 _ _ _
   ·exact zF5 k (zF4 _ _ _)
  ·-- those behind it that are greater
   have mid:∀ e:Eid,∀ pe,Pth (A0++A1++R++B) e pe->ahd p pe->(pe=pa∨ahd pe pa)->(∃ y∈A0++A1++B,y.id=e)->r.id.less e=true:=by
    rintro e pe hpe k1 k2 ⟨y,hy,rfl⟩
    rcases List.mem_append.1 hy with hy | hy
    ·rcases List.mem_append.1 hy with hy | hy
     ·rcases hA0 y hy pe hpe with rfl | k
      ·exact absurd k1 (zHC _)
      ·exact absurd (zF5 k k1) (zHC _)
     ·exact h1 y hy
    ·have hAh:=(List.pairwise_append.1 hT.pw).2.2 a (List.mem_append_right _ ha) y hy
     obtain⟨p1,p2,j1,j2,j⟩:=hAh
     rw[(j1.mono hm).fn hs hpa,(j2.mono hm).fn hs hpe] at j
     rcases k2 with rfl | k2
     ·exact absurd j (zHC _)
     ·exact absurd (zF5 j k2) (zHC _)
   -- a path of a: over elements of the old ones
   obtain⟨pa',hpa'⟩:=hT.s1.path haE
   have hpaE:pa'=pa:=(hpa'.mono hm).fn hs hpa
   subst hpaE
   have k:=hAB a (List.mem_append_left _ ha) _ hpa
   rcases zL2 k with⟨e,t,he⟩ | ⟨c,u,w,s,t,e1,e2,hl⟩
   ·have hpe:=hpa'.pre he
    have hle:r.id.less e=true:=mid e _ (hpe.mono hm) (zF4 _ _ _) (by
     cases t with
     | nil=>exact .inl he.symm
     | cons b t=>rw[he];exact .inr (by have:=zF4 (p++[e]) b t;simpa using this)) hpe.mem
    rw[he]
    exact zN1 _ _ _ hle
   ·have hpe:=hpa'.pre e2
    have hle:r.id.less w=true:=mid w _ (hpe.mono hm) (by rw[e1];exact zN1 _ _ _ hl) (by
     cases t with
     | nil=>exact .inl e2.symm
     | cons b t=>rw[e2];exact .inr (by have:=zF4 (c++[w]) b t;simpa using this)) hpe.mem
    have:=zVD hle
    have:=zVD hl
    have:=hpc u (by rw[e1];simp)
    omega
 ·-- what stands behind
  obtain⟨q',hq'⟩:=hpr x hx
  cases B with
  | nil=>exact absurd hb (by simp)
  | cons b0 B' =>
   have hb0:Ah (A0++A1++R++b0::B') x b0:=by
    have hbm:b0∈A0++A1++b0::B':=by simp
    obtain⟨pb,hpb⟩:=hT.s1.path hbm
    refine⟨_,_,hq',hpb.mono hm, ?_⟩
    have k:=hAB b0 (by simp) _ (hpb.mono hm)
    have hlt:b0.id.less r.id=true:=by
     rcases zZA (hf r hrm b0 hbm) with h | h
     ·rw[h2 b0 B' rfl] at h;cases h
     ·exact h
    rcases zL2 k with⟨e,t,he⟩ | ⟨c,u,w,s,t,e1,e2,hl⟩
    ·rw[he]
     refine zN1 _ _ _ ?_
     rcases zDY t with rfl | ⟨t',z,rfl⟩
     ·obtain⟨q0,e0⟩:=hpb.last
      rw[he] at e0
      have:=(List.append_inj' e0 rfl).2
      injection this with this
      rw[this];exact hlt
     ·have hpe:=hpb.pre he
      obtain⟨q0,e0⟩:=hpb.last
      have he2:pb=(p++e::t')++[z]:=by rw[he];simp
      rw[he2] at e0
      have e3:=(List.append_inj' e0 rfl).2
      injection e3 with e3
      subst e3
      -- the one ahead of the last one of a path is lesser
      have hlast:e.c<b0.id.c:=by
       rw[he2] at hpb
       generalize hbi:b0.id=i at hpb
       generalize hpp:(p++e::t')++[i]=pp at hpb
       cases hpb with
       | root m e4=>exact absurd (congrArg List.length hpp) (by simp;omega)
       | @step x0 p0 m kp =>
        have e5:=(List.append_inj' hpp rfl).1
        have g:=kp.grow (fun x hx=>(hT.s1.ct x hx).1) e (by rw[<- e5];simp)
        have:=(hT.s1.ct x0 m).1
        omega
      have:=zVD hlt
      exact zNM (by omega)
    ·rw[e1,e2,List.append_assoc,List.cons_append]
     exact zN1 _ _ _ hl
   rcases List.mem_cons.1 hb with rfl | hb
   ·exact hb0
   ·have:=List.pairwise_cons.1 (List.pairwise_append.1 hT.pw).2.1
    exact hb0.trans hs ((this.1 b hb).mono hm)
def zNS (q r:Rn):Bool:=decide (r.af=q.last)&&decide (r.sp.f=(⟨r.af.hd,IntKind.i64.wrap (r.af.c+1)⟩:Eid))
def room (q:Rn):Int:=IntKind.i64.wrap (64 - q.sp.n)
def addR (out : List Rn) (r : Rn) : List Rn :=
  match out.getLast? with
  | none=>out ++ [r]
  | some q=>if zNS q r = true then
      (if r.cutE (room q) = 0 then out.set (out.length - 1) (zFD q (r.fst (room q))) ++ [r.snd (room q)]
       else if zI5 q r = 0 then out.set (out.length - 1) (zFD q r)
       else out ++ [r])
    else out ++ [r]
def zBU (l:List Rn):List Rn:=l.foldl addR []
theorem zNN (l:List Rn)(r:Rn):zBU (l++[r])=addR (zBU l) r:=by simp [zBU]
theorem zQ8 (out:List Rn)(r:Rn):(addR out r).length<=out.length+1:=by
 unfold addR
 split
 ·simp
 ·split
  ·split
   ·simp
   ·split <;> simp
  ·simp
theorem Rn.z_ok:Rn.z.ok:=⟨⟨Eid.z_ok,by decide,by decide⟩,Eid.z_ok,fun _ h=>by cases h⟩
theorem zGX {a b:Rn}:zI5 a b=0↔a.may=true/\b.may=true/\(a.both b).cutE a.sp.n=0/\(a.both b).fst a.sp.n=a/\(a.both b).snd a.sp.n=b:=by
 unfold zI5
 by_cases h:a.may=true/\b.may=true
 ·rw[if_pos h]
  by_cases k:(a.both b).cutE a.sp.n=0/\(a.both b).fst a.sp.n=a/\(a.both b).snd a.sp.n=b
  ·rw[if_pos k];exact⟨fun _=>⟨h.1,h.2,k⟩,fun _=>rfl⟩
  ·rw[if_neg k];exact⟨fun e=>(by cases e),fun e=>absurd e.2.2 k⟩
 ·rw[if_neg h];exact⟨fun e=>(by cases e),fun e=>absurd ⟨e.1,e.2.1⟩ h⟩
theorem zQY {a b:Rn}(ha:a.ok)(hb:b.ok):(zFD a b).ok:=by
 unfold zFD
 split
 ·rename_i h
  obtain⟨ma,mb,_⟩:=zGX.1 h
  have ba:=Spn.may_le (Rn.may_sp ma)
  have bb:=Spn.may_le (Rn.may_sp mb)
  refine⟨⟨ha.1.1, ?_⟩,ha.2.1,fun x hx=>?_⟩
  ·show i64R (a.sp.n+b.sp.n)
   unfold i64R;omega
  ·rcases List.mem_append.1 hx with h | h
   ·exact ha.2.2 x h
   ·exact hb.2.2 x h
 ·exact Rn.z_ok
theorem zNL (a b:Rn):(zFD a b).rs.length<=1000:=by
 unfold zFD
 split
 ·rename_i h
  obtain⟨ma,mb,_⟩:=zGX.1 h
  have ba:=Spn.may_le (Rn.may_sp ma)
  have bb:=Spn.may_le (Rn.may_sp mb)
  have la:=Rn.may_len ma
  have lb:=Rn.may_len mb
  show (a.rs++b.rs).length<=_
  rw[List.length_append];omega
 ·exact Nat.zero_le _
theorem zb5 {r:Rn}{n:Int}(h:r.ok)(hc:r.cutE n=0):(r.fst n).ok:=by
 obtain⟨hm,h0,h1⟩:=Rn.cutE_iff.1 hc
 have hb:=Spn.may_le (Rn.may_sp hm)
 exact⟨⟨h.1.1,by show i64R n;unfold i64R;omega⟩,h.2.1,fun x hx=>h.2.2 x (List.mem_of_mem_take hx)⟩
theorem zbX {r:Rn}{n:Int}(h:r.ok)(hc:r.cutE n=0):(r.snd n).ok:=by
 obtain⟨hm,h0,h1⟩:=Rn.cutE_iff.1 hc
 have hb:=Spn.may_le (Rn.may_sp hm)
 exact⟨⟨⟨h.1.1.1,by show i64R (r.sp.f.c+n);unfold i64R;omega⟩,by show i64R (r.sp.n - n);unfold i64R;omega⟩,⟨h.1.1.1,by show i64R (r.sp.f.c+(n - 1));unfold i64R;omega⟩,fun x hx=>h.2.2 x (List.mem_of_mem_drop hx)⟩
theorem zGZ {a:AV}{l:List Rn}(hS:Sl 10 isRn a l)(hl:l.length<=100000)(hd:∀ r∈l,r.rs.length<=1000000)(hf:l.length+3000000<fuel):∃ r,Sl 10 isRn r (zBU l) /\ ∀ M,zCN fuel (d+9) 153 [a] M=some (r,M):=by
 have ll:=hS.len
 refine zF9 tf153 rfl (fun M=>by simp only[icyL,fun M=>hS.icy M 12 (by omega)]) ?_
 refine zAD tf153 rfl (by simp only[icyL,fun M=>hS.icy M 12 (by omega)]) (by simp [a153]) fun b' ht hx=>?_
 have h0:=hx 0 _ rfl
 clear hx
 simp only[a153,c153] at ht ⊢
 simp (disch:=try exact SX) only[RV,seval,h0,ll]
 refine zBB (I:=fun n t N => ∃ (i:Nat) (o:AV),n=l.length - i/\i<=l.length/\nth zA3 t 2=o/\nth zA3 t 13=a/\nth zA3 t 14=I64 l.length/\nth zA3 t 15=I64 i/\Wf N/\SlM N 10 isRn o (zBU (l.take i))/\(zBU (l.take i)).length<=i/\(∀ q∈zBU (l.take i),q.rs.length<=1000000)) (n:=l.length) (by omega) ?_ ?_
 ·refine⟨0,NIL,rfl,Nat.zero_le _, ?_, ?_, ?_, ?_,Wf.mem0,SlM.nil,Nat.le_refl 0,(fun _ h=>by cases h)⟩ <;> simp (disch:=try exact SX) only[RV,seval]
  all_goals first | rfl | assumption | done
 ·rintro n t N hlt ⟨i,o,rfl,hi,g2,g13,g14,g15,w,sm,bl,bd⟩
  simp only[ht] at hlt ⊢
  have oo:=sm.one
  have oc:=sm.cells
  by_cases hc:i<l.length
  ·have q1:decide ((i:Int)<l.length)=true:=DT
   have w1:IntKind.i64.wrap ((i:Int)+1)=((i+1:Nat):Int):=WI
   obtain⟨r,hiad,hr,hrl⟩:=hS.iad i hc
   have hts:=zNN (l.take i) l[i]
   rw[<- zBR l i hc] at hts
   have hal:=zQ8 (zBU (l.take i)) l[i]
   have hde:=hd l[i] (List.getElem_mem hc)
   generalize l[i]=e at *
   generalize zBU (l.take i)=out at *
   obtain⟨ra,rfl,hra,hok⟩:=hr
   have ora:=hra.one
   have olen:=sm.len
   have rlo:∀ m,N.size<=m->((rowsOf o).all fun i=>Nat.blt i m)=true:=fun m h=>zB3 sm.rl h
   obtain⟨rt,hrt,htw⟩:=zJX (fuel:=fuel) (d:=d+6) hra (by omega)
   by_cases hz:out.length=0
   ·have ho:out=[]:=List.eq_nil_of_length_eq_zero hz
    subst ho
    have olen':∀ N,lenO N o=some (I64 0,N):=olen
    have w2:IntKind.i64.wrap (-1) = -1:=by decide
    have q2:decide ((0:Int) <= -1)=false:=by decide
    have eA:addR [] e=[]++[e]:=rfl
    rw[eA] at hts hal
    simp (disch:=try exact SX) only[RV,seval,zAB,g2,g13,g14,g15,q1,hiad,rlo,olen',w2,htw]
    refine app1 (bytes:=80) (x:=e) ((w.add _).upd _ _) (sm.keep fun j hj=>?_) zDH ⟨rt,rfl,hrt,hok⟩ rfl (by omega) (by simp) (by simp) fun o' M' sm' w' le' kp nw wm' rl on oc'=>?_
    ·have:=sm.lt j hj
     rw[zA0 (w.add _) _ _ _ (by omega),zAA w _ _ this]
    simp (disch:=try exact SX) only[RV,seval,g2,g13,g14,g15,w1]
    refine⟨hlt,l.length - (i+1),by omega,i+1,o',rfl,by omega,rfl,rfl,w',by rw[hts];exact sm',by rw[hts];simp,fun q hq=>?_⟩
    rw[hts] at hq
    simp at hq
    subst hq
    exact hde
   ·obtain⟨n,hn⟩:∃ n:Nat,out.length=n+1:=⟨out.length - 1,by omega⟩
    have hnl:n<out.length:=by omega
    have w2:IntKind.i64.wrap ((out.length:Int) - 1)=(n:Int):=WI
    have q2:decide ((0:Int)<=(n:Int))=true:=DT
    obtain⟨id,cs,r,hrow,lid,hg,hcs,hoad,hr2,hrl2,hpt,hgt,hpp,hset⟩:=sm.atS hnl
    have hgl:out.getLast? = some out[n]:=by rw[List.getLast?_eq_getElem?,hn,Nat.add_sub_cancel,List.getElem?_eq_getElem hnl]
    have hqd:=bd out[n] (List.getElem_mem hnl)
    have hon1:out.length - 1=n:=by omega
    unfold addR at hts hal
    rw[hgl] at hts hal
    simp only[hon1] at hts hal
    generalize out[n]=q at *
    obtain⟨rq,rfl,hrq,hqok⟩:=hr2
    have orq:=hrq.one
    have hla:=fun M=>@zZ7 fuel (d+2) q rq hrq hqok M
    have idN:id≠N.size:=by omega
    have hn10:(n:Nat)*10+10<=cs.length:=by omega
    have fin:∀ (x:Rn) (o':AV) (M':Mem),zBU (l.take (i+1))=out++[x]->x=e->SlM M' 10 isRn o' (out++[x])->Wf M'->Wf M'/\SlM M' 10 isRn o' (zBU (l.take (i+1)))/\(zBU (l.take (i+1))).length<=i+1 /\ ∀ q∈zBU (l.take (i+1)),q.rs.length<=1000000:=by
     intro x o' M' h1 h2 h3 h4
     subst h2
     rw[h1]
     refine⟨h4,h3,by simp;omega,fun q hq=>?_⟩
     rcases List.mem_append.1 hq with h | h
     ·exact bd q h
     ·rw[List.mem_singleton] at h;subst h;exact hde
    cases c1:zNS q e with
    | false =>
     rw[c1] at hts hal
     simp only[Bool.false_eq_true,if_false] at hts hal
     unfold zNS at c1
     cases c2:decide (e.af=q.last) with
     | false =>
      simp (disch:=try exact SX) only[RV,seval,zAB,g2,g13,g14,g15,q1,hiad,rlo,olen,w2,q2,htw,hoad,hg,hpt,hla,↓pIdE,zB2,ETA,c2]
      exact zB06
     | true =>
      rw[c2,Bool.true_and] at c1
      simp (disch:=try exact SX) only[RV,seval,zAB,g2,g13,g14,g15,q1,hiad,rlo,olen,w2,q2,htw,hoad,hg,hpt,hla,↓pIdE,zB2,ETA,c2,c1]
      exact zB06
    | true =>
     rw[c1] at hts hal
     simp only[if_true] at hts hal
     unfold zNS at c1
     simp only[Bool.and_eq_true] at c1
     obtain⟨c1,c2⟩:=c1
     obtain⟨v,⟨ca,cb,rfl,hca,hcb⟩,hcut⟩:=zHP (fuel:=fuel) (d:=d+1) (n:=room q) hra (by omega)
     have oca:=hca.one
     have ocb:=hcb.one
     have hpn:=hgt 4 (by omega)
     have hnx:decide (e.sp.f=(⟨e.af.hd,IntKind.i64.wrap (e.af.c+1)⟩:Eid))=true:=c2
     have wA:∀ (M:Mem) p q,Wf M->Wf ((M.add p).upd M.size q):=fun M p q h=>(h.add p).upd _ _
     have hzR:(rnR (⟨⟨Eid.z,0⟩,Eid.z,[]⟩:Rn) NIL).length=10:=rfl
     by_cases q3:e.cutE (room q)=0
     ·have q3':decide (e.cutE (room q)=0)=true:=decide_eq_true q3
      have eA:e.cutA (room q)=e.fst (room q):=by unfold Rn.cutA;rw[if_pos q3]
      have eB:e.cutB (room q)=e.snd (room q):=by unfold Rn.cutB;rw[if_pos q3]
      simp only[q3,if_true] at hts hal
      rw[eA] at hca hcut
      rw[eB] at hcb hcut
      have okA:=zb5 hok q3
      have okB:=zbX hok q3
      have lA:(e.fst (room q)).rs.length<=1000000:=by simp only[Rn.fst,List.length_take];omega
      have lB:(e.snd (room q)).rs.length<=1000000:=by simp only[Rn.snd,List.length_drop];omega
      have hjl:=zNL q (e.fst (room q))
      have hjok:=zQY hqok okA
      obtain⟨v2,⟨jr,rfl,hjr⟩,hjoin⟩:=zJW (fuel:=fuel) (d:=d) hrq hca hqok okA hqd lA (by omega)
      obtain⟨bt,hbt,hbw⟩:=zJX (fuel:=fuel) (d:=d+6) hcb (by omega)
      have ojr:=hjr.one
      generalize e.fst (room q)=eF at *
      generalize e.snd (room q)=eS at *
      generalize zFD q eF=jj at *
      unfold room at hcut q3 q3'
      clear hpp
      simp (disch:=try exact SX) only[RV,seval,zAB,g2,g13,g14,g15,q1,hiad,rlo,olen,w2,q2,hoad,hg,hpt,hla,↓pIdE,zB2,ETA,c1,hnx,hpn,hcut,q3',hjoin,hbw]
      refine app1 (bytes:=80) (x:=eS) (by simp (disch:=try exact SX) only[RV,seval,w]) (hset (rnR jj jr) jj ⟨jr,rfl,hjr,hjok⟩ rfl _ ?hgX) zDH ⟨bt,rfl,hbt,okB⟩ rfl (by omega) (by rw[List.length_set];omega) (by rw[List.length_set];omega) fun o' M' sm' w' le' kp nw wm' rl on oc'=>?mainX
      case hgX=>simp (disch:=try exact SX) only[RV,seval]
      case mainX =>
       simp (disch:=try exact SX) only[RV,seval,g2,g13,g14,g15,w1]
       refine⟨hlt,l.length - (i+1),by omega,i+1,o',rfl,by omega,rfl,rfl,w',by rw[hts];exact sm',by rw[hts];simp;omega,fun q' hq=>?_⟩
       rw[hts] at hq
       rcases List.mem_append.1 hq with h | h
       ·rcases List.mem_or_eq_of_mem_set h with h | rfl
        ·exact bd q' h
        ·omega
       ·rw[List.mem_singleton] at h;subst h;exact lB
     ·have q3':decide (e.cutE (room q)=0)=false:=decide_eq_false q3
      simp only[q3,if_false] at hts hal
      have hjl:=zNL q e
      have hjok:=zQY hqok hok
      obtain⟨v2,⟨jr,rfl,hjr⟩,hjoin⟩:=zJW (fuel:=fuel) (d:=d) hrq hra hqok hok hqd hde (by omega)
      have ojr:=hjr.one
      generalize zFD q e=jj at *
      unfold room at q3 q3'
      generalize e.cutA (room q)=eF at *
      generalize e.cutB (room q)=eS at *
      unfold room at hcut
      clear hpp
      by_cases q4:zI5 q e=0
      ·have q4':decide (zI5 q e=0)=true:=decide_eq_true q4
       simp only[q4,if_true] at hts hal
       simp (disch:=try exact SX) only[RV,seval,zAB,g2,g13,g14,g15,q1,hiad,w,olen,w2,q2,hoad,hg,hpt,hla,↓pIdE,zB2,ETA,c1,hnx,hpn,hcut,q3',hjoin,q4',w1]
       refine⟨hlt,l.length - (i+1),by omega,i+1,o,rfl,by omega,rfl,by simp (disch:=try exact SX) only[seval], ?_,by rw[hts];simp;omega,fun q' hq=>?_⟩
       ·rw[hts]
        refine hset (rnR jj jr) jj ⟨jr,rfl,hjr,hjok⟩ rfl _ ?_
        exact zB04
       ·rw[hts] at hq
        rcases List.mem_or_eq_of_mem_set hq with h | rfl
        ·exact bd q' h
        ·omega
      ·have q4':decide (zI5 q e=0)=false:=decide_eq_false q4
       simp only[q4,if_false] at hts hal
       simp (disch:=try exact SX) only[RV,seval,zAB,g2,g13,g14,g15,q1,hiad,rlo,olen,w2,q2,htw,hoad,hg,hpt,hla,↓pIdE,zB2,ETA,c1,hnx,hpn,hcut,q3',hjoin,q4']
       refine app1 (bytes:=80) (x:=e) (by simp (disch:=try exact SX) only[RV,seval,w]) (sm.keep fun j hj=>?_) zDH ⟨rt,rfl,hrt,hok⟩ rfl (by omega) (by omega) (by omega) fun o' M' sm' w' le' kp nw wm' rl on oc'=>?_
       ·have:=sm.lt j hj
        exact zB04
       simp (disch:=try exact SX) only[RV,seval,g2,g13,g14,g15,w1]
       exact⟨hlt,l.length - (i+1),by omega,i+1,o',rfl,by omega,rfl,rfl,fin e o' M' hts rfl sm' w'⟩
  ·obtain rfl:i=l.length:=by omega
   have q1:decide ((l.length:Int)<l.length)=false:=DF
   rw[List.take_length] at sm
   obtain⟨ro,hro,hfr⟩:=zFS sm zDH.cel 12 (by omega)
   have hfr:=hfr N (fun _ _=>rfl)
   simp (disch:=try exact SX) only[RV,seval,g2,g14,g15,hfr]
   exact⟨_,hro,rfl⟩
def Rn.elR (r:Rn):List El:=(List.range r.sp.n.toNat).map fun (i:Nat)=>⟨r.sp.at i,r.afAt i,r.rs.getD i 0⟩
def elsR (l:List Rn):List El:=l.flatMap Rn.elR
theorem zFL (l m:List Rn):elsR (l++m)=elsR l++elsR m:=by simp [elsR]
theorem zD9 (l:List Rn)(r:Rn):elsR (l++[r])=elsR l++r.elR:=by simp [elsR]
theorem ze9 (r:Rn):prs r.elR=r.els:=by simp [prs,Rn.elR,Rn.els,Function.comp_def]
theorem zMG (l:List Rn):prs (elsR l)=elsL l:=by
 induction l with
 | nil=>rfl
 | cons r l ih =>
  have:elsR (r::l)=r.elR++elsR l:=by simp [elsR]
  rw[this]
  unfold prs at *
  rw[List.map_append,ih]
  have:=ze9 r
  unfold prs at this
  rw[this]
  simp [elsL]
theorem zBG (r:Rn):r.elR.length=r.sp.n.toNat:=by simp [Rn.elR]
theorem zBX (r:Rn)(i:Nat)(h:i<r.elR.length):r.elR[i]=⟨r.sp.at i,r.afAt i,r.rs.getD i 0⟩:=by simp [Rn.elR]
def goes (q:Rn)(x:El):Bool:=decide (q.sp.n<64)&&decide (x.af=q.sp.at (q.sp.n - 1))&&decide (x.id=q.sp.at q.sp.n)
def one (x:El):Rn:=⟨⟨x.id,1⟩,x.af,[x.ch]⟩
def more (q:Rn)(x:El):Rn:=⟨⟨q.sp.f,q.sp.n+1⟩,q.af,q.rs++[x.ch]⟩
def addX (out:List Rn)(x:El):List Rn :=
 match out.getLast? with
 | none=>out++[one x]
 | some q=>if goes q x then out.set (out.length - 1) (more q x) else out++[one x]
theorem zRM {α:Type}(o:List α)(q x:α):(o++[q]).set ((o++[q]).length - 1) x=o++[x]:=by simp
theorem zL1 (x:El):addX [] x=[one x]:=rfl
theorem zE6 (o:List Rn)(q:Rn)(x:El):addX (o++[q]) x=if goes q x then o++[more q x] else o++[q]++[one x]:=by
 unfold addX
 rw[List.getLast?_concat]
 simp only[zRM]
theorem zTD (o:List Rn)(q r:Rn):addR (o++[q]) r=if zNS q r=true then (if r.cutE (room q)=0 then o++[zFD q (r.fst (room q))]++[r.snd (room q)] else if zI5 q r=0 then o++[zFD q r] else o++[q]++[r]) else o++[q]++[r]:=by
 unfold addR
 rw[List.getLast?_concat]
 simp only[zRM]
def zDG (E:List El):List Rn:=E.foldl addX []
theorem at_at (s:Spn)(a b n:Int):(⟨s.at a,n⟩:Spn).at b=s.at (a+b):=by
 simp only[Spn.at]
 rw[Int.add_assoc]
theorem zWX {r:Rn}{k:Nat}(hk:0<k):(r.snd k).elR=r.elR.drop k:=by
 apply List.ext_getElem
 ·rw[List.length_drop,zBG,zBG]
  simp only[Rn.snd];omega
 ·intro i h1 h2
  rw[List.getElem_drop,zBX,zBX]
  have e1:(r.snd k).sp.at i=r.sp.at ((k+i:Nat):Int):=by
   simp only[Rn.snd,at_at];congr 1
  have e2:(r.snd k).afAt i=r.afAt ((k+i:Nat):Int):=by
   unfold Rn.afAt
   rw[if_pos (show (0:Int)<((k+i:Nat):Int) by omega)]
   by_cases h:(0:Int)<i
   ·rw[if_pos h]
    simp only[Rn.snd,at_at];congr 1;omega
   ·rw[if_neg h]
    simp only[Rn.snd];congr 1;omega
  have e3:(r.snd k).rs.getD i 0=r.rs.getD (k+i) 0:=by
   simp only[Rn.snd,Int.toNat_natCast,List.getD_eq_getElem?_getD,List.getElem?_drop]
  rw[e1,e2,e3]
theorem zUT {r:Rn}{k:Nat}(hk:(k:Int)<=r.sp.n):(r.fst k).elR=r.elR.take k:=by
 apply List.ext_getElem
 ·rw[List.length_take,zBG,zBG]
  simp only[Rn.fst];omega
 ·intro i h1 h2
  rw[List.length_take,zBG] at h2
  rw[List.getElem_take,zBX,zBX]
  have e3:(r.fst k).rs.getD i 0=r.rs.getD i 0:=by
   simp only[Rn.fst,Int.toNat_natCast,List.getD_eq_getElem?_getD]
   rw[List.getElem?_take_of_lt (by omega)]
  rw[e3]
  rfl
theorem zHF {α:Type}(l:List α)(i:Nat)(h:i<l.length):l.drop i=l[i]::l.drop (i+1):=List.drop_eq_getElem_cons h
theorem feed {q r:Rn}(o:List Rn)(n:Nat)(hn:r.sp.n=n)(hl:r.rs.length=n)(k:Nat):∀ (j:Nat),j+k<=n->q.sp.n+j+k<=64->0<=q.sp.n->(∀ i:Nat,j<=i->i<j+k->r.sp.at i=q.sp.at (q.sp.n+i)/\r.afAt i=q.sp.at (q.sp.n+i - 1)) ->
  ((r.elR.drop j).take k).foldl addX (o++[⟨⟨q.sp.f,q.sp.n+j⟩,q.af,q.rs++r.rs.take j⟩])=o++[⟨⟨q.sp.f,q.sp.n+(j+k:Nat)⟩,q.af,q.rs++r.rs.take (j+k)⟩]:=by
 induction k with
 | zero=>intro j _ _ _ _;simp
 | succ k ih =>
  intro j h1 h2 h3 h4
  have hj:j<r.elR.length:=by rw[zBG];omega
  have hjr:j<r.rs.length:=by omega
  rw[zHF _ _ hj,List.take_succ_cons,List.foldl_cons,zE6,zBX]
  have hg:goes (⟨⟨q.sp.f,q.sp.n+j⟩,q.af,q.rs++r.rs.take j⟩:Rn) ⟨r.sp.at j,r.afAt j,r.rs.getD j 0⟩=true:=by
   unfold goes
   simp only[Bool.and_eq_true,decide_eq_true_eq]
   exact⟨⟨by omega,(h4 j (by omega) (by omega)).2⟩,(h4 j (by omega) (by omega)).1⟩
  rw[if_pos hg]
  have hm:more (⟨⟨q.sp.f,q.sp.n+j⟩,q.af,q.rs++r.rs.take j⟩:Rn) ⟨r.sp.at j,r.afAt j,r.rs.getD j 0⟩=⟨⟨q.sp.f,q.sp.n+(j+1:Nat)⟩,q.af,q.rs++r.rs.take (j+1)⟩:=by
   unfold more
   have e:r.rs.getD j 0=r.rs[j]:=by rw[List.getD_eq_getElem?_getD,List.getElem?_eq_getElem hjr];rfl
   rw[e,zBR _ _ hjr,List.append_assoc]
   simp only[Int.natCast_add,Int.natCast_one,Int.add_assoc]
  rw[hm,ih (j+1) (by omega) (by omega) h3 fun i hj' hi=>h4 i (by omega) (by omega)]
  rw[show j+1+k=j+(k+1) by omega]
theorem zD3 {r:Rn}(h:1<=r.sp.n):r.elR=⟨r.sp.f,r.af,r.rs.getD 0 0⟩::r.elR.drop 1:=by
 have h0:0<r.elR.length:=by rw[zBG];omega
 have:=zHF r.elR 0 h0
 rw[List.drop_zero] at this
 refine this.trans ?_
 rw[zBX]
 simp [Spn.at,Rn.afAt]
theorem zYJ {r:Rn}(o:List Rn)(n:Nat)(hn:r.sp.n=n)(hl:r.rs.length=n)(h1:1<=n)(h2:n<=64):(r.elR.drop 1).foldl addX (o++[one ⟨r.sp.f,r.af,r.rs.getD 0 0⟩])=o++[r]:=by
 have e:(r.elR.drop 1).take (n - 1)=r.elR.drop 1:=by
  rw[List.take_of_length_le]
  rw[List.length_drop,zBG];omega
 rw[<- e]
 have:=feed (q:=⟨⟨r.sp.f,0⟩,r.af,[]⟩) (r:=r) o n hn hl (n - 1) 1 (by omega) (by simp only;omega) (Int.le_refl _) fun i hj hi=>?_
 ·have e1:(⟨⟨r.sp.f,0+(1:Nat)⟩,r.af,[]++r.rs.take 1⟩:Rn)=one ⟨r.sp.f,r.af,r.rs.getD 0 0⟩:=by
   unfold one
   have e0:r.rs.take 1=[r.rs.getD 0 0]:=by
    rw[zBR r.rs 0 (by omega),List.getD_eq_getElem?_getD,List.getElem?_eq_getElem (show 0<r.rs.length by omega)]
    simp
   rw[e0];rfl
  have e2:(⟨⟨r.sp.f,0+(1+(n - 1):Nat)⟩,r.af,[]++r.rs.take (1+(n - 1))⟩:Rn)=r:=by
   have:1+(n - 1)=n:=by omega
   rw[this,List.take_of_length_le (by omega),List.nil_append,Int.zero_add,<- hn]
  simp only at this
  rw[e1,e2] at this
  exact this
 ·unfold Rn.afAt
  rw[if_pos (show (0:Int)<i by omega)]
  simp only[Spn.at,Int.zero_add,true_and]
theorem zcE {l:List Int}:chkR l=0↔l.length<=64/\l.all okR=true:=by
 unfold chkR
 by_cases h:64<l.length
 ·rw[if_pos h];simp;omega
 ·rw[if_neg h]
  cases l.all okR <;> simp [err]
  omega
theorem Rn.may_iff {r:Rn}:r.may=true↔r.sp.may=true/\(r.af=Eid.z∨(r.af.may=true/\r.af.c<r.sp.f.c))/\(r.rs.length:Int)=r.sp.n/\r.rs.length<=64/\r.rs.all okR=true:=by
 unfold Rn.may
 simp only[Bool.and_eq_true,Bool.or_eq_true,decide_eq_true_eq,zcE,and_assoc]
theorem Spn.may_iff {s:Spn}:s.may=true↔s.f.may=true/\1<=s.n/\s.n<=64/\s.f.c+s.n<=1099511627777:=by
 unfold Spn.may
 simp only[Bool.and_eq_true,decide_eq_true_eq,and_assoc]
theorem Eid.may_iff {x:Eid}:x.may=true↔x.hd.may=true/\1<=x.c/\x.c<=1099511627776:=by
 unfold Eid.may
 simp only[Bool.and_eq_true,decide_eq_true_eq,and_assoc]
theorem zI8 {q r:Rn}(hq:q.may=true)(hr:r.may=true)(h1:r.sp.f=q.sp.at q.sp.n)(h2:q.sp.n+r.sp.n<=64):(q.both r).may=true:=by
 rw[Rn.may_iff] at *
 obtain⟨a1,a2,a3,a4,a5⟩:=hq
 obtain⟨b1,b2,b3,b4,b5⟩:=hr
 rw[Spn.may_iff] at *
 rw[h1] at b1
 simp only[Rn.both,Spn.at,List.length_append,List.all_append,a5,b5,Bool.and_self,and_true,Int.natCast_add] at *
 exact⟨⟨a1.1,by omega,by omega,by omega⟩,a2,by omega,by omega⟩
theorem zQO {r:Rn}{k:Nat}(hr:r.may=true)(h0:0<k)(h1:(k:Int)<=r.sp.n):(r.fst k).may=true:=by
 rw[Rn.may_iff] at *
 obtain⟨a1,a2,a3,a4,a5⟩:=hr
 rw[Spn.may_iff] at *
 simp only[Rn.fst,Int.toNat_natCast,List.length_take]
 refine⟨⟨a1.1,by omega,by omega,by omega⟩,a2,by omega,by omega, ?_⟩
 rw[List.all_eq_true] at *
 exact fun x hx=>a5 x (List.mem_of_mem_take hx)
theorem zRP {r:Rn}{k:Nat}(hr:r.may=true)(h0:0<k)(h1:(k:Int)<r.sp.n):(r.snd k).may=true:=by
 rw[Rn.may_iff] at *
 obtain⟨a1,a2,a3,a4,a5⟩:=hr
 rw[Spn.may_iff,Eid.may_iff] at *
 simp only[Rn.snd,Spn.at,Int.toNat_natCast,List.length_drop,Eid.may_iff]
 refine⟨⟨⟨a1.1.1,by omega,by omega⟩,by omega,by omega,by omega⟩,.inr ⟨⟨a1.1.1,by omega,by omega⟩,by omega⟩,by omega,by omega, ?_⟩
 rw[List.all_eq_true] at *
 exact fun x hx=>a5 x (List.mem_of_mem_drop hx)
theorem Rn.last_at {q:Rn}(h:q.may=true):q.last=q.sp.at (q.sp.n - 1):=by
 unfold Rn.last
 rw[if_pos (Rn.may_sp h)]
theorem zR5 {q r:Rn}(hq:q.may=true):zNS q r=true↔r.af=q.sp.at (q.sp.n - 1)/\r.sp.f=q.sp.at q.sp.n:=by
 unfold zNS
 rw[Rn.last_at hq]
 simp only[Bool.and_eq_true,decide_eq_true_eq]
 have hb:=Spn.may_le (Rn.may_sp hq)
 constructor
 ·exact zB0r
 ·exact zB0r
theorem zLZ {q r:Rn}(hq:q.may=true)(hr:r.may=true)(h1:r.af=q.sp.at (q.sp.n - 1))(h2:r.sp.f=q.sp.at q.sp.n)(h3:q.sp.n+r.sp.n<=64):zI5 q r=0:=by
 have bq:=Spn.may_le (Rn.may_sp hq)
 have br:=Spn.may_le (Rn.may_sp hr)
 have lq:=Rn.may_len hq
 rw[zGX,Rn.cutE_iff]
 refine⟨hq,hr,⟨zI8 hq hr h2 h3,by omega,by simp only[Rn.both];omega⟩, ?_, ?_⟩
 ·unfold Rn.both Rn.fst
  simp only
  rw[List.take_append_of_le_length (by omega),List.take_of_length_le (by omega)]
 ·unfold Rn.both Rn.snd
  simp only
  have e1:q.sp.n.toNat=q.rs.length:=by omega
  rw[e1,List.drop_left]
  have e2:(⟨q.sp.f,q.sp.n+r.sp.n⟩:Spn).at q.sp.n=r.sp.f:=h2.symm
  have e3:(⟨q.sp.f,q.sp.n+r.sp.n⟩:Spn).at (q.sp.n - 1)=r.af:=h1.symm
  rw[e2,e3,show q.sp.n+r.sp.n - q.sp.n=r.sp.n by omega]
theorem zXI {o:List Rn}{q r:Rn}(hq:q.may=true)(hr:r.may=true):addR (o++[q]) r=r.elR.foldl addX (o++[q]) /\ ∃ o' q',addR (o++[q]) r=o'++[q']/\(∀ x∈o',x∈o∨x.may=true)/\q'.may=true:=by
 have bq:=Spn.may_le (Rn.may_sp hq)
 have br:=Spn.may_le (Rn.may_sp hr)
 have lq:=Rn.may_len hq
 have lr:=Rn.may_len hr
 obtain⟨n,hn⟩:∃ n:Nat,r.sp.n=n:=⟨r.sp.n.toNat,by omega⟩
 have hrm:room q=64 - q.sp.n:=by unfold room;rw[wrap_i64 (by omega) (by omega)]
 have hqo:∀ x∈o++[q],x∈o∨x.may=true:=fun x hx=>by
  rcases List.mem_append.1 hx with h | h
  ·exact .inl h
  ·rw[List.mem_singleton] at h;subst h;exact .inr hq
 rw[zTD]
 by_cases h:zNS q r=true
 ·rw[if_pos h]
  rw[zR5 hq] at h
  obtain⟨h1,h2⟩:=h
  have h4:∀ i:Nat,i<n->r.sp.at i=q.sp.at (q.sp.n+i)/\r.afAt i=q.sp.at (q.sp.n+i - 1):=fun i hi=>by
   have e:r.sp.at i=q.sp.at (q.sp.n+i):=by
    simp only[Spn.at] at h2 ⊢
    rw[h2]
    simp only[Int.add_assoc]
   refine⟨e, ?_⟩
   unfold Rn.afAt
   by_cases h0:(0:Int)<i
   ·rw[if_pos h0]
    simp only[Spn.at] at h2 ⊢
    rw[h2]
    simp only
    congr 1;omega
   ·have:(i:Int)=0:=by omega
    rw[if_neg h0,this,h1,Int.add_zero]
  have hq0:o++[q]=o++[⟨⟨q.sp.f,q.sp.n+(0:Nat)⟩,q.af,q.rs++r.rs.take 0⟩]:=by simp
  by_cases h5:q.sp.n+r.sp.n<=64
  ·have hc:¬r.cutE (room q)=0:=by rw[Rn.cutE_iff,hrm];omega
   rw[if_neg hc,if_pos (zLZ hq hr h1 h2 h5)]
   have hj:zFD q r=q.both r:=by unfold zFD;rw[if_pos (zLZ hq hr h1 h2 h5)]
   rw[hj]
   refine⟨?_,o,_,rfl,fun x hx => .inl hx,zI8 hq hr h2 h5⟩
   have:=feed (q:=q) (r:=r) o n hn (by omega) n 0 (by omega) (by omega) (by omega) fun i _ hi=>h4 i (by omega)
   rw[<- hq0,List.drop_zero,List.take_of_length_le (by rw[zBG];omega)] at this
   rw[this]
   unfold Rn.both
   rw[Nat.zero_add,List.take_of_length_le (by omega),hn]
  ·by_cases h6:q.sp.n<64
   ·obtain⟨k,hk⟩:∃ k:Nat,room q=k:=⟨(room q).toNat,by omega⟩
    have hc:r.cutE (room q)=0:=by rw[Rn.cutE_iff,hrm];exact⟨hr,by omega,by omega⟩
    rw[if_pos hc,hk]
    have fm:=zQO (k:=k) hr (by omega) (by omega)
    have sm:=zRP (k:=k) hr (by omega) (by omega)
    have je:=zLZ hq fm h1 h2 (by simp only[Rn.fst];omega)
    have hj:zFD q (r.fst k)=q.both (r.fst k):=by unfold zFD;rw[if_pos je]
    rw[hj]
    refine⟨?_,_,_,rfl,fun x hx=>?_,sm⟩
    ·have:=feed (q:=q) (r:=r) o n hn (by omega) k 0 (by omega) (by omega) (by omega) fun i _ hi=>h4 i (by omega)
     rw[<- hq0,List.drop_zero] at this
     rw[<- List.take_append_drop k r.elR,List.foldl_append,this]
     have e1:(⟨⟨q.sp.f,q.sp.n+((0+k:Nat):Int)⟩,q.af,q.rs++r.rs.take (0+k)⟩:Rn)=q.both (r.fst k):=by
      unfold Rn.both Rn.fst
      rw[Nat.zero_add,Int.toNat_natCast]
     rw[e1,<- zWX (by omega),zD3 (Spn.may_le (Rn.may_sp sm)).2.2.1,List.foldl_cons,zE6,if_neg]
     ·have hsn:(r.snd k).sp.n=(n - k:Nat):=by simp only[Rn.snd];omega
      have hsl:(r.snd k).rs.length=n - k:=by have:=Rn.may_len sm;omega
      exact(zYJ _ (n - k) hsn hsl (by omega) (by omega)).symm
     ·intro hg
      unfold goes at hg
      rw[Bool.and_eq_true,Bool.and_eq_true] at hg
      have:=of_decide_eq_true hg.1.1
      simp only[Rn.both,Rn.fst] at this
      omega
    ·rcases List.mem_append.1 hx with hx | hx
     ·exact .inl hx
     ·rw[List.mem_singleton] at hx;subst hx
      exact .inr (zI8 hq fm h2 (by simp only[Rn.fst];omega))
   ·have hc:¬r.cutE (room q)=0:=by rw[Rn.cutE_iff,hrm];omega
    have hj:¬zI5 q r=0:=by
     rw[zGX,Rn.cutE_iff]
     rintro⟨_,_,⟨hm,_⟩,_⟩
     have:=(Spn.may_le (Rn.may_sp hm)).2.2.2.1
     simp only[Rn.both] at this
     omega
    rw[if_neg hc,if_neg hj]
    refine⟨?_,_,_,rfl,hqo,hr⟩
    rw[zD3 (by omega),List.foldl_cons,zE6,if_neg]
    ·exact(zYJ _ n hn (by omega) (by omega) (by omega)).symm
    ·unfold goes
     simp only[Bool.and_eq_true,decide_eq_true_eq]
     omega
 ·rw[if_neg h]
  refine⟨?_,_,_,rfl,hqo,hr⟩
  rw[zD3 (by omega),List.foldl_cons,zE6,if_neg]
  ·exact(zYJ _ n hn (by omega) (by omega) (by omega)).symm
  ·unfold goes
   simp only[Bool.and_eq_true,decide_eq_true_eq]
   rintro⟨⟨_,h2⟩,h3⟩
   exact h ((zR5 hq).2 ⟨h2,h3⟩)
theorem zCI {l:List Rn}(h:∀ r∈l,r.may=true):zBU l=zDG (elsR l) /\ ∀ r∈zBU l,r.may=true:=by
 revert h
 refine zD5 (P:=fun l=>(∀ r∈l,r.may=true)->zBU l=zDG (elsR l) /\ ∀ r∈zBU l,r.may=true) (fun _=>⟨rfl,fun r hr=>absurd hr (by simp [zBU])⟩) (fun l r ih h=>?_) l
 obtain⟨e,hm⟩:=ih fun x hx=>h x (List.mem_append_left _ hx)
 have hr:=h r (List.mem_append_right _ List.mem_cons_self)
 have br:=Spn.may_le (Rn.may_sp hr)
 have lr:=Rn.may_len hr
 have hs:zBU (l++[r])=addR (zBU l) r:=by simp [zBU]
 rw[hs,zD9]
 unfold zDG at *
 rw[List.foldl_append,<- e]
 generalize zBU l=out at *
 rcases zDY out with rfl | ⟨o,q,rfl⟩
 ·have ha:addR [] r=[r]:=rfl
  rw[ha]
  refine⟨?_,fun x hx=>by rw[List.mem_singleton] at hx;subst hx;exact hr⟩
  rw[zD3 (by omega),List.foldl_cons,zL1]
  exact(zYJ [] r.sp.n.toNat (by omega) (by omega) (by omega) (by omega)).symm
 ·have hq:=hm q (List.mem_append_right _ List.mem_cons_self)
  obtain⟨h1,o',q',h2,h3,h4⟩:=zXI (o:=o) hq hr
  refine⟨h1,fun x hx=>?_⟩
  rw[h2] at hx
  rcases List.mem_append.1 hx with hx | hx
  ·rcases h3 x hx with k | k
   ·exact hm x (List.mem_append_left _ k)
   ·exact k
  ·rw[List.mem_singleton] at hx;subst hx;exact h4
def El.may (x:El):Bool:=x.id.may&&(decide (x.af=Eid.z) || (x.af.may&&decide (x.af.c<x.id.c)))&&okR x.ch
theorem El.may_iff {x:El}:x.may=true↔x.id.may=true/\(x.af=Eid.z∨(x.af.may=true/\x.af.c<x.id.c))/\okR x.ch=true:=by
 unfold El.may
 simp only[Bool.and_eq_true,Bool.or_eq_true,decide_eq_true_eq,and_assoc]
theorem El.may_ct {x:El}(h:x.may=true):x.af.c<x.id.c/\0<x.id.c:=by
 rw[El.may_iff,Eid.may_iff] at h
 obtain⟨h1,h2,_⟩:=h
 rcases h2 with h2 | h2
 ·rw[h2];exact⟨by show (0:Int)<_;omega,by omega⟩
 ·exact⟨h2.2,by omega⟩
theorem zLE {r:Rn}(hr:r.may=true):∀ x∈r.elR,x.may=true:=by
 intro x hx
 have br:=Spn.may_le (Rn.may_sp hr)
 have lr:=Rn.may_len hr
 obtain⟨i,hi,rfl⟩:=List.getElem_of_mem hx
 rw[zBG] at hi
 rw[zBX]
 rw[Rn.may_iff,Spn.may_iff,Eid.may_iff] at hr
 obtain⟨⟨h1,h2⟩,h3,h4,h5,h6⟩:=hr
 rw[El.may_iff,Eid.may_iff]
 simp only[Spn.at]
 refine⟨⟨h1.1,by omega,by omega⟩, ?_, ?_⟩
 ·unfold Rn.afAt
  by_cases h0:(0:Int)<i
  ·rw[if_pos h0,Eid.may_iff]
   simp only[Spn.at]
   exact .inr ⟨⟨h1.1,by omega,by omega⟩,by omega⟩
  ·rw[if_neg h0]
   rcases h3 with h3 | h3
   ·exact .inl h3
   ·exact .inr ⟨h3.1,by omega⟩
 ·rw[List.getD_eq_getElem?_getD,List.getElem?_eq_getElem (by omega)]
  exact List.all_eq_true.1 h6 _ (List.getElem_mem _)
theorem zQJ {l:List Rn}(h:∀ r∈l,r.may=true):∀ x∈elsR l,x.may=true:=by
 intro x hx
 obtain⟨r,hr,hx⟩:=List.mem_flatMap.1 hx
 exact zLE (h r hr) x hx
theorem zcH {r:Rn}(hr:r.may=true):Chn r.af r.elR:=by
 have br:=Spn.may_le (Rn.may_sp hr)
 have key:∀ k i:Nat,i+k=r.sp.n.toNat->0<i->Chn (r.sp.at ((i:Int) - 1)) (r.elR.drop i):=by
  intro k
  induction k with
  | zero=>intro i hi _;rw[List.drop_of_length_le (by rw[zBG];omega)];trivial
  | succ k ih =>
   intro i hi h0
   have hl:i<r.elR.length:=by rw[zBG];omega
   rw[zHF _ _ hl,zBX]
   have:=ih (i+1) (by omega) (by omega)
   refine⟨?_, ?_, ?_⟩
   ·unfold Rn.afAt
    rw[if_pos (by omega)]
   ·simp only[Spn.at];omega
   ·have e:((i+1:Nat):Int) - 1=i:=by omega
    rw[e] at this
    exact this
 rw[zD3 (by omega)]
 have:=key (r.sp.n.toNat - 1) 1 (by omega) (by omega)
 refine⟨rfl, ?_, ?_⟩
 ·have:=(El.may_ct (zLE hr ⟨r.sp.f,r.af,r.rs.getD 0 0⟩ (by rw[zD3 (by omega)];exact List.mem_cons_self))).1
  exact this
 ·simpa [Spn.at] using this
theorem zD7 (E:List El):elsR (zDG E)=E /\ ∀ q∈zDG E,1<=q.sp.n/\(q.rs.length:Int)=q.sp.n:=by
 refine zD5 (P:=fun E=>elsR (zDG E)=E /\ ∀ q∈zDG E,1<=q.sp.n/\(q.rs.length:Int)=q.sp.n) ⟨rfl,fun q hq=>absurd hq (by simp [zDG])⟩ (fun E x ih=>?_) E
 obtain⟨h1,h2⟩:=ih
 have hs:zDG (E++[x])=addX (zDG E) x:=by simp [zDG]
 rw[hs]
 have ho:(one x).elR=[x]:=by
  rw[zD3 (by simp only[one];omega),List.drop_of_length_le (by rw[zBG];simp [one])]
  simp [one]
 have h1x:1<=(one x).sp.n/\((one x).rs.length:Int)=(one x).sp.n:=⟨Int.le_refl _,rfl⟩
 generalize zDG E=out at *
 rcases zDY out with rfl | ⟨o,q,rfl⟩
 ·rw[zL1]
  have:E=[]:=by rw[<- h1];rfl
  subst this
  refine⟨?_,fun q hq=>by rw[List.mem_singleton] at hq;subst hq;exact h1x⟩
  simp [elsR,ho]
 ·rw[zE6]
  obtain⟨hq1,hq2⟩:=h2 q (List.mem_append_right _ List.mem_cons_self)
  by_cases hg:goes q x=true
  ·rw[if_pos hg]
   unfold goes at hg
   simp only[Bool.and_eq_true,decide_eq_true_eq] at hg
   obtain⟨⟨g1,g2⟩,g3⟩:=hg
   refine⟨?_,fun y hy=>?_⟩
   ·rw[zD9] at h1
    rw[zD9,<- h1,List.append_assoc]
    congr 1
    apply List.ext_getElem
    ·rw[List.length_append,zBG,zBG]
     simp only[more,List.length_singleton];omega
    ·intro i i1 i2
     rw[zBX]
     by_cases hi:i<q.elR.length
     ·rw[List.getElem_append_left hi,zBX]
      rw[zBG] at hi
      have e3:(more q x).rs.getD i 0=q.rs.getD i 0:=by
       simp only[more,List.getD_eq_getElem?_getD]
       rw[List.getElem?_append_left (by omega)]
      rw[e3];rfl
     ·have hi':i=q.elR.length:=by
       rw[zBG] at i1 hi ⊢
       simp only[more] at i1
       omega
      rw[List.getElem_append_right (Nat.le_of_not_lt hi),List.getElem_singleton]
      rw[zBG] at hi'
      rw[hi']
      clear hi' i1 i2 hi
      obtain⟨xi,xa,xc⟩:=x
      simp only at g2 g3
      have e:((q.sp.n.toNat:Nat):Int)=q.sp.n:=by omega
      have e3:(more q ⟨xi,xa,xc⟩).rs.getD q.sp.n.toNat 0=xc:=by
       simp only[more,List.getD_eq_getElem?_getD]
       rw[List.getElem?_append_right (by omega),show q.sp.n.toNat - q.rs.length=0 by omega]
       rfl
      have e2:(more q ⟨xi,xa,xc⟩).afAt ((q.sp.n.toNat:Nat):Int)=xa:=by
       unfold Rn.afAt
       rw[if_pos (by omega),e,g2]
       rfl
      rw[e2,e3,e,g3]
      rfl
   ·rcases List.mem_append.1 hy with hy | hy
    ·exact h2 y (List.mem_append_left _ hy)
    ·rw[List.mem_singleton] at hy;subst hy
     simp only[more,List.length_append,List.length_singleton]
     omega
  ·rw[if_neg hg]
   refine⟨by rw[zD9,ho,h1],fun y hy=>?_⟩
   exact zB0x
theorem zU5 {E:List El}(h:∀ x∈E,x.may=true):∀ q∈zDG E,q.may=true:=by
 revert h
 refine zD5 (P:=fun E=>(∀ x∈E,x.may=true) -> ∀ q∈zDG E,q.may=true) (fun _ q hq=>absurd hq (by simp [zDG])) (fun E x ih h=>?_) E
 have h2:=ih fun y hy=>h y (List.mem_append_left _ hy)
 have hx:=h x (List.mem_append_right _ List.mem_cons_self)
 have hs:zDG (E++[x])=addX (zDG E) x:=by simp [zDG]
 rw[hs]
 have h1x:(one x).may=true:=by
  rw[El.may_iff,Eid.may_iff] at hx
  rw[Rn.may_iff,Spn.may_iff,Eid.may_iff]
  simp only[one,List.length_singleton,List.all_cons,List.all_nil,Bool.and_true]
  exact⟨⟨⟨hx.1.1,hx.1.2⟩,by omega,by omega,by omega⟩,hx.2.1,by omega,by omega,hx.2.2⟩
 generalize zDG E=out at *
 rcases zDY out with rfl | ⟨o,q,rfl⟩
 ·rw[zL1]
  exact fun q hq=>by rw[List.mem_singleton] at hq;subst hq;exact h1x
 ·rw[zE6]
  have hq:=h2 q (List.mem_append_right _ List.mem_cons_self)
  by_cases hg:goes q x=true
  ·rw[if_pos hg]
   unfold goes at hg
   simp only[Bool.and_eq_true,decide_eq_true_eq] at hg
   obtain⟨⟨g1,g2⟩,g3⟩:=hg
   intro y hy
   rcases List.mem_append.1 hy with hy | hy
   ·exact h2 y (List.mem_append_left _ hy)
   ·rw[List.mem_singleton] at hy;subst hy
    have:more q x=q.both (one x):=rfl
    rw[this]
    exact zI8 hq h1x g3 (by simp only[one];omega)
  ·rw[if_neg hg]
   intro y hy
   exact zB0x
theorem zE8 {l:List Rn}(h:∀ r∈l,r.may=true):zB8 l=(elsR l).length:=by
 induction l with
 | nil=>rfl
 | cons r l ih =>
  have br:=Spn.may_le (Rn.may_sp (h r List.mem_cons_self))
  have:elsR (r::l)=r.elR++elsR l:=by simp [elsR]
  rw[this,List.length_append,zBG]
  simp only[zB8]
  rw[ih fun x hx=>h x (List.mem_cons_of_mem _ hx)]
  omega
def zDW (l:List Rn):Prop:=(∀ r∈l,r.may=true)/\zB8 l<=8192/\Ord (elsL l)/\zBU l=l
structure TxtM (E:List El):Prop where
 t:Txt E
 m:∀ x∈E,x.may=true
 n:E.length<=8192
theorem zOB {E:List El}(h:TxtM E):zDW (zDG E):=by
 have hm:=zU5 h.m
 obtain⟨he,_⟩:=zD7 E
 refine⟨hm, ?_, ?_, ?_⟩
 ·rw[zE8 hm,he];have:=h.n;omega
 ·rw[<- zMG,he];exact(zW0 fun x hx=>El.may_ct (h.m x hx)).2 h.t
 ·rw[(zCI hm).1,he]
theorem zEL {l:List Rn}(h:zDW l):TxtM (elsR l)/\l=zDG (elsR l):=by
 obtain⟨h1,h2,h3,h4⟩:=h
 have hm:=zQJ h1
 refine⟨⟨?_,hm, ?_⟩, ?_⟩
 ·rw[<- zMG] at h3;exact(zW0 fun x hx=>El.may_ct (hm x hx)).1 h3
 ·rw[zE8 h1] at h2;omega
 ·rw[<- (zCI h1).1,h4]
def zCO (E:List El):List CellV:=E.map fun x=>⟨x.id,x.ch⟩
theorem zKA (E F:List El):zCO (E++F)=zCO E++zCO F:=by simp [zCO]
theorem zE7 (E:List El):(zCO E).length=E.length:=List.length_map _
theorem zGQ {l:List Rn}(hm:∀ r∈l,r.may=true):(elsR l).length<=64*l.length:=by
 induction l with
 | nil=>simp [elsR]
 | cons r l ih =>
  have e:elsR (r::l)=r.elR++elsR l:=by simp [elsR]
  have hb:=Spn.may_le (Rn.may_sp (hm r List.mem_cons_self))
  have:=ih fun q hq=>hm q (List.mem_cons_of_mem _ hq)
  rw[e,List.length_append,zBG,List.length_cons]
  omega
theorem zTJ {a:AV}{l:List Rn}(hS:Sl 10 isRn a l)(hm:∀ r∈l,r.may=true)(hl:l.length<=100000)(hf:l.length+200<fuel):∃ r,Sl 5 zDE r (zCO (elsR l)) /\ ∀ M,zCN fuel (d+8) 46 [a] M=some (r,M):=by
 have ll:=hS.len
 refine zF9 tf46 rfl (fun M=>by simp only[icyL,fun M=>hS.icy M 12 (by omega)]) ?_
 refine zAD tf46 rfl (by simp only[icyL,fun M=>hS.icy M 12 (by omega)]) (by simp [a46]) fun b' ht hx=>?_
 have h0:=hx 0 _ rfl
 clear hx
 simp only[a46,c46] at ht ⊢
 simp (disch:=try exact SX) only[RV,seval,h0,ll]
 refine zBB (I:=fun n t N => ∃ (i:Nat) (o:AV),n=l.length - i/\i<=l.length/\nth zA3 t 2=o/\nth zA3 t 10=a/\nth zA3 t 11=I64 l.length/\nth zA3 t 12=I64 i/\Wf N/\N.wm=0/\SlM N 5 zDE o (zCO (elsR (l.take i)))) (n:=l.length) (by omega) ?_ ?_
 ·refine⟨0,NIL,rfl,Nat.zero_le _, ?_, ?_, ?_, ?_,Wf.mem0,rfl,SlM.nil⟩ <;> simp (disch:=try exact SX) only[RV,seval]
  all_goals first | rfl | assumption | done
 ·rintro n t N hlt ⟨i,o,rfl,hi,g2,g10,g11,g12,w,wm,sm⟩
  simp only[ht] at hlt ⊢
  have oo:=sm.one
  have oc:=sm.cells
  by_cases hc:i<l.length
  ·have q1:decide ((i:Int)<l.length)=true:=DT
   have w1:IntKind.i64.wrap ((i:Int)+1)=((i+1:Nat):Int):=WI
   obtain⟨r,hiad,hr,hrl⟩:=hS.iad i hc
   have hts:=zD9 (l.take i) l[i]
   rw[<- zBR l i hc] at hts
   have hme:=hm l[i] (List.getElem_mem hc)
   have hb:=Spn.may_le (Rn.may_sp hme)
   have hln:=zGQ (l:=l.take i) fun r hr=>hm r (List.mem_of_mem_take hr)
   rw[List.length_take] at hln
   generalize l[i]=e at *
   obtain⟨ra,rfl,hra,hok⟩:=hr
   have ora:=hra.one
   have hat:=fun n M=>zO4 (fuel:=fuel) (d:=d) (n:=n) hra (by omega) M
   have wX:=(w.add (.row false (rnR ⟨⟨Eid.z,0⟩,Eid.z,[]⟩ NIL))).upd N.size (.row false (rnR e ra))
   have gX:((N.add (.row false (rnR ⟨⟨Eid.z,0⟩,Eid.z,[]⟩ NIL))).upd N.size (.row false (rnR e ra))).get N.size=some (.row false (rnR e ra)):=by simp (disch:=try exact SX) only[RV,seval]
   have smX:SlM ((N.add (.row false (rnR ⟨⟨Eid.z,0⟩,Eid.z,[]⟩ NIL))).upd N.size (.row false (rnR e ra))) 5 zDE o (zCO (elsR (l.take i))):=sm.keep fun j hj=>by
    have:=sm.lt j hj
    rw[zA0 (w.add _) _ _ _ (by omega),zAA w _ _ this]
   have sX:((N.add (.row false (rnR ⟨⟨Eid.z,0⟩,Eid.z,[]⟩ NIL))).upd N.size (.row false (rnR e ra))).size=N.size+1:=rfl
   simp (disch:=try exact SX) only[RV,seval,g10,g11,g12,q1,hiad]
   have mX:((N.add (.row false (rnR ⟨⟨Eid.z,0⟩,Eid.z,[]⟩ NIL))).upd N.size (.row false (rnR e ra))).wm=0:=wm
   revert wX gX smX sX mX
   generalize ((N.add _).upd N.size _)=X
   intro wX gX smX sX mX
   refine zBB (I:=fun nk tk Nk => ∃ (ik:Nat) (p:AV),nk=e.sp.n.toNat - ik/\ik<=e.sp.n.toNat/\nth zA3 tk 2=p/\nth zA3 tk 4 = .ptr N.size 0/\nth zA3 tk 10=a/\nth zA3 tk 11=I64 l.length/\nth zA3 tk 12=I64 i/\nth zA3 tk 18=I64 e.sp.n/\nth zA3 tk 19=I64 ik/\Wf Nk/\N.size+1<=Nk.size/\Nk.wm=0/\Nk.get N.size=some (.row false (rnR e ra))/\SlM Nk 5 zDE p (zCO (elsR (l.take i))++zCO (e.elR.take ik))/\(∀ j,rowOf p=some j->j≠N.size)) (n:=e.sp.n.toNat) (by omega) ?_ ?_
   ·refine⟨0,o,rfl,Nat.zero_le _, ?_, ?_, ?_, ?_, ?_, ?_, ?_,wX,Nat.le_of_eq sX.symm,mX,gX,(by simpa [zCO] using smX),(fun j hj=>by have:=sm.lt j hj;omega)⟩ <;> simp (disch:=try exact SX) only[RV,seval,g2,g10,g11,g12]
    all_goals first | rfl | assumption | done
   ·rintro nk tk Nk hltk ⟨ik,p,rfl,hik,gk2,gk4,gk10,gk11,gk12,gk18,gk19,wk,lek,wmk,gk,smk,nrk⟩
    simp only[hlt] at hltk ⊢
    have op:=smk.one
    have cp:=smk.cells
    have lel:=zBG e
    by_cases hck:ik<e.sp.n.toNat
    ·have q2:decide ((ik:Int)<e.sp.n)=true:=DT
     have w2:IntKind.i64.wrap ((ik:Int)+1)=((ik+1:Nat):Int):=WI
     have ha0:atE e (ik:Int)=0:=by unfold atE;rw[if_pos hme,if_neg (by omega)]
     have hat':=hat (ik:Int)
     rw[ha0] at hat'
     simp only[if_true,Int.toNat_natCast] at hat'
     have hts2:=zBR e.elR ik (by omega)
     rw[zBX] at hts2
     have hid:(e.sp.at (ik:Int)).ok:=⟨hok.1.1.1,by show i64R (e.sp.f.c+(ik:Int));unfold i64R;omega⟩
     have hll:(zCO (elsR (l.take i))++zCO (e.elR.take ik)).length<=64*i+64:=by
      rw[List.length_append,zE7,zE7,List.length_take];omega
     simp (disch:=try exact SX) only[RV,seval,zAB,gk2,gk4,gk18,gk19,q2,gk,hat']
     have wY:=(((wk.add (.row false (idR Eid.z))).add (.row false (idR Eid.z))).upd Nk.size (.row false (idR (e.sp.at (ik:Int))))).upd (Nk.size+1) (.row false (idR (e.afAt (ik:Int))))
     have gY:∀ j,j<Nk.size->((((Nk.add (.row false (idR Eid.z))).add (.row false (idR Eid.z))).upd Nk.size (.row false (idR (e.sp.at (ik:Int))))).upd (Nk.size+1) (.row false (idR (e.afAt (ik:Int))))).get j=Nk.get j:=fun j hj=>by
      rw[zA0 (((wk.add _).add _).upd _ _) _ _ _ (by omega),zA0 ((wk.add _).add _) _ _ _ (by omega),zAA (wk.add _) _ _ (by rw[zA2];omega),zAA wk _ _ hj]
     refine⟨zB3 smk.rl (by omega), ?_⟩
     refine app1 (bytes:=32) (x:=⟨e.sp.at (ik:Int),e.rs.getD ik 0⟩) wY (smk.keep fun j hj=>gY j (smk.lt j hj)) zLN ⟨rfl,hid⟩ rfl (by omega) (by omega) (by omega) fun p2 M2 m2 wf2 le2 kp2 nw2 wm2 rl2 on2 oc2=>?_
     simp only[zA7,zA2] at le2
     simp (disch:=try exact SX) only[RV,seval,gk2,gk4,gk10,gk11,gk12,gk18,gk19,wf2,w2]
     refine⟨hltk,e.sp.n.toNat - (ik+1),by omega,ik+1,p2,rfl,by omega,rfl,rfl,by omega,wm2.trans wmk, ?_, ?_,fun j hj=>?_⟩
     ·rw[kp2 N.size (by simp only[zA7,zA2];omega) (fun h=>nrk _ h rfl),gY N.size (by omega)];exact gk
     ·rw[hts2,zKA,<- List.append_assoc];exact m2
     ·rcases nw2 j hj with h | h
      ·exact nrk j h
      ·simp only[zA7,zA2] at h;omega
    ·obtain rfl:ik=e.sp.n.toNat:=by omega
     have q2:decide (((e.sp.n.toNat:Nat):Int)<e.sp.n)=false:=DF
     rw[List.take_of_length_le (Nat.le_of_eq lel)] at smk
     simp (disch:=try exact SX) only[RV,seval,gk2,gk10,gk11,gk12,gk18,gk19,q2,w1]
     exact⟨hltk,l.length - (i+1),by omega,i+1,p,rfl,by omega,rfl,rfl,wk,wmk,by rw[hts,zKA];exact smk⟩
  ·obtain rfl:i=l.length:=by omega
   have q1:decide ((l.length:Int)<l.length)=false:=DF
   rw[List.take_length] at sm
   obtain⟨ro,hz,hs⟩:=sm.frz zLN.cel (k:=12) (by omega)
   simp (disch:=try exact SX) only[RV,seval,g2,g11,g12,hz]
   exact⟨_,hs,rfl⟩
variable {x : Eid}
def zCY (l:List Op)(x:Eid):Bool:=l.any fun o=>decide (o.kd=2)&&(o.sp.has x).isSome
theorem zYQ (l m:List Op)(x:Eid):zCY (l++m) x=(zCY l x || zCY m x):=List.any_append
theorem zd0 {o:Op}{ra:AV}{y:Nat}(hR:Sl 1 isI32 ra o.rs)(wf:Wf M)(hy:M.get y=some (.row false (idR x)))(k:∀ N,Kept M N->Q (BL (decide (o.kd=2)&&(o.sp.has x).isSome)) N):W3 (zCN fuel (d+6) 90 [.agg (opR o ra),.ptr y 0] M) Q:=by
 have ly:=Mem.get_lt hy
 have ora:=hR.one
 have hh:=fun M=>@zP8 fuel d o.sp x M
 refine zAT tf90 rfl (by simp [a90]) fun b' ht hx=>?_
 obtain⟨h0,h1⟩:=hx2 hx
 clear hx
 simp only[a90,c90] at ht ⊢
 cases q1:decide (o.kd=2) with
 | false =>
  simp (disch:=try exact SX) only[RV,seval,h0,h1,hy,hh,q1]
  rw[q1,Bool.false_and] at k
  exact zB09
 | true =>
  simp (disch:=try exact SX) only[RV,seval,h0,h1,hy,hh,q1]
  rw[q1,Bool.true_and] at k
  exact zB09
theorem zYS (hS:Sl 17 isOp a l)(hl:l.length<=10000)(hf:l.length+400<fuel)(M:Mem):zCN fuel (d+15) 48 [a,idA x] M=some (.tup [BL (zAS [] l&&zCY l x),I64 (err (zAS [] l))],M):=by
 have hck:=fun M=>zD8 (fuel:=fuel) (d:=d) hS hl hf M
 apply zB1
 refine zAD tf48 rfl (by simp only[icyL,fun M=>hS.icy M 12 (by omega),zAP (zEX x) (show 1<12 by omega)]) (by simp [a48]) fun b' ht hx=>?_
 obtain⟨h0,h1⟩:=hx2 hx
 clear hx
 simp only[a48,c48] at ht ⊢
 cases q1:zAS [] l with
 | false =>
  rw[q1] at hck
  simp (disch:=try exact SX) only[RV,seval,h0,h1,hck,zBA,Bool.false_and]
 | true =>
  rw[q1] at hck
  unfold zCY
  simp (disch:=try exact SX) only[RV,seval,h0,h1,hck,zAU]
  refine zLP (st:=17) (ag:=true) (n:=d+12) (first:=[]) (cap:=[.ptr 0 0]) tf59 tf97 (by simp) zNF hS (by omega) (by omega) (p:=fun o=>decide (o.kd=2)&&(o.sp.has x).isSome) (by simp (disch:=try exact SX) only[RV,seval]) (fun n hn=>by simp only[zA2,zAH] at hn;simp (disch:=try exact SX) only[RV,seval]) (fun r o hr _ N Q' hk hQ=>?_) fun N hk=>?_
  ·obtain⟨ra,rfl,hra,_⟩:=hr
   refine zd0 (d:=d+6) hra hk.wf ?_ (fun N' hk'=>hQ N' (hk.trans hk'))
   rw[hk.get 0 (by simp (disch:=try exact SX) only[RV,seval])]
   exact zB04
  ·exact zB04
def askE (l:List Op)(x:Eid)(v:Lb):Int:=if zCU l=0 then err (x.may&&v.may) else zCU l
theorem zTR (hS:Sl 17 isOp a l)(hl:l.length<=40000)(hf:l.length+200<fuel)(M:Mem):zCN fuel (d+10) 92 [a,idA x,lbA v] M=some (I64 (askE l x v),M):=by
 have hch:=fun M=>zIR (fuel:=fuel) (d:=d) hS hl hf M
 have hc:=fun M=>@zL9 fuel (d+6) x M
 have hv:=fun M=>@zFP fuel (d+8) v M
 apply zB1
 refine zAD tf92 rfl (by simp only[icyL,fun M=>hS.icy M 12 (by omega),zAP (zEX x) (show 1<12 by omega),zAP (zEA v) (show 1<12 by omega)]) (by simp [a92]) fun b' ht hx=>?_
 obtain⟨h0,h1,h2⟩:=hx3 hx
 clear hx
 simp only[a92,c92] at ht ⊢
 unfold askE
 by_cases q0:zCU l=0
 ·rw[q0] at hch
  rw[if_pos q0]
  cases h5:x.may <;> cases h6:v.may <;> rw[h5] at hc <;> rw[h6] at hv
  all_goals simp (disch:=try exact SX) only[RV,seval,h0,h1,h2,hch,hc,hv,zAU,zBA,zC5,BMM]
  all_goals rfl
 ·have q1:decide (zCU l=0)=false:=decide_eq_false q0
  rw[if_neg q0]
  simp (disch:=try exact SX) only[RV,seval,h0,h1,h2,hch,q1]
def zFJ (l:List Op)(x:Eid)(v:Lb):Bool:=decide (askE l x v=0) && !((made l x v).any fun to => !to.leq v)
theorem zaI {to:Lb}{y:Nat}(wf:Wf M)(hy:M.get y=some (.row false (lbR v)))(k:∀ N,Kept M N->Q (BL (!to.leq v)) N):W3 (zCN fuel (d+2) 93 [lbA to,.ptr y 0] M) Q:=by
 have ly:=Mem.get_lt hy
 have hl:=fun M=>@zGC fuel d to v M
 refine zAT tf93 rfl (by simp [a93]) fun b' ht hx=>?_
 obtain⟨h0,h1⟩:=hx2 hx
 clear hx
 simp only[a93,c93] at ht ⊢
 simp (disch:=try exact SX) only[RV,seval,h0,h1,hy,hl]
 exact zB09
theorem zWM (hS:Sl 17 isOp a l)(hl:l.length<=40000)(hf:l.length+200<fuel)(hx:x.ok)(M:Mem):zCN fuel (d+11) 49 [a,idA x,lbA v] M=some (.tup [BL (zFJ l x v),I64 (askE l x v)],M):=by
 have has:=fun M=>zTR (fuel:=fuel) (d:=d) (x:=x) (v:=v) hS hl hf M
 apply zB1
 refine zAD tf49 rfl (by simp only[icyL,fun M=>hS.icy M 12 (by omega),zAP (zEX x) (show 1<12 by omega),zAP (zEA v) (show 1<12 by omega)]) (by simp [a49]) fun b' ht hx=>?_
 obtain⟨h0,h1,h2⟩:=hx3 hx
 clear hx
 simp only[a49,c49] at ht ⊢
 unfold zFJ
 by_cases q0:askE l x v=0
 ·rw[q0] at has
  obtain⟨r,hr,hm⟩:=zR3 (fuel:=fuel) (d:=d+3) (x:=x) (v:=v) hS hl (by omega) hx
  rw[q0]
  simp (disch:=try exact SX) only[RV,seval,h0,h1,h2,has,hm]
  have hml:=zR2 l x v
  refine zLP (st:=2) (ag:=true) (n:=d+8) (first:=[]) (cap:=[.ptr 1 0]) tf94 tf159 (by simp) zUU hr (by omega) (by omega) (p:=fun to => !to.leq v) (by simp (disch:=try exact SX) only[RV,seval]) (fun n hn=>by simp only[zA2,zAH] at hn;simp (disch:=try exact SX) only[RV,seval]) (fun r to hr _ N Q' hk hQ=>?_) fun N hk=>?_
  ·obtain⟨rfl,_⟩:=hr
   refine zaI (d:=d+6) hk.wf ?_ (fun N' hk'=>hQ N' (hk.trans hk'))
   rw[hk.get 1 (by simp (disch:=try exact SX) only[RV,seval])]
   exact zB04
  ·exact zB04
 ·have q1:decide (askE l x v=0)=false:=decide_eq_false q0
  simp (disch:=try exact SX) only[RV,seval,h0,h1,h2,has,q1,Bool.false_and]
variable {low : List Op} {al : AV}
def zIM (l:List Op)(v:Lb)(c:CellV):CellV:=⟨c.id,if zFJ l c.id v=true then c.ch else -1⟩
def zJ3 (l:List Op)(v:Lb)(c:List CellV):List CellV:=(c.filter fun x => !zCY l x.id).map (zIM l v)
theorem zSV (l:List Op)(v:Lb)(c:List CellV)(x:CellV):zJ3 l v (c++[x])=zJ3 l v c++(if zCY l x.id=true then [] else [zIM l v x]):=by
 unfold zJ3
 rw[List.filter_append,List.map_append]
 cases h:zCY l x.id <;> simp [h]
theorem zV7 (l:List Op)(v:Lb)(c:List CellV):(zJ3 l v c).length<=c.length:=by
 unfold zJ3
 rw[List.length_map]
 exact List.length_filter_le _ _
theorem zY0 {bl bv:Nat}{c:CellV}(hS:Sl 17 isOp al low)(hh:zAS [] low=true)(hl:low.length<=10000)(hf:low.length+400<fuel)(hc:c.id.ok)(wf:Wf M)(hw:M.wm<=M.size)(g1:M.get bl=some (.row false [al]))(g2:M.get bv=some (.row false (lbR v)))(k:∀ N,Kept M N->Q (.tup [zfK (zIM low v c),BL (!zCY low c.id)]) N):W3 (zCN fuel (d+16) 47 [zfK c,.ptr bl 0,.ptr bv 0] M) Q:=by
 have l1:=Mem.get_lt g1
 have l2:=Mem.get_lt g2
 have oa:=hS.one
 have hgo:=fun M=>zYS (fuel:=fuel) (d:=d) (x:=c.id) hS hl hf M
 have hsh:=fun M=>zWM (fuel:=fuel) (d:=d+4) (v:=v) hS (by omega) (by omega) hc M
 simp only[hh,Bool.true_and] at hgo
 have kk:=fun q r=>(((((Kept.refl wf).add (.row false (zGN c))).add (.row false (zGN ⟨Eid.z,0⟩))).upd hw (Nat.le_refl _) q).upd hw (Nat.le_succ M.size) r)
 have kk1:=fun r=>((((Kept.refl wf).add (.row false (zGN c))).add (.row false (zGN ⟨Eid.z,0⟩))).upd hw (Nat.le_succ M.size) r)
 unfold zIM at k
 refine zAT tf47 rfl (by simp [a47]) fun b' ht hx=>?_
 obtain⟨h0,h1,h2⟩:=hx3 hx
 clear hx
 simp only[a47,c47] at ht ⊢
 cases q:zFJ low c.id v with
 | true =>
  rw[q] at k
  simp only[q] at hsh
  rw[if_pos rfl] at k
  simp (disch:=try exact SX) only[RV,seval,h0,h1,h2,g1,g2,hgo,hsh]
  exact k _ (kk1 _)
 | false =>
  rw[q] at k
  simp only[q] at hsh
  rw[if_neg (by decide)] at k
  simp (disch:=try exact SX) only[RV,seval,h0,h1,h2,g1,g2,hgo,hsh]
  exact k _ (kk _ _)
theorem zeK {a:AV}{cs:List CellV}{bl bv:Nat}(hA:Sl 5 zDE a cs)(hcl:cs.length<=1000000)(hS:Sl 17 isOp al low)(hh:zAS [] low=true)(hl:low.length<=10000)(hf:low.length+cs.length+400<fuel)(wf:Wf M)(hw:M.wm<=M.size)(m1:M.get bl=some (.row false [al]))(m2:M.get bv=some (.row false (lbR v)))
  (k:∀ o N,Wf N->M.size<=N.size->(∀ j,j<M.size->N.get j=M.get j)->SlM N 5 zDE o (zJ3 low v cs)->(∀ j,rowOf o=some j->M.size<=j)->N.wm=M.wm->Q o N) :
  W3 (zCN fuel (d+17) 45 [a,.fn 47 [] [.ptr bl 0,.ptr bv 0]] M) Q:=by
 have la:=hA.len
 have l1:=Mem.get_lt m1
 have l2:=Mem.get_lt m2
 refine zAT tf45 rfl (by simp [a45]) fun b' ht hx=>?_
 obtain⟨h0,h1⟩:=hx2 hx
 clear hx
 simp only[a45,c45] at ht ⊢
 simp (disch:=try exact SX) only[RV,seval,h0,la]
 refine zBB (I:=fun n t N => ∃ (i:Nat) (o:AV),n=cs.length - i/\i<=cs.length/\nth zA3 t 1 = .fn 47 [] [.ptr bl 0,.ptr bv 0]/\nth zA3 t 4=o/\nth zA3 t 9=a/\nth zA3 t 10=I64 cs.length/\nth zA3 t 11=I64 i/\Wf N/\M.size<=N.size/\(∀ j,j<M.size->N.get j=M.get j)/\N.wm=M.wm/\SlM N 5 zDE o (zJ3 low v (cs.take i))/\(∀ j,rowOf o=some j->M.size<=j)) (n:=cs.length) (by omega) ?_ ?_
 ·refine⟨0,NIL,rfl,Nat.zero_le _, ?_, ?_, ?_, ?_, ?_,wf,Nat.le_refl _,(fun _ _=>rfl),rfl,SlM.nil,(fun _ h=>by cases h)⟩ <;> simp (disch:=try exact SX) only[RV,seval,h1]
  all_goals first | rfl | assumption | done
 ·rintro n t N hlt ⟨i,o,rfl,hi,g1,g4,g9,g10,g11,w,le,kp,wm,sm,nr⟩
  simp only[ht] at hlt ⊢
  have oo:=sm.one
  have oc:=sm.cells
  by_cases hc:i<cs.length
  ·have q1:decide ((i:Int)<cs.length)=true:=DT
   have w1:IntKind.i64.wrap ((i:Int)+1)=((i+1:Nat):Int):=WI
   obtain⟨r,hiad,hr,hrl⟩:=hA.iad i hc
   have hts:=zSV low v (cs.take i) cs[i]
   rw[<- take_snoc cs i hc] at hts
   have hkl:=zV7 low v (cs.take i)
   rw[List.length_take] at hkl
   generalize cs[i]=c at *
   obtain⟨rfl,hok⟩:=hr
   have hwN:N.wm<=N.size:=by rw[wm];exact Nat.le_trans hw le
   have kX:=((Kept.refl w).add (.row false (zGN ⟨Eid.z,0⟩))).upd hwN (Nat.le_refl _) (.row false (zGN c))
   simp (disch:=try exact SX) only[RV,seval,g1,g9,g10,g11,q1,hiad]
   refine zY0 (d:=d) (c:=c) hS hh hl (by omega) hok kX.wf (by rw[kX.wm];exact Nat.le_trans hwN kX.le) ((kX.get bl (by omega)).trans ((kp bl l1).trans m1)) ((kX.get bv (by omega)).trans ((kp bv l2).trans m2)) fun N2 k2=>?_
   have w2:=k2.wf
   have k3:=kX.trans k2
   have le2:=k2.le
   simp only[zA7,zA2] at le2
   have smX:SlM N2 5 zDE o (zJ3 low v (cs.take i)):=sm.keep fun j hj=>by
    have:=sm.lt j hj
    rw[k2.get j (by simp only[zA7,zA2];omega),zA0 (w.add _) _ _ _ (by omega),zAA w _ _ this]
   have smY:∀ y z,SlM ((N2.add y).upd N2.size z) 5 zDE o (zJ3 low v (cs.take i)):=fun y z=>smX.keep fun j hj=>by
    have:=smX.lt j hj
    rw[zA0 (w2.add _) _ _ _ (by omega),zAA w2 _ _ this]
   cases q2:zCY low c.id with
   | true =>
    rw[q2,if_pos rfl,List.append_nil] at hts
    have k4:=(k3.add (.row false (zGN ⟨Eid.z,0⟩))).upd hwN k3.le (.row false (zGN (zIM low v c)))
    simp (disch:=try exact SX) only[RV,seval,g1,g4,g9,g10,g11,w2,w1]
    exact⟨hlt,cs.length - (i+1),by omega,i+1,o,rfl,by omega,rfl,rfl,by have:=k3.le;omega,fun j hj=>(k4.get j (by omega)).trans (kp j hj),k4.wm.trans wm,by rw[hts];exact smY _ _,nr⟩
   | false =>
    rw[q2,if_neg (by decide)] at hts
    simp (disch:=try exact SX) only[RV,seval,zAB,g4]
    refine⟨zB3 smX.rl (by omega), ?_⟩
    refine app1 (bytes:=32) (x:=zIM low v c) ((w2.add _).upd _ _) (smY _ _) zLN ⟨rfl,hok⟩ rfl (by omega) (by omega) (by omega) fun p2 M2 m2' wf2 le3 kp2 nw2 wm2 rl2 on2 oc2=>?_
    simp only[zA7,zA2] at le3
    have k5:=(k3.add (.row false (zGN ⟨Eid.z,0⟩))).upd hwN k3.le (.row false (zGN (zIM low v c)))
    simp (disch:=try exact SX) only[RV,seval,g1,g4,g9,g10,g11,wf2,w1]
    refine⟨hlt,cs.length - (i+1),by omega,i+1,p2,rfl,by omega,rfl,rfl, ?_,fun j hj=>?_,(wm2.trans k5.wm).trans wm,by rw[hts];exact m2',fun j hj=>?_⟩
    ·have:=k3.le;omega
    ·rw[kp2 j (by have:=k3.le;simp only[zA7,zA2];omega) (fun h=>by have:=nr _ h;omega)];exact(k5.get j (by omega)).trans (kp j hj)
    ·rcases nw2 j hj with h | h
     ·exact nr j h
     ·simp only[zA7,zA2] at h;have:=k3.le;omega
  ·obtain rfl:i=cs.length:=by omega
   have q1:decide ((cs.length:Int)<cs.length)=false:=DF
   rw[List.take_length] at sm
   simp (disch:=try exact SX) only[RV,seval,g4,g10,g11]
   exact k _ _ w le kp sm nr wm
theorem zLQ {s:Spn}{x:Eid}{k:Int}:s.has x=some k↔s.may=true/\0<=k/\k<s.n/\s.at k=x:=by
 obtain⟨hd,c⟩:=x
 unfold Spn.has Spn.at
 simp only
 constructor
 ·intro h
  split at h
  ·rename_i g
   injection h with h
   refine⟨g.1,by omega,by omega, ?_⟩
   rw[g.2.1];congr 1;omega
  ·cases h
 ·rintro⟨h1,h2,h3,h4⟩
  injection h4 with h4 h5
  rw[if_pos ⟨h1,h4.symm,by omega,by omega⟩]
  congr 1;omega
theorem zd2 {r:Rn}(hr:r.may=true)(x:Eid):r.sp.has x=none ↔ ∀ e∈r.elR,e.id≠x:=by
 have br:=Spn.may_le (Rn.may_sp hr)
 constructor
 ·intro h e he k
  obtain⟨i,hi,rfl⟩:=List.getElem_of_mem he
  rw[zBG] at hi
  rw[zBX] at k
  have:=(zLQ (k:=(i:Int))).2 ⟨Rn.may_sp hr,by omega,by omega,k⟩
  rw[h] at this
  cases this
 ·intro h
  cases hh:r.sp.has x with
  | none=>rfl
  | some k =>
   obtain⟨h1,h2,h3,h4⟩:=zLQ.1 hh
   have hl:k.toNat<r.elR.length:=by rw[zBG];omega
   refine absurd ?_ (h _ (List.getElem_mem hl))
   rw[zBX]
   have:((k.toNat:Nat):Int)=k:=by omega
   rw[this];exact h4
theorem zOF {l:List Rn}(h:∀ r∈l,r.may=true)(x:Eid):zBI l x=none ↔ ∀ e∈elsR l,e.id≠x:=by
 induction l with
 | nil=>exact⟨fun _ e he=>absurd he (by simp [elsR]),fun _=>rfl⟩
 | cons r l ih =>
  have hr:=h r List.mem_cons_self
  have ih:=ih fun y hy=>h y (List.mem_cons_of_mem _ hy)
  have he:elsR (r::l)=r.elR++elsR l:=by simp [elsR]
  rw[he]
  unfold zBI
  have hh:=zd2 hr x
  cases hc:r.sp.has x with
  | none =>
   rw[hc] at hh
   have hh:=hh.1 rfl
   simp only[Option.map_eq_none_iff]
   rw[ih]
   constructor
   ·intro h1 e he
    rcases List.mem_append.1 he with he | he
    ·exact hh e he
    ·exact h1 e he
   ·exact fun h1 e he=>h1 e (List.mem_append_right _ he)
  | some k =>
   rw[hc] at hh
   simp only[reduceCtorEq,false_iff] at hh ⊢
   exact fun h1=>hh fun e he=>h1 e (List.mem_append_left _ he)
theorem zHT:∀ {l:List Rn} {x:Eid} {n:Nat} {k:Int},zBI l x=some (n,k) -> ∃ L1 q L2,l=L1++q::L2/\L1.length=n/\q.sp.may=true/\0<=k/\k<q.sp.n/\q.sp.at k=x
 | [],_,_,_,h=>by cases h
 | r::l,x,n,k,h=>by
  unfold zBI at h
  cases hc:r.sp.has x with
  | none =>
   rw[hc] at h
   simp only at h
   cases hw:zBI l x with
   | none=>rw[hw] at h;cases h
   | some p =>
    rw[hw] at h
    obtain⟨n',k'⟩:=p
    simp only[Option.map_some,Option.some.injEq,Prod.mk.injEq] at h
    obtain⟨rfl,rfl⟩:=h
    obtain⟨L1,q,L2,rfl,rfl,hh⟩:=zHT hw
    exact⟨r::L1,q,L2,rfl,rfl,hh⟩
  | some k' =>
   rw[hc] at h
   simp only[Option.some.injEq,Prod.mk.injEq] at h
   obtain⟨rfl,rfl⟩:=h
   obtain⟨h1,h2,h3,h4⟩:=zLQ.1 hc
   exact⟨[],r,l,rfl,rfl,h1,h2,h3,h4⟩
def zBC (l:List Rn)(x:Eid):List Rn × Nat :=
 if x=Eid.z then (l,0) else
 match zBI l x with
 | none=>(l,0)
 | some (n,k)=>if (l.getD n Rn.z).cutE (k+1)=0 then (l.take n++[(l.getD n Rn.z).fst (k+1),(l.getD n Rn.z).snd (k+1)]++l.drop (n+1),n+1) else (l,n+1)
def zFV (l:List Rn)(x:Eid)(n:Nat):Nat:=n+((l.drop n).takeWhile fun r=>x.less r.sp.f).length
def insL (l:List Rn)(r:Rn):List Rn:=zBU ((zBC l r.af).1.take (zFV (zBC l r.af).1 r.sp.f (zBC l r.af).2)++[r]++(zBC l r.af).1.drop (zFV (zBC l r.af).1 r.sp.f (zBC l r.af).2))
open Classical in
noncomputable def putE (l : List Rn) (r : Rn) : Int :=
  if zDW l /\ r.may = true then
    (if r.af ≠ Eid.z /\ zBI l r.af = none then 6
     else if ∃ i : Nat,(i : Int) < r.sp.n /\ zBI l (r.sp.at i) ≠ none then 2
     else if 8192 < zB8 l + r.sp.n then 4 else 0)
  else 8
theorem zPM {l:List Rn}{x:Eid}(h:∀ r∈l,r.may=true)(hx:x=Eid.z∨zBI l x≠none):(zBC l x).2<=(zBC l x).1.length/\(∀ r∈(zBC l x).1,r.may=true)/\elsR (zBC l x).1=elsR l/\((x=Eid.z/\(zBC l x).2=0) ∨ ∃ A w,elsR ((zBC l x).1.take (zBC l x).2)=A++[w]/\w.id=x):=by
 unfold zBC
 by_cases hz:x=Eid.z
 ·rw[if_pos hz]
  exact⟨Nat.zero_le _,h,rfl,.inl ⟨hz,rfl⟩⟩
 ·rw[if_neg hz]
  rcases hx with hx | hx
  ·exact absurd hx hz
  ·cases hw:zBI l x with
   | none=>exact absurd hw hx
   | some p =>
    obtain⟨n,k⟩:=p
    obtain⟨L1,q,L2,rfl,rfl,h1,h2,h3,h4⟩:=zHT hw
    have hq:=h q (by simp)
    have hg:(L1++q::L2).getD L1.length Rn.z=q:=by
     rw[List.getD_eq_getElem?_getD,List.getElem?_append_right (Nat.le_refl _)];simp
    simp only[hg]
    obtain⟨m,rfl⟩:∃ m:Nat,k=m:=⟨k.toNat,by omega⟩
    have hm1:((m:Int)+1)=((m+1:Nat):Int):=by omega
    have hlast:q.elR.take (m+1)=q.elR.take m++[⟨x,q.afAt m,q.rs.getD m 0⟩]:=by
     have hl:m<q.elR.length:=by rw[zBG];omega
     rw[zBR _ _ hl,zBX,h4]
    by_cases hc:q.cutE ((m:Int)+1)=0
    ·rw[if_pos hc]
     rw[Rn.cutE_iff] at hc
     have hd:(L1++q::L2).drop (L1.length+1)=L2:=by simp
     have ht:(L1++q::L2).take L1.length=L1:=by simp
     simp only[hd,ht,hm1]
     refine⟨by simp,fun r hr=>?_, ?_,.inr ⟨elsR L1++q.elR.take m,⟨x,q.afAt m,q.rs.getD m 0⟩, ?_,rfl⟩⟩
     ·rcases List.mem_append.1 hr with hr | hr
      ·rcases List.mem_append.1 hr with hr | hr
       ·exact h r (by simp [hr])
       ·rcases List.mem_cons.1 hr with rfl | hr
        ·exact zQO hq (by omega) (by omega)
        ·rw[List.mem_singleton] at hr;subst hr
         exact zRP hq (by omega) (by omega)
      ·exact h r (by simp [hr])
     ·have e1:elsR (L1++q::L2)=elsR L1++q.elR++elsR L2:=by simp [elsR]
      have e2:elsR [q.fst ((m+1:Nat):Int),q.snd ((m+1:Nat):Int)]=q.elR:=by
       have:elsR [q.fst ((m+1:Nat):Int),q.snd ((m+1:Nat):Int)]=(q.fst ((m+1:Nat):Int)).elR++(q.snd ((m+1:Nat):Int)).elR:=by simp [elsR]
       rw[this,zUT (by omega),zWX (by omega),List.take_append_drop]
      rw[zFL,zFL,e1,e2]
     ·have e1:(L1++[q.fst ((m+1:Nat):Int),q.snd ((m+1:Nat):Int)]++L2).take (L1.length+1)=L1++[q.fst ((m+1:Nat):Int)]:=by
       rw[List.append_assoc,List.take_length_add_append];rfl
      rw[e1,zD9,zUT (by omega),hlast,List.append_assoc]
    ·rw[if_neg hc]
     rw[Rn.cutE_iff] at hc
     have hmn:(m:Int)+1=q.sp.n:=Classical.byContradiction fun k=>hc ⟨hq,by omega,by omega⟩
     refine⟨by simp,h,rfl,.inr ⟨elsR L1++q.elR.take m,⟨x,q.afAt m,q.rs.getD m 0⟩, ?_,rfl⟩⟩
     have e1:(L1++q::L2).take (L1.length+1)=L1++[q]:=by
      rw[List.take_length_add_append];rfl
     rw[e1,zD9,List.append_assoc,<- hlast,List.take_of_length_le (by rw[zBG];omega)]
theorem zfL {r:Rn}(hr:r.may=true){x:Eid}(h:x.less r.sp.f=true):∀ e∈r.elR,x.less e.id=true:=by
 intro e he
 obtain⟨i,hi,rfl⟩:=List.getElem_of_mem he
 rw[zBX]
 cases i with
 | zero=>simpa [Spn.at] using h
 | succ i =>
  refine zKJ h (zNM ?_)
  simp only[Spn.at];omega
structure Put (l:List Rn) (r:Rn) (A0 A1 B:List El):Prop where
 e:elsR l=A0++A1++B
 a:(r.af=Eid.z/\A0=[]) ∨ ∃ A w,A0=A++[w]/\w.id=r.af
 g:∀ x∈A1,r.sp.f.less x.id=true
 t:TxtM (A0++A1++r.elR++B)
 i:insL l r=zDG (A0++A1++r.elR++B)
theorem zRG {l:List Rn}{r:Rn}:putE l r=0↔zDW l/\r.may=true/\(r.af=Eid.z ∨ ∃ e∈elsR l,e.id=r.af)/\(∀ x∈r.elR,∀ e∈elsR l,x.id≠e.id)/\(elsR l).length+r.elR.length<=8192:=by
 unfold putE
 by_cases h:zDW l/\r.may=true
 ·rw[if_pos h]
  obtain⟨ht,hr⟩:=h
  have hw:=fun x=>zOF ht.1 x
  have br:=Spn.may_le (Rn.may_sp hr)
  have hn:(r.elR.length:Int)=r.sp.n:=by rw[zBG];omega
  rw[zE8 ht.1]
  by_cases h1:r.af≠Eid.z/\zBI l r.af=none
  ·rw[if_pos h1]
   refine⟨fun h=>(by cases h), ?_⟩
   rintro⟨_,_,h3,_⟩
   rcases h3 with h3 | ⟨e,he,h3⟩
   ·exact absurd h3 h1.1
   ·exact absurd h3 ((hw _).1 h1.2 e he)
  ·rw[if_neg h1]
   have h1':r.af=Eid.z ∨ ∃ e∈elsR l,e.id=r.af:=by
    by_cases hz:r.af=Eid.z
    ·exact .inl hz
    ·right
     have:¬∀ e∈elsR l,e.id≠r.af:=fun k=>h1 ⟨hz,(hw _).2 k⟩
     exact Classical.byContradiction fun k=>this fun e he k2=>k ⟨e,he,k2⟩
   by_cases h2:∃ i:Nat,(i:Int)<r.sp.n/\zBI l (r.sp.at i)≠none
   ·rw[if_pos h2]
    refine⟨fun h=>(by cases h), ?_⟩
    rintro⟨_,_,_,h3,_⟩
    obtain⟨i,hi,h2⟩:=h2
    refine absurd ((hw _).2 fun e he=>?_) h2
    have hl:i<r.elR.length:=by omega
    have:=h3 _ (List.getElem_mem hl) e he
    rw[zBX] at this
    exact fun k=>this k.symm
   ·rw[if_neg h2]
    have h2':∀ x∈r.elR,∀ e∈elsR l,x.id≠e.id:=fun x hx e he k=>by
     obtain⟨i,hi,rfl⟩:=List.getElem_of_mem hx
     rw[zBX] at k
     refine h2 ⟨i,by omega,fun k2=>?_⟩
     exact(hw _).1 k2 e he k.symm
    by_cases h3:8192<((elsR l).length:Int)+r.sp.n
    ·rw[if_pos h3]
     refine⟨fun h=>(by cases h), ?_⟩
     rintro⟨_,_,_,_,h4⟩
     omega
    ·rw[if_neg h3]
     exact⟨fun _=>⟨ht,hr,h1',h2',by omega⟩,fun _=>rfl⟩
 ·rw[if_neg h]
  exact⟨fun h=>(by cases h),fun k=>absurd ⟨k.1,k.2.1⟩ h⟩
theorem put_ok {l:List Rn}{r:Rn}(h:putE l r=0):∃ A0 A1 B,Put l r A0 A1 B:=by
 obtain⟨ht,hr,ha,hf,hn⟩:=zRG.1 h
 obtain⟨hE,hl⟩:=zEL ht
 have hx:r.af=Eid.z∨zBI l r.af≠none:=by
  rcases ha with ha | ⟨e,he,ha⟩
  ·exact .inl ha
  ·exact .inr fun k=>(zOF ht.1 _).1 k e he ha
 obtain⟨p1,p2,p3,p4⟩:=zPM ht.1 hx
 have hi:insL l r=zBU ((zBC l r.af).1.take (zFV (zBC l r.af).1 r.sp.f (zBC l r.af).2)++[r]++(zBC l r.af).1.drop (zFV (zBC l r.af).1 r.sp.f (zBC l r.af).2)):=rfl
 generalize zBC l r.af=P at *
 obtain⟨l',n⟩:=P
 simp only at p1 p2 p3 p4 hi
 have hsp:l'=l'.take n++((l'.drop n).takeWhile fun q=>r.sp.f.less q.sp.f)++((l'.drop n).dropWhile fun q=>r.sp.f.less q.sp.f):=by
  rw[List.append_assoc,List.takeWhile_append_dropWhile,List.take_append_drop]
 have hg1:∀ q∈(l'.drop n).takeWhile fun q=>r.sp.f.less q.sp.f,r.sp.f.less q.sp.f=true:=fun q hq=>by
  have:=List.all_takeWhile (l:=l'.drop n) (p:=fun q=>r.sp.f.less q.sp.f)
  exact List.all_eq_true.1 this q hq
 have hg2:∀ q D,((l'.drop n).dropWhile fun q=>r.sp.f.less q.sp.f)=q::D->r.sp.f.less q.sp.f=false:=fun q D e=>by
  have:=List.head?_dropWhile_not (fun q:Rn=>r.sp.f.less q.sp.f) (l'.drop n)
  rw[e] at this
  simpa using this
 have hlen:(l'.take n).length=n:=by rw[List.length_take];omega
 unfold zFV at hi
 generalize hD1:(l'.drop n).takeWhile (fun q=>r.sp.f.less q.sp.f)=D1 at *
 generalize (l'.drop n).dropWhile (fun q=>r.sp.f.less q.sp.f)=D2 at *
 generalize l'.take n=T at *
 clear hD1
 have htk:l'.take (n+D1.length)=T++D1:=by
  rw[hsp,List.take_append_of_le_length (by rw[List.length_append];omega),List.take_of_length_le (by rw[List.length_append];omega)]
 have hdr:l'.drop (n+D1.length)=D2:=by
  rw[hsp,List.drop_append_of_le_length (by rw[List.length_append];omega),List.drop_of_length_le (by rw[List.length_append];omega),List.nil_append]
 rw[htk,hdr] at hi
 have hE':elsR l=elsR T++elsR D1++elsR D2:=by rw[<- p3,hsp,zFL,zFL]
 have hmT:∀ q∈T,q.may=true:=fun q hq=>p2 q (by rw[hsp];simp [hq])
 have hmD1:∀ q∈D1,q.may=true:=fun q hq=>p2 q (by rw[hsp];simp [hq])
 have hmD2:∀ q∈D2,q.may=true:=fun q hq=>p2 q (by rw[hsp];simp [hq])
 have br:=Spn.may_le (Rn.may_sp hr)
 have hg:∀ x∈elsR D1,r.sp.f.less x.id=true:=fun x hx=>by
  obtain⟨q,hq,hx⟩:=List.mem_flatMap.1 hx
  exact zfL (hmD1 q hq) (hg1 q hq) x hx
 have hA:(r.af=Eid.z/\elsR T=[]) ∨ ∃ A w,elsR T=A++[w]/\w.id=r.af:=by
  rcases p4 with⟨h1,h2⟩ | h1
  ·have:T=[]:=List.eq_nil_of_length_eq_zero (by omega)
   subst this
   exact .inl ⟨h1,rfl⟩
  ·exact .inr h1
 have hB:∀ b B',elsR D2=b::B'->r.sp.f.less b.id=false:=fun b B' e=>by
  cases D2 with
  | nil=>exact absurd e (by simp [elsR])
  | cons q D =>
   have bq:=Spn.may_le (Rn.may_sp (hmD2 q List.mem_cons_self))
   have e2:elsR (q::D)=q.elR++elsR D:=by simp [elsR]
   rw[e2,zD3 (by omega),List.cons_append] at e
   injection e with e _
   rw[<- e]
   exact hg2 q D rfl
 have hcons:=zD3 (r:=r) (by omega)
 have hT:Txt (elsR T++elsR D1++r.elR++elsR D2):=Txt.put (r:=⟨r.sp.f,r.af,r.rs.getD 0 0⟩) (by rw[<- hE'];exact hE.t) hcons (zcH hr) hA (fun x hx y hy=>hf x hx y (by rw[hE'];exact hy)) hg hB
 have hmR:=zLE hr
 refine⟨elsR T,elsR D1,elsR D2,hE',hA,hg,⟨hT,fun x hx=>?_, ?_⟩, ?_⟩
 ·rcases List.mem_append.1 hx with h | h
  ·rcases List.mem_append.1 h with h | h
   ·exact hE.m x (by rw[hE'];exact List.mem_append_left _ h)
   ·exact hmR x h
  ·exact hE.m x (by rw[hE'];exact List.mem_append_right _ h)
 ·rw[hE'] at hn
  simp only[List.length_append] at hn ⊢
  omega
 ·rw[hi,(zCI (fun q hq=>?_)).1]
  ·rw[zFL,zD9,zFL]
  ·rcases List.mem_append.1 hq with hq | hq
   ·rcases List.mem_append.1 hq with hq | hq
    ·rcases List.mem_append.1 hq with hq | hq
     ·exact hmT q hq
     ·exact hmD1 q hq
    ·rw[List.mem_singleton] at hq;subst hq;exact hr
   ·exact hmD2 q hq
theorem Put.mem {l:List Rn}{r:Rn}{A0 A1 B:List El}(h:Put l r A0 A1 B)(x:El):x∈elsR (insL l r)↔x∈elsR l∨x∈r.elR:=by
 rw[h.i,(zD7 _).1,h.e]
 simp only[List.mem_append]
 constructor
 ·exact zB0n
 ·exact zB0n
theorem zJ2 {l:List Rn}{r:Rn}(h:putE l r=0)(x:El):x∈elsR (insL l r)↔x∈elsR l∨x∈r.elR:=by
 obtain⟨A0,A1,B,h⟩:=put_ok h
 exact h.mem x
theorem zgB {l:List Rn}{r:Rn}(h:putE l r=0):zDW (insL l r):=by
 obtain⟨A0,A1,B,h⟩:=put_ok h
 rw[h.i]
 exact zOB h.t
theorem zdA {l:List Rn}{r:Rn}(h:putE l r=0):(elsR (insL l r)).length=(elsR l).length+r.elR.length:=by
 obtain⟨A0,A1,B,h⟩:=put_ok h
 rw[h.i,(zD7 _).1,h.e]
 simp only[List.length_append]
 omega
theorem text_eq {l m:List Rn}(hl:zDW l)(hm:zDW m)(h:∀ x,x∈elsR l↔x∈elsR m):l=m:=by
 obtain⟨h1,e1⟩:=zEL hl
 obtain⟨h2,e2⟩:=zEL hm
 rw[e1,e2,h1.t.eq h2.t h]
def zLB (l:List Rn):Bool:=l.all fun r=>r.af.hd.lb.leq r.sp.f.hd.lb
def upTo (v:Lb)(l:List Rn):List Rn:=zBU (l.filter fun r=>r.sp.f.hd.lb.leq v)
def lowE (v:Lb)(x:El):Bool:=x.id.hd.lb.leq v
theorem zN8 {r:Rn}{x:El}(h:x∈r.elR):x.id.hd=r.sp.f.hd:=by
 obtain⟨i,hi,rfl⟩:=List.getElem_of_mem h
 rw[zBX];rfl
theorem zSG (v:Lb)(l:List Rn):elsR (l.filter fun r=>r.sp.f.hd.lb.leq v)=(elsR l).filter (lowE v):=by
 induction l with
 | nil=>rfl
 | cons r l ih =>
  have he:elsR (r::l)=r.elR++elsR l:=by simp [elsR]
  rw[he,List.filter_append,<- ih]
  cases h:r.sp.f.hd.lb.leq v with
  | true =>
   rw[List.filter_cons_of_pos (p:=fun r:Rn=>r.sp.f.hd.lb.leq v) h]
   have e2:elsR (r::l.filter fun r=>r.sp.f.hd.lb.leq v)=r.elR++elsR (l.filter fun r=>r.sp.f.hd.lb.leq v):=by simp [elsR]
   rw[e2]
   congr 1
   symm
   rw[List.filter_eq_self]
   exact fun x hx=>by unfold lowE;rw[zN8 hx];exact h
  | false =>
   rw[List.filter_cons_of_neg (p:=fun r:Rn=>r.sp.f.hd.lb.leq v) (by rw[h];simp)]
   have:r.elR.filter (lowE v)=[]:=by
    rw[List.filter_eq_nil_iff]
    exact fun x hx=>by unfold lowE;rw[zN8 hx,h];simp
   rw[this,List.nil_append]
def zKX (E:List El):Prop:=∀ x∈E,x.af.hd.lb.leq x.id.hd.lb=true
theorem zS9 {l:List Rn}(h:∀ r∈l,r.may=true)(hrefl:∀ a:Lb,a.leq a=true):zLB l=true↔zKX (elsR l):=by
 unfold zLB zKX
 rw[List.all_eq_true]
 constructor
 ·intro k x hx
  obtain⟨r,hr,hx⟩:=List.mem_flatMap.1 hx
  have hk:=k r hr
  obtain⟨i,hi,rfl⟩:=List.getElem_of_mem hx
  rw[zBX]
  simp only[Spn.at]
  unfold Rn.afAt
  by_cases h0:(0:Int)<i
  ·rw[if_pos h0];exact hrefl _
  ·rw[if_neg h0];exact hk
 ·intro k r hr
  have br:=Spn.may_le (Rn.may_sp (h r hr))
  have hm:(⟨r.sp.f,r.af,r.rs.getD 0 0⟩:El)∈elsR l:=List.mem_flatMap.2 ⟨r,hr,by rw[zD3 (by omega)];exact List.mem_cons_self⟩
  exact k _ hm
theorem zdG {E:List El}(h:TxtM E)(hc:zKX E)(htrans:∀ a b c:Lb,a.leq b=true->b.leq c=true->a.leq c=true)(v:Lb):TxtM (E.filter (lowE v)):=by
 refine⟨h.t.filter _ fun x hx y hy h1 h2=>?_,fun x hx=>h.m x (List.mem_filter.1 hx).1,Nat.le_trans (List.length_filter_le _ _) h.n⟩
 unfold lowE at h1 ⊢
 rw[h2]
 exact htrans _ _ _ (hc x hx) h1
theorem zRU {l:List Rn}(h:∀ r∈l,r.may=true)(v:Lb):upTo v l=zDG ((elsR l).filter (lowE v)):=by
 unfold upTo
 rw[(zCI fun r hr=>h r (List.mem_filter.1 hr).1).1,zSG]
def stepT (t:List Rn)(o:Op):List Rn:=if rofE o=0 then insL t o.rn else t
def textOf (l:List Op):List Rn:=l.foldl stepT []
theorem zEV (l:List Op)(o:Op):textOf (l++[o])=stepT (textOf l) o:=by simp [textOf]
theorem zED (l:List Op)(o:Op):zAS [] (l++[o])=(zAS [] l&&(o.may&&decide (fitE l o=0))):=by
 rw[zGV]
 simp [zAS]
theorem zIV (o:Op):o.rn.elR.map (·.id)=o.sp.ids:=by
 simp [Rn.elR,Spn.ids,Op.rn,Function.comp_def]
theorem zJS {o:Op}(h:rofE o=0):o.may=true/\o.kd=1/\o.rn.may=true:=by
 unfold rofE at h
 split at h
 ·rename_i h1
  split at h
  ·rename_i h2;exact⟨h1,h2.1,h2.2⟩
  ·cases h
 ·cases h
structure HT (l:List Op) (t:List Rn):Prop where
 ok:zDW t
 mem:∀ x,x∈elsR t ↔ ∃ o∈l,rofE o=0/\x∈o.rn.elR
 ids:∀ y,y∈zAO l ↔ ∃ x∈elsR t,x.id=y
 len:(elsR t).length=(zAO l).length
 cl:(∀ o∈l,o.ok)->zKX (elsR t)
theorem z_leq {b:Lb}(h:b.ok):Lb.z.leq b=true:=by
 unfold Lb.leq
 simp only[Bool.and_eq_true,decide_eq_true_eq,zHL]
 refine⟨h.1, ?_⟩
 simp
theorem HT.step {l:List Op}{t:List Rn}{o:Op}(h:HT l t)(hf:fitE l o=0)(hm:o.may=true):HT (l++[o]) (stepT t o)/\(o.kd=1->putE t o.rn=0/\rofE o=0):=by
 have hk:=zI9 hf
 have hth:=zKV l o
 by_cases h1:o.kd=1
 ·unfold zE4 at hk
  rw[if_pos h1] at hk
  unfold insE at hk
  split at hk
  ·cases hk
  rename_i hs
  split at hk
  ·cases hk
  rename_i hr
  split at hk
  ·cases hk
  rename_i hn
  have hr0:rofE o=0:=Classical.byContradiction fun k=>hr (.inl k)
  have hfr:∀ y∈o.sp.ids,y ∉ zAO l:=fun y hy k=>hr (.inr (List.any_eq_true.2 ⟨y,hy,decide_eq_true k⟩))
  obtain⟨_,_,hrm⟩:=zJS hr0
  have hsee:o.af≠Eid.z->zFH l o o.af=true:=fun hz=>Classical.byContradiction fun k=>hs ⟨hz,by simpa using k⟩
  have hp:putE t o.rn=0:=by
   rw[zRG]
   refine⟨h.ok,hrm, ?_,fun x hx e he k=>?_, ?_⟩
   ·by_cases hz:o.af=Eid.z
    ·exact .inl hz
    ·right
     have:=hsee hz
     unfold zFH at this
     simp only[Bool.and_eq_true,decide_eq_true_eq] at this
     exact(h.ids _).1 this.1
   ·have h2:x.id∈o.sp.ids:=by rw[<- zIV];exact List.mem_map.2 ⟨x,hx,rfl⟩
    exact hfr _ h2 ((h.ids _).2 ⟨e,he,k.symm⟩)
   ·have hl:o.rn.elR.length=o.sp.n.toNat:=zBG _
    have hb:=Spn.may_le (Rn.may_sp hrm)
    have e1:o.rn.sp.n=o.sp.n:=rfl
    rw[e1] at hb
    rw[h.len,hl]
    omega
  have hst:stepT t o=insL t o.rn:=by unfold stepT;rw[if_pos hr0]
  rw[hst]
  refine⟨⟨zgB hp,fun x=>?_,fun y=>?_, ?_,fun hok=>?_⟩,fun _=>⟨hp,hr0⟩⟩
  ·rw[zJ2 hp,h.mem]
   constructor
   ·rintro (⟨p,h2,h3⟩ | h2)
    ·exact⟨p,List.mem_append_left _ h2,h3⟩
    ·exact⟨o,List.mem_append_right _ List.mem_cons_self,hr0,h2⟩
   ·rintro⟨p,h2,h3,h4⟩
    rcases List.mem_append.1 h2 with h2 | h2
    ·exact .inl ⟨p,h2,h3,h4⟩
    ·rw[List.mem_singleton] at h2;subst h2;exact .inr h4
  ·rw[hth,if_pos h1,List.mem_append,h.ids]
   constructor
   ·rintro (⟨x,h2,h3⟩ | h2)
    ·exact⟨x,(zJ2 hp x).2 (.inl h2),h3⟩
    ·rw[<- zIV] at h2
     obtain⟨x,h3,h4⟩:=List.mem_map.1 h2
     exact⟨x,(zJ2 hp x).2 (.inr h3),h4⟩
   ·rintro⟨x,h2,h3⟩
    rcases (zJ2 hp x).1 h2 with h2 | h2
    ·exact .inl ⟨x,h2,h3⟩
    ·right
     rw[<- zIV]
     exact List.mem_map.2 ⟨x,h2,h3⟩
  ·rw[zdA hp,hth,if_pos h1,List.length_append,h.len,<- zIV,List.length_map]
  ·intro x hx
   rcases (zJ2 hp x).1 hx with hx | hx
   ·exact h.cl (fun p hp=>hok p (List.mem_append_left _ hp)) x hx
   ·have hhd:=(zGD hm h1).1
    have ho:=hok o (List.mem_append_right _ List.mem_cons_self)
    rw[zN8 hx]
    obtain⟨i,hi,rfl⟩:=List.getElem_of_mem hx
    rw[zBX]
    unfold Rn.afAt
    by_cases h0:(0:Int)<i
    ·rw[if_pos h0];exact zGY _
    ·rw[if_neg h0]
     show o.af.hd.lb.leq o.sp.f.hd.lb=true
     by_cases hz:o.af=Eid.z
     ·rw[hz,hhd];exact z_leq ho.2.1.1
     ·have:=hsee hz
      unfold zFH at this
      simp only[Bool.and_eq_true,decide_eq_true_eq] at this
      rw[hhd];exact this.2
 ·have hr0:¬rofE o=0:=fun k=>h1 (zJS k).2.1
  have hst:stepT t o=t:=by unfold stepT;rw[if_neg hr0]
  rw[hst]
  refine⟨⟨h.ok,fun x=>?_,fun y=>?_, ?_,fun hok=>h.cl fun p hp=>hok p (List.mem_append_left _ hp)⟩,fun k=>absurd k h1⟩
  ·rw[h.mem]
   constructor
   ·rintro⟨p,h2,h3⟩
    exact⟨p,List.mem_append_left _ h2,h3⟩
   ·rintro⟨p,h2,h3,h4⟩
    rcases List.mem_append.1 h2 with h2 | h2
    ·exact⟨p,h2,h3,h4⟩
    ·rw[List.mem_singleton] at h2;subst h2;exact absurd h3 hr0
  ·rw[hth,if_neg h1,List.append_nil];exact h.ids y
  ·rw[hth,if_neg h1,List.append_nil];exact h.len
theorem zPY:zDW []:=⟨fun _ h=>absurd h (by simp),by simp [zB8],by rw[show elsL []=[] from rfl];exact Ord.nil,rfl⟩
theorem zg7:HT [] []:=⟨zPY,fun x=>by simp [elsR],fun y=>by simp [zAO,elsR],rfl,fun _ x hx=>absurd hx (by simp [elsR])⟩
theorem zC2 {l:List Op}:zAS [] l=true->HT l (textOf l):=by
 refine zD5 (P:=fun l=>zAS [] l=true->HT l (textOf l)) (fun _=>zg7) (fun l o ih h=>?_) l
 rw[zED] at h
 simp only[Bool.and_eq_true,decide_eq_true_eq] at h
 rw[zEV]
 exact((ih h.1).step h.2.2 h.2.1).1
theorem zQU {l m:List Op}(h:zAS [] (l++m)=true):zAS [] l=true:=by
 rw[zGV] at h
 simp only[Bool.and_eq_true] at h
 exact h.1
theorem zYU {l m:List Op}{o:Op}(h:zAS [] (l++o::m)=true)(hr:rofE o=0):putE (textOf l) o.rn=0:=by
 have e:l++o::m=(l++[o])++m:=by simp
 rw[e] at h
 have h:=zQU h
 rw[zED] at h
 simp only[Bool.and_eq_true,decide_eq_true_eq] at h
 exact(((zC2 h.1).step h.2.2 h.2.1).2 (zJS hr).2.1).1
theorem zaO {l:List Op}(h:zAS [] l=true)(hok:∀ o∈l,o.ok)(v:Lb):textOf (lowL l v)=upTo v (textOf l)/\zLB (textOf l)=true:=by
 have hT:=zC2 h
 have hL:=zC2 (zDP v h)
 have hE:=(zEL hT.ok).1
 have hC:=hT.cl hok
 have hcl:zLB (textOf l)=true:=(zS9 hT.ok.1 zGY).2 hC
 refine⟨?_,hcl⟩
 rw[zRU hT.ok.1]
 have hM:=zdG hE hC (fun _ _ _=>zJ4) v
 refine text_eq hL.ok (zOB hM) fun x=>?_
 rw[(zD7 _).1,List.mem_filter,hL.mem,hT.mem]
 have hmay:=zLS h
 constructor
 ·rintro⟨o,ho,h1,h2⟩
  obtain⟨h3,h4⟩:=List.mem_filter.1 ho
  refine⟨⟨o,h3,h1,h2⟩, ?_⟩
  unfold lowE
  rw[zN8 h2]
  show o.sp.f.hd.lb.leq v=true
  rw[(zGD (hmay o h3) (zJS h1).2.1).1]
  exact h4
 ·rintro⟨⟨o,h3,h1,h2⟩,h4⟩
  refine⟨o,List.mem_filter.2 ⟨h3, ?_⟩,h1,h2⟩
  unfold lowE at h4
  rw[zN8 h2] at h4
  have h5:o.sp.f.hd.lb.leq v=true:=h4
  rw[(zGD (hmay o h3) (zJS h1).2.1).1] at h5
  exact h5
theorem zd5 {s:Spn}{x:Eid}(h:(s.has x).isSome=true):x∈s.ids:=by
 obtain⟨k,hk⟩:=Option.isSome_iff_exists.1 h
 obtain⟨_,h0,h1,rfl⟩:=zLQ.1 hk
 unfold Spn.ids
 exact List.mem_map.2 ⟨k.toNat,List.mem_range.2 (by omega),by rw[Int.toNat_of_nonneg h0]⟩
theorem zZE {out:List Lb}{x y:Lb}:y∈addL out x↔y∈out∨y=x:=by
 unfold addL
 split
 ·rename_i h
  obtain⟨z,hz,e⟩:=List.any_eq_true.1 h
  have e:=of_decide_eq_true e
  subst e
  constructor
  ·exact .inl
  ·rintro (h | rfl)
   ·exact h
   ·exact hz
 ·simp
theorem zNO:∀ (r out:List Lb) (y:Lb),y∈r.foldl addL out↔y∈out∨y∈r
 | [],out,y=>by simp
 | x::r,out,y=>by
  rw[List.foldl_cons,zNO r,zZE]
  simp only[List.mem_cons]
  exact or_assoc
theorem zM8 {l:List Op}{x:Eid}{v y:Lb}:y∈made l x v↔y=x.hd.lb ∨ ∃ o∈l,zCJ x v o=true/\o.to=y:=by
 unfold made zCB
 rw[zNO]
 simp [List.mem_map,List.mem_filter,and_assoc]
theorem zT1 {x:Eid}{v:Lb}{o:Op}:zCJ x v o=true↔o.kd=3/\(o.sp.has x).isSome=true/\o.hd.lb.leq v=true:=by
 unfold zCJ
 simp [and_assoc]
theorem zWK {l:List Op}(h:zAS [] l=true){x:Eid}{v:Lb}:zFJ l x v=true↔(x.may=true/\v.may=true)/\x.hd.lb.leq v=true /\ ∀ o∈l,zCJ x v o=true->o.to.leq v=true:=by
 unfold zFJ askE
 rw[zEC h,if_pos rfl,Bool.and_eq_true,decide_eq_true_eq]
 have e1:err (x.may&&v.may)=0↔(x.may=true/\v.may=true):=by
  unfold err
  cases x.may <;> cases v.may <;> simp
 have e2:(!((made l x v).any fun to => !to.leq v))=true↔x.hd.lb.leq v=true /\ ∀ o∈l,zCJ x v o=true->o.to.leq v=true:=by
  rw[Bool.not_eq_true',List.any_eq_false]
  constructor
  ·intro hh
   have hh:∀ y∈made l x v,y.leq v=true:=fun y hy=>by simpa using hh y hy
   exact⟨hh _ (zM8.2 (.inl rfl)),fun o ho hc=>hh _ (zM8.2 (.inr ⟨o,ho,hc,rfl⟩))⟩
  ·rintro⟨h1,h2⟩ y hy
   rcases zM8.1 hy with rfl | ⟨o,ho,hc,rfl⟩
   ·simp [h1]
   ·simp [h2 o ho hc]
 rw[e1,e2]
def cellV (l:List Op)(v:Lb)(x:El):CellV:=⟨x.id,if zFJ l x.id v=true then x.ch else -1⟩
def zBV (l:List Op)(v:Lb):List CellV:=((elsR (textOf (lowL l v))).filter fun x => !zCY (lowL l v) x.id).map (cellV (lowL l v) v)
end Go.Proofs.YtliicocdhkcanaaGreat
