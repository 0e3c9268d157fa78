/-
  Texts joined: TrL TrN RlE TrM RlF TvA TvB SwK RlH RlI VhA RkA ToB RlJ SwV TrV RlK SzA.
-/
import Derived.Test.YtdgikiebohcohaaEg
import Derived.Test.YtdgikiebohcohaaRows
import Derived.Handed
import Derived.Test.YtdgikiebohcohaaPb
set_option linter.unusedSimpArgs false
set_option linter.unusedVariables false
set_option maxHeartbeats 64000000
set_option maxRecDepth 100000
namespace Go.Proofs.Ytdgikiebohcohaa
open Go Go.Ax
variable {fuel : Nat} {M : Mem} {Q : AV → Mem → Prop} {d : Nat}
noncomputable def zNJ (l:List Rn)(x:Eid):Int:=if zBF l=true then (if zB2 l x=none then 6 else 0) else 8
noncomputable def zQK (l:List Rn)(x:Eid):Int:=if zNJ l x=0 then (match zB2 l x with
 | some p=>zB3 (l.take p.1)+p.2
 | none=>0) else 0
theorem zWF {a:AV}{l:List Rn}{x:Eid}(hS:Sl 10 isRn a l)(hl:l.length≤1000)(hf:64*l.length+3001000<fuel)(M:Mem):zCN fuel (d+11) 11 [a,idA x] M=some (.tup [I64 (zQK l x),I64 (zNJ l x)],M):=by
 have oa:=hS.one
 have hck:=fun M=>@zET fuel d a l hS hl hf M
 have hw:=fun M=>@zJA fuel (d+4) a l x hS (by omega) (by omega) M
 apply zBA
 refine zAL tf11 rfl (by simp only[icyL,fun M=>hS.icy M 12 (by omega),zBS (zEN x) (show 1<12 by omega)]) (by simp [a11]) fun b' ht hx=>?_
 obtain⟨h0,h1⟩:=hx2 hx
 clear hx
 simp only[a11,c11] at ht ⊢
 unfold zQK zNJ
 cases ht':zBF l with
 | false =>
  rw[ht'] at hck
  have q8:((8:Int)=0)=False:=by decide
  simp only[Bool.false_eq_true,if_false,q8]
  simp (disch:=try exact SX) only[RV,seval,zA0,h0,h1,hS.fz.rows,hS.fz.one,hS.fz.cells,hS.fz.icy,hS.fz.frz,hck,zCH,z80]
  all_goals rfl
 | true =>
  rw[ht'] at hck
  have hok:=zBI.1 ht'
  simp only[if_true]
  cases hwl:zB2 l x with
  | none =>
   rw[hwl] at hw
   have q6:((6:Int)=0)=False:=by decide
   have qn:decide ((-1:Int)<0)=true:=rfl
   simp only[if_true,q6,if_false]
   simp (disch:=try exact SX) only[RV,seval,zA0,h0,h1,hS.fz.rows,hS.fz.one,hS.fz.cells,hS.fz.icy,hS.fz.frz,hck,zBP,z00,hw,wN,wK,qn]
   all_goals rfl
  | some p =>
   obtain⟨n,k⟩:=p
   rw[hwl] at hw
   obtain⟨L1,q,L2,hle,hln,h1',h2',h3',h4'⟩:=zEI hwl
   have hnl:n<l.length:=by rw[hle,List.length_append,List.length_cons];omega
   obtain⟨r1,s1,b1⟩:=zbJ hS (j:=n) (by omega)
   have ob1:=b1.one
   have hmt:∀ r∈l.take n,r.may=true:=fun r hr=>hok.1 r (List.mem_of_mem_take hr)
   have hct:=fun M=>@zG0 fuel (d+9) r1 (l.take n) b1 hmt (by rw[List.length_take];omega) (by rw[List.length_take];omega) M
   have hcl:=zE7 hmt
   rw[List.length_take] at hcl
   have hb:=Spn.may_le h1'
   have qn:decide ((n:Int)<0)=false:=DF
   have w1:IntKind.i64.wrap (zB3 (l.take n)+k)=zB3 (l.take n)+k:=WI
   simp only[reduceCtorEq,if_false,if_true]
   simp (disch:=try exact SX) only[RV,seval,zA0,h0,h1,hS.fz.rows,hS.fz.one,hS.fz.cells,hS.fz.icy,hS.fz.frz,hck,zBP,z00,hw,wN,wK,qn,s1,b1.fz.rows,b1.fz.one,b1.fz.cells,b1.fz.icy,b1.fz.frz,hct,w1]
def cI1:ACode:=(.region [⟨some 5,.alloc 29 (.agg #[(.int .u8 0),(.int .u32 0),(.int .u8 0),(.int .i64 0)]),none,[]⟩,⟨none,.store 4 (.tmp 5) (.tmp 13),none,[]⟩] false)
def cI2:ACode:=(.block 1 (.region [⟨some 15,.load 1 false (.tmp 2),none,[]⟩,⟨some 16,.load 4 true (.tmp 5),none,[]⟩,⟨some 17,.bsl 29 4 (.agg #[(.int .u8 0),(.int .u32 0),(.int .u8 0),(.int .i64 0)]) 1 [(0,4,(.tmp 16))],none,[]⟩,⟨some 18,.app 29 4 24 (.agg #[(.int .u8 0),(.int .u32 0),(.int .u8 0),(.int .i64 0)]) (.tmp 15) (.tmp 17),none,[]⟩,⟨none,.store 1 (.tmp 2) (.tmp 18),none,[]⟩] false))
structure II (tm:List AV) (pre:List (Eid × Eid)) (O:Nat→Prop) (N:Mem):Prop where
 wf:Wf N
 sz:4≤N.size
 g0:∃ o,N.get 0=some (.row false [o])∧SlM N 4 zDJ o (pre.map (·.1)) ∧ ∀ j,rowOf o=some j→O j∧4≤j
 g2:N.get 2=some (.dfr false)
 g3:N.get 3=some (.loop .ready none tm [13,14] cI1 cI2 2)
 o0:O 0
 o3:O 3
 ol:∀ j,O j→j<N.size∧(j=0∨3≤j)
theorem II.keep {tm:List AV}{pre:List (Eid × Eid)}{O:Nat→Prop}{N N':Mem}(h:II tm pre O N)(wf:Wf N')(hs:N.size≤N'.size)(k:∀ j,j<N.size→N'.get j=N.get j):II tm pre O N':=by
 have:=h.sz
 obtain⟨o,h1,h2,h3⟩:=h.g0
 exact⟨wf,by omega,⟨o,(k 0 (by omega)).trans h1,h2.keep fun j hj=>k j (h2.lt j hj),h3⟩,(k 2 (by omega)).trans h.g2,(k 3 (by omega)).trans h.g3,h.o0,h.o3,fun j hj=>⟨by have:=(h.ol j hj).1;omega,(h.ol j hj).2⟩⟩
theorem zd0 {B:Nat}{tm:List AV}{pre:List (Eid × Eid)}{O:Nat→Prop}{x:Eid × Eid}(h:II tm pre O M)(h2:nth zA3 tm 2 = .ptr 0 0)(hlen:tm.length=20)(hx:x.1.ok)(hn:pre.length≤100000) :
  W3 (zAU Try.prog (fsT tbl) fuel (d+7) (.yl 3) [idA x.1,idA x.2] M) (fun v N'=>(v=BL true∧Yl (II tm) (pre++[x]) O B M N')∨(v=BL false∧False)):=by
 obtain⟨o,g0,sm,ro⟩:=h.g0
 have wf:=h.wf
 have sz:=h.sz
 have g3:=h.g3
 have oo:=sm.one
 have l0:=Mem.get_lt g0
 refine zZH g3 rfl ?_
 have e1:zFI tm [13,14] [idA x.1,idA x.2]=St tm [(14,idA x.2),(13,idA x.1)]:=rfl
 rw[e1]
 unfold cI1 cI2
 simp (disch:=try exact SX) only[RV,seval,zA0,h2,wf]
 refine⟨tm,[13,14],_,_,2,g3, ?_⟩
 generalize hX:((M.add _).upd M.size _).upd 3 _=X
 have wX:Wf X:=by rw[← hX];exact((wf.add _).upd _ _).upd _ _
 have sX:X.size=M.size+1:=by rw[← hX];rfl
 have gX:∀ j,j<M.size→j≠3→X.get j=M.get j:=fun j a b=>by
  rw[← hX,zA2 ((wf.add _).upd _ _) _ _ _ (fun e=>b e.symm),zA2 (wf.add _) _ _ _ (by omega),zAP wf _ _ a]
 have x3:X.get 3=some (.loop .busy none tm [13,14] cI1 cI2 2):=by
  rw[← hX,zAJ ((wf.add _).upd _ _) _ _ (by rw[zA9,zA8];omega)]
 have xM:X.get M.size=some (.row false (idR x.1)):=by
  rw[← hX,zA2 ((wf.add _).upd _ _) _ _ _ (by omega),zAJ (wf.add _) _ _ (by rw[zA8];omega)]
 have x0:=(gX 0 l0 (by omega)).trans g0
 have lM:M.size<X.size:=by omega
 have l0':0<X.size:=by omega
 have smX:SlM X 4 zDJ o (pre.map (·.1)):=sm.keep fun j hj=>gX j (sm.lt j hj) (by have:=ro j hj;have:=h.ol j this.1;omega)
 clear hX
 simp (disch:=try exact SX) only[RV,seval,zA0,h2,g0,x0,xM,oo,wX]
 refine⟨zAM smX.rl (by omega), ?_⟩
 refine app1 wX smX zF7 (x:=x.1) ⟨rfl,hx⟩ rfl (by omega) (by rw[List.length_map];omega) (by rw[List.length_map];omega) fun o2 M2 m2 w2 le2 kp2 nw2 wm2 rl2 on2 oc2=>?_
 have ro2:∀ j,rowOf o2=some j→4≤j∧(O j∨M.size≤j):=fun j hj=>by
  rcases nw2 j hj with e | e
  ·exact⟨(ro j e).2,.inl (ro j e).1⟩
  ·exact⟨by omega,.inr (by omega)⟩
 have z0:M2.get 0=some (.row false [o]):=(kp2 0 (by omega) (fun e=>by have:=(ro 0 e).2;omega)).trans x0
 have z3:=(kp2 3 (by omega) (fun e=>by have:=(ro 3 e).2;omega)).trans x3
 have l2:0<M2.size:=by omega
 simp (disch:=try exact SX) only[RV,seval,zA0,h2,z0,z3,w2,on2,oc2]
 have wZ:=w2.upd 0 (.row false [o2])
 have zk:∀ j,j≠0→j≠3→((M2.upd 0 (.row false [o2])).upd 3 (.loop .ready none tm [13,14] cI1 cI2 2)).get j=M2.get j:=fun j a b=>by
  rw[zA2 wZ _ _ _ (fun e=>b e.symm),zA2 w2 _ _ _ (fun e=>a e.symm)]
 have k2:∀ j,j<M.size→j≠3→rowOf o≠some j→M2.get j=M.get j:=fun j a b c=>(kp2 j (by omega) c).trans (gX j a b)
 refine⟨_,_,_,_,_,_,_,rfl,.inl ⟨⟨fun j=>O j∨rowOf o2=some j,⟨wZ.upd _ _,by simp only[zA9];omega,⟨o2, ?_, ?_,fun j hj=>⟨.inr hj,(ro2 j hj).1⟩⟩, ?_, ?_,.inl h.o0,.inl h.o3, ?_⟩, ?_⟩,wZ.upd _ _,by simp only[zA9];omega, ?_⟩⟩
 ·rw[zA2 wZ _ _ _ (by omega)];exact zAJ w2 _ _ l2
 ·rw[List.map_append]
  exact m2.keep fun j hj=>zk j (by have:=(ro2 j hj).1;omega) (by have:=(ro2 j hj).1;omega)
 ·rw[zk 2 (by omega) (by omega),k2 2 (by omega) (by omega) (fun e=>by have:=(ro 2 e).2;omega)];exact h.g2
 ·exact zAJ wZ _ _ (by simp only[zA9];omega)
 ·intro j hj
  simp only[zA9]
  rcases hj with hj | hj
  ·exact⟨by have:=(h.ol j hj).1;omega,(h.ol j hj).2⟩
  ·exact⟨m2.lt j hj,.inr (by have:=(ro2 j hj).1;omega)⟩
 ·rintro j (hj | hj)
  ·exact .inl hj
  ·exact(ro2 j hj).2
 ·intro j hj hO
  have h0:j≠0:=fun e=>hO (e ▸ h.o0)
  have h3:j≠3:=fun e=>hO (e ▸ h.o3)
  rw[zk j h0 h3]
  exact k2 j hj h3 fun e=>hO (ro j e).1
theorem zW5 {X:Mem}{tm:List AV}{a:AV}{l:List Rn}(hS:Sl 10 isRn a l)(hl:l.length≤1000)(hm:∀ r∈l,r.may=true)(hf:64*l.length+1000<fuel)(w:Wf X)(h2:nth zA3 tm 2 = .ptr 0 0)(hlen:tm.length=20)(hX:X.size=2)(g0:X.get 0=some (.row false [NIL]))(g1:X.get 1=some (.row false [a]))
  (kt:∀ u O N,II tm (elsL l) O N→Q u N) :
  W3 (zCN fuel (d+8) 74 ([]++[.yl (X.size+1)]++[.ptr 1 0]) ((X.add (.dfr false)).add (.loop .ready none tm [13,14] cI1 cI2 X.size))) Q:=by
 have w1:=w.add (.dfr false)
 have hel:=zGN hm
 have heo:=zSI (zXT hS) hm
 have e:X.size+1=3:=by omega
 have u:∀ j,j<2→((X.add (.dfr false)).add (.loop .ready none tm [13,14] cI1 cI2 X.size)).get j=X.get j:=fun j hj=>by
  rw[zAP w1 _ _ (by rw[zA8];omega),zAP w _ _ (by omega)]
 have hJ0:II tm [] (fun j=>j=0∨j=3) ((X.add (.dfr false)).add (.loop .ready none tm [13,14] cI1 cI2 X.size)):=by
  refine⟨w1.add _,by simp only[zA8];omega,⟨NIL,(u 0 (by omega)).trans g0,SlM.nil,fun j hj=>by cases hj⟩, ?_, ?_,.inl rfl,.inr rfl, ?_⟩
  ·exact zB0F
  ·have:=zAO w1 (.loop .ready none tm [13,14] cI1 cI2 X.size) 3 (by rw[zA8];omega) (by rw[zA8];omega)
   rw[hX] at this ⊢
   exact this
  ·intro j hj
   simp only[zA8]
   rcases hj with rfl | rfl <;> omega
 have key:=zOZ (d:=d) (fuel:=fuel) (Q:=Q) (J:=II tm) (S:=fun N=>False) (id:=3) (p:=1) hS (by omega) hm (by omega) (w1.add _) ((u 1 (by omega)).trans g1) hJ0 (fun pre O N N' h wf le k=>h.keep wf le k) (fun pre O N h j hj=>(h.ol j hj).1) (fun pre x post O N he h wf le=>?_) (fun u N O h _ _=>kt u O N h) (fun u N h=>h.elim)
 ·rw[← e] at key
  exact key
 ·have hxm:x∈elsL l:=by rw[he];simp
  have hpl:pre.length≤(elsL l).length:=by rw[he];simp
  exact zd0 h h2 hlen (heo x hxm) (by omega)
noncomputable def idsR (l:List Rn):List Eid:=if zBF l=true then (elsL l).map (·.1) else []
theorem zaA {a:AV}{l:List Rn}(hS:Sl 10 isRn a l)(hl:l.length≤1000)(hf:64*l.length+3001000<fuel):∃ r,Sl 4 zDJ r (idsR l) ∧ ∀ M,zCN fuel (d+11) 9 [a] M=some (.tup [r,I64 (err (zBF l))],M):=by
 have oa:=hS.one
 have hck:=fun M=>@zET fuel d a l hS hl hf M
 refine zHI tf9 rfl (fun M=>by simp only[icyL,fun M=>hS.icy M 12 (by omega)]) ?_
 refine zAL tf9 rfl (by simp only[icyL,fun M=>hS.icy M 12 (by omega)]) (by simp [a9]) fun b' ht hx=>?_
 have h0:=hx 0 _ rfl
 clear hx
 simp only[a9,c9] at ht ⊢
 unfold idsR
 cases ht':zBF l with
 | false =>
  rw[ht'] at hck
  simp only[Bool.false_eq_true,if_false]
  simp (disch:=try exact SX) only[RV,seval,zA0,h0,hS.fz.rows,hS.fz.one,hS.fz.cells,hS.fz.icy,hS.fz.frz,hck,zCH,z80]
  exact⟨_,.inl ⟨rfl,rfl⟩,rfl⟩
 | true =>
  rw[ht'] at hck
  have hok:=zBI.1 ht'
  simp only[if_true]
  simp (disch:=try exact SX) only[RV,seval,zA0,h0,hS.fz.rows,hS.fz.one,hS.fz.cells,hS.fz.icy,hS.fz.frz,hck,zBP,z00]
  refine zJH hS (by simp (disch:=try exact SX) only[RV,seval,zA0]) ?_
  simp (disch:=try exact SX) only[RV,seval,zA0,h0,hS.fz.rows,hS.fz.one,hS.fz.cells,hS.fz.icy,hS.fz.frz]
  refine zbW (g:=74) (first:=[]) (cap:=[.ptr 1 0]) (by simp (disch:=try exact SX) only[RV,seval,zA0]) (by simp (disch:=try exact SX) only[RV,seval,zA0]) ?_
  refine zW5 (d:=d+2) hS hl hok.1 (by omega) ?_ ?_ ?_ ?_ ?_ ?_ (fun u O N h=>?_)
  ·exact zB05
  ·exact zB05
  ·rw[zLE];exact ht
  ·exact zB05
  ·exact zB05
  ·exact zB05
  ·have wf:=h.wf
   have sz:=h.sz
   obtain⟨o,n0,sm,ro⟩:=h.g0
   have l0:=Mem.get_lt n0
   have oo:=sm.one
   refine⟨wf,by simp only[zA8,zBQ];omega,_,_,_,_,_,h.g3, ?_⟩
   generalize hX:N.upd _ _=X
   have wX:Wf X:=by rw[← hX];exact wf.upd _ _
   have gX:∀ j,j≠3→X.get j=N.get j:=fun j hj=>by rw[← hX];exact zA2 wf _ _ _ (fun e=>hj e.symm)
   have x0:=(gX 0 (by omega)).trans n0
   have x2:=(gX 2 (by omega)).trans h.g2
   have smX:SlM X 4 zDJ o ((elsL l).map (·.1)):=sm.keep fun j hj=>gX j (by have:=ro j hj;omega)
   have l0x:=Mem.get_lt x0
   have oc:=sm.cells
   have rlo:=zAM smX.rl (Nat.le_refl X.size)
   simp (disch:=try exact SX) only[RV,seval,zA0,x0,oo,oc,rlo,wX]
   refine zKD (by simp (disch:=try exact SX) only[RV,seval,zA0,wX]) (by simp (disch:=try exact SX) only[RV,seval,zA0,wX,x2]) ?_
   obtain⟨rr,hz,hr⟩:=(smX.keep fun j hj=>by have:=ro j hj;rw[zA2 (wX.upd _ _) _ _ _ (by omega),zA2 wX _ _ _ (by omega)]:SlM ((X.upd 0 (.row false [o])).upd 2 (.dfr true)) 4 zDJ o _).frz zF7.cel (k:=12) (by omega)
   simp (disch:=try exact SX) only[RV,seval,zA0,x0,wX,hz]
   exact⟨rr,hr,rfl⟩
theorem zbI {a:AV}{l:List El}(h:SlM M 9 isEl a l){i:Nat}(hi:i<l.length):∃ id cs,rowOf a=some id∧id<M.size∧M.get id=some (.row false cs)∧(i+1)*9≤cs.length∧(∀ N,iadO N 9 a (some i)=some (.ptr id (i*9),N))∧(Go.Ax.part cs (i*9) 4 true=some (.agg (idR l[i].id))∧Go.Ax.part cs (i*9+4) 4 true=some (.agg (idR l[i].af))∧Go.Ax.part cs (i*9) 2 true=some (.agg (lbR l[i].id.hd.lb))∧Go.Ax.part cs (i*9+4) 2 true=some (.agg (lbR l[i].af.hd.lb))∧Go.Ax.part cs (i*9) 9 true=some (.agg (elR9 l[i])))∧l[i].id.ok∧l[i].af.ok:=by
 obtain⟨id,cs,r,h1,h2,h3,h4,h5,⟨rfl,hok⟩,_,h6,_,h7,_⟩:=h.atS hi
 have k0:=fun n hn=>h7 0 n true hn
 exact⟨id,cs,h1,h2,h3,h4,h5,⟨k0 4 (by omega),h7 4 4 true (by omega),k0 2 (by omega),h7 4 2 true (by omega),h6⟩,hok⟩
theorem zML {a:AV}{l:List Rn}(hS:Sl 10 isRn a l)(hl:l.length≤1000)(hf:64*l.length+3001000<fuel)(M:Mem):zCN fuel (d+7) 19 [a] M=some (I64 (err (zBF l)),M):=by
 have hmy:=fun M=>zEE (fuel:=fuel) (d:=d) hS hl hf M
 apply zBA
 refine zAL tf19 rfl (by simp only[icyL,fun M=>hS.icy M 12 (by omega)]) (by simp [a19]) fun b' ht hx=>?_
 have h0:=hx 0 _ rfl
 clear hx
 simp only[a19,c19] at ht ⊢
 cases hb:zBF l <;> rw[hb] at hmy <;> simp (disch:=try exact SX) only[RV,zA0,reduceIte,Nat.reduceEqDiff,Nat.reduceBEq,Nat.reduceLT,Nat.reduceAdd,Nat.reduceLeDiff,Nat.reduceSub,Nat.reduceMul,Int.reduceLT,Int.reduceLE,Int.reduceEq,Int.reduceAdd,Int.reduceSub,Int.reduceMul,h0,hS.fz.rows,hS.fz.one,hS.fz.cells,hS.fz.icy,hS.fz.frz,hmy,zBP,zCH]
theorem zKH (l:List Rn):(elsL l).map (·.1)=(elsR l).map (·.id):=by rw[← zHR,zNX]
theorem zR0 {a:AV}{l:List Rn}(hS:Sl 10 isRn a l)(hl:l.length≤1000)(hf:64*l.length+3001000<fuel):∃ r,Sl 4 zDJ r (idsR l) ∧ ∀ M,zCN fuel (d+7) 10 [a] M=some (.tup [r,I64 (err (zBF l))],M):=by
 have hmy:=fun M=>zEE (fuel:=fuel) (d:=d) hS hl hf M
 refine zHI tf10 rfl (fun M=>by simp only[icyL,fun M=>hS.icy M 12 (by omega)]) ?_
 refine zAL tf10 rfl (by simp only[icyL,fun M=>hS.icy M 12 (by omega)]) (by simp [a10]) fun b' ht hx=>?_
 have h0:=hx 0 _ rfl
 clear hx
 simp only[a10,c10] at ht ⊢
 unfold idsR
 cases hb:zBF l with
 | false =>
  rw[hb] at hmy
  simp (disch:=try exact SX) only[RV,zA0,reduceIte,Nat.reduceEqDiff,Nat.reduceBEq,Nat.reduceLT,Nat.reduceAdd,Nat.reduceLeDiff,Nat.reduceSub,Nat.reduceMul,Int.reduceLT,Int.reduceLE,Int.reduceEq,Int.reduceAdd,Int.reduceSub,Int.reduceMul,h0,hS.fz.rows,hS.fz.one,hS.fz.cells,hS.fz.icy,hS.fz.frz,hmy,z80,zCH]
  exact zB0m
 | true =>
  rw[hb] at hmy
  have hm:=(zBI.1 hb).1
  have hEl:=zCV hm
  have eB:elsB l=elsR l:=rfl
  simp only[if_true]
  rw[zKH]
  simp (disch:=try exact SX) only[RV,zA0,reduceIte,Nat.reduceEqDiff,Nat.reduceBEq,Nat.reduceLT,Nat.reduceAdd,Nat.reduceLeDiff,Nat.reduceSub,Nat.reduceMul,Int.reduceLT,Int.reduceLE,Int.reduceEq,Int.reduceAdd,Int.reduceSub,Int.reduceMul,h0,hS.fz.rows,hS.fz.one,hS.fz.cells,hS.fz.icy,hS.fz.frz,hmy]
  refine zCD (d:=d+3) (M0:=mem0) hS hm (by omega) (by omega) (by simp only[icyL,fun M=>hS.icy M 12 (by omega)]) Wf.mem0 fun r U kU sU nU=>?_
  rw[eB] at hEl sU
  generalize elsR l=E at *
  have wU:=kU.wf
  have oU:=sU.one
  have lU:=sU.len
  simp (disch:=try exact SX) only[RV,zA0,reduceIte,Nat.reduceEqDiff,Nat.reduceBEq,Nat.reduceLT,Nat.reduceAdd,Nat.reduceLeDiff,Nat.reduceSub,Nat.reduceMul,Int.reduceLT,Int.reduceLE,Int.reduceEq,Int.reduceAdd,Int.reduceSub,Int.reduceMul,h0,wU,oU]
  refine zB7 (I:=fun n t N => ∃ (i:Nat) (o:AV),n=E.length - i∧i≤E.length∧nth zA3 t 4=o∧nth zA3 t 5=r∧nth zA3 t 6=I64 i∧Wf N∧U.size≤N.size∧(∀ j,j<U.size→N.get j=U.get j)∧SlM N 4 zDJ o ((E.map (·.id)).take i)∧(∀ j,rowOf o=some j→U.size≤j)) (n:=E.length) (by omega) ?_ ?_
  ·refine⟨0,NIL,rfl,Nat.zero_le _, ?_, ?_, ?_,wU,Nat.le_refl _,(fun _ _=>rfl),SlM.nil,(fun _ h=>by cases h)⟩ <;> simp (disch:=try exact SX) only[RV,zA0,reduceIte,Nat.reduceEqDiff,Nat.reduceBEq,Nat.reduceLT,Nat.reduceAdd,Nat.reduceLeDiff,Nat.reduceSub,Nat.reduceMul,Int.reduceLT,Int.reduceLE,Int.reduceEq,Int.reduceAdd,Int.reduceSub,Int.reduceMul,h0]
   all_goals first | rfl | assumption | done
  ·rintro n t N hlt ⟨i,o,rfl,hi,g4,g5,g6,w,le,kp,so,ro⟩
   simp only[ht] at hlt ⊢
   have oo:=so.one
   have co:=so.cells
   by_cases hc:i<E.length
   ·have q1:decide ((i:Int)<E.length)=true:=DT
    have w1:IntKind.i64.wrap ((i:Int)+1)=((i+1:Nat):Int):=WI
    obtain⟨id,cs,hrow,hid,hg,hcs,hiad,⟨p4,_⟩,hok,_⟩:=zbI sU hc
    have hgN:=(kp id hid).trans hg
    have hsn:(E.map (·.id)).take (i+1)=(E.map (·.id)).take i++[E[i].id]:=by rw[zB4 _ i (by simpa using hc),List.getElem_map]
    have htl:((E.map (·.id)).take i).length≤64000:=by rw[List.length_take,List.length_map];omega
    simp (disch:=try exact SX) only[RV,zA0,reduceIte,Nat.reduceEqDiff,Nat.reduceBEq,Nat.reduceLT,Nat.reduceAdd,Nat.reduceLeDiff,Nat.reduceSub,Nat.reduceMul,Int.reduceLT,Int.reduceLE,Int.reduceEq,Int.reduceAdd,Int.reduceSub,Int.reduceMul,g4,g5,g6,lU,q1,hiad,hgN,p4,w,oo,co]
    refine⟨zAM so.rl (by omega), ?_⟩
    refine app1 (bytes:=24) w so zP5 (x:=E[i].id) ⟨rfl,hok⟩ rfl (by omega) (by omega) (by omega) fun o' M' m' w' le' kp' nw' wm' rl' on' oc'=>?_
    simp (disch:=try exact SX) only[RV,zA0,reduceIte,Nat.reduceEqDiff,Nat.reduceBEq,Nat.reduceLT,Nat.reduceAdd,Nat.reduceLeDiff,Nat.reduceSub,Nat.reduceMul,Int.reduceLT,Int.reduceLE,Int.reduceEq,Int.reduceAdd,Int.reduceSub,Int.reduceMul,g4,g5,g6,w1,w',on',oc']
    refine⟨hlt,E.length - (i+1),by omega,i+1,o',rfl,by omega,rfl,rfl,by omega,fun j hj=>?_,by rw[hsn];exact m',fun j hj=>?_⟩
    ·rw[kp' j (by omega) (fun h=>by have:=ro j h;omega),kp j hj]
    ·rcases nw' j hj with h | h
     ·exact ro j h
     ·omega
   ·obtain rfl:i=E.length:=by omega
    have q1:decide ((E.length:Int)<E.length)=false:=DF
    rw[List.take_of_length_le (by simp)] at so
    obtain⟨z,hz,hsz⟩:=so.frz zP5.cel (k:=12) (by omega)
    simp (disch:=try exact SX) only[RV,zA0,reduceIte,Nat.reduceEqDiff,Nat.reduceBEq,Nat.reduceLT,Nat.reduceAdd,Nat.reduceLeDiff,Nat.reduceSub,Nat.reduceMul,Int.reduceLT,Int.reduceLE,Int.reduceEq,Int.reduceAdd,Int.reduceSub,Int.reduceMul,g4,g5,g6,lU,q1,hz,oo,z00,zBP]
    exact⟨z,hsz,rfl⟩
theorem zO3 {a:AV}{l:List Rn}{x:Eid}(hS:Sl 10 isRn a l)(hl:l.length≤1000)(hf:64*l.length+3001000<fuel)(M:Mem):zCN fuel (d+7) 12 [a,idA x] M=some (.tup [I64 (zQK l x),I64 (zNJ l x)],M):=by
 have hmy:=fun M=>zEE (fuel:=fuel) (d:=d) hS hl hf M
 apply zBA
 refine zAL tf12 rfl (by simp only[icyL,fun M=>hS.icy M 12 (by omega),zBS (zEN x) (show 1<12 by omega)]) (by simp [a12]) fun b' ht hx=>?_
 obtain⟨h0,h1⟩:=hx2 hx
 clear hx
 simp only[a12,c12] at ht ⊢
 unfold zQK zNJ
 cases hb:zBF l with
 | false =>
  rw[hb] at hmy
  simp (disch:=try exact SX) only[RV,zA0,reduceIte,Nat.reduceEqDiff,Nat.reduceBEq,Nat.reduceLT,Nat.reduceAdd,Nat.reduceLeDiff,Nat.reduceSub,Nat.reduceMul,Int.reduceLT,Int.reduceLE,Int.reduceEq,Int.reduceAdd,Int.reduceSub,Int.reduceMul,h0,h1,hS.fz.rows,hS.fz.one,hS.fz.cells,hS.fz.icy,hS.fz.frz,hmy,z80]
  simp
 | true =>
  rw[hb] at hmy
  have hm:=(zBI.1 hb).1
  have hEl:=zCV hm
  have eB:elsB l=elsR l:=rfl
  have w0:Wf (mem0.add (.row false (idR x))):=Wf.mem0.add _
  simp only[if_true]
  simp (disch:=try exact SX) only[RV,zA0,reduceIte,Nat.reduceEqDiff,Nat.reduceBEq,Nat.reduceLT,Nat.reduceAdd,Nat.reduceLeDiff,Nat.reduceSub,Nat.reduceMul,Int.reduceLT,Int.reduceLE,Int.reduceEq,Int.reduceAdd,Int.reduceSub,Int.reduceMul,h0,h1,hS.fz.rows,hS.fz.one,hS.fz.cells,hS.fz.icy,hS.fz.frz,hmy]
  refine zCD (d:=d+3) (M0:=(mem0.add (.row false (idR x))).lo) hS hm (by omega) (by omega) (by simp only[icyL,fun M=>hS.icy M 12 (by omega)]) (by rw[zHJ];exact w0) fun r U kU sU nU=>?_
  rw[eB] at hEl sU
  have wU:=kU.wf
  have dU:U.dirty=false:=kU.di
  have oU:=sU.one
  have lU:1≤U.size:=kU.le
  have gU:U.get 0=some (.row false (idR x)):=(kU.get 0 (by show 0<1;omega)).trans (by simp (disch:=try exact SX) only[RV,zA0,reduceIte,Nat.reduceEqDiff,Nat.reduceBEq,Nat.reduceLT,Nat.reduceAdd,Nat.reduceLeDiff,Nat.reduceSub,Nat.reduceMul,Int.reduceLT,Int.reduceLE,Int.reduceEq,Int.reduceAdd,Int.reduceSub,Int.reduceMul])
  have hwh:=fun (N:Mem) (h:∀ j,N.get j=U.get j) (w:Wf N)=>zd5 (N:=N) (fuel:=fuel) (n:=d+5) tf35 rfl zG4 (sU.keep fun j _=>h j) w (fun M=>zBS (zEN x) (show 1<12 by omega) M) fun a' ha' M=>zDP (d:=d+5) ha' x (by omega) (by omega) M
  have hw2:=hwh ((mem0.add (.row false (idR x))).bk U).lo (fun _=>rfl) (by rw[zHJ,zLJ];exact wU)
  cases hw:zB2 l x with
  | none =>
   have e:=(zOJ hm).1 hw
   have q1:decide (whI (elsR l) x<0)=true:=decide_eq_true e
   simp (disch:=try exact SX) only[RV,zA0,reduceIte,Nat.reduceEqDiff,Nat.reduceBEq,Nat.reduceLT,Nat.reduceAdd,Nat.reduceLeDiff,Nat.reduceSub,Nat.reduceMul,Int.reduceLT,Int.reduceLE,Int.reduceEq,Int.reduceAdd,Int.reduceSub,Int.reduceMul,h0,h1,wU,oU,gU,dU,zC2,zC0,zAK,hw2,q1]
  | some p =>
   have e:=zbZ (zBI.1 hb) hw
   have e2:¬whI (elsR l) x<0:=fun h=>by rw[(zOJ hm).2 h] at hw;cases hw
   have q1:decide (whI (elsR l) x<0)=false:=decide_eq_false e2
   simp (disch:=try exact SX) only[RV,zA0,reduceIte,Nat.reduceEqDiff,Nat.reduceBEq,Nat.reduceLT,Nat.reduceAdd,Nat.reduceLeDiff,Nat.reduceSub,Nat.reduceMul,Int.reduceLT,Int.reduceLE,Int.reduceEq,Int.reduceAdd,Int.reduceSub,Int.reduceMul,h0,h1,wU,oU,gU,dU,zC2,zC0,zAK,hw2,q1]
   simp [e]
theorem zP7 {X:Mem}{o:AV}{r:List AV}{x:Rn}(wf:Wf X)(h:SlN X 10 isRn o [])(hx:isRn r x)(hr:r.length=10)
  (k:∀ o' M',SlM M' 10 isRn o' [x]→Wf M'→X.size≤M'.size→(∀ j,j<X.size→rowOf o≠some j→M'.get j=X.get j)→(∀ id,rowOf o'=some id→rowOf o=some id∨X.size≤id)→M'.wm=X.wm→Q o' M') :
  W3 (zCN fuel (d+1) 30 [o,I64 0,.sl X.size 0 1 (some 1) 10] (X.add (.row false r))) Q:=by
 have sm:=h.slm
 have oo:=sm.one
 have ol:=sm.len
 have z10:decide ((1:Int)=0)=false:=rfl
 have ge:∀ N,lenO N (.sl X.size 0 1 (some 1) 10)=some (I64 1,N):=fun _=>rfl
 have hs:∀ N,(∀ j,rowOf o=some j→N.get j=X.get j) → ∃ v,slcO N 10 o (some (I64 0)) none none=some (v,N)∧oneA v=true:=fun N hN=>by
  rcases h with⟨_,rfl | ⟨id,rfl,hg⟩⟩ | ⟨hn,_⟩
  ·exact⟨_,rfl,rfl⟩
  ·exact⟨_,rfl,rfl⟩
  ·exact absurd rfl hn
 obtain⟨v,hsv,ov⟩:=hs (X.add (.row false r)) (fun j hj=>zAP wf _ _ (sm.lt j hj))
 refine zCZ tf30 rfl (by simp [a30]) fun b' ht hx=>?_
 obtain⟨h0,h1,h2⟩:=hx3 hx
 clear hx
 simp only[a30,c30] at ht ⊢
 have ol0:∀ N,lenO N o=some (I64 0,N):=ol
 have rlo:=zAM sm.rl (show X.size≤X.size+1 by omega)
 simp (disch:=try exact SX) only[RV,seval,zA0,h0,h1,h2,oo,ol0,hsv,ov,ge,z10,z00,rlo]
 refine app1 wf sm zDI (x:=x) hx hr (by omega) (by simp) (by simp) fun o' M' sm' w' le' kp nw wm' rl on oc=>?_
 simp (disch:=try exact SX) only[RV,seval,zA0,on,oc,rl]
 exact k o' M' sm' w' le' kp nw wm'
theorem zPE {l:List Rn}{r:Rn}{n:Nat}(D:List Rn)(h:D=(l.drop n).takeWhile fun q=>r.sp.f.less q.sp.f){i:Nat}(hi:i<D.length)(hn:n+i<l.length):r.sp.f.less l[n+i].sp.f=true∧D[i]=l[n+i]:=by
 have h1:D[i]∈(l.drop n).takeWhile fun q=>r.sp.f.less q.sp.f:=by rw[← h];exact List.getElem_mem hi
 have h2:=List.all_eq_true.1 (List.all_takeWhile (l:=l.drop n) (p:=fun q=>r.sp.f.less q.sp.f)) _ h1
 have h3:D[i]=l[n+i]:=by
  have hp:D <+: l.drop n:=by rw[h];exact List.takeWhile_prefix _
  rw[hp.getElem hi,List.getElem_drop]
 rw[← h3]
 exact⟨h2,rfl⟩
theorem zMU {l:List Rn}{x:Eid}{n:Nat}(h:zFD l x n<l.length):x.less l[zFD l x n].sp.f=false:=by
 have hd:((l.drop n).dropWhile fun q=>x.less q.sp.f)=l.drop (zFD l x n):=by
  have e:=List.takeWhile_append_dropWhile (p:=fun q:Rn=>x.less q.sp.f) (l:=l.drop n)
  have e2:=congrArg (List.drop ((l.drop n).takeWhile fun q=>x.less q.sp.f).length) e
  rw[List.drop_left,List.drop_drop] at e2
  exact e2
 have:=List.head?_dropWhile_not (fun q:Rn=>x.less q.sp.f) (l.drop n)
 rw[hd,List.drop_eq_getElem_cons h] at this
 exact this
theorem zUN {l:List Rn}{x:Eid}{n:Nat}(hn:n≤l.length):zFD l x n≤l.length:=by
 unfold zFD
 have:=(List.takeWhile_sublist (l:=l.drop n) (fun q:Rn=>x.less q.sp.f)).length_le
 rw[List.length_drop] at this
 omega
theorem zKQ (l:List Rn)(x:Eid):(zBB l x).1.length≤l.length+2:=by
 unfold zBB
 split
 ·simp
 ·split
  ·simp
  ·split
   ·simp;omega
   ·simp
theorem zM0 (l:List Rn):(zBT l).length≤l.length:=by
 refine zDQ (P:=fun l=>(zBT l).length≤l.length) (Nat.le_refl _) (fun l r ih=>?_) l
 rw[zM1]
 have:=zOO (zBT l) r
 simp only[List.length_append,List.length_singleton]
 omega
theorem zWK (l:List Rn)(r:Rn):(insL l r).length≤l.length+3:=by
 unfold insL
 refine Nat.le_trans (zM0 _) ?_
 have:=zKQ l r.af
 simp only[List.length_append,List.length_take,List.length_drop,List.length_singleton]
 omega
noncomputable def insR (l:List Rn)(r:Rn):List Rn:=if putE l r=0 then insL l r else []
def insW (l:List Rn)(x:Rn)(v:AV)(M:Mem):Prop:=∃ r,v = .tup [r,I64 (putE l x)]∧rnK.ND M 0 r (insR l x)
open Classical in
theorem zQS {a ra:AV}{l:List Rn}{x:Rn}(hS:Sl 10 isRn a l)(hR:Sl 1 zAY ra x.rs)(hx:x.ok)(hl:l.length≤900)(hf:64*l.length+3011000<fuel):zCX Try.prog (fsT tbl) fuel (d+10) 7 [a,.agg (rnR x ra)] (insW l x):=by
 have oa:=hS.one
 have ora:=hR.one
 have hck:=fun M=>@zET fuel d a l hS (by omega) (by omega) M
 have hcx:=fun M=>@zCE fuel (d+4) x ra hR (by omega) M
 have hpz:∀ e:Int,purA (.tup [NIL,I64 e])=true:=fun e=>by simp [purA,purL]
 unfold insW
 refine zDO tf7 rfl (by simp [a7]) fun b' ht hx=>?_
 obtain⟨h0,h1⟩:=hx2 hx
 clear hx
 simp only[a7,c7] at ht ⊢
 have hiE:putE l x=if zBF l=true∧x.may=true then (if x.af≠Eid.z∧zB2 l x.af=none then 6 else if ∃ i:Nat,(i:Int)<x.sp.n∧zB2 l (x.sp.at i)≠none then 2 else if 8192<zB3 l+x.sp.n then 4 else 0) else 8:=by
  unfold putE
  simp only[zBI]
 by_cases h8:zBF l=true∧x.may=true
 ·rw[if_pos h8] at hiE
  obtain⟨htb,hxm⟩:=h8
  have hok:=zBI.1 htb
  rw[htb] at hck
  rw[hxm] at hcx
  have hwh:=fun y M=>@zJA fuel (d+4) a l y hS (by omega) (by omega) M
  have hwa:=fun M=>hwh x.af M
  have hb:=Spn.may_le (Rn.may_sp hxm)
  obtain⟨m,hmn⟩:∃ m:Nat,x.sp.n=m:=⟨x.sp.n.toNat,by omega⟩
  have ia:∀ i:Nat,i<m → ∀ M,zCN fuel (d+10) 25 [spA x.sp,I64 i] M=some (.tup [idA (x.sp.at i),I64 0],M):=fun i hi M=>by
   have:=@zLR fuel (d+5) x.sp i M
   rw[if_pos (Rn.may_sp hxm),if_neg (by omega)] at this
   exact this
  have qn1:decide ((-1:Int)<0)=true:=rfl
  have qg1:decide ((0:Int) ≤ -1)=false:=rfl
  by_cases h6:x.af≠Eid.z∧zB2 l x.af=none
  ·have e6:putE l x=6:=by rw[hiE,if_pos h6]
   have er:insR l x=[]:=by unfold insR;rw[e6];rfl
   rw[e6,er]
   have q:decide (x.af=Eid.z)=false:=decide_eq_false h6.1
   rw[h6.2] at hwa
   simp (disch:=try exact SX) only[RV,seval,zA0,h0,h1,hS.fz.rows,hS.fz.one,hS.fz.cells,hS.fz.icy,hS.fz.frz,hR.fz.rows,hR.fz.one,hR.fz.cells,hR.fz.icy,hR.fz.frz,hck,hcx,IMX,zBP,z00,zDY,zE0,zDZ,BMM,zAK,hwa,wN,wK,qn1,↓pIdE,zAE,↓pIdN,zAB,↓pHdE,zAC,↓pHdN,zAD,↓pLbE,zAF,↓pLbN,zAG,↓pSpE,zAH,↓pSpN,zAI,ETA,q]
   exact zB0I
  ·rw[if_neg h6] at hiE
   have hx6:x.af=Eid.z∨zB2 l x.af≠none:=by
    by_cases h:x.af=Eid.z
    ·exact .inl h
    ·exact .inr fun k=>h6 ⟨h,k⟩
   have step:∃ b:Bool,(decide ((wN (zB2 l x.af))<0)=b)∧(b=true→decide (x.af=Eid.z)=true):=by
    refine⟨_,rfl,fun hb=>?_⟩
    rcases hx6 with h | h
    ·exact decide_eq_true h
    ·cases hw:zB2 l x.af with
     | none=>exact absurd hw h
     | some p =>
      have hb:=of_decide_eq_true hb
      rw[hw] at hb
      simp only[wN] at hb
      omega
   obtain⟨b6,hb6,hb6'⟩:=step
   have main:∀ (b6:Bool),decide ((wN (zB2 l x.af))<0)=b6→(b6=true→decide (x.af=Eid.z)=true)→True:=fun _ _ _=>trivial
   clear main
   cases b6 with
   | true =>
    have q:=hb6' rfl
    simp (disch:=try exact SX) only[RV,seval,zA0,h0,h1,hS.fz.rows,hS.fz.one,hS.fz.cells,hS.fz.icy,hS.fz.frz,hR.fz.rows,hR.fz.one,hR.fz.cells,hR.fz.icy,hR.fz.frz,hck,hcx,IMX,zBP,z00,zDY,zE0,zDZ,BMM,zAK,hwa,hb6,↓pIdE,zAE,↓pIdN,zAB,↓pHdE,zAC,↓pHdN,zAD,↓pLbE,zAF,↓pLbN,zAG,↓pSpE,zAH,↓pSpN,zAI,ETA,q]
    exact zB00
   | false =>
    simp (disch:=try exact SX) only[RV,seval,zA0,h0,h1,hS.fz.rows,hS.fz.one,hS.fz.cells,hS.fz.icy,hS.fz.frz,hR.fz.rows,hR.fz.one,hR.fz.cells,hR.fz.icy,hR.fz.frz,hck,hcx,IMX,zBP,z00,zDY,zE0,zDZ,BMM,zAK,hwa,hb6]
    exact zB00
 ·have e8:putE l x=8:=by rw[hiE,if_neg h8]
  have er:insR l x=[]:=by unfold insR;rw[e8];rfl
  have hz:imax (err (zBF l)) (err x.may)=8:=by
   cases ma:zBF l <;> cases mb:x.may <;> first | rfl | exact absurd ⟨ma,mb⟩ h8
  rw[e8,er]
  simp (disch:=try exact SX) only[RV,seval,zA0,h0,h1,hS.fz.rows,hS.fz.one,hS.fz.cells,hS.fz.icy,hS.fz.frz,hR.fz.rows,hR.fz.one,hR.fz.cells,hR.fz.icy,hR.fz.frz,hck,hcx,hz,z80,zDY,zE0,zDZ,BMM,zAK]
  exact zB0I
theorem zR1 {a ra:AV}{l:List Rn}{x:Rn}(hS:Sl 10 isRn a l)(hR:Sl 1 zAY ra x.rs)(hx:x.ok)(hl:l.length≤1000)(hf:64*l.length+3001000<fuel)(h0e:putE l x=0):∃ r,Sl 10 isRn r (insL l x) ∧ ∀ M,zCN fuel (d+5) 37 [a,.agg (rnR x ra)] M=some (r,M):=by
 have ora:=hR.one
 refine zHI tf37 rfl (fun M=>by simp only[icyL,fun M=>hS.icy M 12 (by omega),zBX hR.fz]) ?_
 refine zAL tf37 rfl (by simp only[icyL,fun M=>hS.icy M 12 (by omega),zBX hR.fz]) (by simp [a37]) fun b' ht hx=>?_
 obtain⟨h0,h1⟩:=hx2 hx
 clear hx
 simp only[a37,c37] at ht ⊢
 obtain⟨htk,hxm,_,_,hle⟩:=zPR.1 h0e
 have hm:=htk.1
 have hEl:=zCV hm
 have eB:elsB l=elsR l:=rfl
 have eX:elsB [x]=x.elR:=by show [x].flatMap Rn.elB=_;simp [zZN]
 have w0:Wf (mem0.add (.row false (rnR x ra))):=Wf.mem0.add _
 simp (disch:=try exact SX) only[RV,seval,zA0,h0,h1,hS.fz.rows,hS.fz.one,hS.fz.cells,hS.fz.icy,hS.fz.frz,hR.fz.rows,hR.fz.one,hR.fz.cells,hR.fz.icy,hR.fz.frz]
 refine zCD (d:=d+1) (M0:=(mem0.add (.row false (rnR x ra))).lo) hS hm (by omega) (by omega) (by simp only[icyL,fun M=>hS.icy M 12 (by omega)]) (by rw[zHJ];exact w0) fun r U kU sU nU=>?_
 rw[eB] at hEl sU
 have wU:=kU.wf
 have dU:U.dirty=false:=kU.di
 have oU:=sU.one
 have lU:1≤U.size:=kU.le
 have gU:U.get 0=some (.row false (rnR x ra)):=(kU.get 0 (by show 0<1;omega)).trans (by simp (disch:=try exact SX) only[RV,seval,zA0])
 simp (disch:=try exact SX) only[RV,seval,zA0,h0,h1,hR.fz.rows,hR.fz.one,hR.fz.cells,hR.fz.icy,hR.fz.frz,wU,oU,gU,dU,zC2,zC0,zAK]
 have wb:Wf ((mem0.add (.row false (rnR x ra))).bk U):=by rw[zLJ];exact wU
 have g2:=zAO wb (.row false (rnR x ra)) U.size (Nat.le_refl _) (Nat.lt_succ_self _)
 have s2:SlM (((mem0.add (.row false (rnR x ra))).bk U).add (.row false (rnR x ra))).lo 10 isRn (.sl U.size 0 1 (some 1) 10) [x]:=.inr ⟨U.size,[rnR x ra],some 1,rfl,.inr rfl,by simp only[List.flatten_cons,List.flatten_nil,List.append_nil];exact g2,.cons ⟨ra,rfl,hR,hx⟩ .nil,by simp⟩
 have w2:Wf (((mem0.add (.row false (rnR x ra))).bk U).add (.row false (rnR x ra))).lo:=by rw[zHJ];exact wb.add _
 obtain⟨a',N',i1,b1,_⟩:=zHM s2 w2 zDI (k:=12) (by omega)
 refine zCD (d:=d+1) (M0:=N') b1 (fun r hr=>by rw[List.mem_singleton] at hr;subst hr;exact hxm) (by simp) (by simp;omega) (by exact(by simp only[icyL,i1])) w2 fun r2 V kV sV nV=>?_
 rw[eX] at sV
 have wV:=kV.wf
 have dV:V.dirty=false:=kV.di
 have oV:=sV.one
 have lV:U.size+1≤V.size:=kV.le
 have hkV:∀ j,j<U.size→V.get j=U.get j:=fun j hj=>by
  rw[kV.get j (by show j<U.size+1;omega)]
  exact zAP wb _ _ hj
 have sU2:SlM V 9 isEl r (elsR l):=sU.keep fun j hj=>hkV j (sU.lt j hj)
 have gV:V.get 0=some (.row false (rnR x ra)):=(hkV 0 (by omega)).trans gU
 simp (disch:=try exact SX) only[RV,seval,zA0,h0,h1,hR.fz.rows,hR.fz.one,hR.fz.cells,hR.fz.icy,hR.fz.frz,wV,oV,gV,dV,oU,zC2,zC0,zAK]
 refine⟨by rw[zAM sV.rl (Nat.le_refl _),zAM sU2.rl (Nat.le_refl _)];rfl, ?_⟩
 have wX:Wf ((((mem0.add (.row false (rnR x ra))).bk U).add (.row false (rnR x ra))).bk V):=by rw[zLJ];exact wV
 have sX1:SlM ((((mem0.add (.row false (rnR x ra))).bk U).add (.row false (rnR x ra))).bk V) 9 isEl r (elsR l):=sU2.keep fun _ _=>rfl
 have sX2:SlM ((((mem0.add (.row false (rnR x ra))).bk U).add (.row false (rnR x ra))).bk V) 9 isEl r2 x.elR:=sV.keep fun _ _=>rfl
 obtain⟨rows2,c2,l2,A2,L2⟩:=sX2.cells2
 refine zFV (bytes:=56) wX sX1 zG4.cel c2 (by rw[l2,A2.length_eq]) A2 L2 (by omega) (by omega) (by omega) fun a3 M3 m3 w3 le3 sz3 kp3 nw3 wm3 rl3 on3 oc3=>?_
 simp (disch:=try exact SX) only[RV,seval,zA0,h0,h1,w3,on3,oc3,zC2,zC0,zAK]
 have wl:Wf M3.lo:=by rw[zHJ];exact w3
 have ml:SlM M3.lo 9 isEl a3 (elsR l++x.elR):=m3.keep fun _ _=>rfl
 have hs1:=zb8 h0e
 refine SlR.hand (n:=d+3) (rest:=[]) (R:=fun v => ∃ T,(Sl 9 isEl v T ∧ ∀ y∈elsR l++x.elR,y.id.ok∧y.af.ok)∧Txt T ∧ ∀ y,y∈T↔y∈elsR l++x.elR) tf68 rfl (SlR.of ml) wl zG4 (fun _=>rfl) (fun o' ho'=>?_) fun v N3 hv w3' z3 s3 k3=>?_
 ·obtain⟨r,T,⟨h1,h2,h3⟩,h4⟩:=zGB (fuel:=fuel) (d:=d) ho' hs1 (by rw[List.length_append];omega) (by rw[List.length_append];omega)
  exact⟨r,⟨T,⟨h1,zZP ho'⟩,h2,h3⟩,h4⟩
 ·obtain⟨T,⟨hT,hok⟩,hT2,hT3⟩:=hv
  have hlT:=zV2 hT2 hT3
  rw[List.length_append] at hlT
  have hfT:∀ y∈T,FitX y:=fun y hy=>zNL (by
   rcases List.mem_append.1 ((hT3 y).1 hy) with h | h
   ·exact zG1 hm y h
   ·exact zKA hxm y h) (hok y ((hT3 y).1 hy))
  obtain⟨rc,src,hrc⟩:=zFQ (fuel:=fuel) (d:=d+1) hT hfT (by omega) (by omega)
  rw[zb9 h0e hT2 hT3] at src
  simp (disch:=try exact SX) only[RV,seval,zA0,h0,h1,w3',hT.fz.one,hrc,src.fz.rows,src.fz.one,src.fz.cells,src.fz.icy,src.fz.frz,zC2,zC0,zAK,hT.fz.rows,hT.fz.one,hT.fz.cells,hT.fz.icy,hT.fz.frz]
  exact⟨rc,src,rfl⟩
theorem ze4 {l:List Rn}{x:Rn}(h:¬(zBF l=true∧x.may=true)):putE l x=8:=by
 unfold putE
 rw[if_neg fun k=>h ⟨zLA k.1,k.2⟩]
open Classical in
theorem zKX {a ra:AV}{l:List Rn}{x:Rn}(hS:Sl 10 isRn a l)(hR:Sl 1 zAY ra x.rs)(hx:x.ok)(hl:l.length≤1000)(hf:64*l.length+3001000<fuel):∃ r,Sl 10 isRn r (insR l x) ∧ ∀ M,zCN fuel (d+7) 8 [a,.agg (rnR x ra)] M=some (.tup [r,I64 (putE l x)],M):=by
 have ora:=hR.one
 have hmy:=fun M=>zEE (fuel:=fuel) (d:=d) hS hl hf M
 have hmx:=fun M=>zJV (fuel:=fuel) (d:=d+1) hR hx.2.2 (by omega) M
 refine zHI tf8 rfl (fun M=>by simp only[icyL,fun M=>hS.icy M 12 (by omega),zBX hR.fz]) ?_
 refine zAL tf8 rfl (by simp only[icyL,fun M=>hS.icy M 12 (by omega),zBX hR.fz]) (by simp [a8]) fun b' ht hx=>?_
 obtain⟨h0,h1⟩:=hx2 hx
 clear hx
 simp only[a8,c8] at ht ⊢
 unfold insR
 by_cases h8:zBF l=true∧x.may=true
 ·obtain⟨hb,hxm⟩:=h8
  rw[hb] at hmy
  rw[hxm] at hmx
  have hm:=(zBI.1 hb).1
  have hEl:=zCV hm
  have eB:elsB l=elsR l:=rfl
  have hiE:=zb7 hb hxm
  have hbx:=Spn.may_le (Rn.spB hxm)
  obtain⟨m,hmn⟩:∃ m:Nat,x.sp.n=m:=⟨x.sp.n.toNat,by omega⟩
  have w0:Wf (mem0.add (.row false (rnR x ra))):=Wf.mem0.add _
  simp (disch:=try exact SX) only[RV,seval,zA0,h0,h1,hS.fz.rows,hS.fz.one,hS.fz.cells,hS.fz.icy,hS.fz.frz,hR.fz.rows,hR.fz.one,hR.fz.cells,hR.fz.icy,hR.fz.frz,hmy,hmx]
  refine zCD (d:=d+3) (M0:=mem0.add (.row false (rnR x ra))) hS hm (by omega) (by omega) (by simp only[icyL,fun M=>hS.icy M 12 (by omega)]) w0 fun r U kU sU nU=>?_
  rw[eB] at hEl sU
  have wU:=kU.wf
  have oU:=sU.one
  have lE:=sU.len
  have lU:1≤U.size:=kU.le
  have gU:U.get 0=some (.row false (rnR x ra)):=(kU.get 0 (by show 0<1;omega)).trans (by simp (disch:=try exact SX) only[RV,seval,zA0])
  have hwh:=fun y=>zd5 (N:=U) (fuel:=fuel) (n:=d+5) tf35 rfl zG4 sU wU (fun M=>zBS (zEN y) (show 1<12 by omega) M) fun a' ha' M=>zDP (d:=d+5) ha' y (by omega) (by omega) M
  have hwa:=hwh x.af
  by_cases c6:x.af≠Eid.z∧whI (elsR l) x.af<0
  ·have e:putE l x=6:=by rw[hiE,if_pos c6]
   have q1:decide (x.af=Eid.z)=false:=decide_eq_false c6.1
   have q2:decide (whI (elsR l) x.af<0)=true:=decide_eq_true c6.2
   simp (disch:=try exact SX) only[RV,seval,zA0,h0,h1,hR.fz.rows,hR.fz.one,hR.fz.cells,hR.fz.icy,hR.fz.frz,wU,oU,gU,↓pIdE,zAE,↓pIdN,zAB,↓pHdE,zAC,↓pHdN,zAD,↓pLbE,zAF,↓pLbN,zAG,↓pSpE,zAH,↓pSpN,zAI,ETA,q1,hwa,q2,e]
   exact⟨NIL,.inl ⟨rfl,by simp⟩,rfl⟩
  ·rw[if_neg c6] at hiE
   have hid:=fun n M=>zGA (fuel:=fuel) (d:=d+5) hR n M
   have q1c:decide (x.af=Eid.z)=false∨decide (x.af=Eid.z)=true:=by cases decide (x.af=Eid.z) <;> simp
   rcases q1c with q1 | q1
   case' inl =>
    have q2:decide (whI (elsR l) x.af<0)=false:=decide_eq_false fun h=>c6 ⟨of_decide_eq_false q1,h⟩
    simp (disch:=try exact SX) only[RV,seval,zA0,h0,h1,hR.fz.rows,hR.fz.one,hR.fz.cells,hR.fz.icy,hR.fz.frz,wU,oU,gU,↓pIdE,zAE,↓pIdN,zAB,↓pHdE,zAC,↓pHdN,zAD,↓pLbE,zAF,↓pLbN,zAG,↓pSpE,zAH,↓pSpN,zAI,ETA,q1,hwa,q2]
   case' inr =>
    simp (disch:=try exact SX) only[RV,seval,zA0,h0,h1,hR.fz.rows,hR.fz.one,hR.fz.cells,hR.fz.icy,hR.fz.frz,wU,oU,gU,↓pIdE,zAE,↓pIdN,zAB,↓pHdE,zAC,↓pHdN,zAD,↓pLbE,zAF,↓pLbN,zAG,↓pSpE,zAH,↓pSpN,zAI,ETA,q1]
   all_goals
    refine zB7 (I:=fun n t N => ∃ (i:Nat),n=m - i∧i≤m∧nth zA3 t 0=a∧nth zA3 t 3 = .ptr 0 0∧nth zA3 t 6=r∧nth zA3 t 7=I64 i∧N=U∧(∀ j:Nat,j<i→whI (elsR l) (x.sp.at j)<0)) (n:=m) (by omega) ?_ ?_
    ·refine⟨0,rfl,Nat.zero_le _, ?_, ?_, ?_, ?_,rfl,(fun _ h=>absurd h (by omega))⟩ <;> simp (disch:=try exact SX) only[RV,seval,zA0,h0,h1]
     all_goals first | rfl | assumption | done
    ·rintro n t N hlt ⟨i,rfl,hi,g0,g3,g6,g7,mk,hj⟩
     simp only[ht] at hlt ⊢
     subst mk
     by_cases hc:i<m
     ·have q3:decide ((i:Int)<x.sp.n)=true:=DT
      have w1:IntKind.i64.wrap ((i:Int)+1)=((i+1:Nat):Int):=WI
      have w2:IntKind.i64.wrap (x.sp.f.c+i)=x.sp.f.c+i:=wrap_i64 (by omega) (by omega)
      have hwi:=hwh (x.sp.at i)
      unfold Spn.at at hwi
      by_cases c2:0≤whI (elsR l) (x.sp.at i)
      ·have e:putE l x=2:=by rw[hiE,if_pos ⟨i,by omega,c2⟩]
       have q4:decide (0≤whI (elsR l) (x.sp.at i))=true:=decide_eq_true c2
       unfold Spn.at at q4
       simp (disch:=try exact SX) only[RV,seval,zA0,g0,g3,g6,g7,q3,gU,wU,oU,hid,w2,hwi,q4,hR.fz.rows,hR.fz.one,hR.fz.cells,hR.fz.icy,hR.fz.frz,e,ge_iff_le]
       exact zB0m
      ·have q4:decide (0≤whI (elsR l) (x.sp.at i))=false:=decide_eq_false c2
       unfold Spn.at at q4
       simp (disch:=try exact SX) only[RV,seval,zA0,g0,g3,g6,g7,q3,gU,wU,oU,hid,w2,hwi,q4,hR.fz.rows,hR.fz.one,hR.fz.cells,hR.fz.icy,hR.fz.frz,w1,ge_iff_le]
       exact⟨hlt,m - (i+1),by omega,i+1,rfl,by omega,rfl,fun j hj'=>by
        rcases Nat.lt_succ_iff_lt_or_eq.1 hj' with h | rfl
        ·exact hj j h
        ·omega⟩
     ·obtain rfl:i=m:=by omega
      have q3:decide ((i:Int)<x.sp.n)=false:=DF
      have h2:¬∃ j:Nat,(j:Int)<x.sp.n∧0≤whI (elsR l) (x.sp.at j):=fun⟨j,h1,h2⟩=>by
       have:=hj j (by omega)
       omega
      rw[if_neg h2] at hiE
      have w3:IntKind.i64.wrap (((elsR l).length:Int)+x.sp.n)=(elsR l).length+x.sp.n:=wrap_i64 (by omega) (by omega)
      by_cases c4:8192<(elsR l).length+x.sp.n
      ·have e:putE l x=4:=by rw[hiE,if_pos c4]
       have q4:decide (8192<((elsR l).length:Int)+x.sp.n)=true:=decide_eq_true c4
       simp (disch:=try exact SX) only[RV,seval,zA0,g0,g3,g6,g7,q3,gU,wU,oU,lE,w3,q4,hR.fz.rows,hR.fz.one,hR.fz.cells,hR.fz.icy,hR.fz.frz,e,gt_iff_lt]
       exact zB0m
      ·have e:putE l x=0:=by rw[hiE,if_neg c4]
       have q4:decide (8192<((elsR l).length:Int)+x.sp.n)=false:=decide_eq_false c4
       obtain⟨v,sv,hv⟩:=zR1 (fuel:=fuel) (d:=d+1) hS hR hx hl hf e
       have ov:=sv.one
       simp (disch:=try exact SX) only[RV,seval,zA0,g0,g3,g6,g7,q3,gU,wU,oU,lE,w3,q4,hS.fz.rows,hS.fz.one,hS.fz.cells,hS.fz.icy,hS.fz.frz,hR.fz.rows,hR.fz.one,hR.fz.cells,hR.fz.icy,hR.fz.frz,hv,sv.fz.rows,sv.fz.one,sv.fz.cells,sv.fz.icy,sv.fz.frz,e,gt_iff_lt]
       exact⟨v,sv,rfl⟩
 ·have e8:=ze4 h8
  have key:(zBF l=false)∨(zBF l=true∧x.may=false):=by
   cases h1:zBF l <;> cases h2:x.may <;> simp_all
  rcases key with h | ⟨h,h'⟩
  ·rw[h] at hmy
   simp (disch:=try exact SX) only[RV,seval,zA0,h0,h1,hS.fz.rows,hS.fz.one,hS.fz.cells,hS.fz.icy,hS.fz.frz,hR.fz.rows,hR.fz.one,hR.fz.cells,hR.fz.icy,hR.fz.frz,hmy,z80,e8]
   exact⟨NIL,.inl ⟨rfl,by simp⟩,rfl⟩
  ·rw[h] at hmy
   rw[h'] at hmx
   simp (disch:=try exact SX) only[RV,seval,zA0,h0,h1,hS.fz.rows,hS.fz.one,hS.fz.cells,hS.fz.icy,hS.fz.frz,hR.fz.rows,hR.fz.one,hR.fz.cells,hR.fz.icy,hR.fz.frz,hmy,hmx,z80,e8]
   exact⟨NIL,.inl ⟨rfl,by simp⟩,rfl⟩
variable {v : Lb}
def zDL (v:Lb)(r:Rn):Bool:=!r.sp.f.hd.lb.leq v
theorem zRL {e:Rn}{ra:AV}{c:Nat}(hR:Sl 1 zAY ra e.rs)(wf:Wf M)(hc:M.get c=some (.row false (lbR v)))(k:∀ N,Kept M N→Q (BL (zDL v e)) N):W3 (zCN fuel (d+2) 43 [.agg (rnR e ra),.ptr c 0] M) Q:=by
 have ora:=hR.one
 have hle:=fun M=>@zTI fuel d e.sp.f.hd.lb v M
 have lc:=Mem.get_lt hc
 have kk:=(Kept.refl wf).add (.row false (rnR e ra))
 unfold zDL at k
 refine zCZ tf43 rfl (by simp [a43]) fun b' ht hx=>?_
 obtain⟨h0,h1⟩:=hx2 hx
 clear hx
 simp only[a43,c43] at ht ⊢
 simp (disch:=try exact SX) only[RV,seval,zA0,h0,h1,hR.fz.rows,hR.fz.one,hR.fz.cells,hR.fz.icy,hR.fz.frz,hle,hc,wf]
 exact k _ kk
def zRow:List AV:=rnR ⟨⟨Eid.z,0⟩,Eid.z,[]⟩ NIL
theorem zGW (n:Nat):(zAA zRn n).length=n*10:=zL0 _ n
theorem zR6 (n:Nat):(zAA zRn n).all oneA=true:=zOA rfl n
theorem zUC (n:Nat):∀ y∈zAA zRn n,∃ v,y = .sc v:=by
 induction n with
 | zero=>exact fun y h=>absurd h (by simp [zAA])
 | succ n ih =>
  intro y hy
  rw[zAA] at hy
  rcases List.mem_append.1 hy with hy | hy
  ·simp only[scs,List.mem_map] at hy
   obtain⟨w,_,rfl⟩:=hy
   exact⟨_,rfl⟩
  ·exact ih y hy
theorem zQF {o:AV}{l:List Rn}{c:Nat}(hS:SlN M 10 isRn o l)(hl:l.length≤1000)(hf:3000<fuel)(wf:Wf M)(hc:M.get c=some (.row false (lbR v)))(hic:rowOf o≠some c)
  (kk:∀ o' N,SlZ N 10 isRn o' (l.filter fun r=>r.sp.f.hd.lb.leq v)→Wf N→M.size≤N.size→(∀ j,j<M.size→rowOf o≠some j→N.get j=M.get j)→(∀ j,rowOf o'=some j→rowOf o=some j)→Q o' N):W3 (zCN fuel (d+4) 44 [o,.fn 43 [] [.ptr c 0]] M) Q:=by
 have sm:=hS.slm
 have oo:=sm.one
 have oc:=sm.cells
 have lc:=Mem.get_lt hc
 have hlen:=sm.len
 have rlo:∀ {m:Nat},M.size≤m→((rowsOf o).all fun i=>Nat.blt i m)=true:=fun h=>zAM sm.rl h
 have hfilt:∀ L:List Rn,(∀ r∈L,zDL v r=false)→(L.filter fun r=>r.sp.f.hd.lb.leq v)=L:=fun L h=>List.filter_eq_self.2 fun r hr=>by
  have:=h r hr
  unfold zDL at this
  simpa using this
 refine zCZ tf44 rfl (by simp [a44]) fun b' ht hx=>?_
 obtain⟨h0,h1⟩:=hx2 hx
 clear hx
 simp only[a44,c44] at ht ⊢
 simp (disch:=try exact SX) only[RV,seval,zA0,h0,h1,oo,oc,rlo]
 refine zaC (n:=d+2) (p:=zDL v) tf76 sm (by omega) (by omega) wf (fun N hN=>rfl) (fun r x hr _=>by
  obtain⟨ra,rfl,hra,_⟩:=hr
  exact zbB hra.fz) (fun r x hr _ N Q' hk kq=>by
  obtain⟨ra,rfl,hra,_⟩:=hr
  exact zRL (d:=d) hra hk.wf ((hk.get c lc).trans hc) fun N' h'=>kq N' (hk.trans h')) fun N0 hk0=>?_
 have w0:=hk0.wf
 have le0:=hk0.le
 by_cases hall:∀ j (hj:j<l.length),zDL v l[j]=false
 ·rw[zGU hall]
  have qm:decide ((-1:Int) = -1)=true:=rfl
  simp (disch:=try exact SX) only[RV,seval,zA0,h0,h1,qm,oo,oc]
  refine kk o N0 ?_ w0 le0 (fun j hj _=>hk0.get j hj) (fun j h=>h)
  rw[hfilt l fun r hr=>by obtain⟨j,hj,rfl⟩:=List.getElem_of_mem hr;exact hall j hj]
  exact sm.slz.keep fun j hj=>hk0.get j (sm.lt j hj)
 ·have hex:∃ i0,∃ h:i0<l.length,zDL v l[i0]=true ∧ ∀ j (hj:j<l.length),j<i0→zDL v l[j]=false:=by
   have h1:∃ r∈l,zDL v r=true:=Classical.byContradiction fun h=>hall fun j hj=>by
    cases hb:zDL v l[j] with
    | false=>rfl
    | true=>exact absurd ⟨_,List.getElem_mem hj,hb⟩ h
   obtain⟨r,hr,hb⟩:=h1
   have hlt:l.findIdx (zDL v)<l.length:=List.findIdx_lt_length_of_exists ⟨r,hr,hb⟩
   exact⟨l.findIdx (zDL v),hlt,List.findIdx_getElem,fun j hj h=>by
    have:=List.not_of_lt_findIdx h
    simpa using this⟩
  obtain⟨i0,hi0,hat,hfirst⟩:=hex
  rcases hS with⟨rfl,_⟩ | ⟨_,id,rows,rfl,hg,hA,hr⟩
  ·exact absurd hi0 (by simp)
  have hlr:=hA.length_eq
  have lid:=Mem.get_lt hg
  have hicc:id≠c:=fun e=>hic (by rw[e];rfl)
  have hft:(l.take (i0+1)).filter (fun r=>r.sp.f.hd.lb.leq v)=l.take i0:=by
   rw[zB4 _ _ hi0,List.filter_append,hfilt (l.take i0) fun r hr'=>by
    obtain⟨j,hj,rfl⟩:=List.getElem_of_mem hr'
    rw[List.length_take] at hj
    rw[List.getElem_take]
    exact hfirst j (by omega) (by omega)]
   unfold zDL at hat
   simp only[Bool.not_eq_true'] at hat
   rw[List.filter_cons_of_neg (by rw[hat];simp)]
   simp
  rw[zFO hi0 hat fun j hj=>hfirst j (by omega) hj]
  have qm:decide ((i0:Int) = -1)=false:=DF
  have w1:IntKind.i64.wrap ((i0:Int)+1)=((i0+1:Nat):Int):=WI
  simp (disch:=try exact SX) only[RV,seval,zA0,h0,h1,qm,w1]
  refine zB7 (I:=fun m t N => ∃ (i j:Nat) (rs:List (List AV)),i<j∧j≤l.length∧m=l.length - j∧rs.length=rows.length∧(∀ r∈rs,r.length=10)∧All2 isRn (rs.take i) ((l.take j).filter fun r=>r.sp.f.hd.lb.leq v)∧rs.drop j=rows.drop j∧Wf N∧M.size≤N.size∧(∀ q,q<M.size→q≠id→N.get q=M.get q)∧N.get id=some (.row false rs.flatten) ∧
   nth zA3 t 0 = .sl id 0 rows.length none 10∧nth zA3 t 1 = .fn 43 [] [.ptr c 0]∧nth zA3 t 5=I64 i∧nth zA3 t 6=I64 j) (n:=l.length - (i0+1)) (by omega) ?_ ?_
  ·refine⟨i0,i0+1,rows,by omega,by omega,rfl,rfl,hr,by rw[hft];exact zE3 i0 hA,rfl,w0,le0,fun q hq _=>hk0.get q hq,by rw[hk0.get id lid];exact hg, ?_, ?_, ?_, ?_⟩
   all_goals simp (disch:=try exact SX) only[RV,seval,zA0,h0,h1]
   all_goals rfl
  ·rintro m t N hl' ⟨i,j,rs,hij,hj,hm,hrl,hr2,hAi,hdr,wN,leN,kN,gN,t0,t1,t5,t6⟩
   simp only[ht] at hl' ⊢
   clear h0 h1 ht
   have lidN:=Mem.get_lt gN
   have hfl:=zAN hr2
   by_cases hlt:j<l.length
   ·have hc':decide ((j:Int)<rows.length)=true:=DT
    have v1:IntKind.i64.wrap ((j:Int)+1)=((j+1:Nat):Int):=WI
    have v2:IntKind.i64.wrap ((i:Int)+1)=((i+1:Nat):Int):=WI
    have htk:=zB4 l j hlt
    obtain⟨rr,hrj,hrx⟩:∃ rr,rows[j]? = some rr∧isRn rr l[j]:=⟨_,List.getElem?_eq_getElem (by omega),hA.get (by omega) hlt⟩
    generalize l[j]=x at *
    obtain⟨ab,rfl,hab,hok⟩:=hrx
    have oab:=hab.one
    have hrsj:rs[j]? = some (rnR x ab):=by
     have h1:(rs.drop j)[0]? = (rows.drop j)[0]? := by rw[hdr]
     rw[List.getElem?_drop,List.getElem?_drop,Nat.add_zero,hrj] at h1
     exact h1
    have hld:ld2 N 10 (j*10) true (some (.row false rs.flatten))=some (.agg (rnR x ab),N):=by
     rw[zTH,zNR _ _ _ (by rw[hfl];omega),zG3 hr2 j _ hrsj]
    have hdr2:rs.drop (j+1)=rows.drop (j+1):=by
     have:=congrArg (List.drop 1) hdr
     rw[List.drop_drop,List.drop_drop] at this
     exact this
    simp (disch:=try exact SX) only[RV,seval,zA0,t0,t1,t5,t6,hc',gN,hld,hab.fz.rows,hab.fz.one,hab.fz.cells,hab.fz.icy,hab.fz.frz,wN]
    have wX:Wf ((N.add (.row false zRow)).upd N.size (.row false (rnR x ab))):=(wN.add _).upd _ _
    have gX:((N.add (.row false zRow)).upd N.size (.row false (rnR x ab))).get N.size=some (.row false (rnR x ab)):=zAJ (wN.add _) _ _ (by rw[zA8];omega)
    have sX:((N.add (.row false zRow)).upd N.size (.row false (rnR x ab))).size=N.size+1:=rfl
    have kX:∀ j,j<N.size→((N.add (.row false zRow)).upd N.size (.row false (rnR x ab))).get j=N.get j:=fun j hj=>by rw[zA2 (wN.add _) _ _ _ (by omega),zAP wN _ _ hj]
    show Ax.W3 (zCN fuel (d+3) 43 [.agg (rnR x ab),.ptr c 0] ((N.add (.row false zRow)).upd N.size (.row false (rnR x ab)))) _
    generalize ((N.add (.row false zRow)).upd N.size (.row false (rnR x ab)))=X at *
    refine zRL (d:=d+1) hab wX ((kX c (by omega)).trans ((kN c lc (fun e=>hicc e.symm)).trans hc)) fun N' hk'=>?_
    have w':=hk'.wf
    have le':=hk'.le
    have g7:=(hk'.get N.size (by omega)).trans gX
    have gi:=(hk'.get id (by omega)).trans ((kX id lidN).trans gN)
    have kq:∀ q,q<M.size→q≠id→N'.get q=M.get q:=fun q hq hqi=>(hk'.get q (by omega)).trans ((kX q (by omega)).trans (kN q hq hqi))
    have l7:=Mem.get_lt g7
    have li':=Mem.get_lt gi
    unfold zDL
    cases hb:x.sp.f.hd.lb.leq v with
    | false =>
     have hfj:(l.take (j+1)).filter (fun r=>r.sp.f.hd.lb.leq v)=(l.take j).filter fun r=>r.sp.f.hd.lb.leq v:=by
      rw[htk,List.filter_append,List.filter_cons_of_neg (by rw[hb];simp)]
      simp
     simp (disch:=try exact SX) only[RV,seval,zA0,t0,t1,t5,t6,g7,w',v1]
     exact⟨hl',l.length - (j+1),by omega,i,j+1,rs,by omega,by omega,rfl,hrl,hr2,by rw[hfj];exact hAi,hdr2,by omega,kq,gi,rfl,rfl⟩
    | true =>
     have hfj:(l.take (j+1)).filter (fun r=>r.sp.f.hd.lb.leq v)=((l.take j).filter fun r=>r.sp.f.hd.lb.leq v)++[x]:=by
      rw[htk,List.filter_append,List.filter_cons_of_pos (by rw[hb])]
      simp
     have hst:st2 N' id (i*10) 10 (rnR x ab) (some (.row false rs.flatten))=some (zA3,N'.upd id (.row false (rs.set i (rnR x ab)).flatten)):=by
      obtain⟨ri,hri⟩:∃ ri,rs[i]? = some ri:=⟨_,List.getElem?_eq_getElem (by omega)⟩
      have hril:=hr2 ri (List.mem_of_getElem? hri)
      have e:=zHL (off:=0) (new:=rnR x ab) hr2 hri (by simp)
      have e2:lay ri 0 (rnR x ab)=rnR x ab:=by
       unfold lay
       rw[List.take_zero,List.nil_append,List.drop_eq_nil_of_le (by simp;omega),List.append_nil]
      rw[e2,Nat.add_zero] at e
      rw[zUT (M:=N') id (i*10) 10 (rnR x ab) rs.flatten false rfl (by rw[hfl];omega) (by simp only[List.all_cons,List.all_nil,zD9,oab,Bool.and_true]) (by omega) w',e]
     simp (disch:=try exact SX) only[RV,seval,zA0,t0,t1,t5,t6,g7,gi,w',v1,v2,hab.fz.rows,hab.fz.one,hab.fz.cells,hab.fz.icy,hab.fz.frz,hst]
     refine⟨hl',l.length - (j+1),by omega,i+1,j+1,rs.set i (rnR x ab),by omega,by omega,rfl,by rw[List.length_set];exact hrl,fun r h=>?_, ?_, ?_,by omega,fun q hq hqi=>?_,rfl,rfl,rfl⟩
     ·rcases List.mem_or_eq_of_mem_set h with h | rfl
      ·exact hr2 r h
      ·rfl
     ·have e1:(rs.set i (rnR x ab)).take (i+1)=rs.take i++[rnR x ab]:=by
       rw[List.take_add_one,List.getElem?_set_self (by omega),List.take_set,List.set_eq_of_length_le (by rw[List.length_take];omega)]
       rfl
      rw[e1,hfj]
      exact hAi.append (.cons ⟨ab,rfl,hab,hok⟩ .nil)
     ·rw[List.drop_set_of_lt (by omega)];exact hdr2
     ·rw[zA2 w' _ _ _ (fun e=>hqi e.symm)];exact kq q hq hqi
   ·have hc':decide ((j:Int)<rows.length)=false:=DF
    obtain rfl:j=l.length:=by omega
    rw[List.take_length] at hAi
    have hrdN:N.rd id=some rs.flatten:=zBG gN
    have hav:rs.flatten.length / 10=rows.length:=by rw[hfl,hrl,Nat.mul_div_cancel _ (by omega)]
    have hs1:slcO N 10 (.sl id 0 rows.length none 10) (some (I64 i)) none none=some (.sl id (i*10) (rows.length - i) none 10,N):=by
     have hbi:=fun d=>zDT rows.length i d .i64 (show i≤rows.length by omega)
     unfold slcO
     simp only[hrdN,Nat.sub_zero,hav,zCT,hbi,Nat.zero_add]
    have hb0:Nat.beq (rows.length - i) 0=false:=by
     cases h:Nat.beq (rows.length - i) 0 with
     | false=>rfl
     | true=>have:=Nat.eq_of_beq_eq_true h;omega
    have htl:(rs.take i).length=i:=by rw[List.length_take];omega
    have hl1:(rs.take i).flatten.length=i*10:=by rw[zAN (st:=10) (fun r h=>hr2 r (List.mem_of_mem_take h)),htl]
    have hlay:lay rs.flatten (i*10) (zAA zRn (rows.length - i))=(rs.take i).flatten++zAA zRn (rows.length - i):=by
     have hft:rs.flatten=(rs.take i).flatten++(rs.drop i).flatten:=by rw[← List.flatten_append,List.take_append_drop]
     unfold lay
     rw[List.drop_eq_nil_of_le (by rw[hfl,zGW];omega),List.append_nil]
     congr 1
     rw[hft,List.take_left' hl1]
    have hcl:clrO N 10 zRn (.sl id (i*10) (rows.length - i) none 10)=some (.sc (.tuple #[]),N.upd id (.row false ((rs.take i).flatten++zAA zRn (rows.length - i)))):=by
     simp only[clrO,hb0,gN,Nat.ble_eq_true_of_le (show i*10+(rows.length - i)*10≤rs.flatten.length by rw[hfl];omega),zR6,zGW,Nat.beq_refl,Bool.and_self,zBD wN lidN,hlay]
    have gN2:(N.upd id (.row false ((rs.take i).flatten++zAA zRn (rows.length - i)))).get id=some (.row false ((rs.take i).flatten++zAA zRn (rows.length - i))):=zAJ wN _ _ lidN
    have hav2:((rs.take i).flatten++zAA zRn (rows.length - i)).length / 10=rows.length:=by
     rw[List.length_append,hl1,zGW,← Nat.add_mul,Nat.mul_div_cancel _ (by omega)];omega
    have hs2:slcO (N.upd id (.row false ((rs.take i).flatten++zAA zRn (rows.length - i)))) 10 (.sl id 0 rows.length none 10) none (some (I64 i)) none=some (.sl id 0 i none 10,N.upd id (.row false ((rs.take i).flatten++zAA zRn (rows.length - i)))):=by
     have hbi:=fun d=>zDT rows.length i d .i64 (show i≤rows.length by omega)
     unfold slcO
     simp only[zBG gN2,Nat.sub_zero,hav2,zCT,hbi,Nat.zero_mul,Nat.zero_add]
    have hq:=kk (.sl id 0 i none 10) _ (.inr ⟨id,rs.take i,zAA zRn (rows.length - i),none,by rw[htl],gN2,hAi,fun r h=>hr2 r (List.mem_of_mem_take h),zUC _⟩) (wN.upd _ _) (by rw[zA9];exact leN) (fun q hq hqi=>by rw[zA2 wN _ _ _ (fun e=>hqi (by rw[e];rfl))];exact kN q hq (fun e=>hqi (by rw[e];rfl))) (fun j h=>by cases h;rfl)
    have hidb:id.blt N.size=true:=(zAZ _ _).2 lidN
    simp (disch:=try exact SX) only[RV,seval,zA0,t0,t1,t5,t6,hc',hs1,x_clr,hcl,hs2,hidb,hq]
theorem zXA {e:Rn}{ra:AV}(hR:Sl 1 zAY ra e.rs)(M:Mem):zCN fuel (d+2) 40 [.agg (rnR e ra)] M=some (BL (!e.af.hd.lb.leq e.sp.f.hd.lb),M):=by
 have ora:=hR.one
 have hle:=fun M=>@zTI fuel d e.af.hd.lb e.sp.f.hd.lb M
 apply zBA
 refine zAL tf40 rfl (by simp only[icyL,zBX hR.fz]) (by simp [a40]) fun b' ht hx=>?_
 have h0:=hx 0 _ rfl
 clear hx
 simp only[a40,c40] at ht ⊢
 simp (disch:=try exact SX) only[RV,seval,zA0,h0,hR.fz.rows,hR.fz.one,hR.fz.cells,hR.fz.icy,hR.fz.frz,hle]
noncomputable def upR (l:List Rn)(v:Lb):List Rn:=if upE l v=0 then upTo v l else []
theorem zTM {o:AV}{l:List Rn}(hS:SlZ M 10 isRn o l)(hl:l.length≤100000)(hd:∀ r∈l,r.rs.length≤1000000)(hf:l.length+3000000<fuel)(wf:Wf M)(k:∀ r N,Kept M N→rnK.ND N M.size r (zBT l)→Q r N):W3 (zCN fuel (d+9) 29 [o] M) Q:=by
 obtain⟨a',N',i1,b1,_⟩:=hS.hand wf zDI (k:=12) (by omega)
 exact zB0u
def upW (l:List Rn)(v:Lb)(u:AV)(M:Mem):Prop:=∃ r,u = .tup [r,I64 (upE l v)]∧rnK.ND M 0 r (upR l v)
theorem zUY {a:AV}{l:List Rn}(hS:Sl 10 isRn a l)(hl:l.length≤1000)(hf:64*l.length+3011000<fuel):zCX Try.prog (fsT tbl) fuel (d+10) 13 [a,lbA v] (upW l v):=by
 have hpz:∀ e:Int,purA (.tup [NIL,I64 e])=true:=fun e=>by simp [purA,purL]
 have oa:=hS.one
 have hck:=fun M=>@zET fuel d a l hS hl (by omega) M
 have hlc:=fun M=>@zJO fuel (d+9) v M
 refine zDO tf13 rfl (by simp [a13]) fun b' ht hx=>?_
 obtain⟨h0,h1⟩:=hx2 hx
 clear hx
 simp only[a13,c13] at ht ⊢
 have hiE:upE l v=if zBF l=true∧v.may=true then (if zDU l=true then 0 else 2) else 8:=by
  unfold upE
  by_cases h:zE1 l∧v.may=true
  ·rw[if_pos h,if_pos (show zBF l=true∧v.may=true from⟨zLA h.1,h.2⟩)]
  ·rw[if_neg h,if_neg (show ¬(zBF l=true∧v.may=true) from fun k=>h ⟨zBI.1 k.1,k.2⟩)]
 unfold upW upR
 by_cases h8:zBF l=true∧v.may=true
 ·rw[if_pos h8] at hiE
  obtain⟨htb,hvm⟩:=h8
  have hok:=zBI.1 htb
  rw[htb] at hck
  rw[hvm] at hlc
  have hh:=fun M=>zT3 (P:=Try.prog) (fs:=fsT tbl) (fuel:=fuel) (l:=l) (ag:=true) (n:=d+8) tf42 tf76 (fun h=>by cases h) zDI hS (by omega) (by omega) (zSV 40) (p:=fun x => !x.af.hd.lb.leq x.sp.f.hd.lb) (fun r x hr _ M=>by
   obtain⟨ra,rfl,hra,_⟩:=hr
   exact @zXA fuel (d+6) x ra hra M) M
  rw[zN5] at hh
  have hcl:(l.all fun x=>x.af.hd.lb.leq x.sp.f.hd.lb)=zDU l:=rfl
  rw[hcl] at hh
  cases hc:zDU l with
  | false =>
   rw[hc] at hh
   have e2:upE l v=2:=by rw[hiE,hc];rfl
   rw[e2]
   simp (disch:=try exact SX) only[RV,seval,zA0,h0,h1,hS.fz.rows,hS.fz.one,hS.fz.cells,hS.fz.icy,hS.fz.frz,hck,hlc,IMX,zBP,z00,zDY,zE0,zDZ,BMM,zAK,hh]
   exact zB0I
  | true =>
   rw[hc] at hh
   have e0:upE l v=0:=by rw[hiE,hc];rfl
   rw[e0]
   simp only[if_true]
   simp (disch:=try exact SX) only[RV,seval,zA0,h0,h1,hS.fz.rows,hS.fz.one,hS.fz.cells,hS.fz.icy,hS.fz.frz,hck,hlc,IMX,zBP,z00,zDY,zE0,zDZ,BMM,zAK,hh]
   refine zGL zDI.cel tf31 Try.underlying22 hS (by omega) (by omega) (by simp (disch:=try exact SX) only[RV,seval,zA0]) fun o3 M3 wf3 le3 kp3 sn3 nr3 wm3 di3 sz3=>?_
   have z0:M3.get 0=some (.row false (lbR v)):=by
    rw[kp3 0 (by show 0<1;omega)]
    exact zB05
   have on3:=sn3.slm.one
   have oc3:=sn3.slm.cells
   have rl3:=zAM sn3.slm.rl (Nat.le_refl M3.size)
   have lz:=Mem.get_lt z0
   simp (disch:=try exact SX) only[RV,seval,zA0,h0,h1,wf3,on3,oc3,rl3]
   refine zQF (d:=d+6) sn3 hl (by omega) wf3 z0 (fun h=>by have:=nr3 0 h;exact absurd this (by show ¬(1≤0);omega)) fun o4 N hz4 w4 le4 k4 r4=>?_
   have on4:=hz4.one
   have oc4:=hz4.cells
   have rl4:=hz4.rl (Nat.le_refl N.size)
   simp (disch:=try exact SX) only[RV,seval,zA0,h0,h1,w4,on4,oc4,rl4]
   refine zTM (d:=d+1) hz4 (Nat.le_trans (List.length_filter_le _ _) (by omega)) (fun q hq=>?_) (by have:=List.length_filter_le (fun r:Rn=>r.sp.f.hd.lb.leq v) l;omega) w4 fun r X' kX' hr=>?_
   ·have:=zEY hok.1 q (List.mem_filter.1 hq).1
    omega
   ·obtain⟨or5,oc5,rl5,_,pu5,_⟩:=ND.lr hr
    have wX':=kX'.wf
    have rl5:=zAM rl5 (Nat.le_refl X'.size)
    simp (disch:=try exact SX) only[RV,seval,zA0,h0,h1,wX',or5,oc5,rl5]
    exact⟨by simp [purA,purL,pu5],r,rfl,ND.mono hr (Nat.zero_le _)⟩
 ·have e8:upE l v=8:=by rw[hiE,if_neg h8]
  have hz:imax (err (zBF l)) (err v.may)=8:=by
   cases ma:zBF l <;> cases mb:v.may <;> first | rfl | exact absurd ⟨ma,mb⟩ h8
  rw[e8]
  simp (disch:=try exact SX) only[RV,seval,zA0,h0,h1,hS.fz.rows,hS.fz.one,hS.fz.cells,hS.fz.icy,hS.fz.frz,hck,hlc,hz,z80,zDY,zE0,zDZ,BMM,zAK]
  exact zB0I
theorem zQU (a b:Int):zKL a b=0↔BitVec.ofInt 32 a &&& ~~~ BitVec.ofInt 32 b=0#32:=by
 have e:zKL a b=((BitVec.ofInt 32 a &&& ~~~ BitVec.ofInt 32 b).toNat:Int):=by
  have:=(BitVec.ofInt 32 a &&& ~~~ BitVec.ofInt 32 b).isLt
  unfold zKL
  generalize (BitVec.ofInt 32 a &&& ~~~ BitVec.ofInt 32 b).toNat=z at *
  simp [IntKind.wrap,IntKind.bits,IntKind.signed]
  omega
 rw[e,← BitVec.toNat_inj]
 simp
theorem zWU (a:Lb):a.leq a=true:=by
 unfold Lb.leq
 simp only[Bool.and_eq_true,decide_eq_true_eq,zQU]
 refine⟨Int.le_refl _, ?_⟩
 apply BitVec.eq_of_getLsbD_eq
 intro i hi
 simp only[BitVec.getLsbD_and,BitVec.getLsbD_not,hi,BitVec.getLsbD_zero,decide_true,Bool.true_and]
 cases (BitVec.ofInt 32 a.cats).getLsbD i <;> rfl
theorem zKW {a:AV}{l:List Rn}(hS:Sl 10 isRn a l)(hm:∀ r∈l,r.may=true)(hl:l.length≤1000)(hf:64*l.length+1000<fuel)(M:Mem):zCN fuel (d+4) 46 [a] M=some (BL (zDU l),M):=by
 apply zBA
 refine zAL tf46 rfl (by simp only[icyL,fun M=>hS.icy M 12 (by omega)]) (by simp [a46]) fun b' ht hx=>?_
 have h0:=hx 0 _ rfl
 clear hx
 simp only[a46,c46] at ht ⊢
 have hEl:=zCV hm
 have eB:elsB l=elsR l:=rfl
 rw[← zQC hm zWU]
 simp (disch:=try exact SX) only[RV,seval,zA0,h0,hS.fz.rows,hS.fz.one,hS.fz.cells,hS.fz.icy,hS.fz.frz]
 refine zCD (d:=d) (M0:=mem0) hS hm (by omega) (by omega) (by simp only[icyL,fun M=>hS.icy M 12 (by omega)]) Wf.mem0 fun r U kU sU nU=>?_
 rw[eB] at hEl sU
 generalize elsR l=E at *
 have wU:=kU.wf
 have oU:=sU.one
 have lU:=sU.len
 simp (disch:=try exact SX) only[RV,seval,zA0,h0,wU,oU]
 refine zB7 (I:=fun n t N => ∃ (i:Nat),n=E.length - i∧i≤E.length∧nth zA3 t 3=r∧nth zA3 t 4=I64 i∧N=U∧(∀ j (h:j<E.length),j<i→E[j].af.hd.lb.leq E[j].id.hd.lb=true)) (n:=E.length) (by omega) ?_ ?_
 ·refine⟨0,rfl,Nat.zero_le _, ?_, ?_,rfl,(fun _ _ h=>absurd h (by omega))⟩ <;> simp (disch:=try exact SX) only[RV,seval,zA0,h0]
  all_goals first | rfl | assumption | done
 ·rintro n t N hlt ⟨i,rfl,hi,g3,g4,mk,hj⟩
  simp only[ht] at hlt ⊢
  subst mk
  by_cases hc:i<E.length
  ·have q1:decide ((i:Int)<E.length)=true:=DT
   have w1:IntKind.i64.wrap ((i:Int)+1)=((i+1:Nat):Int):=WI
   obtain⟨id,cs,hrow,hid,hg,hcs,hiad,⟨_,_,p2,p6,_⟩,hok1,hok2⟩:=zbI sU hc
   have nope:E[i].af.hd.lb.leq E[i].id.hd.lb=false→(E.all fun x=>x.af.hd.lb.leq x.id.hd.lb)=false:=fun h=>by
    rw[← Bool.not_eq_true,List.all_eq_true]
    intro k
    rw[k _ (List.getElem_mem hc)] at h
    cases h
   have key:E[i].af.hd.lb.leq E[i].id.hd.lb=true → ∀ j (h:j<E.length),j<i+1→E[j].af.hd.lb.leq E[j].id.hd.lb=true:=fun h0 j h hj'=>by
    rcases Nat.lt_succ_iff_lt_or_eq.1 hj' with h' | rfl
    ·exact hj j h h'
    ·exact h0
   generalize E[i]=x at *
   have hle:=fun M=>zMM (fuel:=fuel) (d:=d+1) x.af.hd.lb x.id.hd.lb hok2.1.1 hok1.1.1 (by omega) M
   cases hq:x.af.hd.lb.leq x.id.hd.lb with
   | false =>
    rw[hq] at hle
    have e:=nope hq
    simp (disch:=try exact SX) only[RV,seval,zA0,g3,g4,lU,q1,hiad,hg,p2,p6,wU,hle,e,zC2,zC0,zAK]
   | true =>
    rw[hq] at hle
    simp (disch:=try exact SX) only[RV,seval,zA0,g3,g4,lU,q1,hiad,hg,p2,p6,wU,hle,w1,zC2,zC0,zAK]
    exact⟨hlt,E.length - (i+1),by omega,i+1,rfl,by omega,rfl,key hq⟩
  ·obtain rfl:i=E.length:=by omega
   have q1:decide ((E.length:Int)<E.length)=false:=DF
   have e:(E.all fun x=>x.af.hd.lb.leq x.id.hd.lb)=true:=by
    rw[List.all_eq_true]
    intro y hy
    obtain⟨j,hj',rfl⟩:=List.getElem_of_mem hy
    exact hj j hj' hj'
   simp (disch:=try exact SX) only[RV,seval,zA0,g3,g4,lU,q1,e]
theorem zLO {α:Type}(f:α→Bool)(l:List α)(i:Nat)(h:i<l.length):(l.take (i+1)).filter f=(l.take i).filter f++if f l[i]=true then [l[i]] else []:=by
 rw[zB4 l i h,List.filter_append]
 congr 1
 by_cases q:f l[i]=true
 ·rw[if_pos q,List.filter_cons_of_pos q,List.filter_nil]
 ·rw[if_neg q,List.filter_cons_of_neg q,List.filter_nil]
theorem zO8 {a:AV}{l:List Rn}(hS:Sl 10 isRn a l)(hv:v.ok)(hm:∀ r∈l,r.may=true)(hl:l.length≤1000)(hf:64*l.length+3000<fuel):∃ r,Sl 10 isRn r (upTo v l) ∧ ∀ M,zCN fuel (d+4) 47 [a,lbA v] M=some (r,M):=by
 refine zHI tf47 rfl (fun M=>by simp only[icyL,fun M=>hS.icy M 12 (by omega),zBS (zJJ v) (show 1<12 by omega)]) ?_
 refine zAL tf47 rfl (by simp only[icyL,fun M=>hS.icy M 12 (by omega),zBS (zJJ v) (show 1<12 by omega)]) (by simp [a47]) fun b' ht hx=>?_
 obtain⟨h0,h1⟩:=hx2 hx
 clear hx
 simp only[a47,c47] at ht ⊢
 have hEl:=zCV hm
 have hmay:=zG1 hm
 have eB:elsB l=elsR l:=rfl
 rw[zY5 hm]
 have w0:Wf (mem0.add (.row false (lbR v))):=Wf.mem0.add _
 simp (disch:=try exact SX) only[RV,seval,zA0,h0,h1,hS.fz.rows,hS.fz.one,hS.fz.cells,hS.fz.icy,hS.fz.frz]
 refine zCD (d:=d) (M0:=mem0.add (.row false (lbR v))) hS hm (by omega) (by omega) (by simp only[icyL,fun M=>hS.icy M 12 (by omega)]) w0 fun r U kU sU nU=>?_
 rw[eB] at hEl sU
 generalize elsR l=E at *
 have wU:=kU.wf
 have oU:=sU.one
 have lU:=sU.len
 have l1:1≤U.size:=kU.le
 have gU:U.get 0=some (.row false (lbR v)):=(kU.get 0 (by show 0<1;omega)).trans (by simp (disch:=try exact SX) only[RV,seval,zA0])
 simp (disch:=try exact SX) only[RV,seval,zA0,h0,h1,wU,oU]
 refine zB7 (I:=fun n t N => ∃ (i:Nat) (o:AV),n=E.length - i∧i≤E.length∧nth zA3 t 3 = .ptr 0 0∧nth zA3 t 5=o∧nth zA3 t 6=r∧nth zA3 t 7=I64 i∧Wf N∧U.size≤N.size∧(∀ j,j<U.size→N.get j=U.get j)∧SlM N 9 isEl o ((E.take i).filter (lowE v))∧(∀ j,rowOf o=some j→U.size≤j)) (n:=E.length) (by omega) ?_ ?_
 ·refine⟨0,NIL,rfl,Nat.zero_le _, ?_, ?_, ?_, ?_,wU,Nat.le_refl _,(fun _ _=>rfl),SlM.nil,(fun _ h=>by cases h)⟩ <;> simp (disch:=try exact SX) only[RV,seval,zA0,h0,h1]
  all_goals first | rfl | assumption | done
 ·rintro n t N hlt ⟨i,o,rfl,hi,g3,g5,g6,g7,w,le,kp,so,ro⟩
  simp only[ht] at hlt ⊢
  have oo:=so.one
  have co:=so.cells
  by_cases hc:i<E.length
  ·have q1:decide ((i:Int)<E.length)=true:=DT
   have w1:IntKind.i64.wrap ((i:Int)+1)=((i+1:Nat):Int):=WI
   obtain⟨id,cs,hrow,hid,hg,hcs,hiad,⟨_,_,p2,_,p9⟩,hok1,hok2⟩:=zbI sU hc
   have hgN:=(kp id hid).trans hg
   have hg0:=(kp 0 (by omega)).trans gU
   have hsn:=zLO (lowE v) E i hc
   have hfl:((E.take i).filter (lowE v)).length≤64000:=by
    refine Nat.le_trans (List.length_filter_le _ _) ?_
    rw[List.length_take];omega
   generalize E[i]=x at *
   have hle:=fun M=>zMM (fuel:=fuel) (d:=d+1) x.id.hd.lb v hok1.1.1 hv (by omega) M
   unfold lowE at hsn
   cases hq:x.id.hd.lb.leq v with
   | false =>
    rw[hq] at hle
    simp only[hq,Bool.false_eq_true,if_false,List.append_nil] at hsn
    simp (disch:=try exact SX) only[RV,seval,zA0,g3,g5,g6,g7,lU,q1,hiad,hgN,hg0,p2,w,hle,w1,zC2,zC0,zAK]
    exact⟨hlt,E.length - (i+1),by omega,i+1,o,rfl,by omega,rfl,rfl,le,kp,by unfold lowE;rw[hsn];exact so,ro⟩
   | true =>
    rw[hq] at hle
    simp only[hq,if_true] at hsn
    simp (disch:=try exact SX) only[RV,seval,zA0,g3,g5,g6,g7,lU,q1,hiad,hgN,hg0,p2,p9,w,hle,oo,co,zC2,zC0,zAK]
    refine⟨zAM so.rl (by omega), ?_⟩
    refine app1 (bytes:=56) w so zG4 (x:=x) ⟨rfl,hok1,hok2⟩ rfl (by omega) (by omega) (by omega) fun o' M' m' w' le' kp' nw' wm' rl' on' oc'=>?_
    simp (disch:=try exact SX) only[RV,seval,zA0,g3,g5,g6,g7,w1,w',on',oc']
    refine⟨hlt,E.length - (i+1),by omega,i+1,o',rfl,by omega,rfl,rfl,by omega,fun j hj=>?_,by unfold lowE;rw[hsn];exact m',fun j hj=>?_⟩
    ·rw[kp' j (by omega) (fun h=>by have:=ro j h;omega),kp j hj]
    ·rcases nw' j hj with h | h
     ·exact ro j h
     ·omega
  ·obtain rfl:i=E.length:=by omega
   have q1:decide ((E.length:Int)<E.length)=false:=DF
   rw[List.take_length] at so
   have hfl:=List.length_filter_le (lowE v) E
   simp (disch:=try exact SX) only[RV,seval,zA0,g3,g5,g6,g7,lU,q1]
   refine SlR.hand (n:=d+2) (rest:=[]) (R:=fun r=>Sl 10 isRn r (zBO (E.filter (lowE v)))) tf67 rfl (SlR.of so) w zG4 (fun _=>rfl) (fun o' ho'=>zFQ (d:=d) ho' (fun x hx=>zNL (hmay x (List.mem_filter.1 hx).1) (zZP ho' x hx)) (by omega) (by omega)) fun r' N2 hr w2 z2 s2 k2=>?_
   simp (disch:=try exact SX) only[RV,seval,zA0,g3,g5,g6,g7,w2,hr.fz.rows,hr.fz.one,hr.fz.cells,hr.fz.icy,hr.fz.frz]
   exact⟨r',hr,rfl⟩
theorem upE_8 {l:List Rn}(h:¬(zBF l=true∧v.may=true)):upE l v=8:=by
 unfold upE
 rw[if_neg fun k=>h ⟨zLA k.1,k.2⟩]
theorem zO5 {a:AV}{l:List Rn}(hS:Sl 10 isRn a l)(hv:v.ok)(hl:l.length≤1000)(hf:64*l.length+3001000<fuel):∃ r,Sl 10 isRn r (upR l v) ∧ ∀ M,zCN fuel (d+7) 14 [a,lbA v] M=some (.tup [r,I64 (upE l v)],M):=by
 have hmy:=fun M=>zEE (fuel:=fuel) (d:=d) hS hl hf M
 have hmv:=fun M=>zMN (fuel:=fuel) (d:=d+5) v M
 refine zHI tf14 rfl (fun M=>by simp only[icyL,fun M=>hS.icy M 12 (by omega),zBS (zJJ v) (show 1<12 by omega)]) ?_
 refine zAL tf14 rfl (by simp only[icyL,fun M=>hS.icy M 12 (by omega),zBS (zJJ v) (show 1<12 by omega)]) (by simp [a14]) fun b' ht hx=>?_
 obtain⟨h0,h1⟩:=hx2 hx
 clear hx
 simp only[a14,c14] at ht ⊢
 unfold upR
 by_cases h8:zBF l=true∧v.may=true
 ·obtain⟨hb,hvm⟩:=h8
  rw[hb] at hmy
  rw[hvm] at hmv
  have hm:=(zBI.1 hb).1
  have hiE:upE l v=if zDU l=true then 0 else 2:=by unfold upE;rw[if_pos ⟨zBI.1 hb,hvm⟩]
  have hcl:=fun M=>zKW (fuel:=fuel) (d:=d+2) hS hm hl (by omega) M
  cases hc:zDU l with
  | false =>
   rw[hc] at hcl
   have e:upE l v=2:=by rw[hiE,hc];rfl
   simp (disch:=try exact SX) only[RV,seval,zA0,h0,h1,hS.fz.rows,hS.fz.one,hS.fz.cells,hS.fz.icy,hS.fz.frz,hmy,hmv,hcl,e]
   exact zB0m
  | true =>
   rw[hc] at hcl
   have e:upE l v=0:=by rw[hiE,hc];rfl
   obtain⟨r,sr,hr⟩:=zO8 (fuel:=fuel) (d:=d+2) hS hv hm hl (by omega)
   simp (disch:=try exact SX) only[RV,seval,zA0,h0,h1,hS.fz.rows,hS.fz.one,hS.fz.cells,hS.fz.icy,hS.fz.frz,hmy,hmv,hcl,hr,sr.fz.rows,sr.fz.one,sr.fz.cells,sr.fz.icy,sr.fz.frz,e]
   exact⟨r,sr,rfl⟩
 ·have e8:=upE_8 h8
  have key:(zBF l=false)∨(zBF l=true∧v.may=false):=by
   cases h1:zBF l <;> cases h2:v.may <;> simp_all
  rcases key with h | ⟨h,h'⟩
  ·rw[h] at hmy
   simp (disch:=try exact SX) only[RV,seval,zA0,h0,h1,hS.fz.rows,hS.fz.one,hS.fz.cells,hS.fz.icy,hS.fz.frz,hmy,z80,e8]
   exact zB0m
  ·rw[h] at hmy
   rw[h'] at hmv
   simp (disch:=try exact SX) only[RV,seval,zA0,h0,h1,hS.fz.rows,hS.fz.one,hS.fz.cells,hS.fz.icy,hS.fz.frz,hmy,hmv,z80,e8]
   exact zB0m
variable {o : AV} {E B : Nat} {L : List Nat}
theorem lay_n {cs:List AV}{k:Nat}{x:Rn}{ra:AV}(h:slot cs k 10=rnR x ra)(hl:k+10≤cs.length)(n:Int):lay cs (k+4) [I64 n]=lay cs k (rnR ⟨⟨x.sp.f,n⟩,x.af,x.rs⟩ ra):=by
 have h2:(cs.drop k).take 10=rnR x ra:=h
 have e4:cs.take (k+4)=cs.take k++(rnR x ra).take 4:=by
  exact zB0G
 have e5:cs.drop (k+5)=(rnR x ra).drop 5++cs.drop (k+10):=by
  exact zB0c
 unfold lay
 rw[e4,show k+4+[I64 n].length=k+5 from rfl,e5]
 simp
def SpT (M:Mem)(E B:Nat)(o:AV)(L:List Nat):Prop:=∃ (G:Mem) (l:List Rn),Wf G∧G.size=E∧(∀ j,B≤j→j<E→M.get j=G.get j)∧rnK.ND G B o l∧l.map (fun o=>o.rs.length)=L
theorem SpT.of {l:List Rn}(h:rnK.ND M B o l)(wf:Wf M):SpT M M.size B o (l.map fun o=>o.rs.length):=⟨M,l,wf,rfl,fun _ _ _=>rfl,h,rfl⟩
theorem SpT.keep {N:Mem}(h:SpT M E B o L)(k:∀ j,B≤j→j<E→N.get j=M.get j):SpT N E B o L:=by
 obtain⟨G,l,h1,h2,h3,h4⟩:=h
 exact⟨G,l,h1,h2,fun j a b=>(k j a b).trans (h3 j a b),h4⟩
theorem SpT.len (h:SpT M E B o L):∀ N,lenO N o=some (I64 L.length,N):=by
 obtain⟨G,l,_,_,_,hN,rfl⟩:=h
 rw[List.length_map]
 exact hN.nn.len
theorem SpT.one (h:SpT M E B o L):oneA o=true:=by
 obtain⟨G,l,_,_,_,hN,rfl⟩:=h
 exact hN.nn.one
theorem SpT.rows (h:SpT M E B o L)(hn:E≤M.size):(rowsOf o).all (fun x=>Nat.blt x M.size)=true:=by
 obtain⟨G,l,_,rfl,_,hN,rfl⟩:=h
 exact hN.nn.rows hn
theorem zZ5 {G:Mem}{id:Nat}{x:AObj}(wf:Wf M)(wg:Wf G)(hE:G.size≤M.size)(lid:id<G.size)(ag:∀ j,B≤j→j<G.size→M.get j=G.get j):∀ j,B≤j→j<G.size→(M.upd id x).get j=(G.upd id x).get j:=fun j h1 h2=>by
 by_cases e:id=j
 ·subst e
  rw[zAJ wf _ _ (by omega),zAJ wg _ _ lid]
 ·rw[zA2 wf _ _ _ e,zA2 wg _ _ _ e]
  exact ag j h1 h2
theorem SpT.at (h:SpT M E B o L)(wf:Wf M)(hE:E≤M.size){i:Nat}(hi:i<L.length):∃ id cs ra,(B≤id∧id<E)∧M.get id=some (.row false cs)∧(∀ N,iadO N 10 o (some i)=some (.ptr id (i*10),N))∧(i+1)*10≤cs.length∧cs[i*10+9]? = some ra∧oneA ra=true∧(∀ N,lenO N ra=some (I64 L[i],N))∧SpT (M.upd id (.row false (lay cs (i*10+4) [I64 (-7)]))) E B o L ∧
  ∀ k,k<L[i] → ∃ id2 cs2 v,(id2<E∧B≤id2)∧M.get id2=some (.row false cs2)∧k<cs2.length∧(∀ N,iadO N 1 ra (some k)=some (.ptr id2 k,N))∧cs2[k]? = some (I32 v) ∧ ∀ w,(-2147483648≤w∧w≤2147483647)→SpT (M.upd id2 (.row false (lay cs2 k [I32 w]))) E B o L:=by
 obtain⟨G,l,wg,rfl,ag,hN,rfl⟩:=h
 have hi':i<l.length:=by simpa using hi
 obtain⟨id,cs,ra,hrow,hB,lid,hg,hiad,hsl,hcl,hin,hne,hput⟩:=NK.ND.grow hN hi'
 obtain⟨id',cs',ra',hrow',hB',hg',_,hsl',_,hin',hne',hset⟩:=hN.at hi'
 obtain rfl:id'=id:=by rw[hrow] at hrow';exact(Option.some.inj hrow').symm
 obtain rfl:cs'=cs:=by rw[hg] at hg';simpa using hg'.symm
 have hsl:slot cs' (i*10) 10=rnR l[i] ra:=hsl
 have hsl':slot cs' (i*10) 10=rnR l[i] ra':=hsl'
 obtain rfl:ra'=ra:=by rw[hsl] at hsl';simpa using hsl'.symm
 have hcl:(i+1)*10≤cs'.length:=hcl
 have p9:cs'[i*10+9]? = some ra':=(zG6 (off:=9) hsl (by decide)).trans rfl
 have sm:SlM G 1 zAY ra' l[i].rs:=hin.1
 have hok:l[i].ok:=hin.2.2
 have hL:(l.map fun o=>o.rs.length)[i]=l[i].rs.length:=by rw[List.getElem_map]
 rw[hL]
 refine⟨id',cs',ra',⟨hB,lid⟩,(ag id' hB lid).trans hg,hiad,hcl,p9,sm.one,sm.len, ?_,fun k hk=>?_⟩
 ·refine⟨G.upd id' (.row false (lay cs' (i*10+4) [I64 (-7)])),l.set i ⟨⟨l[i].sp.f, -7⟩,l[i].af,l[i].rs⟩,wg.upd _ _,rfl,zZ5 wf wg hE lid ag, ?_, ?_⟩
  ·refine hput _ ⟨⟨l[i].sp.f, -7⟩,l[i].af,l[i].rs⟩ ra' (Nat.le_refl _) ⟨sm.keep fun j hj=>zA2 wg _ _ _ (fun e=>hne (by rw[hj,e])),hin.2.1,⟨⟨hok.1.1,by show i64R (-7);unfold i64R;omega⟩,hok.2⟩⟩ (fun j hj => .inl hj) sm.one sm.cells (fun j _ _ _ h=>zA2 wg _ _ _ (fun e=>h e.symm)) ?_ (by omega)
   rw[zAJ wg _ _ lid,lay_n hsl (by omega)]
   rfl
  ·rw[List.map_set]
   rw[← hL,List.set_getElem_self]
 ·obtain⟨id2,cs2,r,hrow2,lid2,hg2,hcs2,hiad2,hr,_,_,hcell,_,hset2⟩:=sm.atS hk
  have hr:r=[I32 l[i].rs[k]]:=hr
  subst hr
  have hB2:=hin.2.1 id2 hrow2
  have hc0:=hcell 0 (by omega)
  simp only[Nat.mul_one,Nat.add_zero] at hc0 hiad2 hset2 hcs2
  refine⟨id2,cs2,l[i].rs[k],⟨lid2,hB2⟩,(ag id2 hB2 lid2).trans hg2,by omega,hiad2,hc0,fun w hw=>⟨G.upd id2 (.row false (lay cs2 k [I32 w])),l.set i { l[i] with rs:=l[i].rs.set k w },wg.upd _ _,rfl,zZ5 wf wg hE lid2 ag, ?_, ?_⟩⟩
  ·refine hset _ _ rfl ?_ (fun j h1 h2 h3=>zA2 wg _ _ _ (fun e=>h3 (by rw[hrow2,e]))) (hset2 [I32 w] w rfl rfl _ (zAJ wg _ _ lid2))
   refine⟨hok.1,hok.2.1, ?_⟩
   intro x hx
   rcases List.mem_or_eq_of_mem_set hx with h | rfl
   ·exact hok.2.2 x h
   ·exact hw
  ·rw[List.map_set]
   simp only[List.length_set]
   rw[← hL,List.set_getElem_self]
theorem zc0 (n:Int) : -2147483648≤IntKind.i32.wrap n∧IntKind.i32.wrap n≤2147483647:=by
 simp only[IntKind.wrap,IntKind.bits,IntKind.signed]
 simp
 split <;> omega
theorem zOH (hS:SpT M E B o L)(hE:E≤M.size)(hl:L.length≤100000)(hr:∀ n∈L,n≤100000)(hf:200000<fuel)(wf:Wf M)
  (k:∀ u N,Wf N→N.size=M.size→(∀ j,(j<B∨E≤j)→N.get j=M.get j)→N.wm=M.wm→Q u N) :
  W3 (zCN fuel (d+1) 21 [o] M) Q:=by
 have lo:=hS.len
 refine zCZ tf21 rfl (by simp [a21]) fun b' ht hx=>?_
 have h0:=hx 0 _ rfl
 clear hx
 simp only[a21,c21] at ht ⊢
 simp (disch:=try exact SX) only[RV,seval,zA0,h0]
 refine zB7 (I:=fun nq tq Nq => ∃ (iq:Nat),nq=L.length - iq∧iq≤L.length∧nth zA3 tq 0=o∧nth zA3 tq 2=I64 iq∧Wf Nq∧Nq.size=M.size∧(∀ j,(j<B∨E≤j)→Nq.get j=M.get j)∧Nq.wm=M.wm∧SpT Nq E B o L) (n:=L.length) (by omega) ?_ ?_
 ·refine⟨0,rfl,Nat.zero_le _, ?_, ?_,wf,rfl,fun _ _=>rfl,rfl,hS⟩ <;> simp (disch:=try exact SX) only[RV,seval,zA0,h0]
  all_goals first | rfl | assumption | done
 ·rintro nq tq Nq hltq ⟨iq,rfl,hiq,gq0,gq2,wq,sq,kq,mq,hq⟩
  simp only[ht] at hltq ⊢
  by_cases hc:iq<L.length
  ·have c1:decide ((iq:Int)<L.length)=true:=DT
   have w1:IntKind.i64.wrap ((iq:Int)+1)=((iq+1:Nat):Int):=WI
   have hrl:=hr L[iq] (List.getElem_mem hc)
   simp (disch:=try exact SX) only[RV,seval,zA0,gq0,gq2,lo,c1]
   refine zB7 (I:=fun nk tk Nk => ∃ (ik:Nat),nk=L[iq] - ik∧ik≤L[iq]∧nth zA3 tk 0=o∧nth zA3 tk 2=I64 iq∧nth zA3 tk 3=I64 ik∧Wf Nk∧Nk.size=M.size∧(∀ j,(j<B∨E≤j)→Nk.get j=M.get j)∧Nk.wm=M.wm∧SpT Nk E B o L) (n:=L[iq]) (by omega) ?_ ?_
   ·refine⟨0,rfl,Nat.zero_le _, ?_, ?_, ?_,wq,sq,kq,mq,hq⟩ <;> simp (disch:=try exact SX) only[RV,seval,zA0,gq0,gq2]
    all_goals first | rfl | assumption | done
   ·rintro nk tk Nk hltk ⟨ik,rfl,hik,gk0,gk2,gk3,wk,sk,kk,mk,hk⟩
    simp only[hltq] at hltk ⊢
    obtain⟨id,cs,ra,⟨hB1,lid⟩,hg,hiad,hcl,p9,ora,lra,hmany,hset⟩:=hk.at wk (by omega) hc
    have rl:=hk.rows (by omega)
    have oo:=hk.one
    have lid':=Mem.get_lt hg
    have w2:IntKind.i64.wrap ((ik:Int)+1)=((ik+1:Nat):Int):=WI
    by_cases hc5:ik<L[iq]
    ·have c5:decide ((ik:Int)<L[iq])=true:=DT
     obtain⟨id2,cs2,v,⟨lid2,hB2⟩,hg2,hcs2,hiad2,hv,hs2⟩:=hset ik hc5
     have hs3:=hs2 _ (zc0 (v+1))
     simp (disch:=try exact SX) only[RV,seval,zA0,gk0,gk2,gk3,hiad,hg,rl,oo,p9,lra,ora,c5,w2,hiad2,hg2,hv]
     exact⟨hltk,L[iq] - (ik+1),by omega,ik+1,rfl,by omega,rfl,wk,sk,fun j hj=>by rw[zA2 wk _ _ _ (by omega)];exact kk j hj,mk,hs3⟩
    ·have c5:decide ((ik:Int)<L[iq])=false:=DF
     simp (disch:=try exact SX) only[RV,seval,zA0,gk0,gk2,gk3,hiad,hg,rl,oo,p9,lra,ora,c5,w1,wk]
     exact⟨hltk,L.length - (iq+1),by omega,iq+1,rfl,by omega,rfl,sk,fun j hj=>by rw[zA2 wk _ _ _ (by omega)];exact kk j hj,mk,hmany⟩
  ·obtain rfl:iq=L.length:=by omega
   have c1:decide ((L.length:Int)<L.length)=false:=DF
   simp (disch:=try exact SX) only[RV,seval,zA0,gq0,gq2,lo,c1]
   exact k _ _ wq sq kq mq
end Go.Proofs.Ytdgikiebohcohaa
set_option linter.unusedSectionVars false
namespace Go.Ax
open Go
namespace NK
variable {α β : Type} {K : NK α β} {M N : Mem} {B : Nat}
variable (K) in
def InF (x:α × AV):Prop:=Sl 1 K.T x.2 (K.f x.1)∧K.ok x.1
theorem InF.row {x:α × AV}(h:K.InF x):rowOf x.2=none:=by
 rcases h.1 with⟨e,_⟩ | ⟨rows,cap,e,_⟩ <;> rw[e] <;> rfl
variable (K) in
def NX (M:Mem)(B:Nat)(o:AV)(l:List α)(n:Nat):Prop:=∃ lr:List (α × AV),lr.map (·.1)=l∧SlM M K.st K.isN o lr∧(∀ (i:Nat) (h:i<lr.length),(i<n→K.InN M B lr[i])∧(n≤i→K.InF lr[i]))∧(∀ j,rowOf o=some j→B≤j)∧(∀ x∈lr,∀ j,rowOf o=some j→rowOf x.2≠some j)∧lr.Pairwise Apart
theorem unz:∀ {rows:List (List AV)} {l:List α},All2 K.is rows l → ∃ lr:List (α × AV),lr.map (·.1)=l∧All2 K.isN rows lr ∧ ∀ x∈lr,K.InF x
 | _,_,.nil=>⟨[],rfl,.nil,by simp⟩
 | _,_,.cons a t=>by
  obtain⟨ra,rfl,h1,h2⟩:=a
  obtain⟨lr,rfl,h3,h4⟩:=unz t
  refine⟨(_,ra)::lr,rfl,.cons ⟨rfl,h1.fz.one,h1.fz.cells⟩ h3,fun x hx=>?_⟩
  rcases List.mem_cons.1 hx with rfl | hx
  ·exact⟨h1,h2⟩
  ·exact h4 x hx
theorem NX.start {o:AV}{l:List α}(h:SlM M K.st K.is o l)(hB:∀ j,rowOf o=some j→B≤j):K.NX M B o l 0:=by
 rcases h with⟨rfl,rfl⟩ | ⟨id,rows,cap,rfl,hc,hg,hA,hr⟩
 ·exact⟨[],rfl,.inl ⟨rfl,rfl⟩,fun i h=>absurd h (by simp),hB,by simp,.nil⟩
 ·obtain⟨lr,rfl,h3,h4⟩:=unz hA
  refine⟨lr,rfl,.inr ⟨id,rows,cap,rfl,hc,hg,h3,hr⟩,fun i h=>⟨fun h=>absurd h (by omega),fun _=>h4 _ (List.getElem_mem h)⟩,hB,fun x hx j _ e=>?_,List.pairwise_iff_getElem.2 fun i j hi hj _ q hq=>?_⟩
  ·rw[(h4 x hx).row] at e;cases e
  ·rw[(h4 _ (List.getElem_mem hi)).row] at hq;cases hq
theorem NX.nd {o:AV}{l:List α}(h:K.NX M B o l l.length):K.ND M B o l:=by
 obtain⟨lr,rfl,h2,h3,h4,h5,h6⟩:=h
 refine⟨lr,rfl,h2,fun x hx=>?_,h4,h5,h6⟩
 obtain⟨i,hi,rfl⟩:=List.getElem_of_mem hx
 exact(h3 i hi).1 (by simpa using hi)
theorem NX.lt1 {lr:List (α × AV)}{n:Nat}(h3:∀ (i:Nat) (h:i<lr.length),(i<n→K.InN M B lr[i])∧(n≤i→K.InF lr[i])){i:Nat}(h:i<lr.length):∀ j,rowOf lr[i].2=some j→B≤j∧j<M.size:=fun j hj=>by
 by_cases hn:i<n
 ·have:=(h3 i h).1 hn;exact⟨this.2.1 j hj,this.lt j hj⟩
 ·have:=((h3 i h).2 (by omega)).row
  rw[this] at hj;cases hj
theorem NX.keep {o:AV}{l:List α}{n:Nat}(h:K.NX M B o l n)(k:∀ j,B≤j→j<M.size→N.get j=M.get j):K.NX N B o l n:=by
 obtain⟨lr,h1,h2,h3,h4,h5,h6⟩:=h
 exact⟨lr,h1,h2.keep fun j hj=>k j (h4 j hj) (h2.lt j hj),fun i hi=>⟨fun hn=>((h3 i hi).1 hn).keep fun j hj=>k j ((NX.lt1 h3 hi j hj).1) ((NX.lt1 h3 hi j hj).2),(h3 i hi).2⟩,h4,h5,h6⟩
theorem NX.len {o:AV}{l:List α}{n:Nat}(h:K.NX M B o l n):∀ N,lenO N o=some (I64 l.length,N):=by
 obtain⟨lr,rfl,h2,_⟩:=h
 intro N
 rw[h2.len N,List.length_map]
theorem NX.one {o:AV}{l:List α}{n:Nat}(h:K.NX M B o l n):oneA o=true:=by obtain⟨lr,rfl,h2,_⟩:=h;exact h2.one
theorem NX.rows {o:AV}{l:List α}{n:Nat}(h:K.NX M B o l n){m:Nat}(hn:M.size≤m):((rowsOf o).all fun i=>Nat.blt i m)=true:=by obtain⟨lr,rfl,h2,_⟩:=h;exact zAM h2.rl hn
theorem NX.at {o:AV}{l:List α}{n:Nat}(h:K.NX M B o l n){i:Nat}(hi:i<l.length)(hin:i<n):∃ id cs ra,rowOf o=some id∧B≤id∧M.get id=some (.row false cs)∧(∀ N,iadO N K.st o (some i)=some (.ptr id (i*K.st),N))∧slot cs (i*K.st) K.st=K.H l[i]++[ra]∧(i+1)*K.st≤cs.length∧K.InN M B (l[i],ra)∧rowOf ra≠some id ∧
  ∀ (N:Mem) (y:α),K.H y=K.H l[i]→K.ok y→(∀ j,B≤j→j<M.size→rowOf ra≠some j→N.get j=M.get j)→SlM N 1 K.T ra (K.f y)→K.NX N B o (l.set i y) n:=by
 obtain⟨lr,rfl,h2,h3,h4,h5,h6⟩:=h
 have hi':i<lr.length:=by simpa using hi
 rcases h2 with⟨rfl,rfl⟩ | ⟨id,rows,cap,rfl,hc,hg,hA,hr⟩
 ·exact absurd hi' (by simp)
 ·have hlen:=hA.length_eq
  have hfl:=zAN hr
  have hri:i<rows.length:=by omega
  have hn:=hA.get hri hi'
  have hrl:=hr rows[i] (List.getElem_mem hri)
  have hmem:=List.getElem_mem hi'
  have hI:=(h3 i hi').1 hin
  have hle:(i+1)*K.st≤rows.flatten.length:=by rw[hfl];exact Nat.mul_le_mul_right _ (by omega)
  refine⟨id,rows.flatten,lr[i].2,rfl,h4 id rfl,hg,fun N=>by rw[zH9 (by omega)];simp, ?_,hle, ?_,h5 _ hmem id rfl, ?_⟩
  ·rw[slot,zC1 i hr,List.drop_eq_getElem_cons hri,List.flatten_cons,List.take_append_of_le_length (by omega),List.take_of_length_le (by omega),hn.1]
   simp
  ·simpa using hI
  ·intro N y hH hok hk hs
   simp only[List.getElem_map] at hH
   refine⟨lr.set i (y,lr[i].2),by rw[List.map_set], ?_,fun j hj=>?_,h4,fun x hx=>?_, ?_⟩
   ·refine .inr ⟨id,rows.set i rows[i],cap,by simp,by simpa using hc, ?_,hA.set2 i ⟨by rw[hn.1];simp only[hH],hn.2⟩,fun r hr'=>?_⟩
    ·rw[List.set_getElem_self,hk id (h4 id rfl) (Mem.get_lt hg) (h5 _ hmem id rfl)];exact hg
    ·rw[List.set_getElem_self] at hr';exact hr r hr'
   ·rw[List.length_set] at hj
    by_cases e:i=j
    ·subst e
     rw[List.getElem_set_self]
     exact⟨fun _=>⟨hs,hI.2.1,hok⟩,fun h=>absurd h (by omega)⟩
    ·rw[List.getElem_set_ne e]
     refine⟨fun hjn=>((h3 j hj).1 hjn).keep fun q hq=>hk q (NX.lt1 h3 hj q hq).1 (NX.lt1 h3 hj q hq).2 fun hrow=>?_,(h3 j hj).2⟩
     rcases Nat.lt_or_gt_of_ne e with e' | e'
     ·exact List.pairwise_iff_getElem.1 h6 i j hi' hj e' q hrow hq
     ·exact List.pairwise_iff_getElem.1 h6 j i hj hi' e' q hq hrow
   ·rcases List.mem_or_eq_of_mem_set hx with hx' | rfl
    ·exact h5 x hx'
    ·exact fun j hj e=>h5 lr[i] hmem j hj e
   ·rw[List.pairwise_iff_getElem]
    intro p q hp hq hpq
    rw[List.length_set] at hp hq
    have key:=List.pairwise_iff_getElem.1 h6 p q hp hq hpq
    unfold Apart at key ⊢
    have e1:(lr.set i (y,lr[i].2))[p].2=lr[p].2:=by
     by_cases e:i=p
     ·subst e;rw[List.getElem_set_self]
     ·rw[List.getElem_set_ne e]
    have e2:(lr.set i (y,lr[i].2))[q].2=lr[q].2:=by
     by_cases e:i=q
     ·subst e;rw[List.getElem_set_self]
     ·rw[List.getElem_set_ne e]
    rw[e1,e2]
    exact key
theorem NX.put {o:AV}{l:List α}{i:Nat}(h:K.NX M B o l i)(hi:i<l.length):∃ id cs,rowOf o=some id∧B≤id∧M.get id=some (.row false cs)∧(∀ N,iadO N K.st o (some i)=some (.ptr id (i*K.st),N))∧(i+1)*K.st≤cs.length ∧
  ∀ (N:Mem) (r:AV),SlM N 1 K.T r (K.f l[i])→(∀ j,rowOf r=some j→M.size≤j)→oneA r=true→cellsA r=[r]→B≤M.size→N.get id=some (.row false (lay cs (i*K.st+(K.st - 1)) [r]))→(∀ j,B≤j→j<M.size→j≠id→N.get j=M.get j)→K.NX N B o l (i+1):=by
 obtain⟨lr,rfl,h2,h3,h4,h5,h6⟩:=h
 have hi':i<lr.length:=by simpa using hi
 rcases h2 with⟨rfl,rfl⟩ | ⟨id,rows,cap,rfl,hc,hg,hA,hr⟩
 ·exact absurd hi' (by simp)
 ·have hlen:=hA.length_eq
  have hfl:=zAN hr
  have hri:i<rows.length:=by omega
  have hn:=hA.get hri hi'
  have hrl:=hr rows[i] (List.getElem_mem hri)
  have hmem:=List.getElem_mem hi'
  have hF:=(h3 i hi').2 (Nat.le_refl _)
  have hst:=K.hl lr[i].1
  have hle:(i+1)*K.st≤rows.flatten.length:=by rw[hfl];exact Nat.mul_le_mul_right _ (by omega)
  refine⟨id,rows.flatten,rfl,h4 id rfl,hg,fun N=>by rw[zH9 (by omega)];simp,hle,fun N r hs hnew ho1 hc1 hBM hN hk=>?_⟩
  simp only[List.getElem_map] at hs
  have lid:=Mem.get_lt hg
  have e:=zHL (st:=K.st) (off:=K.st - 1) (new:=[r]) hr (List.getElem?_eq_getElem hri) (by simp;omega)
  have e2:lay rows[i] (K.st - 1) [r]=K.H lr[i].1++[r]:=by
   have hl1:(K.H lr[i].1).length=K.st - 1:=by omega
   unfold lay
   rw[List.drop_eq_nil_of_le (by simp;omega),hn.1,← hl1]
   simp
  rw[e2] at e
  rw[e] at hN
  refine⟨lr.set i (lr[i].1,r), ?_,.inr ⟨id,rows.set i (K.H lr[i].1++[r]),cap,by simp,by simpa using hc,hN,hA.set2 i ⟨rfl,ho1,hc1⟩,fun q hq=>?_⟩,fun j hj=>?_,h4,fun x hx=>?_, ?_⟩
  ·rw[List.map_set]
   have:lr[i].1=(lr.map (·.1))[i]'(by simpa using hi'):=by simp
   rw[this,List.set_getElem_self]
  ·rcases List.mem_or_eq_of_mem_set hq with h | rfl
   ·exact hr q h
   ·rw[List.length_append,List.length_singleton];exact K.hl _
  ·rw[List.length_set] at hj
   by_cases e:i=j
   ·subst e
    rw[List.getElem_set_self]
    exact⟨fun _=>⟨hs,fun j hj=>by have:=hnew j hj;omega,hF.2⟩,fun h=>absurd h (by omega)⟩
   ·rw[List.getElem_set_ne e]
    refine⟨fun hjn=>((h3 j hj).1 (by omega)).keep fun q hq=>hk q (NX.lt1 h3 hj q hq).1 (NX.lt1 h3 hj q hq).2 fun hrow=>?_,fun hjn=>(h3 j hj).2 (by omega)⟩
    exact h5 _ (List.getElem_mem hj) id rfl (by rw[hq,hrow])
  ·rcases List.mem_or_eq_of_mem_set hx with hx' | rfl
   ·exact h5 x hx'
   ·intro j hj e
    have:=hnew j e
    obtain rfl:id=j:=by simpa [rowOf] using hj
    omega
  ·rw[List.pairwise_iff_getElem]
   intro p q hp hq hpq
   rw[List.length_set] at hp hq
   have key:=List.pairwise_iff_getElem.1 h6 p q hp hq hpq
   by_cases ep:i=p
   ·subst ep
    rw[List.getElem_set_self,List.getElem_set_ne (by omega)]
    intro j hj e
    have:=hnew j hj
    have:=(NX.lt1 h3 hq j e).2
    omega
   ·rw[List.getElem_set_ne ep]
    by_cases eq:i=q
    ·subst eq
     rw[List.getElem_set_self]
     intro j hj e
     have:=hnew j e
     have:=(NX.lt1 h3 hp j hj).2
     omega
    ·rw[List.getElem_set_ne eq];exact key
end NK
end Go.Ax
namespace Go.Proofs.Ytdgikiebohcohaa
open Go Go.Ax
variable {fuel : Nat} {M : Mem} {Q : AV → Mem → Prop} {d : Nat}
theorem zaL {o:AV}{l:List Rn}{B i n:Nat}(h:rnK.NX M B o l n)(hi:i<l.length)(hn:n≤i):∃ id cs ra,rowOf o=some id∧M.get id=some (.row false cs)∧slot cs (i*10) 10=rnR l[i] ra∧Sl 1 zAY ra l[i].rs∧l[i].ok∧(i+1)*10≤cs.length:=by
 obtain⟨lr,rfl,h2,h3,h4,h5,h6⟩:=h
 have hi':i<lr.length:=by simpa using hi
 rcases h2 with⟨rfl,rfl⟩ | ⟨id,rows,cap,rfl,hc,hg,hA,hr⟩
 ·exact absurd hi' (by simp)
 ·have hfl:=zAN hr
  have hlen:=hA.length_eq
  have hri:i<rows.length:=by omega
  have hn':=hA.get hri hi'
  have hF:=(h3 i hi').2 hn
  have hrl:=hr rows[i] (List.getElem_mem hri)
  have hr:∀ r∈rows,r.length=10:=hr
  have hrl:rows[i].length=10:=hrl
  refine⟨id,rows.flatten,lr[i].2,rfl,hg, ?_,by simp only[List.getElem_map];exact hF.1,by simp only[List.getElem_map];exact hF.2,by rw[hfl];exact Nat.mul_le_mul_right _ (by omega)⟩
  rw[slot,zC1 i hr,List.drop_eq_getElem_cons hri,List.flatten_cons,List.take_append_of_le_length (by rw[hrl];exact Nat.le_refl _),List.take_of_length_le (by rw[hrl];exact Nat.le_refl _),hn'.1]
  simp only[List.getElem_map]
  rfl
theorem zWR {cs:List AV}{k:Nat}{x:Rn}{ra r:AV}(h:slot cs k 10=rnR x ra)(hl:k+10≤cs.length):lay cs k (rnR x r)=lay cs (k+9) [r]:=by
 have e:cs.take (k+9)=cs.take k++rnH x:=by
  have h2:(cs.drop k).take 10=rnR x ra:=h
  rw[List.take_add,show (cs.drop k).take 9=((cs.drop k).take 10).take 9 by rw[List.take_take];rfl,h2]
  rfl
 unfold lay
 rw[e,show (rnR x r).length=10 from rfl,show [r].length=1 from rfl,Nat.add_assoc]
 simp [rnH,spR,idR]
theorem zV0 {a:AV}{l:List Rn}(hS:Sl 10 isRn a l)(hl:l.length≤100000)(hd:∀ r∈l,r.rs.length≤1000000)(hf:l.length+100<fuel):zCX Try.prog (fsT tbl) fuel (d+3) 15 [a] (fun r M=>rnK.ND M 0 r l):=by
 have oa:=hS.one
 refine zDO tf15 rfl (by simp [a15]) fun b' ht hx=>?_
 have h0:=hx 0 _ rfl
 clear hx
 simp only[a15,c15] at ht ⊢
 simp (disch:=try exact SX) only[RV,seval,zA0,h0,hS.fz.rows,hS.fz.one,hS.fz.cells,hS.fz.icy,hS.fz.frz]
 refine zGL zDI.cel tf31 Try.underlying22 hS (by omega) (by omega) (by simp (disch:=try exact SX) only[RV,seval,zA0]) fun o3 M3 wf3 le3 kp3 sn3 nr3 wm3 di3 sz3=>?_
 have sx3:rnK.NX M3 0 o3 l 0:=NK.NX.start sn3.slm fun _ _=>Nat.zero_le _
 have on3:=sn3.slm.one
 have oc3:=sn3.slm.cells
 have ol3:=sn3.slm.len
 have rl3:=zAM sn3.slm.rl (Nat.le_refl M3.size)
 simp (disch:=try exact SX) only[RV,seval,zA0,h0,wf3,on3,oc3,rl3,ol3]
 refine zB7 (I:=fun n t N => ∃ (i:Nat),n=l.length - i∧i≤l.length∧nth zA3 t 3=o3∧nth zA3 t 8=o3∧nth zA3 t 9=I64 l.length∧nth zA3 t 10=I64 i∧Wf N∧rnK.NX N 0 o3 l i) (n:=l.length) (by omega) ?_ ?_
 ·refine⟨0,rfl,Nat.zero_le _, ?_, ?_, ?_, ?_,wf3,sx3⟩ <;> simp (disch:=try exact SX) only[RV,seval,zA0,h0]
  all_goals first | rfl | assumption | done
 ·rintro n t N hlt ⟨i,rfl,hi,g3,g8,g9,g10,w,sx⟩
  simp only[ht] at hlt ⊢
  have orl:∀ m,N.size≤m→((rowsOf o3).all fun i=>Nat.blt i m)=true:=fun m h=>sx.rows h
  by_cases hc:i<l.length
  ·have q1:decide ((i:Int)<l.length)=true:=DT
   have w1:IntKind.i64.wrap ((i:Int)+1)=((i+1:Nat):Int):=WI
   obtain⟨id,cs,ra,e1,e2,e3,hra,hok,hcs⟩:=zaL sx hc (Nat.le_refl i)
   obtain⟨id',cs',f1,_,f2,hiad,_,hput⟩:=sx.put hc
   obtain rfl:id'=id:=by rw[e1] at f1;exact(Option.some.inj f1).symm
   obtain rfl:cs'=cs:=by rw[e2] at f2;simpa using f2.symm
   have hiad:∀ N,iadO N 10 o3 (some i)=some (.ptr id' (i*10),N):=hiad
   have lid:=Mem.get_lt e2
   have hde:=hd l[i] (List.getElem_mem hc)
   have hpt:=zED (off:=0) (n:=10) (ag:=true) e3 (by omega) (by omega)
   rw[Nat.add_zero] at hpt
   have hpt2:Go.Ax.part cs' (i*10) 10 true=some (.agg (rnR l[i] ra)):=hpt
   have hlast:=fun r=>zWR (r:=r) e3 (by omega)
   have hput:∀ (N':Mem) (r:AV),SlM N' 1 zAY r l[i].rs→(∀ j,rowOf r=some j→N.size≤j)→oneA r=true→cellsA r=[r]→0≤N.size→N'.get id'=some (.row false (lay cs' (i*10+9) [r]))→(∀ j,0≤j→j<N.size→j≠id'→N'.get j=N.get j)→rnK.NX N' 0 o3 l (i+1):=hput
   generalize l[i]=e at *
   have ora:=hra.one
   simp (disch:=try exact SX) only[RV,seval,zA0,g3,g8,g9,g10,q1,hiad,e2,hpt2,hra.fz.rows,hra.fz.one,hra.fz.cells,hra.fz.icy,hra.fz.frz,w,on3,oc3,orl]
   refine zCR (fuel:=fuel) (d:=d+1) hra (by omega) (by simp (disch:=try exact SX) only[RV,seval,zA0,w]) fun rt U kU sU nU=>?_
   have wU:=kU.wf
   have zU:N.size+1≤U.size:=kU.le
   have ort:=sU.one
   have crt:=sU.cells
   have lrt:=sU.lt
   have rrt:=zAM sU.rl (Nat.le_refl U.size)
   have kN:∀ j,j<N.size→U.get j=N.get j:=fun j hj=>(kU.get j (by show j<N.size+1;omega)).trans (by simp (disch:=try exact SX) only[RV,seval,zA0,w])
   have gid:=(kN id' lid).trans e2
   have nU:∀ j,rowOf rt=some j→N.size+1≤j:=nU
   have hcs':i*10+10≤cs'.length:=by omega
   simp (disch:=try exact SX) only[RV,seval,zA0,g3,g8,g9,g10,wU,on3,oc3,hiad,gid,ort,crt,rrt,w1]
   refine⟨hlt,l.length - (i+1),by omega,i+1,rfl,by omega,rfl, ?_⟩
   refine hput _ rt (sU.keep fun j hj=>?_) (fun j hj=>by have:=nU j hj;omega) ort crt (Nat.zero_le _) ?_ fun j _ hj hne=>?_
   ·have:=nU j hj
    exact zB0w
   ·rw[← hlast rt]
    exact zB0w
   ·have:=kN j hj
    simp (disch:=try exact SX) only[RV,seval,zA0,wU,this]
  ·obtain rfl:i=l.length:=by omega
   have q1:decide ((l.length:Int)<l.length)=false:=DF
   simp (disch:=try exact SX) only[RV,seval,zA0,g3,g8,g9,g10,q1,on3,oc3]
   exact⟨sn3.slm.pur,sx.nd⟩
variable {l : List Rn} {a : AV}
def wR (r:Rn):Int:=imax (r.rs.length:Int) (imin (imax r.sp.n 0) 100)
def sumX:List Rn→Int→Int
 | [],n=>n
 | r::l,n=>sumX l (IntKind.i64.wrap (n+wR r))
theorem zUV (l:List Rn)(r:Rn)(n:Int):sumX (l++[r]) n=IntKind.i64.wrap (sumX l n+wR r):=by
 induction l generalizing n with
 | nil=>rfl
 | cons q l ih=>simp only[List.cons_append,sumX,ih]
def zH7 (l:List Rn):Bool:=decide ((60:Int)<l.length) || decide (250<sumX (l.take 100) 0)
theorem zH8 {l:List Rn}(h:zH7 l=false):l.length≤60:=by
 unfold zH7 at h
 simp only[Bool.or_eq_false_iff,decide_eq_false_iff_not] at h
 omega
theorem zRD {α:Type}(l:List α)(i:Nat)(h:i<l.length):l.take (i+1)=l.take i++[l[i]]:=by
 rw[List.take_add_one,List.getElem?_eq_getElem h];rfl
theorem zJK (hS:Sl 10 isRn a l)(hf:400<fuel)(M:Mem):zCN fuel (d+1) 4 [a] M=some (BL (zH7 l),M):=by
 have ll:=hS.len
 apply zBA
 refine zAL tf4 rfl (by simp only[icyL,fun M=>hS.icy M 12 (by omega)]) (by simp [a4]) fun b' ht hx=>?_
 have h0:=hx 0 _ rfl
 clear hx
 simp only[a4,c4] at ht ⊢
 unfold zH7
 simp (disch:=try exact SX) only[RV,zA0,reduceIte,Nat.reduceEqDiff,Nat.reduceBEq,Nat.reduceLT,Nat.reduceAdd,Nat.reduceLeDiff,Nat.reduceSub,Nat.reduceMul,Int.reduceLT,Int.reduceLE,Int.reduceEq,Int.reduceAdd,Int.reduceSub,Int.reduceMul,h0,ll,hS.fz.rows,hS.fz.one,hS.fz.cells,hS.fz.icy,hS.fz.frz]
 refine zB7 (I:=fun n t N => ∃ (i:Nat),n=100 - i∧i≤100∧nth zA3 t 0=a∧nth zA3 t 3=I64 (sumX (l.take i) 0)∧nth zA3 t 4=I64 i∧N=mem0∧i≤l.length) (n:=100) (by omega) ?_ ?_
 ·refine⟨0,rfl,Nat.zero_le _, ?_, ?_, ?_,rfl,Nat.zero_le _⟩ <;> simp (disch:=try exact SX) only[RV,zA0,reduceIte,Nat.reduceEqDiff,Nat.reduceBEq,Nat.reduceLT,Nat.reduceAdd,Nat.reduceLeDiff,Nat.reduceSub,Nat.reduceMul,Int.reduceLT,Int.reduceLE,Int.reduceEq,Int.reduceAdd,Int.reduceSub,Int.reduceMul,h0,sumX]
  all_goals first | rfl | assumption | done
 ·rintro n t N hlt ⟨i,rfl,hi,g0,g3,g4,hm,hil⟩
  simp only[ht] at hlt ⊢
  subst hm
  by_cases hc:i<l.length
  ·have q1:decide ((i:Int)<l.length)=true:=DT
   by_cases hc3:i<100
   ·have q2:decide ((i:Int)<100)=true:=DT
    have w1:IntKind.i64.wrap ((i:Int)+1)=((i+1:Nat):Int):=WI
    obtain⟨r,hiad,hr,hrl⟩:=hS.iad i hc
    have hsn:=zUV (l.take i) l[i] 0
    rw[← zRD l i hc] at hsn
    generalize l[i]=e at *
    obtain⟨ra,rfl,hra,hok⟩:=hr
    have lra:=hra.len
    have w2:IntKind.i64.wrap (sumX (l.take i) 0+wR e)=sumX (l.take (i+1)) 0:=hsn.symm
    simp (disch:=try exact SX) only[RV,zA0,reduceIte,Nat.reduceEqDiff,Nat.reduceBEq,Nat.reduceLT,Nat.reduceAdd,Nat.reduceLeDiff,Nat.reduceSub,Nat.reduceMul,Int.reduceLT,Int.reduceLE,Int.reduceEq,Int.reduceAdd,Int.reduceSub,Int.reduceMul,g0,g3,g4,ll,hS.fz.rows,hS.fz.one,hS.fz.cells,hS.fz.icy,hS.fz.frz,q1,q2,w1,hiad,hra.fz.rows,hra.fz.one,hra.fz.cells,hra.fz.icy,hra.fz.frz,lra,zDY,zE0,zDZ,BMM,zAK]
    refine⟨hlt,100 - (i+1),by omega,i+1,rfl,by omega, ?_,rfl,by omega⟩
    show AV.sc (.int .i64 (IntKind.i64.wrap (sumX (l.take i) 0+wR e)))=I64 _
    rw[w2]
   ·have q2:decide ((i:Int)<100)=false:=DF
    obtain rfl:i=100:=by omega
    cases q3:decide ((60:Int)<(l.length:Int))
    all_goals simp (disch:=try exact SX) only[RV,zA0,reduceIte,Nat.reduceEqDiff,Nat.reduceBEq,Nat.reduceLT,Nat.reduceAdd,Nat.reduceLeDiff,Nat.reduceSub,Nat.reduceMul,Int.reduceLT,Int.reduceLE,Int.reduceEq,Int.reduceAdd,Int.reduceSub,Int.reduceMul,g0,g3,g4,ll,hS.fz.rows,hS.fz.one,hS.fz.cells,hS.fz.icy,hS.fz.frz,q1,q2,q3,Bool.false_or,Bool.true_or]
  ·have q1:decide ((i:Int)<l.length)=false:=DF
   obtain rfl:i=l.length:=by omega
   have et:l.take 100=l.take l.length:=by rw[List.take_of_length_le (Nat.le_refl _),List.take_of_length_le (by omega)]
   rw[et]
   cases q3:decide ((60:Int)<(l.length:Int))
   all_goals simp (disch:=try exact SX) only[RV,zA0,reduceIte,Nat.reduceEqDiff,Nat.reduceBEq,Nat.reduceLT,Nat.reduceAdd,Nat.reduceLeDiff,Nat.reduceSub,Nat.reduceMul,Int.reduceLT,Int.reduceLE,Int.reduceEq,Int.reduceAdd,Int.reduceSub,Int.reduceMul,g0,g3,g4,ll,hS.fz.rows,hS.fz.one,hS.fz.cells,hS.fz.icy,hS.fz.frz,q1,q3,Bool.false_or,Bool.true_or]
theorem wR_le {r:Rn}(h:r.rs.length≤70368744177664):(r.rs.length:Int)≤wR r∧wR r≤70368744177664:=by
 unfold wR imax imin
 repeat' split
 all_goals omega
theorem zUU:∀ {l:List Rn} {n:Int},0≤n→n+l.length*70368744177664≤9223372036854775807→(∀ r∈l,r.rs.length≤70368744177664)→n≤sumX l n ∧ ∀ r∈l,n+r.rs.length≤sumX l n
 | [],n,_,_,_=>⟨Int.le_refl _,fun _ h=>absurd h (by simp)⟩
 | q::l,n,h0,h1,h2=>by
  have hq:=wR_le (h2 q List.mem_cons_self)
  rw[List.length_cons] at h1
  have hw:IntKind.i64.wrap (n+wR q)=n+wR q:=wrap_i64 (by omega) (by omega)
  obtain⟨a,b⟩:=zUU (l:=l) (n:=n+wR q) (by omega) (by omega) fun r hr=>h2 r (List.mem_cons_of_mem _ hr)
  show n≤sumX l (IntKind.i64.wrap (n+wR q))∧_
  rw[hw]
  refine⟨by omega,fun r hr=>?_⟩
  show n+r.rs.length≤sumX l (IntKind.i64.wrap (n+wR q))
  rw[hw]
  rcases List.mem_cons.1 hr with rfl | hr
  ·omega
  ·have:=b r hr;omega
theorem zT1 {l:List Rn}(h:zH7 l=false)(hl:∀ r∈l,r.rs.length≤70368744177664):∀ r∈l,r.rs.length≤250:=by
 have hs:=zH8 h
 unfold zH7 at h
 simp only[Bool.or_eq_false_iff,decide_eq_false_iff_not] at h
 rw[List.take_of_length_le (by omega)] at h
 have:=(zUU (l:=l) (n:=0) (Int.le_refl _) (by omega) hl).2
 intro r hr
 have:=this r hr
 omega
theorem may_len {l:List Rn}(h:∀ r∈l,r.may=true):∀ r∈l,r.rs.length≤64:=fun r hr=>(Rn.may_iffB (h r hr)).2
theorem zWM (l:List Rn)(x:Rn):(insR l x).length≤l.length+3 ∧ ∀ r∈insR l x,r.rs.length≤64:=by
 unfold insR
 split
 ·rename_i h
  exact⟨zWK l x,may_len (zTA h).1⟩
 ·exact⟨Nat.zero_le _,fun _ h=>absurd h (by simp)⟩
theorem zbQ (l:List Rn)(v:Lb):(upR l v).length≤l.length ∧ ∀ r∈upR l v,r.rs.length≤64:=by
 unfold upR
 split
 ·rename_i h
  have hm:∀ r∈l,r.may=true:=by
   unfold upE at h
   split at h
   ·rename_i h2
    exact h2.1.1
   ·cases h
  refine⟨Nat.le_trans (zM0 _) (List.length_filter_le _ _),may_len (zC7 fun r hr=>hm r (List.mem_filter.1 hr).1).2⟩
 ·exact⟨Nat.zero_le _,fun _ h=>absurd h (by simp)⟩
theorem zQT {a ra:AV}{l:List Rn}{x:Rn}(hS:Sl 10 isRn a l)(hR:Sl 1 zAY ra x.rs)(hx:x.ok)(hl:l.length≤900)(hf:64*l.length+3011000<fuel)(wf:Wf M)(k:∀ r N,Kept M N→rnK.ND N M.size r (insR l x)→Q (.tup [r,I64 (putE l x)]) N):W3 (zCN fuel (d+11) 7 [a,.agg (rnR x ra)] M) Q:=by
 refine zCX.use (zQS (fuel:=fuel) (d:=d) hS hR hx hl hf) (M0:=M) (by simp only[icyL,hS.icy M 12 (by omega),zBX hR.fz]) wf fun u M2 hu=>?_
 obtain⟨r,rfl,hr⟩:=hu
 have:=k _ _ (zD5 wf) (zR7 hr wf)
 simpa [shA,shL] using this
theorem zUZ {a:AV}{l:List Rn}{v:Lb}(hS:Sl 10 isRn a l)(hl:l.length≤1000)(hf:64*l.length+3011000<fuel)(wf:Wf M)(k:∀ r N,Kept M N→rnK.ND N M.size r (upR l v)→Q (.tup [r,I64 (upE l v)]) N):W3 (zCN fuel (d+11) 13 [a,lbA v] M) Q:=by
 refine zCX.use (zUY (fuel:=fuel) (d:=d) (v:=v) hS hl hf) (M0:=M) (by simp only[icyL,hS.icy M 12 (by omega),zBS (zJJ v) (show 1<12 by omega)]) wf fun u M2 hu=>?_
 obtain⟨r,rfl,hr⟩:=hu
 have:=k _ _ (zD5 wf) (zR7 hr wf)
 simpa [shA,shL] using this
theorem zV1 {a:AV}{l:List Rn}(hS:Sl 10 isRn a l)(hl:l.length≤100000)(hd:∀ r∈l,r.rs.length≤1000000)(hf:l.length+100<fuel)(wf:Wf M)(k:∀ r N,Kept M N→rnK.ND N M.size r l→Q r N):W3 (zCN fuel (d+4) 15 [a] M) Q :=
 zCX.use (zV0 (fuel:=fuel) (d:=d) hS hl hd hf) (M0:=M) (by simp only[icyL,hS.icy M 12 (by omega)]) wf fun u M2 hu=>k _ _ (zD5 wf) (zR7 hu wf)
theorem zK0 (l:List Rn):zEQ l l=true:=zGF.2 rfl
theorem zRE {a b ra:AV}{l p:List Rn}{x:Rn}{y:Eid}{v:Lb}(hS:Sl 10 isRn a l)(hP:Sl 10 isRn b p)(hR:Sl 1 zAY ra x.rs)(hx:x.ok)(hv:v.ok)(hlB:∀ r∈l,r.rs.length≤70368744177664)(M:Mem):zCN 4000000 61 3 [a,b,.agg (rnR x ra),idA y,lbA v] M=some (BL true,M):=by
 have oa:=hS.one
 have ob:=hP.one
 have ora:=hR.one
 have lra:=hR.len
 have hg1:=fun M=>@zJK 4000000 59 l a hS (by omega) M
 have hg2:=fun M=>@zJK 4000000 59 p b hP (by omega) M
 apply zBA
 refine zAL tf3 rfl (by simp only[icyL,fun M=>hS.icy M 12 (by omega),fun M=>hP.icy M 12 (by omega),zBX hR.fz,zBS (zEN y) (show 1<12 by omega),zBS (zJJ v) (show 1<12 by omega)]) (by simp [a3]) fun b' ht hx=>?_
 obtain⟨h0,h1,h2⟩:=hx3 hx
 have h3:=hx 3 _ rfl
 have h4:=hx 4 _ rfl
 clear hx
 simp only[a3,c3] at ht ⊢
 cases c1:zH7 l with
 | true =>
  rw[c1] at hg1
  simp (disch:=try exact SX) only[RV,seval,zA0,h0,h1,h2,h3,h4,hS.fz.rows,hS.fz.one,hS.fz.cells,hS.fz.icy,hS.fz.frz,hP.fz.rows,hP.fz.one,hP.fz.cells,hP.fz.icy,hP.fz.frz,hR.fz.rows,hR.fz.one,hR.fz.cells,hR.fz.icy,hR.fz.frz,hg1]
 | false =>
 rw[c1] at hg1
 cases c2:zH7 p with
 | true =>
  rw[c2] at hg2
  simp (disch:=try exact SX) only[RV,seval,zA0,h0,h1,h2,h3,h4,hS.fz.rows,hS.fz.one,hS.fz.cells,hS.fz.icy,hS.fz.frz,hP.fz.rows,hP.fz.one,hP.fz.cells,hP.fz.icy,hP.fz.frz,hR.fz.rows,hR.fz.one,hR.fz.cells,hR.fz.icy,hR.fz.frz,hg1,hg2]
 | false =>
 rw[c2] at hg2
 by_cases c3:100<x.rs.length
 ·have q3:decide ((100:Int)<x.rs.length)=true:=DT
  simp (disch:=try exact SX) only[RV,seval,zA0,h0,h1,h2,h3,h4,hS.fz.rows,hS.fz.one,hS.fz.cells,hS.fz.icy,hS.fz.frz,hP.fz.rows,hP.fz.one,hP.fz.cells,hP.fz.icy,hP.fz.frz,hR.fz.rows,hR.fz.one,hR.fz.cells,hR.fz.icy,hR.fz.frz,hg1,hg2,lra,q3,gt_iff_lt]
 ·have q3:decide ((100:Int)<x.rs.length)=false:=DF
  have hl:=zH8 c1
  have hrs:=zT1 c1 hlB
  obtain⟨ro,sro,hro⟩:=zO7 (fuel:=4000000) (d:=58) hS (by omega) (fun r hr=>by have:=hrs r hr;omega) (by omega)
  obtain⟨rm,srm,hrm⟩:=zIS (fuel:=4000000) (d:=59) hR (by omega)
  have oro:=sro.one
  have orm:=srm.one
  simp (disch:=try exact SX) only[RV,seval,zA0,h0,h1,h2,h3,h4,hS.fz.rows,hS.fz.one,hS.fz.cells,hS.fz.icy,hS.fz.frz,hP.fz.rows,hP.fz.one,hP.fz.cells,hP.fz.icy,hP.fz.frz,hR.fz.rows,hR.fz.one,hR.fz.cells,hR.fz.icy,hR.fz.frz,hg1,hg2,lra,q3,hro,hrm,sro.fz.rows,sro.fz.one,sro.fz.cells,sro.fz.icy,sro.fz.frz,srm.fz.rows,srm.fz.one,srm.fz.cells,srm.fz.icy,srm.fz.frz,gt_iff_lt]
  refine zQT (d:=49) sro srm hx (by omega) (by omega) (by simp (disch:=try exact SX) only[RV,seval,zA0]) fun ta N1 k1 nd1=>?_
  have w1:=k1.wf
  have l1:4≤N1.size:=k1.le
  have e0:N1.get 0=some (.row false (rnR x ra)):=(k1.get 0 (by show 0<4;omega)).trans (by simp (disch:=try exact SX) only[RV,seval,zA0])
  have e1:N1.get 1=some (.row false (idR y)):=(k1.get 1 (by show 1<4;omega)).trans (by simp (disch:=try exact SX) only[RV,seval,zA0])
  have e2:N1.get 2=some (.row false (lbR v)):=(k1.get 2 (by show 2<4;omega)).trans (by simp (disch:=try exact SX) only[RV,seval,zA0])
  have e3:N1.get 3=some (.row false (rnR x rm)):=(k1.get 3 (by show 3<4;omega)).trans (by simp (disch:=try exact SX) only[RV,seval,zA0])
  have nd1:rnK.ND N1 4 ta (insR l x):=nd1
  obtain⟨ib,sib,hib⟩:=zKX (fuel:=4000000) (d:=53) hS hR hx (by omega) (by omega)
  obtain⟨ic,sic,hic⟩:=zaA (fuel:=4000000) (d:=49) sro (by omega) (by omega)
  obtain⟨id,sid,hid⟩:=zR0 (fuel:=4000000) (d:=53) hS (by omega) (by omega)
  have hfa:=fun M=>zWF (fuel:=4000000) (d:=49) (x:=y) sro (by omega) (by omega) M
  have hfb:=fun M=>zO3 (fuel:=4000000) (d:=53) (x:=y) hS (by omega) (by omega) M
  obtain⟨ota,cta,_,lta,_,_⟩:=ND.lr nd1
  have oib:=sib.one
  have oic:=sic.one
  have oid:=sid.one
  simp (disch:=try exact SX) only[RV,seval,zA0,h0,h1,h2,h3,h4,hS.fz.rows,hS.fz.one,hS.fz.cells,hS.fz.icy,hS.fz.frz,hR.fz.rows,hR.fz.one,hR.fz.cells,hR.fz.icy,hR.fz.frz,w1,e0,e1,e2,e3,ota,cta,oib,oic,oid,hib,hic,hid,hfa,hfb,sro.fz.rows,sro.fz.one,sro.fz.cells,sro.fz.icy,sro.fz.frz,sib.fz.rows,sib.fz.one,sib.fz.cells,sib.fz.icy,sib.fz.frz,sic.fz.rows,sic.fz.one,sic.fz.cells,sic.fz.icy,sic.fz.frz,sid.fz.rows,sid.fz.one,sid.fz.cells,sid.fz.icy,sid.fz.frz]
  refine zUZ (d:=49) sro (by omega) (by omega) w1 fun tp N2 k2 nd2=>?_
  have w2:=k2.wf
  have l2:N1.size≤N2.size:=k2.le
  have e0:=(k2.get 0 (by omega)).trans e0
  have e1:=(k2.get 1 (by omega)).trans e1
  have e2:=(k2.get 2 (by omega)).trans e2
  have e3:=(k2.get 3 (by omega)).trans e3
  obtain⟨ub,sub,hub⟩:=zO5 (fuel:=4000000) (d:=53) hS hv (by omega) (by omega)
  obtain⟨otp,ctp,_,ltp,_,_⟩:=ND.lr nd2
  have oub:=sub.one
  simp (disch:=try exact SX) only[RV,seval,zA0,h0,h1,h2,h3,h4,hS.fz.rows,hS.fz.one,hS.fz.cells,hS.fz.icy,hS.fz.frz,w2,e0,e1,e2,e3,otp,ctp,oub,hub,sro.fz.rows,sro.fz.one,sro.fz.cells,sro.fz.icy,sro.fz.frz,sub.fz.rows,sub.fz.one,sub.fz.cells,sub.fz.icy,sub.fz.frz]
  refine zV1 (d:=56) sro (by omega) (fun r hr=>by have:=hrs r hr;omega) (by omega) w2 fun tt N3 k3 nd3=>?_
  have w3:=k3.wf
  have l3:N2.size≤N3.size:=k3.le
  have e0:=(k3.get 0 (by omega)).trans e0
  have e3:=(k3.get 3 (by omega)).trans e3
  obtain⟨ott,ctt,_,ltt,_,_⟩:=ND.lr nd3
  have hli:=zWM l x
  have hlu:=zbQ l v
  have n1:=nd1.keep (N:=N3) fun j _ hj=>(k3.get j (by omega)).trans (k2.get j hj)
  have n2:=nd2.keep (N:=N3) fun j _ hj=>k3.get j hj
  have hsa:=zPC (fuel:=4000000) (n:=59) tf16 rfl n1 w3 (fun M=>sib.icy M 12 (by omega)) fun o' ho' M=>zCQ (fuel:=4000000) (d:=57) ho' sib (by omega) (fun e he=>by have:=hli.2 e he;omega) (by omega) M
  have hsp:=zPC (fuel:=4000000) (n:=59) tf16 rfl n2 w3 (fun M=>sub.icy M 12 (by omega)) fun o' ho' M=>zCQ (fuel:=4000000) (d:=57) ho' sub (by omega) (fun e he=>by have:=hlu.2 e he;omega) (by omega) M
  have hst:=zPC (fuel:=4000000) (n:=59) tf16 rfl nd3 w3 (fun M=>hS.icy M 12 (by omega)) fun o' ho' M=>zCQ (fuel:=4000000) (d:=57) ho' hS (by omega) (fun e he=>by have:=hrs e he;omega) (by omega) M
  rw[zK0] at hsa hsp hst
  have hsi:=fun M=>zJC (fuel:=4000000) (d:=59) sic sid (by
   have:(idsR l).length≤64*l.length:=by
    exact zB0p
   omega) (by
   have:(idsR l).length≤64*l.length:=by
    exact zB0p
   omega) M
  have hca:=fun M=>zET (fuel:=4000000) (d:=50) sro (by omega) (by omega) M
  have hcb:=fun M=>zML (fuel:=4000000) (d:=53) hS (by omega) (by omega) M
  have hrs2:∀ e∈l,e.rs.length≤1000000∧e.rs.length<4000000:=fun e he=>by have:=hrs e he;omega
  have hma:=fun M=>zJ7 (fuel:=4000000) (d:=56) sro hP (by omega) hrs2 (by omega) M
  have hmb:=fun M=>zCQ (fuel:=4000000) (d:=57) hS hP (by omega) hrs2 (by omega) M
  have hmc:=fun M=>zJ7 (fuel:=4000000) (d:=56) sro hS (by omega) hrs2 (by omega) M
  have hmd:=fun M=>zCQ (fuel:=4000000) (d:=57) sro hS (by omega) hrs2 (by omega) M
  rw[zK0] at hmc hmd
  have qp:decide (putE l x=putE l x)=true:=decide_eq_true rfl
  have qt:decide (err (zBF l)=err (zBF l))=true:=decide_eq_true rfl
  have qf:decide (zQK l y=zQK l y)=true:=decide_eq_true rfl
  have qg:decide (zNJ l y=zNJ l y)=true:=decide_eq_true rfl
  have qu:decide (upE l v=upE l v)=true:=decide_eq_true rfl
  have qs:binB Try.prog .eql 4 (zEQ l p) (zEQ l p)=some (.bool true):=by cases zEQ l p <;> rfl
  simp (maxSteps:=20000000) (disch:=try exact SX) only[RV,seval,zA0,h0,h1,h2,h3,h4,hS.fz.rows,hS.fz.one,hS.fz.cells,hS.fz.icy,hS.fz.frz,hP.fz.rows,hP.fz.one,hP.fz.cells,hP.fz.icy,hP.fz.frz,w3,ott,ctt,hsa,hsp,hst,hsi,hca,hcb,hma,hmb,hmc,qp,qt,qf,qg,qu,qs]
  have sp1:SpT N3 N1.size 4 ta ((insR l x).map fun o=>o.rs.length):=(SpT.of nd1 w1).keep fun j _ hj=>(k3.get j (by omega)).trans (k2.get j hj)
  refine zOH (d:=59) sp1 (by omega) (by simp;omega) (fun n hn=>by obtain⟨e,he,rfl⟩:=List.mem_map.1 hn;have:=hli.2 e he;omega) (by omega) w3 fun u1 S1 ws1 zs1 ks1 _=>?_
  simp (disch:=try exact SX) only[RV,seval,zA0,h0,h1,h2,h3,h4,ws1,otp,ctp]
  have sp2:SpT S1 N2.size N1.size tp ((upR l v).map fun o=>o.rs.length):=(SpT.of nd2 w2).keep fun j a hj=>(ks1 j (.inr a)).trans (k3.get j hj)
  refine zOH (d:=59) sp2 (by omega) (by simp;omega) (fun n hn=>by obtain⟨e,he,rfl⟩:=List.mem_map.1 hn;have:=hlu.2 e he;omega) (by omega) ws1 fun u2 S2 ws2 zs2 ks2 _=>?_
  simp (disch:=try exact SX) only[RV,seval,zA0,h0,h1,h2,h3,h4,ws2,ott,ctt]
  have sp3:SpT S2 N3.size N2.size tt (l.map fun o=>o.rs.length):=(SpT.of nd3 w3).keep fun j a hj=>(ks2 j (.inr a)).trans (ks1 j (.inr (by omega)))
  refine zOH (d:=59) sp3 (by omega) (by simp;omega) (fun n hn=>by obtain⟨e,he,rfl⟩:=List.mem_map.1 hn;have:=hrs e he;omega) (by omega) ws2 fun u3 S3 ws3 zs3 ks3 _=>?_
  have f0:S3.get 0=some (.row false (rnR x ra)):=by rw[ks3 0 (.inl (by omega)),ks2 0 (.inl (by omega)),ks1 0 (.inl (by omega))];exact e0
  have f3:S3.get 3=some (.row false (rnR x rm)):=by rw[ks3 3 (.inl (by omega)),ks2 3 (.inl (by omega)),ks1 3 (.inl (by omega))];exact e3
  have hz:=fun M=>zIR (fuel:=4000000) (d:=58) srm hR (by omega) (by omega) M
  rw[show rnEq x x=true from (zFA x x).2 rfl] at hz
  simp (disch:=try exact SX) only[RV,seval,zA0,h0,h1,h2,h3,h4,hS.fz.rows,hS.fz.one,hS.fz.cells,hS.fz.icy,hS.fz.frz,ws3,f0,f3,srm.fz.rows,srm.fz.one,srm.fz.cells,srm.fz.icy,srm.fz.frz,hR.fz.rows,hR.fz.one,hR.fz.cells,hR.fz.icy,hR.fz.frz,hmd,hz]
abbrev gLb:GT:=.ag [.int .u8,.int .u32]
abbrev gHd:GT:=.ag [gLb,.int .u8]
abbrev gId:GT:=.ag [gHd,.int .i64]
abbrev gSp:GT:=.ag [gId,.int .i64]
theorem zJX {n:Int}(h:(Lit.int .u8 n).wf=true):0≤n∧n≤255:=by
 simp [Lit.wf,IntKind.min,IntKind.max,IntKind.signed,IntKind.bits] at h
 omega
theorem zL1 {n:Int}(h:(Lit.int .u32 n).wf=true):0≤n∧n<4294967296:=by
 simp [Lit.wf,IntKind.min,IntKind.max,IntKind.signed,IntKind.bits] at h
 omega
theorem zOB {n:Int}(h:(Lit.int .i64 n).wf=true):i64R n:=by
 simp [Lit.wf,IntKind.min,IntKind.max,IntKind.signed,IntKind.bits] at h
 unfold i64R
 omega
def zTB (r:List AV)(x:Int):Prop:=zAY r x∧(-2147483648≤x∧x≤2147483647)
theorem zdA (r:List AV)(h:Is (.int .i32) r):∃ x,zTB r x:=by
 simp only[Is] at h
 obtain⟨n,rfl,hw⟩:=h
 refine⟨n,rfl, ?_⟩
 simp [Lit.wf,IntKind.min,IntKind.max,IntKind.signed,IntKind.bits] at hw
 omega
theorem zOS:∀ {rows:List (List AV)} {l:List Int},All2 zTB rows l→All2 zAY rows l∧i32s l
 | _,_,.nil=>⟨.nil,fun x h=>by cases h⟩
 | _,_,.cons a t=>by
  obtain⟨h1,h2⟩:=zOS t
  refine⟨.cons a.1 h1,fun x h=>?_⟩
  rcases List.mem_cons.1 h with rfl | h
  ·exact a.2
  ·exact h2 x h
theorem zeF {a:AV}{l:List Int}(h:Sl 1 zTB a l):Sl 1 zAY a l∧i32s l:=by
 rcases h with⟨rfl,rfl⟩ | ⟨rows,cap,rfl,hA,hr⟩
 ·exact⟨.inl ⟨rfl,rfl⟩,fun x h=>by cases h⟩
 ·obtain⟨h1,h2⟩:=zOS hA
  exact⟨.inr ⟨rows,cap,rfl,h1,hr⟩,h2⟩
theorem zX3 {r:List AV}(h:Is (.sl (.int .i32)) r):∃ a l,r=[a]∧Sl 1 zAY a l∧i32s l:=by
 obtain⟨a,l,e,hs⟩:=Is.slice zdA h
 obtain⟨h1,h2⟩:=zeF hs
 exact⟨a,l,e,h1,h2⟩
theorem of_lb (r:List AV)(h:Is gLb r):∃ x,isLb r x:=by
 simp only[Is,IsL] at h
 obtain⟨_,_,rfl,⟨n1,rfl,w1⟩,_,_,rfl,⟨n2,rfl,w2⟩,rfl⟩:=h
 exact⟨⟨n1,n2⟩,rfl,(zJX w1).1,(zJX w1).2,(zL1 w2).1,(zL1 w2).2⟩
abbrev gRn:GT:=.ag [gSp,gId,.sl (.int .i32)]
theorem zaN (r:List AV)(h:Is gRn r):∃ x,isRn r x:=by
 simp only[gRn,gSp,gId,gHd,gLb,Is,IsL] at h
 obtain⟨_,_,rfl,⟨_,_,rfl,⟨_,_,rfl,⟨_,_,rfl,⟨_,_,rfl,⟨n1,rfl,w1⟩,_,_,rfl,⟨n2,rfl,w2⟩,rfl⟩,_,_,rfl,⟨n3,rfl,w3⟩,rfl⟩,_,_,rfl,⟨n4,rfl,w4⟩,rfl⟩,_,_,rfl,⟨n5,rfl,w5⟩,rfl⟩,_,_,rfl,⟨_,_,rfl,⟨_,_,rfl,⟨_,_,rfl,⟨n6,rfl,w6⟩,_,_,rfl,⟨n7,rfl,w7⟩,rfl⟩,_,_,rfl,⟨n8,rfl,w8⟩,rfl⟩,_,_,rfl,⟨n9,rfl,w9⟩,rfl⟩,_,_,rfl,hr,rfl⟩:=h
 have r1:0≤n1∧n1≤255:=by exact zJX w1
 have r2:0≤n2∧n2<4294967296:=by exact zL1 w2
 have r3:0≤n3∧n3≤255:=by exact zJX w3
 have r4:i64R n4:=by exact zOB w4
 have r5:i64R n5:=by exact zOB w5
 have r6:0≤n6∧n6≤255:=by exact zJX w6
 have r7:0≤n7∧n7<4294967296:=by exact zL1 w7
 have r8:0≤n8∧n8≤255:=by exact zJX w8
 have r9:i64R n9:=by exact zOB w9
 obtain⟨ra,l,e,hs,hi⟩:=zX3 (r:=_) (by simp only[Is];exact hr)
 subst e
 exact⟨⟨⟨⟨⟨⟨n1,n2⟩,n3⟩,n4⟩,n5⟩,⟨⟨⟨n6,n7⟩,n8⟩,n9⟩,l⟩,ra,rfl,hs,⟨⟨⟨⟨r1.1,r1.2,r2.1,r2.2⟩,r3⟩,r4⟩,r5⟩,⟨⟨⟨r6.1,r6.2,r7.1,r7.2⟩,r8⟩,r9⟩,hi⟩
theorem zdB (r:List AV)(h:Is gRn r)(hw:Ws gRn r):∃ x,isRn r x∧x.rs.length≤70368744177664:=by
 obtain⟨x,hx⟩:=zaN r h
 refine⟨x,hx, ?_⟩
 obtain⟨ra,rfl,hra,_⟩:=hx
 simp only[gRn,gSp,gId,gHd,gLb,Ws,WsL,GT.n,GT.ns,List.cons_append,List.nil_append,List.take_succ_cons,List.take_zero,List.drop_succ_cons,List.drop_zero,true_and,and_true,Nat.add_zero,Nat.reduceAdd] at hw
 have hw1:Ws (.sl (.int .i32)) [ra]:=by simp only[Ws];exact hw
 have b:=hw1.len hra
 simp only[GT.by,IntKind.bits,reachBytes] at b
 omega
theorem zd9 (r:List AV)(h:Is gId r):∃ y:Eid,r=idR y:=by
 simp only[gId,gHd,gLb,Is,IsL] at h
 obtain⟨_,_,rfl,⟨_,_,rfl,⟨_,_,rfl,⟨n1,rfl,w1⟩,_,_,rfl,⟨n2,rfl,w2⟩,rfl⟩,_,_,rfl,⟨n3,rfl,w3⟩,rfl⟩,_,_,rfl,⟨n4,rfl,w4⟩,rfl⟩:=h
 exact⟨⟨⟨⟨n1,n2⟩,n3⟩,n4⟩,rfl⟩
theorem run_args (a0 a1 a2 a3 a4:AV)(h0:IsA (.sl gRn) a0)(h1:IsA (.sl gRn) a1)(h2:IsA gRn a2)(h3:IsA gId a3)(h4:IsA gLb a4)(k0:WsA (.sl gRn) a0):zCN 4000000 61 3 [a0,a1,a2,a3,a4] mem0=some (BL true,mem0):=by
 obtain⟨a,l,ha,hl,_⟩:=Is.sliceW (T:=fun r e=>isRn r e∧e.rs.length≤70368744177664) zdB h0 k0
 obtain rfl:a0=a:=by simpa using ha
 obtain⟨b,p,hb,hp⟩:=Is.slice zaN h1
 obtain rfl:a1=b:=by simpa using hb
 obtain⟨c2,rfl,h2⟩:=h2
 obtain⟨x,ra,rfl,hra,hx⟩:=zaN c2 h2
 obtain⟨c3,rfl,h3⟩:=h3
 obtain⟨y,rfl⟩:=zd9 c3 h3
 obtain⟨c4,rfl,h4⟩:=h4
 obtain⟨v,rfl,hv⟩:=of_lb c4 h4
 exact zRE hl.split.1 hp hra hx hv hl.split.2 mem0
end Go.Proofs.Ytdgikiebohcohaa
namespace Go.Ax
open Go.ChangeShapes Go.WideShapes
variable {H : Type} {enc : TypeId × Value → H}
theorem zJ3 {a:Assume}{C:Checked}{os:Os}{f:FuncId}{fn:Func}{s:ChangeSpec}{conds:List PathCond}{apart fresh handsOn again:Bool}
  (own:ownKnob C.prog.godebug=none) (started:os.Started) (noInit:C.prog.inits.idxOf? f=none) (hfn:C.prog.funcs[f]? = some fn)
  (witness:∃ (w:World) (tape:Tape) (i:Input),w.os=os∧(w.forCall tape i).Shaped C.prog∧i.vars=[]∧Input.okWide C.prog (w.forCall tape i) .any w.heap.size f i ∧
   s.pre6 enc C.prog fn conds apart (w.forCall tape i).memory i.args∧a.holds C.prog (lone (Frame.enter C.prog f i.args .normal) [] (w.forCall tape i)))
  (contract:∀ (W:World) (base:Nat) (args:Array Value) (ds gs:List (DataW H)) (before:List MemPlace),
   (∀ (j:Nat) t v,fn.params[j]? = some t→args[j]? = some v→Value.okWide C.prog W .any base t v) →
   DataW.Whole enc C.prog fn.params.toList s.vars apart W args.toList ds gs before →
   (DataW.weightsEach C.prog (fn.params.toList++(OpenSpec.ofChange s).bare.plain.varTypes C.prog) (ds++gs)).all (· ≤ reachBytes)=true →
   a.holds C.prog (lone (Frame.enter C.prog f args .normal) [] W) →
   Calls C.prog f args W fun e W' => ∃ v,e = .returned v∧s.post enc C.prog fn apart fresh handsOn again W args v W') :
  ReturnsInHanded a C os f .any (s.pre6 enc C.prog fn conds apart) (s.post enc C.prog fn apart fresh handsOn again):=by
 refine returnsInHanded_of_calls own started noInit witness ?_
 intro w tape i _ _ _ hok hpre hholds
 obtain⟨_,_,_,fn',hfn',_,_,_,_,hval⟩:=hok
 have e:fn'=fn:=Option.some.inj (hfn'.symm.trans hfn)
 subst e
 obtain⟨⟨ds,gs,before,hw,hc⟩,hsz⟩:=hpre
 have hw':=DataW.Whole.of_heap (w':=w.forCall tape i) (by rfl) hw
 have hs:=(hsz.of_heap (w':=w.forCall tape i) (by rfl)).weights hw'
 refine(contract (w.forCall tape i) w.heap.size i.args ds gs before hval hw' hs hholds).mono fun e W' ⟨v,he,hp⟩=>?_
 subst he
 exact ChangeSpec.post_blind hp
end Go.Ax
