/-
  Texts joined: TrB TrC TrE TrF TpA TpB TpC TrD TpD TpE RmB RiZ RkB RlA.
-/
import Derived.Test.YtlmeadmpldjdaaaGreatEg
import Derived.Test.YtlmeadmpldjdaaaGreatPa
set_option linter.unusedSimpArgs false
set_option linter.unusedVariables false
set_option maxHeartbeats 64000000
set_option maxRecDepth 100000
namespace Go.Proofs.YtlmeadmpldjdaaaGreat
open Go Go.Ax
variable {fuel : Nat} {M : Mem} {Q : AV → Mem → Prop} {d : Nat}
def Rn.z:Rn:=⟨⟨Eid.z,0⟩,Eid.z,[]⟩
theorem zZ9 {o:Rn}{ra:AV}(hR:Sl 1 zAS ra o.rs)(hl:o.rs.length≤1000000000):zDC Tryz.prog (fsT tbl) fuel (d+1) 120 [.agg (rnR o ra)] (RowR (rnH o) zAS o.rs):=by
 have ora:=hR.one
 refine zEG tf120 rfl (by simp [a120]) fun b' ht hx=>?_
 have h0:=hx 0 _ rfl
 clear hx
 simp only[a120,c120] at ht ⊢
 simp (disch:=try exact SX) only[RV,seval,zA0,h0,hR.fz.rows,hR.fz.one,hR.fz.cells,hR.fz.icy,hR.fz.frz]
 refine zLV hR hl (by simp (disch:=try exact SX) only[RV,seval,zA0]) fun a' M' wf' le' kp' sm' new' wm' di'=>?_
 have hd:M'.dirty=false:=di'
 have hsz:2≤M'.size:=le'
 have g0:M'.get 0=some (.row false (rnR o ra)):=by rw[kp' 0 (by show 0<2;omega)];simp (disch:=try exact SX) only[RV,seval,zA0]
 have g1:M'.get 1=some (.row false (rnR ⟨⟨Eid.z,0⟩,Eid.z,[]⟩ NIL)):=by rw[kp' 1 (by show 1<2;omega)];simp (disch:=try exact SX) only[RV,seval,zA0]
 have oa:=sm'.one
 have ca:=sm'.cells
 have rl:=zAN sm'.rl (Nat.le_refl M'.size)
 have nr:∀ j,rowOf a'=some j→2≤j:=new'
 simp (disch:=try exact SX) only[RV,seval,zA0,h0,hd,wf',g0,g1,oa,ca,rl]
 refine⟨zb5 o sm'.pur,a',rfl,sm'.keep fun j hj=>?_⟩
 have:=nr j hj
 simp (disch:=try exact SX) only[RV,seval,zA0,wf']
theorem zR0 {o:Rn}{ra:AV}(hR:Sl 1 zAS ra o.rs)(hl:o.rs.length≤1000000000)(wf:Wf M)(k:∀ a N,Kept M N→SlM N 1 zAS a o.rs→(∀ j,rowOf a=some j→M.size≤j)→Q (.agg (rnR o a)) N):W3 (zCN fuel (d+2) 120 [.agg (rnR o ra)] M) Q :=
 zDC.row (zZ9 hR hl) (zUH hR.fz M) wf (zIK o) zJ8 zCM k
def Rn.cutE (r:Rn)(n:Int):Int:=if r.may then Go.Proofs.YtlmeadmpldjdaaaGreat.cutE r.sp n else 8
def Rn.fst (r:Rn)(n:Int):Rn:=⟨⟨r.sp.f,n⟩,r.af,r.rs.take n.toNat⟩
def Rn.snd (r:Rn)(n:Int):Rn:=⟨⟨r.sp.at n,r.sp.n - n⟩,r.sp.at (n - 1),r.rs.drop n.toNat⟩
def Rn.cutA (r:Rn)(n:Int):Rn:=if r.cutE n=0 then r.fst n else Rn.z
def Rn.cutB (r:Rn)(n:Int):Rn:=if r.cutE n=0 then r.snd n else Rn.z
theorem cutE_iff {s:Spn}{n:Int}:cutE s n=0↔s.may=true∧0<n∧n<s.n:=by
 unfold cutE
 cases s.may <;> simp
theorem Rn.cutE_iff {r:Rn}{n:Int}:r.cutE n=0↔r.may=true∧0<n∧n<r.sp.n:=by
 unfold Rn.cutE
 cases h:r.may
 ·simp
 ·rw[if_pos rfl,Go.Proofs.YtlmeadmpldjdaaaGreat.cutE_iff]
  unfold Rn.may at h
  simp only[Bool.and_eq_true] at h
  simp [h.1.1.1]
theorem Rn.may_sp {r:Rn}(h:r.may=true):r.sp.may=true:=by
 unfold Rn.may at h
 simp only[Bool.and_eq_true] at h
 exact h.1.1.1
theorem Rn.may_len {r:Rn}(h:r.may=true):(r.rs.length:Int)=r.sp.n:=by
 unfold Rn.may at h
 simp only[Bool.and_eq_true,decide_eq_true_eq] at h
 exact h.1.2
theorem zc6 {s:Spn}{n:Int}(h:s.may=true)(h0:0<n)(h1:n≤s.n):(⟨s.f,n⟩:Spn).may=true:=by
 have:=Spn.may_le h
 unfold Spn.may at *
 simp only[Bool.and_eq_true,decide_eq_true_eq] at *
 exact⟨⟨⟨h.1.1.1,by omega⟩,by omega⟩,by omega⟩
def cutK (r:Rn)(n:Int)(v:AV):Prop:=∃ ra rb,v = .tup [.agg (rnR (r.cutA n) ra),.agg (rnR (r.cutB n) rb),I64 (r.cutE n)]∧Sl 1 zAS ra (r.cutA n).rs∧Sl 1 zAS rb (r.cutB n).rs
theorem zKO {o:Rn}{ra:AV}{n:Int}(hR:Sl 1 zAS ra o.rs)(hf:100<fuel):∃ v,cutK o n v ∧ ∀ M xs M0,icyL (icy 12) M xs=some ([.agg (rnR o ra),I64 n],M0)→zCN fuel (d+7) 80 xs M=some (v,M):=by
 have ora:=hR.one
 have hck:=fun M=>@zC4 fuel d o ra hR hf M
 have hic:=fun M=>@zS5 fuel d o.sp n M
 unfold cutK Rn.cutA Rn.cutB Rn.cutE
 have hsc:∀ (M:Mem) v,ownV M 12 (.sc v)=true:=fun M v=>by simp [ownV]
 have hrz:∀ (M:Mem) (o:Rn),ownV M 12 (.agg (rnR o NIL))=true:=fun M o=>zVI o zVH
 refine zTC tf80 rfl (fun M=>by simp only[icyL,zCP hR.fz,zOR]) (by simp [a80]) fun b' ht hx=>?_
 obtain⟨h0,h1⟩:=hx2 hx
 clear hx
 simp only[a80,c80] at ht ⊢
 cases hm:o.may with
 | false =>
  rw[hm] at hck
  simp only[Bool.false_eq_true,if_false]
  simp (disch:=try exact SX) only[RV,seval,zA0,h0,h1,hR.fz.rows,hR.fz.one,hR.fz.cells,hR.fz.icy,hR.fz.frz,hck,zBH,z80,zF7,zCR]
  exact⟨rfl,by simp [ownV],NIL,NIL,rfl,.inl ⟨rfl,rfl⟩,.inl ⟨rfl,rfl⟩⟩
 | true =>
  rw[hm] at hck
  simp only[if_true]
  by_cases q:cutE o.sp n=0
  ·simp only[q,if_true] at hic ⊢
   obtain⟨c1,c2,c3⟩:=cutE_iff.1 q
   have hb:=Spn.may_le c1
   have hml:=Rn.may_len hm
   obtain⟨m,rfl⟩:∃ m:Nat,n=m:=⟨n.toNat,by omega⟩
   have hat:=fun M=>@zIO fuel (d+1) ⟨o.sp.f,m⟩ ((m:Int) - 1) M
   rw[if_pos (zc6 c1 c2 (by omega))] at hat
   simp only[if_neg (show ¬((m:Int) - 1<0∨(m:Int)≤(m:Int) - 1) by omega)] at hat
   have w1:IntKind.i64.wrap ((m:Int) - 1)=(m:Int) - 1:=wrap_i64 (by omega) (by omega)
   obtain⟨r1,s1,b1⟩:=zZW hR (j:=m) (by omega)
   obtain⟨r2,s2,b2⟩:=zW4 hR (i:=m) (by omega)
   have o1:=b1.one
   have o2:=b2.one
   have e1:(⟨o.sp.f,(m:Int)⟩:Spn).at ((m:Int) - 1)=o.sp.at ((m:Int) - 1):=rfl
   rw[e1] at hat
   simp (disch:=try exact SX) only[RV,seval,zA0,h0,h1,hR.fz.rows,hR.fz.one,hR.fz.cells,hR.fz.icy,hR.fz.frz,hck,zB9,z00,hic,hat,w1,s1,s2,b1.fz.rows,b1.fz.one,b1.fz.cells,b1.fz.icy,b1.fz.frz,b2.fz.rows,b2.fz.one,b2.fz.cells,b2.fz.icy,b2.fz.frz,zF7,zCR]
   refine zR0 (fuel:=fuel) (d:=d+4) (o:=o.fst m) b1 (by simp only[Rn.fst,List.length_take,Int.toNat_natCast];omega) (by simp (disch:=try exact SX) only[RV,seval,zA0]) fun pa N kN sN nN=>?_
   have wN:=kN.wf
   have dN:N.dirty=false:=kN.di
   have zN:6≤N.size:=kN.le
   have k0:=kN.get 0 (by show 0<6;omega)
   have k1:=kN.get 1 (by show 1<6;omega)
   have k2:=kN.get 2 (by show 2<6;omega)
   have k4:=kN.get 4 (by show 4<6;omega)
   have k5:=kN.get 5 (by show 5<6;omega)
   simp (disch:=try exact SX) only[RV,seval,zA0] at k0 k1 k2 k4 k5
   have nN':∀ j,rowOf pa=some j→6≤j:=nN
   have oN:=sN.one
   have rN:=zAN sN.rl (Nat.le_refl N.size)
   simp (disch:=try exact SX) only[RV,seval,zA0,h0,h1,hR.fz.rows,hR.fz.one,hR.fz.cells,hR.fz.icy,hR.fz.frz,wN,dN,k0,k4,k5,s2,b2.fz.rows,b2.fz.one,b2.fz.cells,b2.fz.icy,b2.fz.frz,oN,zHT,zAP]
   refine zR0 (fuel:=fuel) (d:=d+4) (o:=o.snd m) b2 (by simp only[Rn.snd,List.length_drop,Int.toNat_natCast];omega) (by simp (disch:=try exact SX) only[RV,seval,zA0,wN]) fun pb U kU sU nU=>?_
   have wU:=kU.wf
   have dU:U.dirty=false:=kU.di
   have zU:N.size≤U.size:=kU.le
   have nU':∀ j,rowOf pb=some j→N.size≤j:=nU
   have j1:=kU.get 1 (by show 1<N.size;omega)
   have j2:=kU.get 2 (by show 2<N.size;omega)
   simp (disch:=try exact SX) only[RV,seval,zA0,wN,k1,k2] at j1 j2
   have lN:=sN.lt
   have sV:SlM U 1 zAS pa (o.fst m).rs:=sN.keep fun j hj=>(kU.get j (lN j hj)).trans (by simp (disch:=try exact SX) only[RV,seval,zA0,wN])
   have oU:=sU.one
   have rU:=zAN sU.rl (Nat.le_refl U.size)
   have rV:=zAN sV.rl (Nat.le_refl U.size)
   have cN:=sV.cells
   have cU:=sU.cells
   simp (disch:=try exact SX) only[RV,seval,zA0,h0,h1,wU,dU,j1,j2,oN,oU,rU,rV,cN,cU,zHT,zAP,zF7,zCR]
   generalize hX:Mem.upd (Mem.upd (Mem.bk _ U) 1 _) 2 _=X
   have gX:∀ id,6≤id→X.get id=U.get id:=fun id h=>by rw[← hX];simp (disch:=try exact SX) only[RV,seval,zA0,wU]
   obtain⟨ro1,hro1,hf1⟩:=zGS sV zCM.cel 11 (by omega)
   obtain⟨ro2,hro2,hf2⟩:=zGS sU zCM.cel 11 (by omega)
   have y1:∀ id,rowOf pa=some id→X.get id=U.get id:=fun id h=>gX id (nN' id h)
   have y2:∀ id,rowOf pb=some id→X.get id=U.get id:=fun id h=>gX id (by have:=nU' id h;omega)
   have v1:ownV X 12 (.agg (rnR (o.fst m) pa))=true:=zVI (k:=10) _ ((sV.keep y1).own (zVG X 9))
   have v2:ownV X 12 (.agg (rnR (o.snd m) pb))=true:=zVI (k:=10) _ ((sU.keep y2).own (zVG X 9))
   rw[hf1 X y1,hf2 X y2]
   exact⟨by simp only[v1,v2,hsc,Bool.and_true],ro1,ro2,rfl,hro1,hro2⟩
  ·simp only[q,if_false] at hic ⊢
   have q':decide (cutE o.sp n=0)=false:=decide_eq_false q
   simp (disch:=try exact SX) only[RV,seval,zA0,h0,h1,hR.fz.rows,hR.fz.one,hR.fz.cells,hR.fz.icy,hR.fz.frz,hck,zB9,z00,hic,q',zF7,zCR]
   exact⟨rfl,by simp [ownV],NIL,NIL,rfl,.inl ⟨rfl,rfl⟩,.inl ⟨rfl,rfl⟩⟩
theorem zKP {o:Rn}{ra:AV}{n:Int}(hR:Sl 1 zAS ra o.rs)(hf:100<fuel):∃ v,cutK o n v ∧ ∀ M,zCN fuel (d+7) 80 [.agg (rnR o ra),I64 n] M=some (v,M):=by
 obtain⟨v,hv,hc⟩:=@zKO fuel d o ra n hR hf
 exact⟨v,hv,fun M=>hc M _ M (by simp only[icyL,zCP hR.fz,zOR])⟩
theorem zPK {o:Rn}{x:AV}{n:Int}(hS:SlM M 1 zAS x o.rs)(wf:Wf M)(hf:100<fuel):∃ v,cutK o n v∧zCN fuel (d+7) 80 [.agg (rnR o x),I64 n] M=some (v,M):=by
 obtain⟨a',N',i1,b1,_⟩:=zGH (H:=rnH o) (zIK o) hS wf zCM (k:=12) (by omega)
 obtain⟨v,hv,hc⟩:=@zKO fuel d o a' n b1 hf
 refine⟨v,hv,hc M _ N' ?_⟩
 have i1:icy 12 M (.agg (rnR o x))=some (.agg (rnR o a'),N'):=i1
 simp only[icyL,i1,zOR]
theorem zSJ {o:Rn}{x:AV}{n:Int}(hS:SlM M 1 zAS x o.rs)(wf:Wf M)(hf:100<fuel)(k:∀ v,cutK o n v→Q v M):W3 (zCN fuel (d+7) 80 [.agg (rnR o x),I64 n] M) Q:=by
 obtain⟨v,hv,hc⟩:=zPK (fuel:=fuel) (d:=d) (n:=n) hS wf hf
 exact⟨v,M,hc,k v hv⟩
theorem zBO {α:Type}(l:List α)(i:Nat)(h:i<l.length):l.take (i+1)=l.take i++[l[i]]:=by
 rw[List.take_add_one,List.getElem?_eq_getElem h];rfl
def rowL (l:List Rn):List Int:=l.flatMap (·.rs)
theorem zVX (l:List Rn)(x:Rn):rowL (l++[x])=rowL l++x.rs:=by simp [rowL]
theorem row_0 {a:AV}{l:List Rn}(hS:SlM M 10 isRn a l)(hl:l.length≤10)(hd:∀ r∈l,r.rs.length≤1000000)(hf:100<fuel)(wf:Wf M)(hw:M.wm≤M.size)(k:∀ o N,Kept M N→SlM N 1 zAS o (rowL l)→(∀ j,rowOf o=some j→M.size≤j)→Q o N) :
  W3 (zCN fuel (d+1) 122 [a] M) Q:=by
 have ll:=hS.len
 refine zBK tf122 rfl (by simp [a122]) fun b' ht hx=>?_
 have h0:=hx 0 _ rfl
 clear hx
 simp only[a122,c122] at ht ⊢
 simp (disch:=try exact SX) only[RV,seval,zA0,h0,ll]
 refine zAZ (I:=fun n t N => ∃ (i:Nat) (o:AV),n=l.length - i∧i≤l.length∧nth zA1 t 2=o∧nth zA1 t 5=a∧nth zA1 t 6=I64 l.length∧nth zA1 t 7=I64 i∧Kept M N∧SlM N 1 zAS o (rowL (l.take i))∧(∀ j,rowOf o=some j→M.size≤j)∧(rowL (l.take i)).length≤1000000*i) (n:=l.length) (by omega) ?_ ?_
 ·refine⟨0,NIL,rfl,Nat.zero_le _, ?_, ?_, ?_, ?_,Kept.refl wf,SlM.nil,(fun _ h=>by cases h),Nat.le_refl 0⟩ <;> simp (disch:=try exact SX) only[RV,seval,zA0,h0,ll]
  all_goals first | rfl | assumption | done
 ·rintro n t N hlt ⟨i,o,rfl,hi,g2,g5,g6,g7,kN,sm,nr,bd⟩
  simp only[ht] at hlt ⊢
  have oo:=sm.one
  have oc:=sm.cells
  have w:=kN.wf
  have le:=kN.le
  have wm:=kN.wm
  by_cases hc:i<l.length
  ·have q1:decide ((i:Int)<l.length)=true:=DT
   have w1:IntKind.i64.wrap ((i:Int)+1)=((i+1:Nat):Int):=WI
   obtain⟨id,cs,r,hrow,lid,hg,hcs,hiad,hr,hrl,hpt,_⟩:=hS.atS hc
   have gN:=(kN.get id lid).trans hg
   have hts:=zVX (l.take i) l[i]
   rw[← zBO l i hc] at hts
   have hde:=hd l[i] (List.getElem_mem hc)
   generalize l[i]=e at *
   obtain⟨ra,rfl,hra,hok⟩:=hr
   have ora:=hra.one
   have lid':id<N.size:=by omega
   have rlo:=zAN sm.rl (show N.size≤N.size+1 by omega)
   simp (disch:=try exact SX) only[RV,seval,zA0,g2,g5,g6,g7,q1,hiad,gN,hpt,hra.fz.rows,hra.fz.one,hra.fz.cells,hra.fz.icy,hra.fz.frz,w,oo,oc,rlo]
   refine zdW (fun j hj=>by have:=nr j hj;simp only[zgS,zeD];omega) (zWE (bytes:=4) (by simp (disch:=try exact SX) only[RV,seval,zA0,w]) (sm.keep fun j hj=>?_) zCM.cel hra (by omega) (by omega) (by omega) fun o' M' sm' w' le1 le2 kp nw wm' rl on oc' di'=>?_)
   ·have:=sm.lt j hj
    exact zB0s
   simp only[zAH,zA6] at le1 le2 kp nw
   simp (disch:=try exact SX) only[RV,seval,zA0,g2,g5,g6,g7,w1]
   refine⟨hlt,l.length - (i+1),by omega,i+1,o',rfl,by omega,rfl,rfl,⟨w',by omega,fun j hj=>?_,wm'.trans wm,di'.trans ((kN.add _).upd hw le _).di⟩,by rw[hts];exact sm',fun j hj=>(nw j hj).elim (nr j) (fun h=>by omega), ?_⟩
   ·rw[kp j (by omega) (fun h=>by have:=nr j h;omega),zA2 (w.add _) _ _ _ (by omega),zAK w _ _ (by omega)]
    exact kN.get j hj
   ·rw[hts,List.length_append];omega
  ·obtain rfl:i=l.length:=by omega
   have q1:decide ((l.length:Int)<l.length)=false:=DF
   rw[List.take_length] at sm
   simp (disch:=try exact SX) only[RV,seval,zA0,g2,g5,g6,g7,q1,oo,oc]
   exact k o N kN sm nr
def Rn.both (a b:Rn):Rn:=⟨⟨a.sp.f,a.sp.n+b.sp.n⟩,a.af,a.rs++b.rs⟩
def zFZ (a b:Rn):Int:=if a.may=true∧b.may=true then (if (a.both b).cutE a.sp.n=0∧(a.both b).fst a.sp.n=a∧(a.both b).snd a.sp.n=b then 0 else 2) else 8
def zDV (a b:Rn):Rn:=if zFZ a b=0 then a.both b else Rn.z
theorem zXI (r:Rn)(n:Int):(r.cutA n).rs.length≤r.rs.length:=by
 unfold Rn.cutA
 split
 ·simp only[Rn.fst,List.length_take];omega
 ·exact Nat.zero_le _
theorem zXJ (r:Rn)(n:Int):(r.cutB n).rs.length≤r.rs.length:=by
 unfold Rn.cutB
 split
 ·simp only[Rn.snd,List.length_drop];omega
 ·exact Nat.zero_le _
theorem zQD {a b:Rn}{ra rb:AV}(hA:Sl 1 zAS ra a.rs)(hB:Sl 1 zAS rb b.rs)(ha:a.ok)(hb:b.ok):All2 isRn [rnR a ra,rnR b rb] [a,b]:=.cons ⟨ra,rfl,hA,ha⟩ (.cons ⟨rb,rfl,hB,hb⟩ .nil)
def zf6 (a b:Rn)(v:AV)(M:Mem):Prop:=∃ r,v = .tup [.agg (rnR (zDV a b) r),I64 (zFZ a b)]∧SlM M 1 zAS r (zDV a b).rs
theorem zPL {a b:Rn}{ra rb:AV}(hA:Sl 1 zAS ra a.rs)(hB:Sl 1 zAS rb b.rs)(ha:a.ok)(hb:b.ok)(hla:a.rs.length≤1000000)(hlb:b.rs.length≤1000000)(hf:2000000<fuel):zDC Tryz.prog (fsT tbl) fuel (d+7) 84 [.agg (rnR a ra),.agg (rnR b rb)] (zf6 a b):=by
 have ora:=hA.one
 have orb:=hB.one
 have hca:=fun M=>@zC4 fuel (d+1) a ra hA (by omega) M
 have hcb:=fun M=>@zC4 fuel (d+1) b rb hB (by omega) M
 have pz:purA (.tup [.agg (rnR ⟨⟨Eid.z,0⟩,Eid.z,[]⟩ NIL),I64 2])=true:=by simp [purA,purL]
 refine zEG tf84 rfl (by simp [a84]) fun b' ht hx=>?_
 obtain⟨h0,h1⟩:=hx2 hx
 clear hx
 simp only[a84,c84] at ht ⊢
 unfold zf6 zDV zFZ
 by_cases hm:a.may=true∧b.may=true
 ·obtain⟨ma,mb⟩:=hm
  rw[ma] at hca
  rw[mb] at hcb
  simp only[ma,mb,and_self,if_true]
  have ba:=Spn.may_le (Rn.may_sp ma)
  have bb:=Spn.may_le (Rn.may_sp mb)
  have w1:IntKind.i64.wrap (a.sp.n+b.sp.n)=a.sp.n+b.sp.n:=wrap_i64 (by omega) (by omega)
  simp (disch:=try exact SX) only[RV,seval,zA0,h0,h1,hA.fz.rows,hA.fz.one,hA.fz.cells,hA.fz.icy,hA.fz.frz,hB.fz.rows,hB.fz.one,hB.fz.cells,hB.fz.icy,hB.fz.frz,hca,hcb,zB9,z00,IMX,zD1,zD3,zD2,BMM,w1]
  refine row_0 (d:=d+6) (l:=[a,b]) (zJV (zQD hA hB ha hb) (by simp) rfl (.inr rfl) (by simp (disch:=try exact SX) only[RV,seval,zA0];rfl)) (by simp) (by simp;exact⟨hla,hlb⟩) (by omega) (by simp (disch:=try exact SX) only[RV,seval,zA0]) (by simp (disch:=try exact SX) only[RV,seval,zA0];exact Nat.le_refl _) fun o X kX sm nr=>?_
  have wX:=kX.wf
  have hd:X.dirty=false:=kX.di
  have hsX:4≤X.size:=kX.le
  have k0:=kX.get 0 (by show 0<4;omega)
  have k1:=kX.get 1 (by show 1<4;omega)
  have k2:=kX.get 2 (by show 2<4;omega)
  simp (disch:=try exact SX) only[RV,seval,zA0] at k0 k1 k2
  have oo:=sm.one
  have oc:=sm.cells
  have nr':∀ j,rowOf o=some j→4≤j:=nr
  have rlo:=zAN sm.rl (show X.size≤X.size by omega)
  have rlo1:=zAN sm.rl (show X.size≤X.size+1 by omega)
  have sm':SlM X 1 zAS o (a.rs++b.rs):=by simpa [rowL] using sm
  simp (disch:=try exact SX) only[RV,seval,zA0,wX,hd,k0,k1,k2,oo,oc,rlo,rlo1]
  refine⟨rfl, ?_⟩
  have lo:=sm'.lt
  refine zSJ (fuel:=fuel) (d:=d) (o:=a.both b) (sm'.keep fun j hj=>?_) (by simp (disch:=try exact SX) only[RV,seval,zA0,wX]) (by omega) fun v hv=>?_
  ·have:=lo j hj
   simp (disch:=try exact SX) only[RV,seval,zA0,wX]
  obtain⟨ca,cb,rfl,hca',hcb'⟩:=hv
  have oca:=hca'.one
  have ocb:=hcb'.one
  have bl:(a.both b).rs.length≤2000000:=by show (a.rs++b.rs).length≤_;rw[List.length_append];omega
  have la:=zXI (a.both b) a.sp.n
  have lb:=zXJ (a.both b) a.sp.n
  have hsa:=fun M=>zG4 (fuel:=fuel) (d:=d+5) (o:=(a.both b).cutA a.sp.n) (p:=a) hca' hA (by omega) (by omega) M
  have hsb:=fun M=>zG4 (fuel:=fuel) (d:=d+5) (o:=(a.both b).cutB a.sp.n) (p:=b) hcb' hB (by omega) (by omega) M
  have eA:∀ (q:(a.both b).cutE a.sp.n=0),(a.both b).cutA a.sp.n=(a.both b).fst a.sp.n:=fun q=>by unfold Rn.cutA;rw[if_pos q]
  have eB:∀ (q:(a.both b).cutE a.sp.n=0),(a.both b).cutB a.sp.n=(a.both b).snd a.sp.n:=fun q=>by unfold Rn.cutB;rw[if_pos q]
  generalize hA':(a.both b).cutA a.sp.n=cA at *
  generalize hB':(a.both b).cutB a.sp.n=cB at *
  by_cases q1:(a.both b).cutE a.sp.n=0
  ·have q1':decide ((a.both b).cutE a.sp.n=0)=true:=decide_eq_true q1
   rw[← eA q1,← eB q1]
   cases q2:rnEq cA a with
   | false =>
    have q2':¬(cA=a):=fun h=>by rw[(zGO cA a).2 h] at q2;cases q2
    rw[q2] at hsa
    simp only[q2',false_and,and_false,if_false]
    simp (disch:=try exact SX) only[RV,seval,zA0,wX,hd,k0,k1,k2,oo,oc,hA.fz.rows,hA.fz.one,hA.fz.cells,hA.fz.icy,hA.fz.frz,hB.fz.rows,hB.fz.one,hB.fz.cells,hB.fz.icy,hB.fz.frz,hca'.fz.rows,hca'.fz.one,hca'.fz.cells,hca'.fz.icy,hca'.fz.frz,hcb'.fz.rows,hcb'.fz.one,hcb'.fz.cells,hcb'.fz.icy,hcb'.fz.frz,q1',hsa]
    exact zB0z
   | true =>
    have q2':=(zGO cA a).1 q2
    rw[q2] at hsa
    cases q3:rnEq cB b with
    | false =>
     have q3':¬(cB=b):=fun h=>by rw[(zGO cB b).2 h] at q3;cases q3
     rw[q3] at hsb
     simp only[q3',and_false,if_false]
     simp (disch:=try exact SX) only[RV,seval,zA0,wX,hd,k0,k1,k2,oo,oc,hA.fz.rows,hA.fz.one,hA.fz.cells,hA.fz.icy,hA.fz.frz,hB.fz.rows,hB.fz.one,hB.fz.cells,hB.fz.icy,hB.fz.frz,hca'.fz.rows,hca'.fz.one,hca'.fz.cells,hca'.fz.icy,hca'.fz.frz,hcb'.fz.rows,hcb'.fz.one,hcb'.fz.cells,hcb'.fz.icy,hcb'.fz.frz,q1',hsa,hsb,rlo,rlo1]
     exact zB0z
    | true =>
     have q3':=(zGO cB b).1 q3
     rw[q3] at hsb
     simp only[eq_true (show (a.both b).cutE a.sp.n=0∧cA=a∧cB=b from⟨q1,q2',q3'⟩),if_true]
     simp (disch:=try exact SX) only[RV,seval,zA0,wX,hd,k0,k1,k2,oo,oc,hA.fz.rows,hA.fz.one,hA.fz.cells,hA.fz.icy,hA.fz.frz,hB.fz.rows,hB.fz.one,hB.fz.cells,hB.fz.icy,hB.fz.frz,hca'.fz.rows,hca'.fz.one,hca'.fz.cells,hca'.fz.icy,hca'.fz.frz,hcb'.fz.rows,hcb'.fz.one,hcb'.fz.cells,hcb'.fz.icy,hcb'.fz.frz,q1',hsa,hsb,rlo,rlo1]
     refine⟨by simp [purA,purL,sm'.pur],o,rfl,sm'.keep fun j hj=>?_⟩
     have:=lo j hj
     have:=nr' j hj
     simp (disch:=try exact SX) only[RV,seval,zA0,wX]
  ·have q1':decide ((a.both b).cutE a.sp.n=0)=false:=decide_eq_false q1
   simp only[q1,false_and,if_false]
   simp (disch:=try exact SX) only[RV,seval,zA0,wX,hd,k0,k1,k2,oo,oc,hA.fz.rows,hA.fz.one,hA.fz.cells,hA.fz.icy,hA.fz.frz,hB.fz.rows,hB.fz.one,hB.fz.cells,hB.fz.icy,hB.fz.frz,hca'.fz.rows,hca'.fz.one,hca'.fz.cells,hca'.fz.icy,hca'.fz.frz,hcb'.fz.rows,hcb'.fz.one,hcb'.fz.cells,hcb'.fz.icy,hcb'.fz.frz,q1']
   exact zB0z
 ·have hz:imax (err a.may) (err b.may)=8:=by
   cases ma:a.may <;> cases mb:b.may <;> first | rfl | exact absurd ⟨ma,mb⟩ hm
  simp only[hm,if_false]
  have q8:((8:Int)=0)=False:=by decide
  simp (disch:=try exact SX) only[RV,seval,zA0,h0,h1,hA.fz.rows,hA.fz.one,hA.fz.cells,hA.fz.icy,hA.fz.frz,hB.fz.rows,hB.fz.one,hB.fz.cells,hB.fz.icy,hB.fz.frz,hca,hcb,hz,z80,zD1,zD3,zD2,BMM,q8,if_false]
  exact zB0z
theorem zJR {a b:Rn}{x rb:AV}(hA:SlM M 1 zAS x a.rs)(hB:Sl 1 zAS rb b.rs)(ha:a.ok)(hb:b.ok)(hla:a.rs.length≤1000000)(hlb:b.rs.length≤1000000)(hf:2000000<fuel)(wf:Wf M)
  (k:∀ r N,Kept M N→SlM N 1 zAS r (zDV a b).rs→(∀ j,rowOf r=some j→M.size≤j)→Q (.tup [.agg (rnR (zDV a b) r),I64 (zFZ a b)]) N):W3 (zCN fuel (d+8) 84 [.agg (rnR a x),.agg (rnR b rb)] M) Q:=by
 obtain⟨a',N',i1,b1,_⟩:=zGH (H:=rnH a) (zIK a) hA wf zCM (k:=12) (by omega)
 have i1:icy 12 M (.agg (rnR a x))=some (.agg (rnR a a'),N'):=i1
 refine zDC.use (zPL (fuel:=fuel) (d:=d) b1 hB ha hb hla hlb hf) (M0:=N') (by simp only[icyL,i1,zCP hB.fz]) wf fun v M2 hv=>?_
 obtain⟨r,rfl,hs⟩:=hv
 have e:shA M.size (.tup [.agg (rnR (zDV a b) r),I64 (zFZ a b)]) = .tup [.agg (rnR (zDV a b) (shA M.size r)),I64 (zFZ a b)]:=by simp [shA,shL]
 rw[e]
 refine k _ _ (zEE wf) (hs.sh zJ8 zCM (zRB wf)) fun j hj=>?_
 rw[zM1] at hj
 cases ha:rowOf r with
 | none=>rw[ha] at hj;cases hj
 | some i=>rw[ha] at hj;simp only[Option.map_some,Option.some.injEq] at hj;omega
def atE (r:Rn)(n:Int):Int:=if r.may=true then (if n<0∨r.sp.n≤n then 2 else 0) else 8
def Rn.afAt (r:Rn)(n:Int):Eid:=if 0<n then r.sp.at (n - 1) else r.af
theorem zW0 {o:Rn}{ra:AV}{n:Int}(hR:Sl 1 zAS ra o.rs)(hf:100<fuel)(M:Mem):zCN fuel (d+7) 134 [.agg (rnR o ra),I64 n] M=some (if atE o n=0 then .tup [idA (o.sp.at n),idA (o.afAt n),I32 (o.rs.getD n.toNat 0),I64 0] else .tup [idA Eid.z,idA Eid.z,I32 0,I64 (atE o n)],M):=by
 have ora:=hR.one
 have hck:=fun M=>@zC4 fuel d o ra hR hf M
 have hat:=fun n M=>@zIO fuel (d+1) o.sp n M
 apply zB2
 refine zAJ tf134 rfl (by simp only[icyL,zCP hR.fz,zOR]) (by simp [a134]) fun b' ht hx=>?_
 obtain⟨h0,h1⟩:=hx2 hx
 clear hx
 simp only[a134,c134] at ht ⊢
 unfold atE
 cases hm:o.may with
 | false =>
  rw[hm] at hck
  have q8:((8:Int)=0)=False:=by decide
  simp only[Bool.false_eq_true,if_false,q8]
  simp (disch:=try exact SX) only[RV,seval,zA0,h0,h1,hR.fz.rows,hR.fz.one,hR.fz.cells,hR.fz.icy,hR.fz.frz,hck,zBH,z80]
  all_goals rfl
 | true =>
  rw[hm] at hck
  have hs:=Rn.may_sp hm
  have hb:=Spn.may_le hs
  have hml:=Rn.may_len hm
  simp only[hs,if_true] at hat ⊢
  by_cases q:n<0∨o.sp.n≤n
  ·have hat:=hat n
   simp only[q,if_true] at hat ⊢
   have q2:((2:Int)=0)=False:=by decide
   simp only[q2,if_false]
   simp (disch:=try exact SX) only[RV,seval,zA0,h0,h1,hR.fz.rows,hR.fz.one,hR.fz.cells,hR.fz.icy,hR.fz.frz,hck,hat,zB9,z00]
   all_goals rfl
  ·obtain⟨m,rfl⟩:∃ m:Nat,n=m:=⟨n.toNat,by omega⟩
   have hat0:=hat (m:Int)
   simp only[q,if_false] at hat0 ⊢
   simp only[if_true]
   obtain⟨r,hr,rfl,_⟩:=hR.iad m (by omega)
   have eg:o.rs.getD (m:Int).toNat 0=o.rs[m]:=by
    rw[Int.toNat_natCast,List.getD_eq_getElem?_getD,List.getElem?_eq_getElem (by omega)];rfl
   rw[eg]
   unfold Rn.afAt
   by_cases q0:(0:Int)<m
   ·have q0':decide ((0:Int)<m)=true:=decide_eq_true q0
    have hat1:=hat ((m:Int) - 1)
    simp only[show ¬((m:Int) - 1<0∨o.sp.n≤(m:Int) - 1) by omega,if_false] at hat1
    have w1:IntKind.i64.wrap ((m:Int) - 1)=(m:Int) - 1:=wrap_i64 (by omega) (by omega)
    simp (disch:=try exact SX) only[RV,seval,zA0,h0,h1,hR.fz.rows,hR.fz.one,hR.fz.cells,hR.fz.icy,hR.fz.frz,hck,hat0,hat1,zB9,z00,q0,q0',w1,hr,if_true]
    all_goals exact⟨rfl,rfl⟩
   ·have q0':decide ((0:Int)<m)=false:=decide_eq_false q0
    simp (disch:=try exact SX) only[RV,seval,zA0,h0,h1,hR.fz.rows,hR.fz.one,hR.fz.cells,hR.fz.icy,hR.fz.frz,hck,hat0,zB9,z00,q0,q0',hr,if_false]
    all_goals exact⟨rfl,rfl⟩
def zBB:List Rn→Int
 | []=>0
 | r::l=>r.sp.n+zBB l
theorem zRT (l m:List Rn):zBB (l++m)=zBB l+zBB m:=by
 induction l with
 | nil=>simp [zBB]
 | cons r l ih=>simp only[List.cons_append,zBB,ih];omega
theorem zOC (l:List Rn)(r:Rn):zBB (l++[r])=zBB l+r.sp.n:=by rw[zRT];simp [zBB]
theorem zEW {l:List Rn}(h:∀ r∈l,r.may=true):0≤zBB l∧zBB l≤64*l.length:=by
 induction l with
 | nil=>simp [zBB]
 | cons r l ih =>
  have:=Spn.may_le (Rn.may_sp (h r List.mem_cons_self))
  have:=ih fun r hr=>h r (List.mem_cons_of_mem _ hr)
  simp only[zBB,List.length_cons]
  omega
theorem zIF {a:AV}{l:List Rn}(hS:Sl 10 isRn a l)(hm:∀ r∈l,r.may=true)(hl:l.length≤1000000)(hf:l.length<fuel)(M:Mem):zCN fuel (d+1) 45 [a] M=some (I64 (zBB l),M):=by
 have ll:=hS.len
 apply zB2
 refine zAJ tf45 rfl (by simp only[icyL,fun M=>hS.icy M 12 (by omega)]) (by simp [a45]) fun b' ht hx=>?_
 have h0:=hx 0 _ rfl
 clear hx
 simp only[a45,c45] at ht ⊢
 simp (disch:=try exact SX) only[RV,seval,zA0,h0,ll,hS.fz.rows,hS.fz.one,hS.fz.cells,hS.fz.icy,hS.fz.frz]
 refine zAZ (I:=fun n t N => ∃ (i:Nat),n=l.length - i∧i≤l.length∧nth zA1 t 2=I64 (zBB (l.take i))∧nth zA1 t 5=a∧nth zA1 t 6=I64 l.length∧nth zA1 t 7=I64 i∧Wf N) (n:=l.length) (by omega) ?_ ?_
 ·refine⟨0,rfl,Nat.zero_le _, ?_, ?_, ?_, ?_,Wf.mem0⟩ <;> simp (disch:=try exact SX) only[RV,seval,zA0,h0,ll,zBB]
  all_goals first | rfl | assumption | done
 ·rintro n t N hlt ⟨i,rfl,hi,g2,g5,g6,g7,w⟩
  simp only[ht] at hlt ⊢
  by_cases hc:i<l.length
  ·have q1:decide ((i:Int)<l.length)=true:=DT
   have w1:IntKind.i64.wrap ((i:Int)+1)=((i+1:Nat):Int):=WI
   obtain⟨r,hiad,hr,hrl⟩:=hS.iad i hc
   have hts:=zOC (l.take i) l[i]
   rw[← zBO l i hc] at hts
   have hb:=Spn.may_le (Rn.may_sp (hm l[i] (List.getElem_mem hc)))
   have hcl:=zEW (l:=l.take i) (fun r hr=>hm r (List.mem_of_mem_take hr))
   rw[List.length_take] at hcl
   generalize l[i]=e at *
   obtain⟨ra,rfl,hra,hok⟩:=hr
   have ora:=hra.one
   have w2:IntKind.i64.wrap (zBB (l.take i)+e.sp.n)=zBB (l.take (i+1)):=by rw[hts,wrap_i64] <;> omega
   simp (disch:=try exact SX) only[RV,seval,zA0,g2,g5,g6,g7,hS.fz.rows,hS.fz.one,hS.fz.cells,hS.fz.icy,hS.fz.frz,q1,hiad,hra.fz.rows,hra.fz.one,hra.fz.cells,hra.fz.icy,hra.fz.frz,w,w1,w2]
   exact⟨hlt,l.length - (i+1),by omega,i+1,rfl,by omega,rfl,rfl⟩
  ·obtain rfl:i=l.length:=by omega
   have q1:decide ((l.length:Int)<l.length)=false:=DF
   rw[List.take_length] at g2
   simp (disch:=try exact SX) only[RV,seval,zA0,g2,g5,g6,g7,q1]
def zH5 (l m:List Rn):Bool:=eqL rnEq l m
theorem zJS {l m:List Rn}:zH5 l m=true↔l=m:=zTT zGO
theorem zRX {a b:AV}{l m:List Rn}(h1':Sl 10 isRn a l)(h2':Sl 10 isRn b m)(hl:l.length≤1000000)(hc:∀ e∈l,e.rs.length≤1000000∧e.rs.length<fuel)(hf:l.length<fuel)(M:Mem):zCN fuel (d+3) 117 [a,b,.fn 118 [] []] M=some (BL (zH5 l m),M):=by
 have la:=h1'.len
 have lb:=h2'.len
 apply zB2
 refine zAJ tf117 rfl (by simp (disch:=try exact SX) only[RV,seval,zA0,h1'.fz.rows,h1'.fz.one,h1'.fz.cells,h1'.fz.icy,h1'.fz.frz,h2'.fz.rows,h2'.fz.one,h2'.fz.cells,h2'.fz.icy,h2'.fz.frz]) (by simp [a117]) fun b' ht hx=>?_
 obtain⟨h0,h1,h2⟩:=hx3 hx
 clear hx
 simp only[a117,c117] at ht ⊢
 by_cases q:l.length=m.length
 ·have q0:decide ((l.length:Int)=m.length)=true:=DT
  simp (disch:=try exact SX) only[RV,seval,zA0,h0,h1,h2,la,lb,h1'.fz.rows,h1'.fz.one,h1'.fz.cells,h1'.fz.icy,h1'.fz.frz,h2'.fz.rows,h2'.fz.one,h2'.fz.cells,h2'.fz.icy,h2'.fz.frz,q0]
  refine zAZ (I:=fun n t N => ∃ (i:Nat),n=l.length - i∧i≤l.length∧nth zA1 t 0=a∧nth zA1 t 1=b∧nth zA1 t 2 = .fn 118 [] []∧nth zA1 t 15=a∧nth zA1 t 16=I64 l.length∧nth zA1 t 17=I64 i∧Wf N∧(∀ j (x1:j<l.length) (x2:j<m.length),j<i→rnEq l[j] m[j]=true)) (n:=l.length) (by omega) ?_ ?_
  ·refine⟨0,rfl,Nat.zero_le _, ?_, ?_, ?_, ?_, ?_, ?_,Wf.mem0,(fun _ _ _ h=>absurd h (by omega))⟩ <;> simp (disch:=try exact SX) only[RV,seval,zA0,h0,h1,h2,la]
   all_goals first | rfl | assumption | done
  ·rintro n t N hlt ⟨i,rfl,hi,g0,g1,g2,g15,g16,g17,wN,hj⟩
   simp only[ht] at hlt ⊢
   by_cases hc':i<l.length
   ·have q1:decide ((i:Int)<l.length)=true:=DT
    have hc2:i<m.length:=by omega
    obtain⟨r1,i1,hr1,hl1⟩:=h1'.iad i hc'
    obtain⟨r2,i2,hr2,hl2⟩:=h2'.iad i hc2
    have hcr:=hc l[i] (List.getElem_mem hc')
    have w1:IntKind.i64.wrap ((i:Int)+1)=((i+1:Nat):Int):=WI
    have qat:=fun q2=>zTS (p:=rnEq) hc' hc2 q2
    have hj':=hj
    have key:rnEq l[i] m[i]=true → ∀ j (x1:j<l.length) (x2:j<m.length),j<i+1→rnEq l[j] m[j]=true:=fun q2 j x1 x2 hj'=>by
     exact zB0V
    generalize l[i]=e1 at *
    generalize m[i]=e2 at *
    obtain⟨ra1,rfl,b1,_⟩:=hr1
    obtain⟨ra2,rfl,b2,_⟩:=hr2
    have hp:=fun M=>zG4 (fuel:=fuel) (d:=d) b1 b2 (by omega) hcr.2 M
    have o1:=b1.one
    have o3:=b2.one
    cases q2:rnEq e1 e2 with
    | true =>
     rw[q2] at hp
     simp (disch:=try exact SX) only[RV,seval,zA0,g0,g1,g2,g15,g16,g17,h1'.fz.rows,h1'.fz.one,h1'.fz.cells,h1'.fz.icy,h1'.fz.frz,h2'.fz.rows,h2'.fz.one,h2'.fz.cells,h2'.fz.icy,h2'.fz.frz,q1,i1,i2,w1,b1.fz.rows,b1.fz.one,b1.fz.cells,b1.fz.icy,b1.fz.frz,b2.fz.rows,b2.fz.one,b2.fz.cells,b2.fz.icy,b2.fz.frz,hp,wN]
     exact⟨hlt,l.length - (i+1),by omega,i+1,rfl,by omega,rfl,key q2⟩
    | false =>
     rw[q2] at hp
     have e:zH5 l m=false:=qat q2
     simp (disch:=try exact SX) only[RV,seval,zA0,g0,g1,g2,g15,g16,g17,h1'.fz.rows,h1'.fz.one,h1'.fz.cells,h1'.fz.icy,h1'.fz.frz,h2'.fz.rows,h2'.fz.one,h2'.fz.cells,h2'.fz.icy,h2'.fz.frz,q1,i1,i2,w1,b1.fz.rows,b1.fz.one,b1.fz.cells,b1.fz.icy,b1.fz.frz,b2.fz.rows,b2.fz.one,b2.fz.cells,b2.fz.icy,b2.fz.frz,hp,wN,e]
   ·obtain rfl:i=l.length:=by omega
    have q1:decide ((l.length:Int)<l.length)=false:=DF
    have e:zH5 l m=true:=zOH q fun j x1 x2 _=>hj j x1 x2 x1
    simp (disch:=try exact SX) only[RV,seval,zA0,g0,g1,g2,g15,g16,g17,q1,e]
 ·have q0:decide ((l.length:Int)=m.length)=false:=DF
  have e:zH5 l m=false:=zTV q
  simp (disch:=try exact SX) only[RV,seval,zA0,h0,h1,h2,la,lb,h1'.fz.rows,h1'.fz.one,h1'.fz.cells,h1'.fz.icy,h1'.fz.frz,h2'.fz.rows,h2'.fz.one,h2'.fz.cells,h2'.fz.icy,h2'.fz.frz,q0,e]
theorem zWC {a b:AV}{l m:List Rn}(h1':Sl 10 isRn a l)(h2':Sl 10 isRn b m)(hl:l.length≤1000000)(hc:∀ e∈l,e.rs.length≤1000000∧e.rs.length<fuel)(hf:l.length<fuel)(M:Mem):zCN fuel (d+4) 79 [a,b] M=some (BL (zH5 l m),M):=by
 have he:=fun M=>@zRX fuel d a b l m h1' h2' hl hc hf M
 apply zB2
 refine zEU tf79 rfl (by simp (disch:=try exact SX) only[RV,seval,zA0,h1'.fz.rows,h1'.fz.one,h1'.fz.cells,h1'.fz.icy,h1'.fz.frz,h2'.fz.rows,h2'.fz.one,h2'.fz.cells,h2'.fz.icy,h2'.fz.frz]) (by simp [a79]) fun b' ht hx=>?_
 obtain⟨h0,h1⟩:=hx2 hx
 clear hx
 simp only[a79,c79] at ht ⊢
 simp (disch:=try exact SX) only[RV,seval,zA0,h0,h1,h1'.fz.rows,h1'.fz.one,h1'.fz.cells,h1'.fz.icy,h1'.fz.frz,h2'.fz.rows,h2'.fz.one,h2'.fz.cells,h2'.fz.icy,h2'.fz.frz,he,zBD]
def zBG:List Rn→Eid→Option (Nat × Int)
 | [],_=>none
 | r::l,x=>match r.sp.has x with
  | some k=>some (0,k)
  | none=>(zBG l x).map fun p=>(p.1+1,p.2)
theorem zSP {l:List Rn}{x:Eid}(h:∀ r∈l,r.sp.has x=none):zBG l x=none:=by
 induction l with
 | nil=>rfl
 | cons r l ih =>
  unfold zBG
  rw[h r List.mem_cons_self,ih fun r hr=>h r (List.mem_cons_of_mem _ hr)]
  rfl
theorem za6 {l:List Rn}{x:Eid}{i:Nat}{k:Int}(hi:i<l.length)(hk:l[i].sp.has x=some k)(h:∀ j (hj:j<i),l[j].sp.has x=none):zBG l x=some (i,k):=by
 induction l generalizing i with
 | nil=>exact absurd hi (by simp)
 | cons r l ih =>
  unfold zBG
  cases i with
  | zero=>rw[show r.sp.has x=some k from hk]
  | succ i =>
   rw[show r.sp.has x=none from h 0 (by omega),ih (i:=i) (by simpa using hi) hk fun j hj=>h (j+1) (by omega)]
   rfl
def wN (p:Option (Nat × Int)):Int:=match p with
 | some p=>p.1
 | none => -1
def wK (p:Option (Nat × Int)):Int:=match p with
 | some p=>p.2
 | none=>0
theorem zO1 {a:AV}{l:List Rn}{x:Eid}(hS:Sl 10 isRn a l)(hl:l.length≤1000000)(hf:l.length<fuel)(M:Mem):zCN fuel (d+6) 43 [a,idA x] M=some (.tup [I64 (wN (zBG l x)),I64 (wK (zBG l x))],M):=by
 have ll:=hS.len
 apply zB2
 refine zAJ tf43 rfl (by simp only[icyL,fun M=>hS.icy M 12 (by omega),zAT (zCH x) (show 1<12 by omega)]) (by simp [a43]) fun b' ht hx=>?_
 obtain⟨h0,h1⟩:=hx2 hx
 clear hx
 simp only[a43,c43] at ht ⊢
 simp (disch:=try exact SX) only[RV,seval,zA0,h0,h1,ll,hS.fz.rows,hS.fz.one,hS.fz.cells,hS.fz.icy,hS.fz.frz]
 refine zAZ (I:=fun n t N => ∃ (i:Nat),n=l.length - i∧i≤l.length∧nth zA1 t 3 = .ptr 0 0∧nth zA1 t 10=a∧nth zA1 t 11=I64 l.length∧nth zA1 t 12=I64 i∧Wf N∧N.get 0=some (.row false (idR x))∧(∀ j (h:j<l.length),j<i→l[j].sp.has x=none)) (n:=l.length) (by omega) ?_ ?_
 ·refine⟨0,rfl,Nat.zero_le _, ?_, ?_, ?_, ?_,Wf.mem0.add _,by simp (disch:=try exact SX) only[RV,seval,zA0],(fun _ _ h=>absurd h (by omega))⟩ <;> simp (disch:=try exact SX) only[RV,seval,zA0,h0,h1,ll]
  all_goals first | rfl | assumption | done
 ·rintro n t N hlt ⟨i,rfl,hi,g3,g10,g11,g12,w,g,hj⟩
  simp only[ht] at hlt ⊢
  have lN:=Mem.get_lt g
  by_cases hc:i<l.length
  ·have q1:decide ((i:Int)<l.length)=true:=DT
   have w1:IntKind.i64.wrap ((i:Int)+1)=((i+1:Nat):Int):=WI
   obtain⟨r,hiad,hr,hrl⟩:=hS.iad i hc
   have wat:=fun k (hk:l[i].sp.has x=some k)=>za6 hc hk fun j hj'=>hj j (by omega) hj'
   have key:l[i].sp.has x=none → ∀ j (h:j<l.length),j<i+1→l[j].sp.has x=none:=fun q2 j h hj'=>by
    rcases Nat.lt_succ_iff_lt_or_eq.1 hj' with h' | rfl
    ·exact hj j h h'
    ·exact q2
   generalize l[i]=e at *
   obtain⟨ra,rfl,hra,hok⟩:=hr
   have ora:=hra.one
   have hh:=fun M=>@zOU fuel d e.sp x M
   cases q:e.sp.has x with
   | none =>
    rw[q] at hh
    simp only[Option.getD_none,Option.isSome_none] at hh
    simp (disch:=try exact SX) only[RV,seval,zA0,g3,g10,g11,g12,hS.fz.rows,hS.fz.one,hS.fz.cells,hS.fz.icy,hS.fz.frz,q1,hiad,hra.fz.rows,hra.fz.one,hra.fz.cells,hra.fz.icy,hra.fz.frz,w,g,w1,hh]
    exact⟨hlt,l.length - (i+1),by omega,i+1,rfl,by omega,rfl,key q⟩
   | some k =>
    rw[q] at hh
    simp only[Option.getD_some,Option.isSome_some] at hh
    rw[wat k q]
    simp (disch:=try exact SX) only[RV,seval,zA0,g3,g10,g11,g12,hS.fz.rows,hS.fz.one,hS.fz.cells,hS.fz.icy,hS.fz.frz,q1,hiad,hra.fz.rows,hra.fz.one,hra.fz.cells,hra.fz.icy,hra.fz.frz,w,g,w1,hh,wN,wK]
  ·obtain rfl:i=l.length:=by omega
   have q1:decide ((l.length:Int)<l.length)=false:=DF
   have e:zBG l x=none:=zSP fun r hr=>by
    obtain⟨j,hj',rfl⟩:=List.getElem_of_mem hr
    exact hj j hj' hj'
   rw[e]
   simp (disch:=try exact SX) only[RV,seval,zA0,g3,g10,g11,g12,q1,wN,wK]
def Rn.els (r:Rn):List (Eid × Eid):=(List.range r.sp.n.toNat).map fun (i:Nat)=>(r.sp.at i,r.afAt i)
def elsL (l:List Rn):List (Eid × Eid):=l.flatMap Rn.els
theorem zXO (l:List Rn)(r:Rn):elsL (l++[r])=elsL l++r.els:=by simp [elsL]
theorem zTR {l:List Rn}{i k:Nat}(hi:i<l.length)(hk:k<l[i].sp.n.toNat):∃ post,elsL l=(elsL (l.take i)++l[i].els.take k)++(l[i].sp.at k,l[i].afAt k)::post:=by
 refine⟨l[i].els.drop (k+1)++elsL (l.drop (i+1)), ?_⟩
 have h1:l=l.take i++l[i]::l.drop (i+1):=by rw[← List.drop_eq_getElem_cons hi,List.take_append_drop]
 have hkl:k<l[i].els.length:=by unfold Rn.els;simpa using hk
 have h2:l[i].els=l[i].els.take k++l[i].els[k]::l[i].els.drop (k+1):=by rw[← List.drop_eq_getElem_cons hkl,List.take_append_drop]
 have h3:l[i].els[k]=(l[i].sp.at k,l[i].afAt k):=by simp [Rn.els]
 rw[h3] at h2
 refine(congrArg elsL h1).trans ?_
 have h4:elsL (l.take i++l[i]::l.drop (i+1))=elsL (l.take i)++(l[i].els++elsL (l.drop (i+1))):=by
  unfold elsL
  rw[List.flatMap_append,List.flatMap_cons]
 rw[h4,List.append_assoc,← List.cons_append,← List.append_assoc (l[i].els.take k),← h2]
theorem zTP (r:Rn):r.els.length=r.sp.n.toNat:=by simp [Rn.els]
theorem zTQ (r:Rn)(k:Nat)(hk:k<r.sp.n.toNat):r.els.take (k+1)=r.els.take k++[(r.sp.at k,r.afAt k)]:=by
 rw[zBO _ _ (by rw[zTP];exact hk)]
 simp [Rn.els]
structure Yl (J:List (Eid × Eid)→(Nat→Prop)→Mem→Prop) (pre:List (Eid × Eid)) (O:Nat→Prop) (B:Nat) (N N':Mem):Prop where
 ok:∃ O',J pre O' N'∧(∀ j,O' j→O j∨N.size≤j)
 wf:Wf N'
 le:N.size≤N'.size
 kp:∀ j,j<N.size → ¬O j→N'.get j=N.get j
theorem zXM {J:List (Eid × Eid)→(Nat→Prop)→Mem→Prop}{S:Mem→Prop}{O:Nat→Prop}{a:AV}{l:List Rn}{p id:Nat}(hS:Sl 10 isRn a l)(hl:l.length≤100000)(hm:∀ r∈l,r.may=true)(hf:l.length+100<fuel)(wf:Wf M)(hg:M.get p=some (.row false [a]))
  (hJ0:J [] O M)
  (hJ:∀ pre O N N',J pre O N→Wf N'→N.size≤N'.size→(∀ j,j<N.size→N'.get j=N.get j)→J pre O N')
  (hJl:∀ pre O N,J pre O N → ∀ j,O j→j<N.size)
  (hy:∀ pre x post O N,elsL l=pre++x::post→J pre O N→Wf N→M.size≤N.size→W3 (zAR Tryz.prog (fsT tbl) fuel (d+7) (.yl id) [idA x.1,idA x.2] N) (fun v N'=>(v=BL true∧Yl J (pre++[x]) O M.size N N')∨(v=BL false∧S N')))
  (kk:∀ u N O,J (elsL l) O N→Wf N→M.size≤N.size→Q u N) (ks:∀ u N,S N→Q u N) :
  W3 (zCN fuel (d+8) 133 [.yl id,.ptr p 0] M) Q:=by
 have ll:=hS.len
 have lp:=Mem.get_lt hg
 refine zBK tf133 rfl (by simp [a133]) fun b' ht hx=>?_
 obtain⟨h0,h1⟩:=hx2 hx
 clear hx
 simp only[a133,c133] at ht ⊢
 simp (disch:=try exact SX) only[RV,seval,zA0,h0,h1,ll,hS.fz.rows,hS.fz.one,hS.fz.cells,hS.fz.icy,hS.fz.frz,hg]
 refine zAZ (I:=fun n t N => ∃ (i:Nat) (O':Nat→Prop),n=l.length - i∧i≤l.length∧nth zA1 t 0 = .yl id∧nth zA1 t 10=a∧nth zA1 t 11=I64 l.length∧nth zA1 t 12=I64 i∧Wf N∧M.size≤N.size∧J (elsL (l.take i)) O' N) (n:=l.length) (by omega) ?_ ?_
 ·refine⟨0,O,rfl,Nat.zero_le _, ?_, ?_, ?_, ?_,wf,Nat.le_refl _,hJ0⟩ <;> simp (disch:=try exact SX) only[RV,seval,zA0,h0,h1,ll]
  all_goals first | rfl | assumption | done
 ·rintro n t N hlt ⟨i,O',rfl,hi,g0,g10,g11,g12,w,le,hj⟩
  simp only[ht] at hlt ⊢
  by_cases hc:i<l.length
  ·have q1:decide ((i:Int)<l.length)=true:=DT
   have w1:IntKind.i64.wrap ((i:Int)+1)=((i+1:Nat):Int):=WI
   obtain⟨r,hiad,hr,hrl⟩:=hS.iad i hc
   have hts:=zXO (l.take i) l[i]
   rw[← zBO l i hc] at hts
   have hsp:=fun k=>@zTR l i k hc
   have hme:=hm l[i] (List.getElem_mem hc)
   generalize l[i]=e at *
   obtain⟨ra,rfl,hra,hok⟩:=hr
   have ora:=hra.one
   have hb:=Spn.may_le (Rn.may_sp hme)
   obtain⟨m,hmn⟩:∃ m:Nat,e.sp.n=m:=⟨e.sp.n.toNat,by omega⟩
   have hmt:e.sp.n.toNat=m:=by omega
   have hes:=zTQ e
   have hel:=zTP e
   have wX:Wf ((N.add (.row false (rnR Rn.z NIL))).upd N.size (.row false (rnR e ra))):=(w.add _).upd _ _
   have jX:=hJ _ _ _ _ hj wX (by rw[zAH,zA6];omega) (fun j hj'=>by rw[zA2 (w.add _) _ _ _ (by omega),zAK w _ _ hj'])
   have gX:((N.add (.row false (rnR Rn.z NIL))).upd N.size (.row false (rnR e ra))).get N.size=some (.row false (rnR e ra)):=zAI (w.add _) _ _ (by rw[zA6];omega)
   have nX:N.size<((N.add (.row false (rnR Rn.z NIL))).upd N.size (.row false (rnR e ra))).size:=by rw[zAH,zA6];omega
   have nO:¬O' N.size:=fun h=>by have:=hJl _ _ _ hj _ h;omega
   simp (disch:=try exact SX) only[RV,seval,zA0,g0,g10,g11,g12,hS.fz.rows,hS.fz.one,hS.fz.cells,hS.fz.icy,hS.fz.frz,q1,hiad,hra.fz.rows,hra.fz.one,hra.fz.cells,hra.fz.icy,hra.fz.frz,w]
   refine zAZ (I:=fun nk tk Nk => ∃ (ik:Nat) (O2:Nat→Prop),nk=m - ik∧ik≤m∧nth zA1 tk 0 = .yl id∧nth zA1 tk 4 = .ptr N.size 0∧nth zA1 tk 10=a∧nth zA1 tk 11=I64 l.length∧nth zA1 tk 12=I64 i∧nth zA1 tk 18=I64 e.sp.n∧nth zA1 tk 19=I64 ik∧Wf Nk∧N.size<Nk.size∧J (elsL (l.take i)++e.els.take ik) O2 Nk∧Nk.get N.size=some (.row false (rnR e ra)) ∧ ¬O2 N.size) (n:=m) (by omega) ?_ ?_
   ·refine⟨0,O',rfl,Nat.zero_le _, ?_, ?_, ?_, ?_, ?_, ?_, ?_,wX,nX,(by rw[List.take_zero,List.append_nil];exact jX),gX,nO⟩ <;> simp (disch:=try exact SX) only[RV,seval,zA0,g0,g10,g11,g12]
    all_goals first | rfl | assumption | done
   ·rintro nk tk Nk hltk ⟨ik,O2,rfl,hik,gk0,gk4,gk10,gk11,gk12,gk18,gk19,wk,lk,jk,gk,nk⟩
    simp only[hlt] at hltk ⊢
    have kX:∀ p q,Wf ((((Nk.add p).add q).upd Nk.size (.row false (idR (e.sp.at ik)))).upd (Nk.size+1) (.row false (idR (e.afAt ik)))):=fun p q=>(((wk.add _).add _).upd _ _).upd _ _
    by_cases hck:ik<m
    ·have q2:decide ((ik:Int)<e.sp.n)=true:=DT
     have w2:IntKind.i64.wrap ((ik:Int)+1)=((ik+1:Nat):Int):=WI
     have hatE:atE e ik=0:=by
      unfold atE
      rw[if_pos hme,if_neg (by omega)]
     have hat:=fun M=>@zW0 fuel d e ra (ik:Int) hra (by omega) M
     simp only[hatE,if_true] at hat
     obtain⟨post,hsp⟩:=hsp ik (by omega)
     have hes:=hes ik (by omega)
     rw[hmt] at hel
     simp (disch:=try exact SX) only[RV,seval,zA0,gk0,gk4,gk10,gk11,gk12,gk18,gk19,hS.fz.rows,hS.fz.one,hS.fz.cells,hS.fz.icy,hS.fz.frz,q2,gk,hra.fz.rows,hra.fz.one,hra.fz.cells,hra.fz.icy,hra.fz.frz,wk,hat]
     have jY:=hJ _ _ _ _ jk (kX (.row false (idR Eid.z)) (.row false (idR Eid.z))) (by simp only[zAH,zA6];omega) (fun j hj'=>by
      rw[zA2 (((wk.add _).add _).upd _ _) _ _ _ (by omega),zA2 ((wk.add _).add _) _ _ _ (by omega),zAK (wk.add _) _ _ (by rw[zA6];omega),zAK wk _ _ hj'])
     obtain⟨v,N',hcall,hv⟩:=hy _ _ _ _ _ hsp jY (kX _ _) (by simp only[zAH,zA6];omega)
     refine⟨v,N',hcall, ?_⟩
     rcases hv with⟨rfl,⟨O3,jO,hO3⟩,wY,lY,kY⟩ | ⟨rfl,hst⟩
     ·simp only[zAH,zA6] at lY kY hO3
      have g3:N'.get N.size=some (.row false (rnR e ra)):=by
       rw[kY _ (by omega) nk,zA2 (((wk.add _).add _).upd _ _) _ _ _ (by omega),zA2 ((wk.add _).add _) _ _ _ (by omega),zAK (wk.add _) _ _ (by rw[zA6];omega),zAK wk _ _ (by omega)]
       exact gk
      rw[List.append_assoc,← hes] at jO
      simp (disch:=try exact SX) only[RV,seval,zA0,gk0,gk4,gk10,gk11,gk12,gk18,gk19,w2]
      exact⟨hltk,m - (ik+1),by omega,ik+1,O3,rfl,by omega,rfl,wY,by omega,jO,g3,fun h=>(hO3 _ h).elim nk (fun h=>by omega)⟩
     ·simp (disch:=try exact SX) only[RV,seval,zA0,gk0,gk4,gk10,gk11,gk12,gk18,gk19]
      exact ks _ _ hst
    ·obtain rfl:ik=m:=by omega
     have q2:decide ((ik:Int)<e.sp.n)=false:=DF
     rw[List.take_of_length_le (l:=e.els) (by omega)] at jk
     simp (disch:=try exact SX) only[RV,seval,zA0,gk0,gk4,gk10,gk11,gk12,gk18,gk19,q2,w1]
     exact⟨hltk,l.length - (i+1),by omega,i+1,O2,rfl,by omega,rfl,wk,by omega,by rw[hts];exact jk⟩
  ·obtain rfl:i=l.length:=by omega
   have q1:decide ((l.length:Int)<l.length)=false:=DF
   rw[List.take_length] at hj
   simp (disch:=try exact SX) only[RV,seval,zA0,g0,g10,g11,g12,q1]
   exact kk _ _ _ hj w le
theorem zDR (x y:Eid):x.less y=true↔x.c<y.c∨(x.c=y.c∧(x.hd.lb.lv<y.hd.lb.lv∨(x.hd.lb.lv=y.hd.lb.lv∧(x.hd.lb.cats<y.hd.lb.cats∨(x.hd.lb.cats=y.hd.lb.cats∧x.hd.num<y.hd.num))))):=by
 obtain⟨⟨⟨a,b⟩,c⟩,e⟩:=x
 obtain⟨⟨⟨a',b'⟩,c'⟩,e'⟩:=y
 unfold Eid.less Lb.ahead
 by_cases h1:e=e'
 ·subst h1
  by_cases h2:(⟨a,b⟩:Lb)=⟨a',b'⟩
  ·injection h2 with h2 h3
   subst h2;subst h3
   simp
  ·have h3:¬(a=a'∧b=b'):=fun h=>h2 (by rw[h.1,h.2])
   simp only[h2,if_true,if_false,Bool.or_eq_true,Bool.and_eq_true,decide_eq_true_eq,Int.lt_irrefl,true_and,false_or]
   omega
 ·simp only[h1,if_false,decide_eq_true_eq,false_and,or_false]
theorem zI0 (x:Eid):x.less x=false:=by
 rw[← Bool.not_eq_true,zDR];omega
theorem zKD {x y z:Eid}(h1:x.less y=true)(h2:y.less z=true):x.less z=true:=by
 rw[zDR] at *;omega
theorem zUS {x y:Eid}(h1:x.less y=true):y.less x=false:=by
 rw[← Bool.not_eq_true];rw[zDR] at *;omega
theorem zQI {x y:Eid}(h:x≠y):x.less y=true∨y.less x=true:=by
 rw[zDR,zDR]
 obtain⟨⟨⟨a,b⟩,c⟩,e⟩:=x
 obtain⟨⟨⟨a',b'⟩,c'⟩,e'⟩:=y
 simp only
 have:¬(a=a'∧b=b'∧c=c'∧e=e'):=fun k=>h (by rw[k.1,k.2.1,k.2.2.1,k.2.2.2])
 omega
theorem zUT {x y:Eid}(h:x.less y=true):x.c≤y.c:=by
 rw[zDR] at h;omega
theorem zMZ {x y:Eid}(h:x.c<y.c):x.less y=true:=by
 rw[zDR];omega
def ahd:List Eid→List Eid→Prop
 | [],[]=>False
 | [],_::_=>True
 | _::_,[]=>False
 | a::p,b::q=>b.less a=true∨(a=b∧ahd p q)
theorem zGT:∀ p:List Eid,¬ahd p p
 | []=>fun h=>h
 | a::p=>fun h=>by
  rcases h with h | ⟨_,h⟩
  ·rw[zI0] at h;cases h
  ·exact zGT p h
theorem zER:∀ {p q r:List Eid},ahd p q→ahd q r→ahd p r
 | [],[],_=>fun h _=>h.elim
 | [],_::_,[]=>fun _ h=>h.elim
 | [],_::_,_::_=>fun _ _=>trivial
 | _::_,[],_=>fun h _=>h.elim
 | _::_,_::_,[]=>fun _ h=>h.elim
 | a::p,b::q,c::r=>fun h1 h2=>by
  rcases h1 with h1 | ⟨rfl,h1⟩ <;> rcases h2 with h2 | ⟨rfl,h2⟩
  ·exact .inl (zKD h2 h1)
  ·exact .inl h1
  ·exact .inl h2
  ·exact .inr ⟨rfl,zER h1 h2⟩
theorem zEQ (p:List Eid)(x:Eid)(q:List Eid):ahd p (p++x::q):=by
 induction p with
 | nil=>trivial
 | cons a p ih=>exact .inr ⟨rfl,ih⟩
theorem zMC (p:List Eid){a b:Eid}(q r:List Eid)(h:b.less a=true):ahd (p++a::q) (p++b::r):=by
 induction p with
 | nil=>exact .inl h
 | cons a p ih=>exact .inr ⟨rfl,ih⟩
theorem zKV:∀ {p q:List Eid},ahd p q→(∃ x r,q=p++x::r) ∨ ∃ c a b s t,p=c++a::s∧q=c++b::t∧b.less a=true
 | [],[]=>fun h=>h.elim
 | [],x::r=>fun _ => .inl ⟨x,r,rfl⟩
 | _::_,[]=>fun h=>h.elim
 | a::p,b::q=>fun h=>by
  rcases h with h | ⟨rfl,h⟩
  ·exact .inr ⟨[],a,b,p,q,rfl,rfl,h⟩
  ·rcases zKV h with⟨x,r,rfl⟩ | ⟨c,x,y,s,t,rfl,rfl,k⟩
   ·exact .inl ⟨x,r,rfl⟩
   ·exact .inr ⟨a::c,x,y,s,t,rfl,rfl,k⟩
theorem zSZ:∀ {p q:List Eid},p≠q→ahd p q∨ahd q p
 | [],[]=>fun h=>absurd rfl h
 | [],_::_=>fun _ => .inl trivial
 | _::_,[]=>fun _ => .inr trivial
 | a::p,b::q=>fun h=>by
  by_cases e:a=b
  ·subst e
   rcases zSZ (p:=p) (q:=q) (fun k=>h (by rw[k])) with k | k
   ·exact .inl (.inr ⟨rfl,k⟩)
   ·exact .inr (.inr ⟨rfl,k⟩)
  ·rcases zQI e with k | k
   ·exact .inr (.inl k)
   ·exact .inl (.inl k)
inductive Pth (E:List El):Eid→List Eid→Prop
 | root {x:El}:x∈E→x.af=Eid.z→Pth E x.id [x.id]
 | step {x:El} {p:List Eid}:x∈E→Pth E x.af p→Pth E x.id (p++[x.id])
theorem Pth.mono {E F:List El}(h:∀ x∈E,x∈F){x:Eid}{p:List Eid}(k:Pth E x p):Pth F x p:=by
 induction k with
 | root m e=>exact .root (h _ m) e
 | step m _ ih=>exact .step (h _ m) ih
theorem Pth.mem {E:List El}{x:Eid}{p:List Eid}(k:Pth E x p):∃ e∈E,e.id=x:=by
 cases k with
 | root m _=>exact⟨_,m,rfl⟩
 | step m _=>exact⟨_,m,rfl⟩
theorem Pth.last {E:List El}{x:Eid}{p:List Eid}(k:Pth E x p):∃ q,p=q++[x]:=by
 cases k with
 | root m _=>exact⟨[],rfl⟩
 | step m _=>exact⟨_,rfl⟩
theorem Pth.pre {E:List El}{x:Eid}{p:List Eid}(k:Pth E x p):∀ {q y r},p=q++y::r→Pth E y (q++[y]):=by
 induction k with
 | root m e =>
  intro q y r h
  cases q with
  | nil=>cases h;exact .root m e
  | cons a q=>simp at h
 | @step x p m kp ih =>
  intro q y r h
  rcases List.eq_nil_or_concat r with rfl | ⟨r',b,rfl⟩
  ·have h2:=List.append_inj' h rfl
   rw[← h2.1]
   injection h2.2 with h3
   rw[← h3]
   exact .step m kp
  ·have h':p++[x.id]=(q++y::r')++[b]:=by rw[h];simp
   exact ih (List.append_inj' h' rfl).1
structure Set1 (E:List El):Prop where
 nd:(E.map (·.id)).Nodup
 ct:∀ x∈E,x.af.c<x.id.c∧0<x.id.c
 rt:∀ x∈E,x.af=Eid.z ∨ ∃ y∈E,y.id=x.af
theorem zN5 {E:List El}(h:(E.map (·.id)).Nodup){x y:El}(hx:x∈E)(hy:y∈E)(e:x.id=y.id):x=y:=by
 induction E with
 | nil=>cases hx
 | cons a E ih =>
  rw[List.map_cons,List.nodup_cons] at h
  rcases List.mem_cons.1 hx with rfl | hx' <;> rcases List.mem_cons.1 hy with rfl | hy'
  ·rfl
  ·exact absurd (List.mem_map.2 ⟨y,hy',e.symm⟩) h.1
  ·exact absurd (List.mem_map.2 ⟨x,hx',e⟩) h.1
  ·exact ih h.2 hx' hy'
theorem Pth.nz {E:List El}(h:∀ x∈E,0<x.id.c){x:Eid}{p:List Eid}(k:Pth E x p):x≠Eid.z:=by
 obtain⟨e,he,rfl⟩:=k.mem
 intro hz
 have:=h e he
 rw[hz] at this
 exact absurd this (by decide)
theorem Pth.fn {E:List El}(h:Set1 E){x:Eid}{p:List Eid}(k:Pth E x p):∀ {q},Pth E x q→p=q:=by
 have hz:=fun x hx=>(h.ct x hx).2
 induction k with
 | @root x m e =>
  intro q k'
  generalize hx:x.id=i at k'
  cases k' with
  | root m' e'=>rfl
  | @step x' p' m' kp' =>
   have:=zN5 h.nd m m' hx
   subst this
   exact absurd e (kp'.nz hz)
 | @step x p m kp ih =>
  intro q k'
  generalize hx:x.id=i at k'
  cases k' with
  | @root x' m' e' =>
   have:=zN5 h.nd m m' hx
   subst this
   exact absurd e' (kp.nz hz)
  | @step x' p' m' kp' =>
   have:=zN5 h.nd m m' hx
   subst this
   rw[ih kp']
theorem Pth.ex {E:List El}(h:Set1 E):∀ (n:Nat) (x:El),x∈E→x.id.c≤n → ∃ p,Pth E x.id p
 | 0,x,hx,hn=>absurd (h.ct x hx).2 (by omega)
 | n+1,x,hx,hn=>by
  rcases h.rt x hx with e | ⟨y,hy,e⟩
  ·exact⟨_,.root hx e⟩
  ·have hc:=h.ct x hx
   obtain⟨p,hp⟩:=Pth.ex h n y hy (by rw[e];omega)
   rw[e] at hp
   exact⟨_,.step hx hp⟩
theorem Set1.path {E:List El}(h:Set1 E){x:El}(hx:x∈E):∃ p,Pth E x.id p:=Pth.ex h x.id.c.toNat x hx (by have:=h.ct x hx;omega)
theorem Pth.grow {E:List El}(h:∀ x∈E,x.af.c<x.id.c){x:Eid}{p:List Eid}(k:Pth E x p):∀ y∈p,y.c≤x.c:=by
 induction k with
 | root m e=>intro y hy;rw[List.mem_singleton] at hy;subst hy;exact Int.le_refl _
 | @step x p m kp ih =>
  intro y hy
  rcases List.mem_append.1 hy with hy | hy
  ·have:=ih y hy
   have:=h _ m
   omega
  ·rw[List.mem_singleton] at hy;subst hy;exact Int.le_refl _
def Ah (E:List El)(x y:El):Prop:=∃ p q,Pth E x.id p∧Pth E y.id q∧ahd p q
theorem Ah.irr {E:List El}(h:Set1 E)(x:El):¬Ah E x x:=fun⟨p,q,hp,hq,k⟩=>by
 rw[hp.fn h hq] at k
 exact zGT _ k
theorem Ah.trans {E:List El}(h:Set1 E){x y z:El}(h1:Ah E x y)(h2:Ah E y z):Ah E x z:=by
 obtain⟨p,q,hp,hq,k⟩:=h1
 obtain⟨q',r,hq',hr,k'⟩:=h2
 rw[hq'.fn h hq] at k'
 exact⟨p,r,hp,hr,zER k k'⟩
theorem Ah.mono {E F:List El}(h:∀ x∈E,x∈F){x y:El}(k:Ah E x y):Ah F x y:=by
 obtain⟨p,q,hp,hq,k⟩:=k
 exact⟨p,q,hp.mono h,hq.mono h,k⟩
structure Txt (E:List El):Prop where
 s1:Set1 E
 pw:E.Pairwise (Ah E)
theorem zgF {α:Type}{R:α→α→Prop}:∀ {l m:List α},(∀ x y,R x y → ¬R y x)→l.Pairwise R→m.Pairwise R→(∀ x,x∈l↔x∈m)→l=m
 | [],[],_,_,_,_=>rfl
 | [],b::m,_,_,_,h=>absurd ((h b).2 List.mem_cons_self) (by simp)
 | a::l,[],_,_,_,h=>absurd ((h a).1 List.mem_cons_self) (by simp)
 | a::l,b::m,hR,hl,hm,h=>by
  have hl':=List.pairwise_cons.1 hl
  have hm':=List.pairwise_cons.1 hm
  have e:a=b:=by
   rcases List.mem_cons.1 ((h a).1 List.mem_cons_self) with e | ha
   ·exact e
   ·rcases List.mem_cons.1 ((h b).2 List.mem_cons_self) with e | hb
    ·exact e.symm
    ·exact absurd (hm'.1 a ha) (hR _ _ (hl'.1 b hb))
  subst e
  rw[zgF hR hl'.2 hm'.2 fun x=>?_]
  have na:a ∉ l:=fun k=>(hR _ _ (hl'.1 a k)) (hl'.1 a k)
  have nb:a ∉ m:=fun k=>(hR _ _ (hm'.1 a k)) (hm'.1 a k)
  have hx:=h x
  simp only[List.mem_cons] at hx
  by_cases k:x=a
  ·subst k;exact⟨fun k=>absurd k na,fun k=>absurd k nb⟩
  ·simpa [k] using hx
theorem Txt.eq {E F:List El}(hE:Txt E)(hF:Txt F)(h:∀ x,x∈E↔x∈F):E=F:=by
 refine zgF (R:=Ah E) (fun x y h1 h2=>Ah.irr hE.s1 x (Ah.trans hE.s1 h1 h2)) hE.pw (hF.pw.imp fun k=>k.mono fun x=>(h x).2) h
theorem Txt.nil:Txt []:=⟨⟨List.nodup_nil,fun _ h=>absurd h (by simp),fun _ h=>absurd h (by simp)⟩,.nil⟩
theorem Txt.filter {E:List El}(hE:Txt E)(f:El→Bool)(hf:∀ x∈E,∀ y∈E,f x=true→y.id=x.af→f y=true):Txt (E.filter f):=by
 have hs:Set1 (E.filter f):=by
  refine⟨?_,fun x hx=>hE.s1.ct x (List.mem_filter.1 hx).1,fun x hx=>?_⟩
  ·exact(hE.s1.nd.sublist (List.Sublist.map _ List.filter_sublist))
  ·obtain⟨h1,h2⟩:=List.mem_filter.1 hx
   rcases hE.s1.rt x h1 with e | ⟨y,hy,e⟩
   ·exact .inl e
   ·exact .inr ⟨y,List.mem_filter.2 ⟨hy,hf x h1 y hy h2 e⟩,e⟩
 refine⟨hs, ?_⟩
 have h1:=hE.pw.sublist (List.filter_sublist (p:=f))
 refine List.Pairwise.imp_of_mem (fun {a b} ha hb k=>?_) h1
 obtain⟨p,q,hp,hq,k⟩:=k
 obtain⟨p',hp'⟩:=hs.path ha
 obtain⟨q',hq'⟩:=hs.path hb
 rw[(hp'.mono fun x hx=>(List.mem_filter.1 hx).1).fn hE.s1 hp] at hp'
 rw[(hq'.mono fun x hx=>(List.mem_filter.1 hx).1).fn hE.s1 hq] at hq'
 exact⟨p,q,hp',hq',k⟩
theorem zSY (p:List Eid):¬ahd p []:=by
 cases p <;> exact fun h=>h
theorem zCJ {α:Type}(l:List α):l=[] ∨ ∃ q b,l=q++[b]:=by
 rcases List.eq_nil_or_concat l with h | ⟨q,b,h⟩
 ·exact .inl h
 ·exact .inr ⟨q,b,by rw[h,List.concat_eq_append]⟩
def popT (af:Eid):List Eid→Eid→Eid × List Eid
 | [],el=>(el,[])
 | t::s,el=>if t=af then (el,t::s) else popT af s t
def ordS (x:Eid × Eid)(s seen:List Eid):Bool:=!((decide ((popT x.2 s Eid.z).2=[]) && !decide (x.2=Eid.z)) || (!decide ((popT x.2 s Eid.z).1=Eid.z) && !x.1.less (popT x.2 s Eid.z).1) || decide (x.1∈seen))
def stk (l:List (Eid × Eid)):List Eid:=l.foldl (fun s x=>x.1::(popT x.2 s Eid.z).2) []
theorem zEJ (l:List (Eid × Eid))(x:Eid × Eid):stk (l++[x])=x.1::(popT x.2 (stk l) Eid.z).2:=by simp [stk]
def Ord (l:List (Eid × Eid)):Prop:=∀ pre x post,l=pre++x::post→ordS x (stk pre) (pre.map (·.1))=true
theorem Ord.nil:Ord []:=fun pre x post h=>absurd h (by simp)
theorem Ord.pre {l m:List (Eid × Eid)}(h:Ord (l++m)):Ord l:=fun pre x post e=>h pre x (post++m) (by rw[e];simp)
theorem Ord.snoc {l:List (Eid × Eid)}{x:Eid × Eid}(h:Ord l)(k:ordS x (stk l) (l.map (·.1))=true):Ord (l++[x]):=by
 intro pre y post e
 rcases zCJ post with rfl | ⟨q,b,rfl⟩
 ·have:=List.append_inj' e rfl
  obtain⟨rfl,h2⟩:=this
  injection h2 with h2
  subst h2
  exact k
 ·have e':l++[x]=(pre++y::q)++[b]:=by rw[e];simp
  exact h pre y q (List.append_inj' e' rfl).1
theorem zJ4 {af:Eid}:∀ {m:List Eid} {q:List Eid} {el:Eid},(∀ t∈m,t≠af)→(q=[] ∨ ∃ t,q=af::t)→popT af (m++q) el=(m.getLast?.getD el,q)
 | [],q,el,_,hq=>by
  rcases hq with rfl | ⟨t,rfl⟩
  ·rfl
  ·show popT af (af::t) el=_
   rw[popT,if_pos rfl];rfl
 | a::m,q,el,hm,hq=>by
  rw[List.cons_append,popT,if_neg (hm a List.mem_cons_self),zJ4 (fun t ht=>hm t (List.mem_cons_of_mem _ ht)) hq]
  cases m with
  | nil=>rfl
  | cons b m=>simp [List.getLast?_cons]
theorem zb4 (af:Eid):∀ s:List Eid,∃ m q,s=m++q∧(∀ t∈m,t≠af)∧(q=[] ∨ ∃ t,q=af::t)
 | []=>⟨[],[],rfl,(fun _ h=>absurd h (by simp)),.inl rfl⟩
 | a::s=>by
  by_cases h:a=af
  ·subst h
   exact⟨[],a::s,rfl,(fun _ h=>absurd h (by simp)),.inr ⟨s,rfl⟩⟩
  ·obtain⟨m,q,rfl,hm,hq⟩:=zb4 af s
   exact⟨a::m,q,rfl,fun t ht=>(List.mem_cons.1 ht).elim (fun e=>e ▸ h) (hm t),hq⟩
def prs (E:List El):List (Eid × Eid):=E.map fun x=>(x.id,x.af)
theorem zVL (E:List El):(prs E).map (·.1)=E.map (·.id):=by simp [prs]
theorem Txt.ins {A R B:List El}(h:Txt (A++B))(hs:Set1 (A++R++B))(h1:∀ a∈A,∀ r∈R,Ah (A++R++B) a r)(h2:R.Pairwise (Ah (A++R++B)))(h3:∀ r∈R,∀ b∈B,Ah (A++R++B) r b):Txt (A++R++B):=by
 refine⟨hs, ?_⟩
 have hm:∀ x∈A++B,x∈A++R++B:=fun x hx=>by
  rcases List.mem_append.1 hx with h | h
  ·exact List.mem_append.2 (.inl (List.mem_append.2 (.inl h)))
  ·exact List.mem_append.2 (.inr h)
 have hp:=h.pw.imp (fun k=>Ah.mono hm k)
 obtain⟨pA,pB,pAB⟩:=List.pairwise_append.1 hp
 refine List.pairwise_append.2 ⟨List.pairwise_append.2 ⟨pA,h2,h1⟩,pB,fun a ha b hb=>?_⟩
 rcases List.mem_append.1 ha with ha | ha
 ·exact pAB a ha b hb
 ·exact h3 a ha b hb
def Stk (E:List El)(s:List Eid):Prop:=(E=[]∧s=[]) ∨ ∃ E' y,E=E'++[y]∧Pth E y.id s.reverse
theorem zDA {α:Type}{P:List α→Prop}(h0:P [])(h1:∀ l x,P l→P (l++[x]))(l:List α):P l:=by
 suffices h:∀ n (l:List α),l.length=n→P l from h _ l rfl
 intro n
 induction n with
 | zero=>intro l hl;rw[List.eq_nil_of_length_eq_zero hl];exact h0
 | succ n ih =>
  intro l hl
  rcases zCJ l with rfl | ⟨q,b,rfl⟩
  ·exact h0
  ·exact h1 q b (ih q (by simpa using hl))
theorem Stk.pos {E:List El}{s:List Eid}(hs:Set1 E)(h:Stk E s):∀ t∈s,t≠Eid.z:=by
 rcases h with⟨_,rfl⟩ | ⟨E',y,rfl,hp⟩
 ·exact fun _ h=>absurd h (by simp)
 ·intro t ht
  obtain⟨q,r,e⟩:=List.append_of_mem (List.mem_reverse.2 ht)
  exact(hp.pre e).nz fun x hx=>(hs.ct x hx).2
theorem zd1 (E:List El):(∀ x∈E,x.af.c<x.id.c∧0<x.id.c)→Ord (prs E)→Txt E∧Stk E (stk (prs E)):=by
 refine zDA (P:=fun E=>(∀ x∈E,x.af.c<x.id.c∧0<x.id.c)→Ord (prs E)→Txt E∧Stk E (stk (prs E))) (fun _ _=>⟨Txt.nil,.inl ⟨rfl,rfl⟩⟩) (fun E x ih hc ho=>?_) E
 have he:prs (E++[x])=prs E++[(x.id,x.af)]:=by simp [prs]
 rw[he] at ho ⊢
 obtain⟨hT,hS⟩:=ih (fun y hy=>hc y (List.mem_append_left _ hy)) ho.pre
 have hx:=hc x (List.mem_append_right _ List.mem_cons_self)
 have hst:=ho (prs E) (x.id,x.af) [] rfl
 obtain⟨m,q,hmq,hm,hq⟩:=zb4 x.af (stk (prs E))
 have hpe:=zJ4 (el:=Eid.z) hm hq
 rw[← hmq] at hpe
 unfold ordS at hst
 rw[hpe,zVL] at hst
 simp only[Bool.not_eq_true',Bool.or_eq_false_iff,Bool.and_eq_false_iff,Bool.not_eq_false',decide_eq_false_iff_not,decide_eq_true_eq] at hst
 obtain⟨⟨h1,h2⟩,h3⟩:=hst
 rw[zEJ,hpe]
 have hmem:∀ y∈E,y∈E++[x]:=fun y hy=>List.mem_append_left _ hy
 have hxm:x∈E++[x]:=List.mem_append_right _ List.mem_cons_self
 have hpos:=hS.pos hT.s1
 -- the path of the new one
 have hrt:x.af=Eid.z ∨ ∃ y∈E,y.id=x.af:=by
  rcases hq with rfl | ⟨t,rfl⟩
  ·rcases h1 with h1 | h1
   ·exact absurd rfl h1
   ·exact .inl h1
  ·rcases hS with⟨_,h⟩ | ⟨E',y,rfl,hp⟩
   ·rw[h] at hmq
    exact absurd hmq.symm (by simp)
   ·rw[hmq] at hp
    exact .inr (hp.pre (q:=t.reverse) (y:=x.af) (r:=m.reverse) (by simp)).mem
 have hs1:Set1 (E++[x]):=by
  refine⟨?_,hc,fun y hy=>?_⟩
  ·rw[List.map_append,List.nodup_append]
   refine⟨hT.s1.nd,by simp,fun a ha b hb e=>?_⟩
   simp at hb
   subst hb
   subst e
   exact h3 ha
  ·rcases List.mem_append.1 hy with hy | hy
   ·rcases hT.s1.rt y hy with e | ⟨w,hw,e⟩
    ·exact .inl e
    ·exact .inr ⟨w,hmem w hw,e⟩
   ·rw[List.mem_singleton] at hy;subst hy
    rcases hrt with e | ⟨w,hw,e⟩
    ·exact .inl e
    ·exact .inr ⟨w,hmem w hw,e⟩
 have hpx:Pth (E++[x]) x.id (x.id::q).reverse:=by
  rcases hq with rfl | ⟨t,rfl⟩
  ·rcases h1 with h1 | h1
   ·exact absurd rfl h1
   ·exact .root hxm h1
  ·rcases hS with⟨_,h⟩ | ⟨E',y,rfl,hp⟩
   ·rw[h] at hmq
    exact absurd hmq.symm (by simp)
   ·rw[hmq] at hp
    have:=hp.pre (q:=t.reverse) (y:=x.af) (r:=m.reverse) (by simp)
    have:=Pth.step hxm (this.mono hmem)
    simpa using this
 refine⟨?_,.inr ⟨E,x,rfl,hpx⟩⟩
 have hT':Txt (E++[]):=by rw[List.append_nil];exact hT
 have:=hT'.ins (R:=[x]) (by rw[List.append_nil];exact hs1) (fun a ha r hr=>?_) (List.pairwise_singleton _ _) (fun r hr b hb=>absurd hb (by simp))
 ·rwa [List.append_nil] at this
 ·rw[List.mem_singleton] at hr;subst hr
  rw[List.append_nil]
  rcases hS with⟨rfl,h⟩ | ⟨E',y,rfl,hp⟩
  ·exact absurd ha (by simp)
  ·have hyx:Ah (E'++[y]++[r]) y r:=by
    refine⟨_,_,hp.mono hmem,hpx, ?_⟩
    rw[hmq,List.reverse_append,List.reverse_cons]
    rcases zCJ m with rfl | ⟨m',e,rfl⟩
    ·rw[List.reverse_nil,List.append_nil];exact zEQ _ _ _
    ·rw[List.reverse_append]
     have hle:(m'++[e]).getLast?.getD Eid.z=e:=by simp
     rw[hle] at h2
     have hez:e≠Eid.z:=hpos e (by rw[hmq];simp)
     rcases h2 with h2 | h2
     ·exact absurd h2 hez
     ·exact zMC _ _ _ h2
   rcases List.mem_append.1 ha with ha | ha
   ·have:=(List.pairwise_append.1 hT.pw).2.2 a ha y List.mem_cons_self
    exact(this.mono hmem).trans hs1 hyx
   ·rw[List.mem_singleton] at ha;subst ha;exact hyx
theorem zI6:∀ {c p q:List Eid},ahd (c++p) (c++q)→ahd p q
 | [],_,_,h=>h
 | a::c,p,q,h=>by
  rcases h with h | ⟨_,h⟩
  ·rw[zI0] at h;cases h
  ·exact zI6 h
theorem Txt.pre {E:List El}{x:El}(h:Txt (E++[x])):Txt E:=by
 have hmem:∀ y∈E,y∈E++[x]:=fun y hy=>List.mem_append_left _ hy
 have hxm:x∈E++[x]:=List.mem_append_right _ List.mem_cons_self
 have hp:=List.pairwise_append.1 h.pw
 have hcl:∀ y∈E,y.af≠x.id:=fun y hy e=>by
  have h1:=hp.2.2 y hy x List.mem_cons_self
  obtain⟨p,hpx⟩:=h.s1.path hxm
  have hpx':=hpx
  rw[← e] at hpx'
  have h2:Ah (E++[x]) x y:=⟨_,_,hpx,.step (hmem y hy) hpx',zEQ _ _ _⟩
  exact Ah.irr h.s1 x (h2.trans h.s1 h1)
 have hs:Set1 E:=by
  refine⟨?_,fun y hy=>h.s1.ct y (hmem y hy),fun y hy=>?_⟩
  ·have:=h.s1.nd
   rw[List.map_append,List.nodup_append] at this
   exact this.1
  ·rcases h.s1.rt y (hmem y hy) with e | ⟨w,hw,e⟩
   ·exact .inl e
   ·rcases List.mem_append.1 hw with hw | hw
    ·exact .inr ⟨w,hw,e⟩
    ·rw[List.mem_singleton] at hw;subst hw
     exact absurd e.symm (hcl y hy)
 refine⟨hs,List.Pairwise.imp_of_mem (fun {a b} ha hb k=>?_) hp.1⟩
 obtain⟨p,q,k1,k2,k⟩:=k
 obtain⟨p',hp'⟩:=hs.path ha
 obtain⟨q',hq'⟩:=hs.path hb
 rw[(hp'.mono hmem).fn h.s1 k1] at hp'
 rw[(hq'.mono hmem).fn h.s1 k2] at hq'
 exact⟨p,q,hp',hq',k⟩
theorem zdV (E:List El):Txt E→Ord (prs E)∧Stk E (stk (prs E)):=by
 refine zDA (P:=fun E=>Txt E→Ord (prs E)∧Stk E (stk (prs E))) (fun _=>⟨Ord.nil,.inl ⟨rfl,rfl⟩⟩) (fun E x ih hT=>?_) E
 have he:prs (E++[x])=prs E++[(x.id,x.af)]:=by simp [prs]
 rw[he]
 have hE:=hT.pre
 obtain⟨hO,hS⟩:=ih hE
 have hmem:∀ y∈E,y∈E++[x]:=fun y hy=>List.mem_append_left _ hy
 have hxm:x∈E++[x]:=List.mem_append_right _ List.mem_cons_self
 have hpos:=hS.pos hE.s1
 have hps:=List.pairwise_append.1 hT.pw
 have hnx:x.id ∉ E.map (·.id):=by
  have:=hT.s1.nd
  rw[List.map_append,List.nodup_append] at this
  exact fun k=>this.2.2 _ k x.id (by simp) rfl
 have key:∃ m q,stk (prs E)=m++q∧(∀ t∈m,t≠x.af)∧((q=[]∧x.af=Eid.z) ∨ ∃ t,q=x.af::t)∧(m=[]∨x.id.less (m.getLast?.getD Eid.z)=true)∧Pth (E++[x]) x.id (q.reverse++[x.id]):=by
  rcases hT.s1.rt x hxm with e | ⟨w,hw,e⟩
  ·refine⟨stk (prs E),[],by simp,fun t ht=>e ▸ hpos t ht,.inl ⟨rfl,e⟩, ?_,.root hxm e⟩
   rcases hS with⟨rfl,h⟩ | ⟨E',y,rfl,hp⟩
   ·exact .inl h
   ·right
    obtain⟨p,q,k1,k2,k⟩:=hps.2.2 y (List.mem_append_right _ List.mem_cons_self) x List.mem_cons_self
    rw[(hp.mono hmem).fn hT.s1 k1 |>.symm,k2.fn hT.s1 (.root hxm e)] at k
    generalize stk (prs (E'++[y]))=s at *
    rcases zCJ s with rfl | ⟨s',a,rfl⟩
    ·obtain⟨z,hz⟩:=hp.last
     exact absurd hz (by simp)
    ·rw[List.reverse_append] at k
     simp only[List.reverse_cons,List.reverse_nil,List.nil_append,List.singleton_append] at k
     rcases k with k | ⟨_,k⟩
     ·simpa using k
     ·exact absurd k (zSY _)
  ·have hwE:w∈E:=by
    rcases List.mem_append.1 hw with h | h
    ·exact h
    ·rw[List.mem_singleton] at h;subst h
     have:=hT.s1.ct w hxm
     rw[e] at this
     omega
   obtain⟨pw,hpw⟩:=hT.s1.path hw
   have hpx:Pth (E++[x]) x.id (pw++[x.id]):=.step hxm (e ▸ hpw)
   rcases hS with⟨rfl,h⟩ | ⟨E',y,rfl,hp⟩
   ·exact absurd hwE (by simp)
   ·have hyx:=hps.2.2 y (List.mem_append_right _ List.mem_cons_self) x List.mem_cons_self
    obtain⟨p,q,k1,k2,k⟩:=hyx
    rw[(hp.mono hmem).fn hT.s1 k1 |>.symm,k2.fn hT.s1 hpx] at k
    have hpm:=hp.mono hmem
    generalize hsp:stk (prs (E'++[y]))=s at *
    have hpre:∃ r,s.reverse=pw++r:=by
     rcases List.mem_append.1 hwE with h | h
     ·obtain⟨p',q',j1,j2,j⟩:=(List.pairwise_append.1 hE.pw).2.2 w h y List.mem_cons_self
      rw[(j1.mono hmem).fn hT.s1 hpw,(j2.mono hmem).fn hT.s1 hpm] at j
      rcases zKV j with⟨b,r,e2⟩ | ⟨c,a,b,s1,t1,e1,e2,hl⟩
      ·exact⟨_,e2⟩
      ·rw[e1,e2,List.append_assoc] at k
       have k:=zI6 k
       rcases k with k | ⟨k,_⟩
       ·rw[zUS hl] at k;cases k
       ·rw[k,zI0] at hl;cases hl
     ·rw[List.mem_singleton] at h;subst h
      exact⟨[],by rw[hpm.fn hT.s1 hpw];simp⟩
    obtain⟨r,hr⟩:=hpre
    obtain⟨p0,hp0⟩:=hpw.last
    rw[e] at hp0
    have hs:s=r.reverse++pw.reverse:=by rw[← List.reverse_append,← hr,List.reverse_reverse]
    refine⟨r.reverse,pw.reverse,hs,fun t ht et=>?_,.inr ⟨p0.reverse,by rw[hp0];simp⟩, ?_,by rw[List.reverse_reverse];exact hpx⟩
    ·subst et
     obtain⟨a1,b1,e1⟩:=List.append_of_mem (List.mem_reverse.1 ht)
     have g1:=hpm.pre (q:=p0) (y:=x.af) (r:=r) (by rw[hr,hp0];simp)
     have g2:=hpm.pre (q:=pw++a1) (y:=x.af) (r:=b1) (by rw[hr,e1];simp)
     have g3:=congrArg List.length (g1.fn hT.s1 g2)
     rw[hp0] at g3
     simp at g3
    ·rw[hr] at k
     cases r with
     | nil=>exact .inl rfl
     | cons a r =>
      right
      have k:=zI6 k
      rcases k with k | ⟨_,k⟩
      ·simpa using k
      ·exact absurd k (zSY _)
 obtain⟨m,q,hmq,hm,hq,hl,hp⟩:=key
 have hpe:=zJ4 (el:=Eid.z) (q:=q) hm (hq.elim (fun h => .inl h.1) .inr)
 rw[← hmq] at hpe
 refine⟨hO.snoc ?_, ?_⟩
 ·unfold ordS
  rw[hpe,zVL]
  simp only[Bool.not_eq_true',Bool.or_eq_false_iff,Bool.and_eq_false_iff,Bool.not_eq_false',decide_eq_false_iff_not,decide_eq_true_eq]
  refine⟨⟨?_, ?_⟩,hnx⟩
  ·rcases hq with⟨_,h⟩ | ⟨t,rfl⟩
   ·exact .inr h
   ·exact .inl (by simp)
  ·rcases hl with rfl | h
   ·exact .inl rfl
   ·exact .inr h
 ·rw[zEJ,hpe]
  exact .inr ⟨E,x,rfl,by simpa using hp⟩
theorem zVE {E:List El}(h:∀ x∈E,x.af.c<x.id.c∧0<x.id.c):Ord (prs E)↔Txt E:=⟨fun k=>(zd1 E h k).1,fun k=>(zdV E k).1⟩
def Chn:Eid→List El→Prop
 | _,[]=>True
 | a,x::R=>x.af=a∧a.c<x.id.c∧Chn x.id R
theorem Chn.path {F:List El}:∀ {R:List El} {a:Eid} {p:List Eid},Chn a R→(∀ x∈R,x∈F)→((a=Eid.z∧p=[])∨Pth F a p) → ∀ x∈R,∃ q,Pth F x.id (p++q) ∧ ∀ y R',R=y::R' → ∃ q',q=y.id::q'
 | [],_,_,_,_,_=>fun x hx=>absurd hx (by simp)
 | y::R,a,p,hC,hm,ha=>by
  intro x hx
  obtain⟨h1,h2,h3⟩:=hC
  have hy:Pth F y.id (p++[y.id]):=by
   exact zB0H
  rcases List.mem_cons.1 hx with rfl | hx
  ·exact⟨[x.id],hy,fun y' R' e=>by injection e with e1 e2;subst e1;exact⟨[],rfl⟩⟩
  ·obtain⟨q,hq,_⟩:=Chn.path h3 (fun x hx=>hm x (List.mem_cons_of_mem _ hx)) (.inr hy) x hx
   rw[List.append_assoc] at hq
   exact⟨_,hq,fun y' R' e=>by injection e with e1 e2;subst e1;exact⟨q,rfl⟩⟩
theorem Chn.pw {F:List El}:∀ {R:List El} {a:Eid} {p:List Eid},Chn a R→(∀ x∈R,x∈F)→((a=Eid.z∧p=[])∨Pth F a p)→R.Pairwise (Ah F)
 | [],_,_,_,_,_ => .nil
 | y::R,a,p,hC,hm,ha=>by
  obtain⟨h1,h2,h3⟩:=hC
  have hy:Pth F y.id (p++[y.id]):=by
   exact zB0H
  refine List.pairwise_cons.2 ⟨fun x hx=>?_,Chn.pw h3 (fun x hx=>hm x (List.mem_cons_of_mem _ hx)) (.inr hy)⟩
  obtain⟨q,hq,hh⟩:=Chn.path h3 (fun x hx=>hm x (List.mem_cons_of_mem _ hx)) (.inr hy) x hx
  cases R with
  | nil=>exact absurd hx (by simp)
  | cons w R =>
   obtain⟨q',rfl⟩:=hh w R rfl
   exact⟨_,_,hy,hq,zEQ _ _ _⟩
theorem Chn.grow:∀ {R:List El} {a:Eid},Chn a R → ∀ x∈R,a.c<x.id.c
 | [],_,_=>fun x hx=>absurd hx (by simp)
 | y::R,a,hC=>fun x hx=>by
  obtain⟨h1,h2,h3⟩:=hC
  rcases List.mem_cons.1 hx with rfl | hx
  ·exact h2
  ·have:=h3.grow x hx
   omega
theorem Chn.ct:∀ {R:List El} {a:Eid},Chn a R→0≤a.c → ∀ x∈R,x.af.c<x.id.c∧0<x.id.c
 | [],_,_,_=>fun x hx=>absurd hx (by simp)
 | y::R,a,hC,ha=>fun x hx=>by
  obtain⟨h1,h2,h3⟩:=hC
  rcases List.mem_cons.1 hx with rfl | hx
  ·rw[h1];omega
  ·exact h3.ct (by omega) x hx
theorem Chn.rt:∀ {R:List El} {a:Eid},Chn a R → ∀ x∈R,x.af=a ∨ ∃ y∈R,y.id=x.af
 | [],_,_=>fun x hx=>absurd hx (by simp)
 | y::R,a,hC=>fun x hx=>by
  obtain⟨h1,h2,h3⟩:=hC
  rcases List.mem_cons.1 hx with rfl | hx
  ·exact .inl h1
  ·rcases h3.rt x hx with e | ⟨w,hw,e⟩
   ·exact .inr ⟨y,List.mem_cons_self,e.symm⟩
   ·exact .inr ⟨w,List.mem_cons_of_mem _ hw,e⟩
theorem Chn.nd:∀ {R:List El} {a:Eid},Chn a R→(R.map (·.id)).Nodup
 | [],_,_=>List.nodup_nil
 | y::R,a,hC=>by
  obtain⟨h1,h2,h3⟩:=hC
  rw[List.map_cons,List.nodup_cons]
  refine⟨fun h=>?_,h3.nd⟩
  obtain⟨x,hx,e⟩:=List.mem_map.1 h
  have:=h3.grow x hx
  rw[e] at this
  omega
theorem Txt.put {A0 A1 B R:List El}{r:El}{R':List El}(hT:Txt (A0++A1++B))(hR:R=r::R')(hC:Chn r.af R)
  (ha:(r.af=Eid.z∧A0=[]) ∨ ∃ A00 w,A0=A00++[w]∧w.id=r.af)
  (hf:∀ x∈R,∀ y∈A0++A1++B,x.id≠y.id)
  (h1:∀ x∈A1,r.id.less x.id=true)
  (h2:∀ b B',B=b::B'→r.id.less b.id=false):Txt (A0++A1++R++B):=by
 have hrc:0≤r.af.c:=by
  rcases ha with⟨h,_⟩ | ⟨A00,w,rfl,h⟩
  ·rw[h];decide
  ·have:=(hT.s1.ct w (by simp)).2
   rw[h] at this
   omega
 have hrm:r∈R:=by rw[hR];exact List.mem_cons_self
 have hm:∀ x∈A0++A1++B,x∈A0++A1++R++B:=fun x hx=>by
  rcases List.mem_append.1 hx with h | h
  ·exact List.mem_append_left _ (List.mem_append_left _ h)
  ·exact List.mem_append_right _ h
 have hmR:∀ x∈R,x∈A0++A1++R++B:=fun x hx=>List.mem_append_left _ (List.mem_append_right _ hx)
 have hs:Set1 (A0++A1++R++B):=by
  refine⟨?_,fun x hx=>?_,fun x hx=>?_⟩
  ·have hn:=hT.s1.nd
   have hd:∀ x∈R,x.id ∉ (A0++A1++B).map (·.id):=fun x hx k=>by
    obtain⟨y,hy,e⟩:=List.mem_map.1 k
    exact hf x hx y hy e.symm
   rw[List.map_append,List.nodup_append] at hn
   rw[List.map_append,List.map_append,List.nodup_append,List.nodup_append]
   refine⟨⟨hn.1,hC.nd,fun a ha b hb e=>?_⟩,hn.2.1,fun a ha b hb e=>?_⟩
   ·obtain⟨x,hx,rfl⟩:=List.mem_map.1 hb
    subst e
    exact hd x hx (by rw[List.map_append];exact List.mem_append_left _ ha)
   ·rcases List.mem_append.1 ha with ha | ha
    ·exact hn.2.2 a ha b hb e
    ·obtain⟨x,hx,rfl⟩:=List.mem_map.1 ha
     subst e
     exact hd x hx (by rw[List.map_append];exact List.mem_append_right _ hb)
  ·rcases List.mem_append.1 hx with h | h
   ·rcases List.mem_append.1 h with h | h
    ·exact hT.s1.ct x (List.mem_append_left _ h)
    ·exact hC.ct hrc x h
   ·exact hT.s1.ct x (List.mem_append_right _ h)
  ·have old:x∈A0++A1++B→x.af=Eid.z ∨ ∃ y∈A0++A1++R++B,y.id=x.af:=fun h=>by
    rcases hT.s1.rt x h with e | ⟨y,hy,e⟩
    ·exact .inl e
    ·exact .inr ⟨y,hm y hy,e⟩
   rcases List.mem_append.1 hx with h | h
   ·rcases List.mem_append.1 h with h | h
    ·exact old (List.mem_append_left _ h)
    ·rcases hC.rt x h with e | ⟨y,hy,e⟩
     ·rcases ha with⟨h7,_⟩ | ⟨A00,w,rfl,h7⟩
      ·exact .inl (e.trans h7)
      ·exact .inr ⟨w,by simp,h7.trans e.symm⟩
     ·exact .inr ⟨y,hmR y hy,e⟩
   ·exact old (List.mem_append_right _ h)
 -- the path of the one that it names
 have hpa:∃ p,((r.af=Eid.z∧p=[])∨Pth (A0++A1++R++B) r.af p)∧(∀ u∈p,u.c≤r.af.c)∧(∀ x∈A0,∀ q,Pth (A0++A1++R++B) x.id q→q=p∨ahd q p)∧(∀ x∈A1++B,∀ q,Pth (A0++A1++R++B) x.id q→ahd p q):=by
  rcases ha with⟨h,rfl⟩ | ⟨A00,w,rfl,h⟩
  ·refine⟨[],.inl ⟨h,rfl⟩,(fun _ h=>absurd h (by simp)),(fun _ h=>absurd h (by simp)),fun x hx q hq=>?_⟩
   obtain⟨q0,rfl⟩:=hq.last
   cases q0 <;> trivial
  ·have hw:w∈A00++[w]++A1++B:=by simp
   obtain⟨p,hp⟩:=hT.s1.path hw
   have hpF:=hp.mono hm
   have hpw:=hT.pw
   have hpw':(A00++([w]++(A1++B))).Pairwise (Ah (A00++[w]++A1++B)):=by simpa using hpw
   have q1:=List.pairwise_append.1 hpw'
   have q2:=List.pairwise_append.1 q1.2.1
   refine⟨p,.inr (h ▸ hpF),fun u hu=>?_,fun x hx q hq=>?_,fun x hx q hq=>?_⟩
   ·have:=hp.grow (fun x hx=>(hT.s1.ct x hx).1) u hu
    rw[h] at this
    exact this
   ·rcases List.mem_append.1 hx with hx | hx
    ·obtain⟨p1,p2,k1,k2,k⟩:=q1.2.2 x hx w (by simp)
     rw[(k1.mono hm).fn hs hq,(k2.mono hm).fn hs hpF] at k
     exact .inr k
    ·rw[List.mem_singleton] at hx;subst hx
     exact .inl (hq.fn hs hpF)
   ·obtain⟨p1,p2,k1,k2,k⟩:=q2.2.2 w (by simp) x hx
    rw[(k1.mono hm).fn hs hpF,(k2.mono hm).fn hs hq] at k
    exact k
 obtain⟨p,hp,hpc,hA0,hAB⟩:=hpa
 have hCp:=hC.path hmR hp
 have hpr:∀ x∈R,∃ q',Pth (A0++A1++R++B) x.id (p++r.id::q'):=fun x hx=>by
  obtain⟨q,hq,hh⟩:=hCp x hx
  obtain⟨q',rfl⟩:=hh r R' hR
  exact⟨q',hq⟩
 have hrl:r.af.c<r.id.c:=hC.grow r hrm
 refine hT.ins hs (fun a ha x hx=>?_) (hC.pw hmR hp) (fun x hx b hb=>?_)
 ·-- what stands ahead
  obtain⟨q',hq'⟩:=hpr x hx
  have haE:a∈A0++A1++B:=List.mem_append_left _ ha
  obtain⟨pa,hpa⟩:=hs.path (hm a haE)
  refine⟨_,_,hpa,hq', ?_⟩
  rcases List.mem_append.1 ha with ha | ha
  ·rcases hA0 a ha pa hpa with rfl | k
   ·exact zEQ _ _ _
   ·exact zER k (zEQ _ _ _)
  ·-- those behind it that are greater
   have mid:∀ e:Eid,∀ pe,Pth (A0++A1++R++B) e pe→ahd p pe→(pe=pa∨ahd pe pa)→(∃ y∈A0++A1++B,y.id=e)→r.id.less e=true:=by
    rintro e pe hpe k1 k2 ⟨y,hy,rfl⟩
    rcases List.mem_append.1 hy with hy | hy
    ·rcases List.mem_append.1 hy with hy | hy
     ·rcases hA0 y hy pe hpe with rfl | k
      ·exact absurd k1 (zGT _)
      ·exact absurd (zER k k1) (zGT _)
     ·exact h1 y hy
    ·have hAh:=(List.pairwise_append.1 hT.pw).2.2 a (List.mem_append_right _ ha) y hy
     obtain⟨p1,p2,j1,j2,j⟩:=hAh
     rw[(j1.mono hm).fn hs hpa,(j2.mono hm).fn hs hpe] at j
     rcases k2 with rfl | k2
     ·exact absurd j (zGT _)
     ·exact absurd (zER j k2) (zGT _)
   -- a path of a: over elements of the old ones
   obtain⟨pa',hpa'⟩:=hT.s1.path haE
   have hpaE:pa'=pa:=(hpa'.mono hm).fn hs hpa
   subst hpaE
   have k:=hAB a (List.mem_append_left _ ha) _ hpa
   rcases zKV k with⟨e,t,he⟩ | ⟨c,u,w,s,t,e1,e2,hl⟩
   ·have hpe:=hpa'.pre he
    have hle:r.id.less e=true:=mid e _ (hpe.mono hm) (zEQ _ _ _) (by
     cases t with
     | nil=>exact .inl he.symm
     | cons b t=>rw[he];exact .inr (by have:=zEQ (p++[e]) b t;simpa using this)) hpe.mem
    rw[he]
    exact zMC _ _ _ hle
   ·have hpe:=hpa'.pre e2
    have hle:r.id.less w=true:=mid w _ (hpe.mono hm) (by rw[e1];exact zMC _ _ _ hl) (by
     cases t with
     | nil=>exact .inl e2.symm
     | cons b t=>rw[e2];exact .inr (by have:=zEQ (c++[w]) b t;simpa using this)) hpe.mem
    have:=zUT hle
    have:=zUT hl
    have:=hpc u (by rw[e1];simp)
    omega
 ·-- what stands behind
  obtain⟨q',hq'⟩:=hpr x hx
  cases B with
  | nil=>exact absurd hb (by simp)
  | cons b0 B' =>
   have hb0:Ah (A0++A1++R++b0::B') x b0:=by
    have hbm:b0∈A0++A1++b0::B':=by simp
    obtain⟨pb,hpb⟩:=hT.s1.path hbm
    refine⟨_,_,hq',hpb.mono hm, ?_⟩
    have k:=hAB b0 (by simp) _ (hpb.mono hm)
    have hlt:b0.id.less r.id=true:=by
     rcases zQI (hf r hrm b0 hbm) with h | h
     ·rw[h2 b0 B' rfl] at h;cases h
     ·exact h
    rcases zKV k with⟨e,t,he⟩ | ⟨c,u,w,s,t,e1,e2,hl⟩
    ·rw[he]
     refine zMC _ _ _ ?_
     rcases zCJ t with rfl | ⟨t',z,rfl⟩
     ·obtain⟨q0,e0⟩:=hpb.last
      rw[he] at e0
      have:=(List.append_inj' e0 rfl).2
      injection this with this
      rw[this];exact hlt
     ·have hpe:=hpb.pre he
      obtain⟨q0,e0⟩:=hpb.last
      have he2:pb=(p++e::t')++[z]:=by rw[he];simp
      rw[he2] at e0
      have e3:=(List.append_inj' e0 rfl).2
      injection e3 with e3
      subst e3
      -- the one ahead of the last one of a path is lesser
      have hlast:e.c<b0.id.c:=by
       rw[he2] at hpb
       generalize hbi:b0.id=i at hpb
       generalize hpp:(p++e::t')++[i]=pp at hpb
       cases hpb with
       | root m e4=>exact absurd (congrArg List.length hpp) (by simp;omega)
       | @step x0 p0 m kp =>
        have e5:=(List.append_inj' hpp rfl).1
        have g:=kp.grow (fun x hx=>(hT.s1.ct x hx).1) e (by rw[← e5];simp)
        have:=(hT.s1.ct x0 m).1
        omega
      have:=zUT hlt
      exact zMZ (by omega)
    ·rw[e1,e2,List.append_assoc,List.cons_append]
     exact zMC _ _ _ hl
   rcases List.mem_cons.1 hb with rfl | hb
   ·exact hb0
   ·have:=List.pairwise_cons.1 (List.pairwise_append.1 hT.pw).2.1
    exact hb0.trans hs ((this.1 b hb).mono hm)
def zN6 (q r:Rn):Bool:=decide (r.af=q.last)&&decide (r.sp.f=(⟨r.af.hd,IntKind.i64.wrap (r.af.c+1)⟩:Eid))
def room (q:Rn):Int:=IntKind.i64.wrap (64 - q.sp.n)
def addR (out : List Rn) (r : Rn) : List Rn :=
  match out.getLast? with
  | none=>out ++ [r]
  | some q=>if zN6 q r = true then
      (if r.cutE (room q) = 0 then out.set (out.length - 1) (zDV q (r.fst (room q))) ++ [r.snd (room q)]
       else if zFZ q r = 0 then out.set (out.length - 1) (zDV q r)
       else out ++ [r])
    else out ++ [r]
def zBV (l:List Rn):List Rn:=l.foldl addR []
theorem zN1 (l:List Rn)(r:Rn):zBV (l++[r])=addR (zBV l) r:=by simp [zBV]
theorem zPU (out:List Rn)(r:Rn):(addR out r).length≤out.length+1:=by
 unfold addR
 split
 ·simp
 ·split
  ·split
   ·simp
   ·split <;> simp
  ·simp
theorem Rn.z_ok:Rn.z.ok:=⟨⟨Eid.z_ok,by decide,by decide⟩,Eid.z_ok,fun _ h=>by cases h⟩
theorem zGI {a b:Rn}:zFZ a b=0↔a.may=true∧b.may=true∧(a.both b).cutE a.sp.n=0∧(a.both b).fst a.sp.n=a∧(a.both b).snd a.sp.n=b:=by
 unfold zFZ
 by_cases h:a.may=true∧b.may=true
 ·rw[if_pos h]
  by_cases k:(a.both b).cutE a.sp.n=0∧(a.both b).fst a.sp.n=a∧(a.both b).snd a.sp.n=b
  ·rw[if_pos k];exact⟨fun _=>⟨h.1,h.2,k⟩,fun _=>rfl⟩
  ·rw[if_neg k];exact⟨fun e=>(by cases e),fun e=>absurd e.2.2 k⟩
 ·rw[if_neg h];exact⟨fun e=>(by cases e),fun e=>absurd ⟨e.1,e.2.1⟩ h⟩
theorem zQE {a b:Rn}(ha:a.ok)(hb:b.ok):(zDV a b).ok:=by
 unfold zDV
 split
 ·rename_i h
  obtain⟨ma,mb,_⟩:=zGI.1 h
  have ba:=Spn.may_le (Rn.may_sp ma)
  have bb:=Spn.may_le (Rn.may_sp mb)
  refine⟨⟨ha.1.1, ?_⟩,ha.2.1,fun x hx=>?_⟩
  ·show i64R (a.sp.n+b.sp.n)
   unfold i64R;omega
  ·rcases List.mem_append.1 hx with h | h
   ·exact ha.2.2 x h
   ·exact hb.2.2 x h
 ·exact Rn.z_ok
theorem zMX (a b:Rn):(zDV a b).rs.length≤1000:=by
 unfold zDV
 split
 ·rename_i h
  obtain⟨ma,mb,_⟩:=zGI.1 h
  have ba:=Spn.may_le (Rn.may_sp ma)
  have bb:=Spn.may_le (Rn.may_sp mb)
  have la:=Rn.may_len ma
  have lb:=Rn.may_len mb
  show (a.rs++b.rs).length≤_
  rw[List.length_append];omega
 ·exact Nat.zero_le _
theorem zaG {r:Rn}{n:Int}(h:r.ok)(hc:r.cutE n=0):(r.fst n).ok:=by
 obtain⟨hm,h0,h1⟩:=Rn.cutE_iff.1 hc
 have hb:=Spn.may_le (Rn.may_sp hm)
 exact⟨⟨h.1.1,by show i64R n;unfold i64R;omega⟩,h.2.1,fun x hx=>h.2.2 x (List.mem_of_mem_take hx)⟩
theorem zb9 {r:Rn}{n:Int}(h:r.ok)(hc:r.cutE n=0):(r.snd n).ok:=by
 obtain⟨hm,h0,h1⟩:=Rn.cutE_iff.1 hc
 have hb:=Spn.may_le (Rn.may_sp hm)
 exact⟨⟨⟨h.1.1.1,by show i64R (r.sp.f.c+n);unfold i64R;omega⟩,by show i64R (r.sp.n - n);unfold i64R;omega⟩,⟨h.1.1.1,by show i64R (r.sp.f.c+(n - 1));unfold i64R;omega⟩,fun x hx=>h.2.2 x (List.mem_of_mem_drop hx)⟩
def rnK:NK Rn Int where
 st:=10
 H:=rnH
 f:=fun r=>r.rs
 T:=zAS
 ok:=Rn.ok
 hl:=fun _=>rfl
 hz:=zIK
 ft:=zCM
theorem ND.lr {o:AV}{l:List Rn}{B:Nat}(h:rnK.ND M B o l):oneA o=true∧cellsA o=[o]∧RL M.size o∧(∀ N,lenO N o=some (I64 l.length,N))∧purA o=true ∧ ∀ j,rowOf o=some j→j<M.size:=by
 obtain⟨lr,rfl,h2,_⟩:=h
 exact⟨h2.one,h2.cells,h2.rl,fun N=>by rw[List.length_map];exact h2.len N,h2.pur,h2.lt⟩
theorem zgJ {o:AV}{l:List Rn}{B:Nat}(h:rnK.ND M B o l){n:Nat}(hn:n<l.length):∃ id cs ra,rowOf o=some id∧B≤id∧id<M.size∧M.get id=some (.row false cs)∧(n+1)*10≤cs.length∧(∀ N,iadO N 10 o (some n)=some (.ptr id (n*10),N))∧SlM M 1 zAS ra l[n].rs∧l[n].ok∧(∀ j,rowOf ra=some j→B≤j)∧rowOf ra≠some id∧Go.Ax.part cs (n*10) 10 true=some (.agg (rnR l[n] ra))∧(∀ k,k<10→cs[n*10+k]? = (rnR l[n] ra)[k]?) ∧
  ∀ (N:Mem) (y:Rn) (rb:AV),M.size≤N.size→SlM N 1 zAS rb y.rs→(∀ j,rowOf rb=some j→M.size≤j)→y.ok→(∀ j,j<M.size→j≠id→N.get j=M.get j)→N.get id=some (.row false (lay cs (n*10) (rnR y rb)))→B≤M.size→rnK.ND N B o (l.set n y):=by
 obtain⟨id,cs,ra,h1,h2,h3,h4,h5,h6,h7,h8,h9,h10⟩:=h.put hn
 have h7:(n+1)*10≤cs.length:=h7
 have h6:slot cs (n*10) 10=rnR l[n] ra:=h6
 refine⟨id,cs,ra,h1,h2,h3,h4,h7,h5,h8.1,h8.2.2,h8.2.1,h9, ?_,fun k hk=>zFA h6 hk,fun N y rb z1 z2 z3 z4 z5 z6 z7=>h10 N y rb z1 ⟨z2,z3,z4⟩ z2.one z2.cells (fun j _ hj _ hne=>z5 j hj hne) z6 z7⟩
 have:=zF1 (off:=0) (n:=10) (ag:=true) h6 (by omega) (by omega)
 rw[Nat.add_zero] at this
 rw[this]
 rfl
theorem zQK {a:AV}{l:List Rn}(hS:Sl 10 isRn a l)(hl:l.length≤100000)(hd:∀ r∈l,r.rs.length≤1000000)(hf:l.length+3000000<fuel):zDC Tryz.prog (fsT tbl) fuel (d+8) 48 [a] (fun r M=>rnK.ND M 0 r (zBV l)):=by
 have ll:=hS.len
 refine zEG tf48 rfl (by simp [a48]) fun b' ht hx=>?_
 have h0:=hx 0 _ rfl
 clear hx
 simp only[a48,c48] at ht ⊢
 simp (disch:=try exact SX) only[RV,seval,zA0,h0,ll,hS.fz.rows,hS.fz.one,hS.fz.cells,hS.fz.icy,hS.fz.frz]
 refine zAZ (I:=fun n t N => ∃ (i:Nat) (o:AV),n=l.length - i∧i≤l.length∧nth zA1 t 2=o∧nth zA1 t 13=a∧nth zA1 t 14=I64 l.length∧nth zA1 t 15=I64 i∧Wf N∧rnK.ND N 0 o (zBV (l.take i))∧(zBV (l.take i)).length≤i∧(∀ q∈zBV (l.take i),q.rs.length≤1000000)) (n:=l.length) (by omega) ?_ ?_
 ·refine⟨0,NIL,rfl,Nat.zero_le _, ?_, ?_, ?_, ?_,Wf.mem0,NK.ND.nil _ _,Nat.le_refl 0,(fun _ h=>by cases h)⟩ <;> simp (disch:=try exact SX) only[RV,seval,zA0,h0,ll]
  all_goals first | rfl | assumption | done
 ·rintro n t N hlt ⟨i,o,rfl,hi,g2,g13,g14,g15,w,sm,bl,bd⟩
  simp only[ht] at hlt ⊢
  obtain⟨oo,oc,orl,olen,opu,olt⟩:=ND.lr sm
  by_cases hc:i<l.length
  ·have q1:decide ((i:Int)<l.length)=true:=DT
   have w1:IntKind.i64.wrap ((i:Int)+1)=((i+1:Nat):Int):=WI
   obtain⟨r,hiad,hr,hrl⟩:=hS.iad i hc
   have hts:=zN1 (l.take i) l[i]
   rw[← zBO l i hc] at hts
   have hal:=zPU (zBV (l.take i)) l[i]
   have hde:=hd l[i] (List.getElem_mem hc)
   generalize l[i]=e at *
   generalize zBV (l.take i)=out at *
   obtain⟨ra,rfl,hra,hok⟩:=hr
   have ora:=hra.one
   have rlo:∀ m,N.size≤m→((rowsOf o).all fun i=>Nat.blt i m)=true:=fun m h=>zAN orl h
   by_cases hz:out.length=0
   ·have ho:out=[]:=List.eq_nil_of_length_eq_zero hz
    subst ho
    have olen':∀ N,lenO N o=some (I64 0,N):=olen
    have w2:IntKind.i64.wrap (-1) = -1:=by decide
    have q2:decide ((0:Int) ≤ -1)=false:=by decide
    have eA:addR [] e=[]++[e]:=rfl
    rw[eA] at hts hal
    simp (disch:=try exact SX) only[RV,seval,zA0,g2,g13,g14,g15,q1,hiad,hra.fz.rows,hra.fz.one,hra.fz.cells,hra.fz.icy,hra.fz.frz,w,oo,oc,rlo,olen',w2,q2]
    refine zDM (fuel:=fuel) (d:=d+6) hra (by omega) (by simp (disch:=try exact SX) only[RV,seval,zA0,w]) fun rt U kU sU nU=>?_
    have wU:=kU.wf
    have zU:N.size+1≤U.size:=kU.le
    have ort:=sU.one
    have crt:=sU.cells
    have rrt:=zAN sU.rl (Nat.le_refl U.size)
    have rlU:=rlo U.size (by omega)
    have rlU1:=rlo (U.size+1) (by omega)
    have kN:∀ j,j<N.size→U.get j=N.get j:=fun j hj=>(kU.get j (by show j<N.size+1;omega)).trans (by simp (disch:=try exact SX) only[RV,seval,zA0,w])
    simp (disch:=try exact SX) only[RV,seval,zA0,g2,g13,g14,g15,wU,oo,oc,rlU,rlU1,ort,crt,rrt]
    refine NK.ND.app (K:=rnK) (ra:=rt) (x:=e) (by':=80) wU sm (fun j _ hj=>kN j hj) (by omega) ⟨rfl,ort,crt⟩ ⟨sU,fun j _=>Nat.zero_le j,hok⟩ (fun j hj=>by have:N.size+1≤j:=nU j hj;omega) (by omega) (by omega) (Nat.zero_le _) fun o' M' sm' w' le' kp nw wm'=>?_
    obtain⟨oo',oc',orl',olen',opu',olt'⟩:=ND.lr sm'
    simp (disch:=try exact SX) only[RV,seval,zA0,g2,g13,g14,g15,w1]
    refine⟨hlt,l.length - (i+1),by omega,i+1,o',rfl,by omega,rfl,rfl,w',by rw[hts];exact sm',by rw[hts];simp,fun q hq=>?_⟩
    rw[hts] at hq
    simp at hq
    subst hq
    exact hde
   ·obtain⟨n,hn⟩:∃ n:Nat,out.length=n+1:=⟨out.length - 1,by omega⟩
    have hnl:n<out.length:=by omega
    have w2:IntKind.i64.wrap ((out.length:Int) - 1)=(n:Int):=WI
    have q2:decide ((0:Int)≤(n:Int))=true:=DT
    obtain⟨id,cs,rq,hrow,_,lid,hg,hcs,hoad,hrq,hqok,_,hne,hpt,hgt,hset⟩:=zgJ sm hnl
    have hgl:out.getLast? = some out[n]:=by rw[List.getLast?_eq_getElem?,hn,Nat.add_sub_cancel,List.getElem?_eq_getElem hnl]
    have hqd:=bd out[n] (List.getElem_mem hnl)
    have hon1:out.length - 1=n:=by omega
    unfold addR at hts hal
    rw[hgl] at hts hal
    simp only[hon1] at hts hal
    generalize out[n]=q at *
    have orq:=hrq.one
    have crq:=hrq.cells
    have lrq:=hrq.lt
    have idN:id≠N.size:=by omega
    have hn10:(n:Nat)*10+10≤cs.length:=by omega
    have fin:∀ (x:Rn) (o':AV) (M':Mem),zBV (l.take (i+1))=out++[x]→x=e→rnK.ND M' 0 o' (out++[x])→Wf M'→Wf M'∧rnK.ND M' 0 o' (zBV (l.take (i+1)))∧(zBV (l.take (i+1))).length≤i+1 ∧ ∀ q∈zBV (l.take (i+1)),q.rs.length≤1000000:=by
     intro x o' M' h1 h2 h3 h4
     subst h2
     rw[h1]
     refine⟨h4,h3,by simp;omega,fun q hq=>?_⟩
     rcases List.mem_append.1 hq with h | h
     ·exact bd q h
     ·rw[List.mem_singleton] at h;subst h;exact hde
    cases c1:zN6 q e with
    | false =>
     rw[c1] at hts hal
     simp only[Bool.false_eq_true,if_false] at hts hal
     unfold zN6 at c1
     simp (disch:=try exact SX) only[RV,seval,zA0,g2,g13,g14,g15,q1,hiad,hra.fz.rows,hra.fz.one,hra.fz.cells,hra.fz.icy,hra.fz.frz,orq,crq,w,oo,oc,rlo,olen,w2,q2,hoad,hg,hpt]
     refine zQF (d:=d+2) (hrq.keep fun j hj=>?_) (by simp (disch:=try exact SX) only[RV,seval,zA0,w]) ?_
     ·have:=lrq j hj
      exact zB0s
     cases c2:decide (e.af=q.last) with
     | false =>
      simp (disch:=try exact SX) only[RV,seval,zA0,g2,g13,g14,g15,hra.fz.rows,hra.fz.one,hra.fz.cells,hra.fz.icy,hra.fz.frz,w,oo,oc,rlo,↓pIdE,zAA,↓pIdN,zA9,↓pHdE,zAB,↓pHdN,zAC,↓pLbE,zA8,↓pLbN,zAD,↓pSpE,zAE,↓pSpN,zAF,ETA,c2]
      exact zB03
     | true =>
      rw[c2,Bool.true_and] at c1
      simp (disch:=try exact SX) only[RV,seval,zA0,g2,g13,g14,g15,hra.fz.rows,hra.fz.one,hra.fz.cells,hra.fz.icy,hra.fz.frz,w,oo,oc,rlo,↓pIdE,zAA,↓pIdN,zA9,↓pHdE,zAB,↓pHdN,zAC,↓pLbE,zA8,↓pLbN,zAD,↓pSpE,zAE,↓pSpN,zAF,ETA,c2,c1]
      exact zB03
    | true =>
     rw[c1] at hts hal
     simp only[if_true] at hts hal
     unfold zN6 at c1
     simp only[Bool.and_eq_true] at c1
     obtain⟨c1,c2⟩:=c1
     obtain⟨v,⟨ca,cb,rfl,hca,hcb⟩,hcut⟩:=zKP (fuel:=fuel) (d:=d+1) (n:=room q) hra (by omega)
     have oca:=hca.one
     have ocb:=hcb.one
     have hpn:=hgt 4 (by omega)
     have hnx:decide (e.sp.f=(⟨e.af.hd,IntKind.i64.wrap (e.af.c+1)⟩:Eid))=true:=c2
     simp (disch:=try exact SX) only[RV,seval,zA0,g2,g13,g14,g15,q1,hiad,hra.fz.rows,hra.fz.one,hra.fz.cells,hra.fz.icy,hra.fz.frz,orq,crq,w,oo,oc,rlo,olen,w2,q2,hoad,hg,hpt]
     refine zQF (d:=d+2) (hrq.keep fun j hj=>?_) (by simp (disch:=try exact SX) only[RV,seval,zA0,w]) ?_
     ·have:=lrq j hj
      exact zB0s
     by_cases q3:e.cutE (room q)=0
     ·have q3':decide (e.cutE (room q)=0)=true:=decide_eq_true q3
      have eA:e.cutA (room q)=e.fst (room q):=by unfold Rn.cutA;rw[if_pos q3]
      have eB:e.cutB (room q)=e.snd (room q):=by unfold Rn.cutB;rw[if_pos q3]
      simp only[q3,if_true] at hts hal
      rw[eA] at hca hcut
      rw[eB] at hcb hcut
      have okA:=zaG hok q3
      have okB:=zb9 hok q3
      have lA:(e.fst (room q)).rs.length≤1000000:=by simp only[Rn.fst,List.length_take];omega
      have lB:(e.snd (room q)).rs.length≤1000000:=by simp only[Rn.snd,List.length_drop];omega
      have hjl:=zMX q (e.fst (room q))
      have hjok:=zQE hqok okA
      generalize e.fst (room q)=eF at *
      generalize e.snd (room q)=eS at *
      generalize hjj:zDV q eF=jj at *
      unfold room at hcut q3 q3'
      simp (disch:=try exact SX) only[RV,seval,zA0,g2,g13,g14,g15,hra.fz.rows,hra.fz.one,hra.fz.cells,hra.fz.icy,hra.fz.frz,w,oo,oc,rlo,olen,w2,hoad,hg,hpt,↓pIdE,zAA,↓pIdN,zA9,↓pHdE,zAB,↓pHdN,zAC,↓pLbE,zA8,↓pLbN,zAD,↓pSpE,zAE,↓pSpN,zAF,ETA,c1,hnx,hpn,hcut,q3',hca.fz.rows,hca.fz.one,hca.fz.cells,hca.fz.icy,hca.fz.frz,hcb.fz.rows,hcb.fz.one,hcb.fz.cells,hcb.fz.icy,hcb.fz.frz,orq,crq]
      refine zJR (fuel:=fuel) (d:=d) (a:=q) (b:=eF) (hrq.keep fun j hj=>?_) hca hqok okA hqd lA (by omega) (by simp (disch:=try exact SX) only[RV,seval,zA0,w]) fun jr U kU sU nU=>?_
      ·have:=lrq j hj
       exact zB0s
      rw[hjj] at sU ⊢
      have wU:=kU.wf
      have zU:N.size+3≤U.size:=kU.le
      have ojr:=sU.one
      have cjr:=sU.cells
      have rjr:=zAN sU.rl (Nat.le_refl U.size)
      have ljr:=sU.lt
      have nU:∀ j,rowOf jr=some j→N.size+3≤j:=nU
      have kN:∀ j,j<N.size→U.get j=N.get j:=fun j hj=>(kU.get j (by show j<N.size+3;omega)).trans (by simp (disch:=try exact SX) only[RV,seval,zA0,w])
      have gid:=(kN id lid).trans hg
      have k0:=kU.get N.size (by show _<N.size+3;omega)
      have k1:=kU.get (N.size+1) (by show _<N.size+3;omega)
      have k2:=kU.get (N.size+1+1) (by show _<N.size+3;omega)
      simp (disch:=try exact SX) only[RV,seval,zA0,w] at k0 k1 k2
      have rlU:=rlo U.size (by omega)
      have rlU1:=rlo (U.size+1) (by omega)
      simp (disch:=try exact SX) only[RV,seval,zA0,g2,g13,g14,g15,wU,oo,oc,rlU,rlU1,hoad,gid,k0,k1,k2,ojr,cjr,rjr,oca,ocb,hca.fz.rows,hca.fz.one,hca.fz.cells,hca.fz.icy,hca.fz.frz,hcb.fz.rows,hcb.fz.one,hcb.fz.cells,hcb.fz.icy,hcb.fz.frz]
      generalize hV:Mem.upd (Mem.upd (Mem.bk _ U) id _) N.size _=V
      have wV:Wf V:=by rw[← hV];simp (disch:=try exact SX) only[RV,seval,zA0,wU]
      have sV:V.size=U.size:=by rw[← hV];simp (disch:=try exact SX) only[RV,seval,zA0,wU]
      have gV:∀ j,j≠id→j≠N.size→V.get j=U.get j:=fun j h1 h2=>by rw[← hV];simp (disch:=try exact SX) only[RV,seval,zA0,wU]
      have giV:V.get id=some (.row false (lay cs (n*10) (rnR jj jr))):=by
       rw[← hV]
       simp (disch:=try exact SX) only[RV,seval,zA0,wU]
      have smV:rnK.ND V 0 o (out.set n jj):=hset V jj jr (by omega) (sU.keep fun j hj=>gV j (by have:=nU j hj;omega) (by have:=nU j hj;omega)) (fun j hj=>by have:=nU j hj;omega) hjok (fun j hj hne=>(gV j hne (by omega)).trans (kN j hj)) giV (Nat.zero_le _)
      refine zDM (fuel:=fuel) (d:=d+6) hcb (by omega) wV fun rt W kW sW nW=>?_
      have zW:V.size≤W.size:=kW.le
      have wW:=kW.wf
      have ort:=sW.one
      have crt:=sW.cells
      have rrt:=zAN sW.rl (Nat.le_refl W.size)
      have rlW:=rlo W.size (by omega)
      have rlW1:=rlo (W.size+1) (by omega)
      simp (disch:=try exact SX) only[RV,seval,zA0,g2,g13,g14,g15,wW,oo,oc,rlW,rlW1,ort,crt,rrt]
      refine NK.ND.app (K:=rnK) (ra:=rt) (x:=eS) (by':=80) wW smV (fun j _ hj=>kW.get j hj) kW.le ⟨rfl,ort,crt⟩ ⟨sW,fun j _=>Nat.zero_le j,okB⟩ nW (by rw[List.length_set];omega) (by rw[List.length_set];omega) (Nat.zero_le _) fun o' M' sm' w' le' kp nw wm'=>?_
      obtain⟨oo',oc',orl',olen',opu',olt'⟩:=ND.lr sm'
      simp (disch:=try exact SX) only[RV,seval,zA0,g2,g13,g14,g15,w1]
      refine⟨hlt,l.length - (i+1),by omega,i+1,o',rfl,by omega,rfl,rfl,w',by rw[hts];exact sm',by rw[hts];simp;omega,fun q' hq=>?_⟩
      rw[hts] at hq
      rcases List.mem_append.1 hq with h | h
      ·rcases List.mem_or_eq_of_mem_set h with h | rfl
       ·exact bd q' h
       ·omega
      ·rw[List.mem_singleton] at h;subst h;exact lB
     ·have q3':decide (e.cutE (room q)=0)=false:=decide_eq_false q3
      simp only[q3,if_false] at hts hal
      have hjl:=zMX q e
      have hjok:=zQE hqok hok
      generalize hjj:zDV q e=jj at *
      unfold room at q3 q3'
      generalize e.cutA (room q)=eF at *
      generalize e.cutB (room q)=eS at *
      unfold room at hcut
      simp (disch:=try exact SX) only[RV,seval,zA0,g2,g13,g14,g15,hra.fz.rows,hra.fz.one,hra.fz.cells,hra.fz.icy,hra.fz.frz,w,oo,oc,rlo,olen,w2,hoad,hg,hpt,↓pIdE,zAA,↓pIdN,zA9,↓pHdE,zAB,↓pHdN,zAC,↓pLbE,zA8,↓pLbN,zAD,↓pSpE,zAE,↓pSpN,zAF,ETA,c1,hnx,hpn,hcut,q3',hca.fz.rows,hca.fz.one,hca.fz.cells,hca.fz.icy,hca.fz.frz,hcb.fz.rows,hcb.fz.one,hcb.fz.cells,hcb.fz.icy,hcb.fz.frz,orq,crq]
      refine zJR (fuel:=fuel) (d:=d) (a:=q) (b:=e) (hrq.keep fun j hj=>?_) hra hqok hok hqd hde (by omega) (by simp (disch:=try exact SX) only[RV,seval,zA0,w]) fun jr U kU sU nU=>?_
      ·have:=lrq j hj
       exact zB0s
      rw[hjj] at sU ⊢
      have wU:=kU.wf
      have zU:N.size+3≤U.size:=kU.le
      have ojr:=sU.one
      have cjr:=sU.cells
      have rjr:=zAN sU.rl (Nat.le_refl U.size)
      have ljr:=sU.lt
      have nU:∀ j,rowOf jr=some j→N.size+3≤j:=nU
      have kN:∀ j,j<N.size→U.get j=N.get j:=fun j hj=>(kU.get j (by show j<N.size+3;omega)).trans (by simp (disch:=try exact SX) only[RV,seval,zA0,w])
      have gid:=(kN id lid).trans hg
      have k0:=kU.get N.size (by show _<N.size+3;omega)
      have k1:=kU.get (N.size+1) (by show _<N.size+3;omega)
      have k2:=kU.get (N.size+1+1) (by show _<N.size+3;omega)
      simp (disch:=try exact SX) only[RV,seval,zA0,w] at k0 k1 k2
      have rlU:=rlo U.size (by omega)
      have rlU1:=rlo (U.size+1) (by omega)
      have dU:U.dirty=false:=kU.di
      by_cases q4:zFZ q e=0
      ·have q4':decide (zFZ q e=0)=true:=decide_eq_true q4
       simp only[q4,if_true] at hts hal
       simp (disch:=try exact SX) only[RV,seval,zA0,g2,g13,g14,g15,wU,oo,oc,rlU,rlU1,hoad,gid,k0,k1,k2,ojr,cjr,rjr,oca,ocb,hca.fz.rows,hca.fz.one,hca.fz.cells,hca.fz.icy,hca.fz.frz,hcb.fz.rows,hcb.fz.one,hcb.fz.cells,hcb.fz.icy,hcb.fz.frz,q4',w1,dU,zMD]
       generalize hV:Mem.upd (Mem.upd (Mem.add (Mem.bk _ U) _) U.size _) id _=V
       have sV:V.size=U.size+1:=by rw[← hV];simp (disch:=try exact SX) only[RV,seval,zA0,wU]
       have gV:∀ j,j≠id→j<U.size→V.get j=U.get j:=fun j h1 h2=>by rw[← hV];simp (disch:=try exact SX) only[RV,seval,zA0,wU]
       have giV:V.get id=some (.row false (lay cs (n*10) (rnR jj jr))):=by
        rw[← hV]
        simp (disch:=try exact SX) only[RV,seval,zA0,wU]
       refine⟨hlt,l.length - (i+1),by omega,i+1,o,rfl,by omega,rfl,rfl, ?_,by rw[hts];simp;omega,fun q' hq=>?_⟩
       ·rw[hts]
        exact hset V jj jr (by omega) (sU.keep fun j hj=>gV j (by have:=nU j hj;omega) (ljr j hj)) (fun j hj=>by have:=nU j hj;omega) hjok (fun j hj hne=>(gV j hne (by omega)).trans (kN j hj)) giV (Nat.zero_le _)
       ·rw[hts] at hq
        rcases List.mem_or_eq_of_mem_set hq with h | rfl
        ·exact bd q' h
        ·omega
      ·have q4':decide (zFZ q e=0)=false:=decide_eq_false q4
       simp only[q4,if_false] at hts hal
       simp (disch:=try exact SX) only[RV,seval,zA0,g2,g13,g14,g15,wU,oo,oc,rlU,rlU1,hoad,gid,k0,k1,k2,ojr,cjr,rjr,oca,ocb,hca.fz.rows,hca.fz.one,hca.fz.cells,hca.fz.icy,hca.fz.frz,hcb.fz.rows,hcb.fz.one,hcb.fz.cells,hcb.fz.icy,hcb.fz.frz,hra.fz.rows,hra.fz.one,hra.fz.cells,hra.fz.icy,hra.fz.frz,q4',dU,zMD]
       generalize hV:Mem.upd (Mem.add (Mem.bk _ U) _) U.size _=V
       have wV:Wf V:=by rw[← hV];simp (disch:=try exact SX) only[RV,seval,zA0,wU]
       have sV:V.size=U.size+1:=by rw[← hV];simp (disch:=try exact SX) only[RV,seval,zA0,wU]
       have gV:∀ j,j<U.size→V.get j=U.get j:=fun j h2=>by rw[← hV];simp (disch:=try exact SX) only[RV,seval,zA0,wU]
       refine zDM (fuel:=fuel) (d:=d+6) hra (by omega) wV fun rt W kW sW nW=>?_
       have zW:V.size≤W.size:=kW.le
       have wW:=kW.wf
       have ort:=sW.one
       have crt:=sW.cells
       have rrt:=zAN sW.rl (Nat.le_refl W.size)
       have rlW:=rlo W.size (by omega)
       have rlW1:=rlo (W.size+1) (by omega)
       simp (disch:=try exact SX) only[RV,seval,zA0,g2,g13,g14,g15,wW,oo,oc,rlW,rlW1,ort,crt,rrt]
       refine NK.ND.app (K:=rnK) (ra:=rt) (x:=e) (by':=80) wW sm (fun j _ hj=>(kW.get j (by omega)).trans ((gV j (by omega)).trans (kN j hj))) (by omega) ⟨rfl,ort,crt⟩ ⟨sW,fun j _=>Nat.zero_le j,hok⟩ (fun j hj=>by have:=nW j hj;omega) (by omega) (by omega) (Nat.zero_le _) fun o' M' sm' w' le' kp nw wm'=>?_
       obtain⟨oo',oc',orl',olen',opu',olt'⟩:=ND.lr sm'
       simp (disch:=try exact SX) only[RV,seval,zA0,g2,g13,g14,g15,w1]
       exact⟨hlt,l.length - (i+1),by omega,i+1,o',rfl,by omega,rfl,rfl,fin e o' M' hts rfl sm' w'⟩
  ·obtain rfl:i=l.length:=by omega
   have q1:decide ((l.length:Int)<l.length)=false:=DF
   rw[List.take_length] at sm
   simp (disch:=try exact SX) only[RV,seval,zA0,g2,g13,g14,g15,q1,oo,oc]
   exact⟨opu,sm⟩
theorem ND.mono {o:AV}{l:List Rn}{B B':Nat}(h:rnK.ND M B o l)(hb:B'≤B):rnK.ND M B' o l:=by
 exact zB0K
theorem zZQ {M2:Mem}{o:AV}{l:List Rn}(h:rnK.ND M2 0 o l)(wf:Wf M):rnK.ND (M.app M2) M.size (shA M.size o) l :=
 h.sh (fun x=>by show purL (rnH x)=true;simp [rnH,spR,idR,purL,purA]) zJ8 (zRB wf)
theorem zI1 {o:AV}{l:List Rn}(hS:SlM M 10 isRn o l)(hl:l.length≤100000)(hd:∀ r∈l,r.rs.length≤1000000)(hf:l.length+3000000<fuel)(wf:Wf M)(k:∀ r N,Kept M N→rnK.ND N M.size r (zBV l)→Q r N):W3 (zCN fuel (d+9) 48 [o] M) Q:=by
 obtain⟨a',N',i1,b1,_⟩:=zGG hS wf zFI (k:=12) (by omega)
 exact zDC.use (zQK (fuel:=fuel) (d:=d) b1 hl hd hf) (M0:=N') (by simp only[icyL,i1]) wf fun r M2 hr=>k _ _ (zEE wf) (zZQ hr wf)
theorem zN2 {a:AV}{l:List Rn}(hS:Sl 10 isRn a l)(hl:l.length≤100000)(hd:∀ r∈l,r.rs.length≤1000000)(hf:l.length+3000000<fuel)(wf:Wf M)(k:∀ r N,Kept M N→rnK.ND N M.size r (zBV l)→Q r N):W3 (zCN fuel (d+9) 48 [a] M) Q :=
 zDC.use (zQK (fuel:=fuel) (d:=d) hS hl hd hf) (M0:=M) (by simp only[icyL,hS.icy M 12 (by omega)]) wf fun r M2 hr=>k _ _ (zEE wf) (zZQ hr wf)
theorem zaY {f n B:Nat}{af:AFunc}{o y:AV}{l:List Rn}{w:Value}(h:fsT tbl f=some af)(hg:af.gc=2)(hN:rnK.ND M B o l)(wf:Wf M)(hy:∀ M,icy 12 M y=some (y,M))(hc:∀ o',Sl 10 isRn o' l → ∀ M,zAR Tryz.prog (fsT tbl) fuel (n+1) (.fn f) [o',y] M=some (.sc w,M)):zAR Tryz.prog (fsT tbl) fuel (n+1) (.fn f) [o,y] M=some (.sc w,M):=by
 obtain⟨o',M',i1,s1,_⟩:=hN.nn.nr.icyk wf (k:=11) (by omega)
 have s2:Sl 10 isRn o' l:=s1
 exact zB0E
def Rn.elR (r:Rn):List El:=(List.range r.sp.n.toNat).map fun (i:Nat)=>⟨r.sp.at i,r.afAt i,r.rs.getD i 0⟩
def elsR (l:List Rn):List El:=l.flatMap Rn.elR
theorem zF5 (l m:List Rn):elsR (l++m)=elsR l++elsR m:=by simp [elsR]
theorem zDD (l:List Rn)(r:Rn):elsR (l++[r])=elsR l++r.elR:=by simp [elsR]
theorem zd9 (r:Rn):prs r.elR=r.els:=by simp [prs,Rn.elR,Rn.els,Function.comp_def]
theorem zLR (l:List Rn):prs (elsR l)=elsL l:=by
 induction l with
 | nil=>rfl
 | cons r l ih =>
  have:elsR (r::l)=r.elR++elsR l:=by simp [elsR]
  rw[this]
  unfold prs at *
  rw[List.map_append,ih]
  have:=zd9 r
  unfold prs at this
  rw[this]
  simp [elsL]
theorem zBL (r:Rn):r.elR.length=r.sp.n.toNat:=by simp [Rn.elR]
theorem zBZ (r:Rn)(i:Nat)(h:i<r.elR.length):r.elR[i]=⟨r.sp.at i,r.afAt i,r.rs.getD i 0⟩:=by simp [Rn.elR]
def goes (q:Rn)(x:El):Bool:=decide (q.sp.n<64)&&decide (x.af=q.sp.at (q.sp.n - 1))&&decide (x.id=q.sp.at q.sp.n)
def one (x:El):Rn:=⟨⟨x.id,1⟩,x.af,[x.ch]⟩
def more (q:Rn)(x:El):Rn:=⟨⟨q.sp.f,q.sp.n+1⟩,q.af,q.rs++[x.ch]⟩
def addX (out:List Rn)(x:El):List Rn :=
 match out.getLast? with
 | none=>out++[one x]
 | some q=>if goes q x then out.set (out.length - 1) (more q x) else out++[one x]
theorem zR9 {α:Type}(o:List α)(q x:α):(o++[q]).set ((o++[q]).length - 1) x=o++[x]:=by simp
theorem zG8 (x:El):addX [] x=[one x]:=rfl
theorem zCW (o:List Rn)(q:Rn)(x:El):addX (o++[q]) x=if goes q x then o++[more q x] else o++[q]++[one x]:=by
 unfold addX
 rw[List.getLast?_concat]
 simp only[zR9]
theorem zSU (o:List Rn)(q r:Rn):addR (o++[q]) r=if zN6 q r=true then (if r.cutE (room q)=0 then o++[zDV q (r.fst (room q))]++[r.snd (room q)] else if zFZ q r=0 then o++[zDV q r] else o++[q]++[r]) else o++[q]++[r]:=by
 unfold addR
 rw[List.getLast?_concat]
 simp only[zR9]
def zC5 (E:List El):List Rn:=E.foldl addX []
theorem at_at (s:Spn)(a b n:Int):(⟨s.at a,n⟩:Spn).at b=s.at (a+b):=by
 simp only[Spn.at]
 rw[Int.add_assoc]
theorem zW8 {r:Rn}{k:Nat}(hk:0<k):(r.snd k).elR=r.elR.drop k:=by
 apply List.ext_getElem
 ·rw[List.length_drop,zBL,zBL]
  simp only[Rn.snd];omega
 ·intro i h1 h2
  rw[List.getElem_drop,zBZ,zBZ]
  have e1:(r.snd k).sp.at i=r.sp.at ((k+i:Nat):Int):=by
   simp only[Rn.snd,at_at];congr 1
  have e2:(r.snd k).afAt i=r.afAt ((k+i:Nat):Int):=by
   unfold Rn.afAt
   rw[if_pos (show (0:Int)<((k+i:Nat):Int) by omega)]
   by_cases h:(0:Int)<i
   ·rw[if_pos h]
    simp only[Rn.snd,at_at];congr 1;omega
   ·rw[if_neg h]
    simp only[Rn.snd];congr 1;omega
  have e3:(r.snd k).rs.getD i 0=r.rs.getD (k+i) 0:=by
   simp only[Rn.snd,Int.toNat_natCast,List.getD_eq_getElem?_getD,List.getElem?_drop]
  rw[e1,e2,e3]
theorem zU5 {r:Rn}{k:Nat}(hk:(k:Int)≤r.sp.n):(r.fst k).elR=r.elR.take k:=by
 apply List.ext_getElem
 ·rw[List.length_take,zBL,zBL]
  simp only[Rn.fst];omega
 ·intro i h1 h2
  rw[List.length_take,zBL] at h2
  rw[List.getElem_take,zBZ,zBZ]
  have e3:(r.fst k).rs.getD i 0=r.rs.getD i 0:=by
   simp only[Rn.fst,Int.toNat_natCast,List.getD_eq_getElem?_getD]
   rw[List.getElem?_take_of_lt (by omega)]
  rw[e3]
  rfl
theorem zGW {α:Type}(l:List α)(i:Nat)(h:i<l.length):l.drop i=l[i]::l.drop (i+1):=List.drop_eq_getElem_cons h
theorem feed {q r:Rn}(o:List Rn)(n:Nat)(hn:r.sp.n=n)(hl:r.rs.length=n)(k:Nat):∀ (j:Nat),j+k≤n→q.sp.n+j+k≤64→0≤q.sp.n→(∀ i:Nat,j≤i→i<j+k→r.sp.at i=q.sp.at (q.sp.n+i)∧r.afAt i=q.sp.at (q.sp.n+i - 1)) →
  ((r.elR.drop j).take k).foldl addX (o++[⟨⟨q.sp.f,q.sp.n+j⟩,q.af,q.rs++r.rs.take j⟩])=o++[⟨⟨q.sp.f,q.sp.n+(j+k:Nat)⟩,q.af,q.rs++r.rs.take (j+k)⟩]:=by
 induction k with
 | zero=>intro j _ _ _ _;simp
 | succ k ih =>
  intro j h1 h2 h3 h4
  have hj:j<r.elR.length:=by rw[zBL];omega
  have hjr:j<r.rs.length:=by omega
  rw[zGW _ _ hj,List.take_succ_cons,List.foldl_cons,zCW,zBZ]
  have hg:goes (⟨⟨q.sp.f,q.sp.n+j⟩,q.af,q.rs++r.rs.take j⟩:Rn) ⟨r.sp.at j,r.afAt j,r.rs.getD j 0⟩=true:=by
   unfold goes
   simp only[Bool.and_eq_true,decide_eq_true_eq]
   exact⟨⟨by omega,(h4 j (by omega) (by omega)).2⟩,(h4 j (by omega) (by omega)).1⟩
  rw[if_pos hg]
  have hm:more (⟨⟨q.sp.f,q.sp.n+j⟩,q.af,q.rs++r.rs.take j⟩:Rn) ⟨r.sp.at j,r.afAt j,r.rs.getD j 0⟩=⟨⟨q.sp.f,q.sp.n+(j+1:Nat)⟩,q.af,q.rs++r.rs.take (j+1)⟩:=by
   unfold more
   have e:r.rs.getD j 0=r.rs[j]:=by rw[List.getD_eq_getElem?_getD,List.getElem?_eq_getElem hjr];rfl
   rw[e,zBO _ _ hjr,List.append_assoc]
   simp only[Int.natCast_add,Int.natCast_one,Int.add_assoc]
  rw[hm,ih (j+1) (by omega) (by omega) h3 fun i hj' hi=>h4 i (by omega) (by omega)]
  rw[show j+1+k=j+(k+1) by omega]
theorem zD7 {r:Rn}(h:1≤r.sp.n):r.elR=⟨r.sp.f,r.af,r.rs.getD 0 0⟩::r.elR.drop 1:=by
 have h0:0<r.elR.length:=by rw[zBL];omega
 have:=zGW r.elR 0 h0
 rw[List.drop_zero] at this
 refine this.trans ?_
 rw[zBZ]
 simp [Spn.at,Rn.afAt]
theorem zXU {r:Rn}(o:List Rn)(n:Nat)(hn:r.sp.n=n)(hl:r.rs.length=n)(h1:1≤n)(h2:n≤64):(r.elR.drop 1).foldl addX (o++[one ⟨r.sp.f,r.af,r.rs.getD 0 0⟩])=o++[r]:=by
 have e:(r.elR.drop 1).take (n - 1)=r.elR.drop 1:=by
  rw[List.take_of_length_le]
  rw[List.length_drop,zBL];omega
 rw[← e]
 have:=feed (q:=⟨⟨r.sp.f,0⟩,r.af,[]⟩) (r:=r) o n hn hl (n - 1) 1 (by omega) (by simp only;omega) (Int.le_refl _) fun i hj hi=>?_
 ·have e1:(⟨⟨r.sp.f,0+(1:Nat)⟩,r.af,[]++r.rs.take 1⟩:Rn)=one ⟨r.sp.f,r.af,r.rs.getD 0 0⟩:=by
   unfold one
   have e0:r.rs.take 1=[r.rs.getD 0 0]:=by
    rw[zBO r.rs 0 (by omega),List.getD_eq_getElem?_getD,List.getElem?_eq_getElem (show 0<r.rs.length by omega)]
    simp
   rw[e0];rfl
  have e2:(⟨⟨r.sp.f,0+(1+(n - 1):Nat)⟩,r.af,[]++r.rs.take (1+(n - 1))⟩:Rn)=r:=by
   have:1+(n - 1)=n:=by omega
   rw[this,List.take_of_length_le (by omega),List.nil_append,Int.zero_add,← hn]
  simp only at this
  rw[e1,e2] at this
  exact this
 ·unfold Rn.afAt
  rw[if_pos (show (0:Int)<i by omega)]
  simp only[Spn.at,Int.zero_add,true_and]
theorem zbN {l:List Int}:chkR l=0↔l.length≤64∧l.all okR=true:=by
 unfold chkR
 by_cases h:64<l.length
 ·rw[if_pos h];simp;omega
 ·rw[if_neg h]
  cases l.all okR <;> simp [err]
  omega
theorem Rn.may_iff {r:Rn}:r.may=true↔r.sp.may=true∧(r.af=Eid.z∨(r.af.may=true∧r.af.c<r.sp.f.c))∧(r.rs.length:Int)=r.sp.n∧r.rs.length≤64∧r.rs.all okR=true:=by
 unfold Rn.may
 simp only[Bool.and_eq_true,Bool.or_eq_true,decide_eq_true_eq,zbN,and_assoc]
theorem Spn.may_iff {s:Spn}:s.may=true↔s.f.may=true∧1≤s.n∧s.n≤64∧s.f.c+s.n≤1099511627777:=by
 unfold Spn.may
 simp only[Bool.and_eq_true,decide_eq_true_eq,and_assoc]
theorem Eid.may_iff {x:Eid}:x.may=true↔x.hd.may=true∧1≤x.c∧x.c≤1099511627776:=by
 unfold Eid.may
 simp only[Bool.and_eq_true,decide_eq_true_eq,and_assoc]
theorem zHU {q r:Rn}(hq:q.may=true)(hr:r.may=true)(h1:r.sp.f=q.sp.at q.sp.n)(h2:q.sp.n+r.sp.n≤64):(q.both r).may=true:=by
 rw[Rn.may_iff] at *
 obtain⟨a1,a2,a3,a4,a5⟩:=hq
 obtain⟨b1,b2,b3,b4,b5⟩:=hr
 rw[Spn.may_iff] at *
 rw[h1] at b1
 simp only[Rn.both,Spn.at,List.length_append,List.all_append,a5,b5,Bool.and_self,and_true,Int.natCast_add] at *
 exact⟨⟨a1.1,by omega,by omega,by omega⟩,a2,by omega,by omega⟩
theorem zQ9 {r:Rn}{k:Nat}(hr:r.may=true)(h0:0<k)(h1:(k:Int)≤r.sp.n):(r.fst k).may=true:=by
 rw[Rn.may_iff] at *
 obtain⟨a1,a2,a3,a4,a5⟩:=hr
 rw[Spn.may_iff] at *
 simp only[Rn.fst,Int.toNat_natCast,List.length_take]
 refine⟨⟨a1.1,by omega,by omega,by omega⟩,a2,by omega,by omega, ?_⟩
 rw[List.all_eq_true] at *
 exact fun x hx=>a5 x (List.mem_of_mem_take hx)
theorem zRD {r:Rn}{k:Nat}(hr:r.may=true)(h0:0<k)(h1:(k:Int)<r.sp.n):(r.snd k).may=true:=by
 rw[Rn.may_iff] at *
 obtain⟨a1,a2,a3,a4,a5⟩:=hr
 rw[Spn.may_iff,Eid.may_iff] at *
 simp only[Rn.snd,Spn.at,Int.toNat_natCast,List.length_drop,Eid.may_iff]
 refine⟨⟨⟨a1.1.1,by omega,by omega⟩,by omega,by omega,by omega⟩,.inr ⟨⟨a1.1.1,by omega,by omega⟩,by omega⟩,by omega,by omega, ?_⟩
 rw[List.all_eq_true] at *
 exact fun x hx=>a5 x (List.mem_of_mem_drop hx)
theorem Rn.last_at {q:Rn}(h:q.may=true):q.last=q.sp.at (q.sp.n - 1):=by
 unfold Rn.last
 rw[if_pos (Rn.may_sp h)]
theorem zQO {q r:Rn}(hq:q.may=true):zN6 q r=true↔r.af=q.sp.at (q.sp.n - 1)∧r.sp.f=q.sp.at q.sp.n:=by
 unfold zN6
 rw[Rn.last_at hq]
 simp only[Bool.and_eq_true,decide_eq_true_eq]
 have hb:=Spn.may_le (Rn.may_sp hq)
 constructor
 ·exact zB0I
 ·exact zB0I
theorem zLG {q r:Rn}(hq:q.may=true)(hr:r.may=true)(h1:r.af=q.sp.at (q.sp.n - 1))(h2:r.sp.f=q.sp.at q.sp.n)(h3:q.sp.n+r.sp.n≤64):zFZ q r=0:=by
 have bq:=Spn.may_le (Rn.may_sp hq)
 have br:=Spn.may_le (Rn.may_sp hr)
 have lq:=Rn.may_len hq
 rw[zGI,Rn.cutE_iff]
 refine⟨hq,hr,⟨zHU hq hr h2 h3,by omega,by simp only[Rn.both];omega⟩, ?_, ?_⟩
 ·unfold Rn.both Rn.fst
  simp only
  rw[List.take_append_of_le_length (by omega),List.take_of_length_le (by omega)]
 ·unfold Rn.both Rn.snd
  simp only
  have e1:q.sp.n.toNat=q.rs.length:=by omega
  rw[e1,List.drop_left]
  have e2:(⟨q.sp.f,q.sp.n+r.sp.n⟩:Spn).at q.sp.n=r.sp.f:=h2.symm
  have e3:(⟨q.sp.f,q.sp.n+r.sp.n⟩:Spn).at (q.sp.n - 1)=r.af:=h1.symm
  rw[e2,e3,show q.sp.n+r.sp.n - q.sp.n=r.sp.n by omega]
theorem zWQ {o:List Rn}{q r:Rn}(hq:q.may=true)(hr:r.may=true):addR (o++[q]) r=r.elR.foldl addX (o++[q]) ∧ ∃ o' q',addR (o++[q]) r=o'++[q']∧(∀ x∈o',x∈o∨x.may=true)∧q'.may=true:=by
 have bq:=Spn.may_le (Rn.may_sp hq)
 have br:=Spn.may_le (Rn.may_sp hr)
 have lq:=Rn.may_len hq
 have lr:=Rn.may_len hr
 obtain⟨n,hn⟩:∃ n:Nat,r.sp.n=n:=⟨r.sp.n.toNat,by omega⟩
 have hrm:room q=64 - q.sp.n:=by unfold room;rw[wrap_i64 (by omega) (by omega)]
 have hqo:∀ x∈o++[q],x∈o∨x.may=true:=fun x hx=>by
  rcases List.mem_append.1 hx with h | h
  ·exact .inl h
  ·rw[List.mem_singleton] at h;subst h;exact .inr hq
 rw[zSU]
 by_cases h:zN6 q r=true
 ·rw[if_pos h]
  rw[zQO hq] at h
  obtain⟨h1,h2⟩:=h
  have h4:∀ i:Nat,i<n→r.sp.at i=q.sp.at (q.sp.n+i)∧r.afAt i=q.sp.at (q.sp.n+i - 1):=fun i hi=>by
   have e:r.sp.at i=q.sp.at (q.sp.n+i):=by
    simp only[Spn.at] at h2 ⊢
    rw[h2]
    simp only[Int.add_assoc]
   refine⟨e, ?_⟩
   unfold Rn.afAt
   by_cases h0:(0:Int)<i
   ·rw[if_pos h0]
    simp only[Spn.at] at h2 ⊢
    rw[h2]
    simp only
    congr 1;omega
   ·have:(i:Int)=0:=by omega
    rw[if_neg h0,this,h1,Int.add_zero]
  have hq0:o++[q]=o++[⟨⟨q.sp.f,q.sp.n+(0:Nat)⟩,q.af,q.rs++r.rs.take 0⟩]:=by simp
  by_cases h5:q.sp.n+r.sp.n≤64
  ·have hc:¬r.cutE (room q)=0:=by rw[Rn.cutE_iff,hrm];omega
   rw[if_neg hc,if_pos (zLG hq hr h1 h2 h5)]
   have hj:zDV q r=q.both r:=by unfold zDV;rw[if_pos (zLG hq hr h1 h2 h5)]
   rw[hj]
   refine⟨?_,o,_,rfl,fun x hx => .inl hx,zHU hq hr h2 h5⟩
   have:=feed (q:=q) (r:=r) o n hn (by omega) n 0 (by omega) (by omega) (by omega) fun i _ hi=>h4 i (by omega)
   rw[← hq0,List.drop_zero,List.take_of_length_le (by rw[zBL];omega)] at this
   rw[this]
   unfold Rn.both
   rw[Nat.zero_add,List.take_of_length_le (by omega),hn]
  ·by_cases h6:q.sp.n<64
   ·obtain⟨k,hk⟩:∃ k:Nat,room q=k:=⟨(room q).toNat,by omega⟩
    have hc:r.cutE (room q)=0:=by rw[Rn.cutE_iff,hrm];exact⟨hr,by omega,by omega⟩
    rw[if_pos hc,hk]
    have fm:=zQ9 (k:=k) hr (by omega) (by omega)
    have sm:=zRD (k:=k) hr (by omega) (by omega)
    have je:=zLG hq fm h1 h2 (by simp only[Rn.fst];omega)
    have hj:zDV q (r.fst k)=q.both (r.fst k):=by unfold zDV;rw[if_pos je]
    rw[hj]
    refine⟨?_,_,_,rfl,fun x hx=>?_,sm⟩
    ·have:=feed (q:=q) (r:=r) o n hn (by omega) k 0 (by omega) (by omega) (by omega) fun i _ hi=>h4 i (by omega)
     rw[← hq0,List.drop_zero] at this
     rw[← List.take_append_drop k r.elR,List.foldl_append,this]
     have e1:(⟨⟨q.sp.f,q.sp.n+((0+k:Nat):Int)⟩,q.af,q.rs++r.rs.take (0+k)⟩:Rn)=q.both (r.fst k):=by
      unfold Rn.both Rn.fst
      rw[Nat.zero_add,Int.toNat_natCast]
     rw[e1,← zW8 (by omega),zD7 (Spn.may_le (Rn.may_sp sm)).2.2.1,List.foldl_cons,zCW,if_neg]
     ·have hsn:(r.snd k).sp.n=(n - k:Nat):=by simp only[Rn.snd];omega
      have hsl:(r.snd k).rs.length=n - k:=by have:=Rn.may_len sm;omega
      exact(zXU _ (n - k) hsn hsl (by omega) (by omega)).symm
     ·intro hg
      unfold goes at hg
      rw[Bool.and_eq_true,Bool.and_eq_true] at hg
      have:=of_decide_eq_true hg.1.1
      simp only[Rn.both,Rn.fst] at this
      omega
    ·rcases List.mem_append.1 hx with hx | hx
     ·exact .inl hx
     ·rw[List.mem_singleton] at hx;subst hx
      exact .inr (zHU hq fm h2 (by simp only[Rn.fst];omega))
   ·have hc:¬r.cutE (room q)=0:=by rw[Rn.cutE_iff,hrm];omega
    have hj:¬zFZ q r=0:=by
     rw[zGI,Rn.cutE_iff]
     rintro⟨_,_,⟨hm,_⟩,_⟩
     have:=(Spn.may_le (Rn.may_sp hm)).2.2.2.1
     simp only[Rn.both] at this
     omega
    rw[if_neg hc,if_neg hj]
    refine⟨?_,_,_,rfl,hqo,hr⟩
    rw[zD7 (by omega),List.foldl_cons,zCW,if_neg]
    ·exact(zXU _ n hn (by omega) (by omega) (by omega)).symm
    ·unfold goes
     simp only[Bool.and_eq_true,decide_eq_true_eq]
     omega
 ·rw[if_neg h]
  refine⟨?_,_,_,rfl,hqo,hr⟩
  rw[zD7 (by omega),List.foldl_cons,zCW,if_neg]
  ·exact(zXU _ n hn (by omega) (by omega) (by omega)).symm
  ·unfold goes
   simp only[Bool.and_eq_true,decide_eq_true_eq]
   rintro⟨⟨_,h2⟩,h3⟩
   exact h ((zQO hq).2 ⟨h2,h3⟩)
theorem zCS {l:List Rn}(h:∀ r∈l,r.may=true):zBV l=zC5 (elsR l) ∧ ∀ r∈zBV l,r.may=true:=by
 revert h
 refine zDA (P:=fun l=>(∀ r∈l,r.may=true)→zBV l=zC5 (elsR l) ∧ ∀ r∈zBV l,r.may=true) (fun _=>⟨rfl,fun r hr=>absurd hr (by simp [zBV])⟩) (fun l r ih h=>?_) l
 obtain⟨e,hm⟩:=ih fun x hx=>h x (List.mem_append_left _ hx)
 have hr:=h r (List.mem_append_right _ List.mem_cons_self)
 have br:=Spn.may_le (Rn.may_sp hr)
 have lr:=Rn.may_len hr
 have hs:zBV (l++[r])=addR (zBV l) r:=by simp [zBV]
 rw[hs,zDD]
 unfold zC5 at *
 rw[List.foldl_append,← e]
 generalize zBV l=out at *
 rcases zCJ out with rfl | ⟨o,q,rfl⟩
 ·have ha:addR [] r=[r]:=rfl
  rw[ha]
  refine⟨?_,fun x hx=>by rw[List.mem_singleton] at hx;subst hx;exact hr⟩
  rw[zD7 (by omega),List.foldl_cons,zG8]
  exact(zXU [] r.sp.n.toNat (by omega) (by omega) (by omega) (by omega)).symm
 ·have hq:=hm q (List.mem_append_right _ List.mem_cons_self)
  obtain⟨h1,o',q',h2,h3,h4⟩:=zWQ (o:=o) hq hr
  refine⟨h1,fun x hx=>?_⟩
  rw[h2] at hx
  rcases List.mem_append.1 hx with hx | hx
  ·rcases h3 x hx with k | k
   ·exact hm x (List.mem_append_left _ k)
   ·exact k
  ·rw[List.mem_singleton] at hx;subst hx;exact h4
def El.may (x:El):Bool:=x.id.may&&(decide (x.af=Eid.z) || (x.af.may&&decide (x.af.c<x.id.c)))&&okR x.ch
theorem El.may_iff {x:El}:x.may=true↔x.id.may=true∧(x.af=Eid.z∨(x.af.may=true∧x.af.c<x.id.c))∧okR x.ch=true:=by
 unfold El.may
 simp only[Bool.and_eq_true,Bool.or_eq_true,decide_eq_true_eq,and_assoc]
theorem El.may_ct {x:El}(h:x.may=true):x.af.c<x.id.c∧0<x.id.c:=by
 rw[El.may_iff,Eid.may_iff] at h
 obtain⟨h1,h2,_⟩:=h
 rcases h2 with h2 | h2
 ·rw[h2];exact⟨by show (0:Int)<_;omega,by omega⟩
 ·exact⟨h2.2,by omega⟩
theorem zOE {r:Rn}(hr:r.may=true):∀ x∈r.elR,x.may=true:=by
 intro x hx
 have br:=Spn.may_le (Rn.may_sp hr)
 have lr:=Rn.may_len hr
 obtain⟨i,hi,rfl⟩:=List.getElem_of_mem hx
 rw[zBL] at hi
 rw[zBZ]
 rw[Rn.may_iff,Spn.may_iff,Eid.may_iff] at hr
 obtain⟨⟨h1,h2⟩,h3,h4,h5,h6⟩:=hr
 rw[El.may_iff,Eid.may_iff]
 simp only[Spn.at]
 refine⟨⟨h1.1,by omega,by omega⟩, ?_, ?_⟩
 ·unfold Rn.afAt
  by_cases h0:(0:Int)<i
  ·rw[if_pos h0,Eid.may_iff]
   simp only[Spn.at]
   exact .inr ⟨⟨h1.1,by omega,by omega⟩,by omega⟩
  ·rw[if_neg h0]
   rcases h3 with h3 | h3
   ·exact .inl h3
   ·exact .inr ⟨h3.1,by omega⟩
 ·rw[List.getD_eq_getElem?_getD,List.getElem?_eq_getElem (by omega)]
  exact List.all_eq_true.1 h6 _ (List.getElem_mem _)
theorem zQ3 {l:List Rn}(h:∀ r∈l,r.may=true):∀ x∈elsR l,x.may=true:=by
 intro x hx
 obtain⟨r,hr,hx⟩:=List.mem_flatMap.1 hx
 exact zOE (h r hr) x hx
theorem zbS {r:Rn}(hr:r.may=true):Chn r.af r.elR:=by
 have br:=Spn.may_le (Rn.may_sp hr)
 have key:∀ k i:Nat,i+k=r.sp.n.toNat→0<i→Chn (r.sp.at ((i:Int) - 1)) (r.elR.drop i):=by
  intro k
  induction k with
  | zero=>intro i hi _;rw[List.drop_of_length_le (by rw[zBL];omega)];trivial
  | succ k ih =>
   intro i hi h0
   have hl:i<r.elR.length:=by rw[zBL];omega
   rw[zGW _ _ hl,zBZ]
   have:=ih (i+1) (by omega) (by omega)
   refine⟨?_, ?_, ?_⟩
   ·unfold Rn.afAt
    rw[if_pos (by omega)]
   ·simp only[Spn.at];omega
   ·have e:((i+1:Nat):Int) - 1=i:=by omega
    rw[e] at this
    exact this
 rw[zD7 (by omega)]
 have:=key (r.sp.n.toNat - 1) 1 (by omega) (by omega)
 refine⟨rfl, ?_, ?_⟩
 ·have:=(El.may_ct (zOE hr ⟨r.sp.f,r.af,r.rs.getD 0 0⟩ (by rw[zD7 (by omega)];exact List.mem_cons_self))).1
  exact this
 ·simpa [Spn.at] using this
theorem zEV (E:List El):elsR (zC5 E)=E ∧ ∀ q∈zC5 E,1≤q.sp.n∧(q.rs.length:Int)=q.sp.n:=by
 refine zDA (P:=fun E=>elsR (zC5 E)=E ∧ ∀ q∈zC5 E,1≤q.sp.n∧(q.rs.length:Int)=q.sp.n) ⟨rfl,fun q hq=>absurd hq (by simp [zC5])⟩ (fun E x ih=>?_) E
 obtain⟨h1,h2⟩:=ih
 have hs:zC5 (E++[x])=addX (zC5 E) x:=by simp [zC5]
 rw[hs]
 have ho:(one x).elR=[x]:=by
  rw[zD7 (by simp only[one];omega),List.drop_of_length_le (by rw[zBL];simp [one])]
  simp [one]
 have h1x:1≤(one x).sp.n∧((one x).rs.length:Int)=(one x).sp.n:=⟨Int.le_refl _,rfl⟩
 generalize zC5 E=out at *
 rcases zCJ out with rfl | ⟨o,q,rfl⟩
 ·rw[zG8]
  have:E=[]:=by rw[← h1];rfl
  subst this
  refine⟨?_,fun q hq=>by rw[List.mem_singleton] at hq;subst hq;exact h1x⟩
  simp [elsR,ho]
 ·rw[zCW]
  obtain⟨hq1,hq2⟩:=h2 q (List.mem_append_right _ List.mem_cons_self)
  by_cases hg:goes q x=true
  ·rw[if_pos hg]
   unfold goes at hg
   simp only[Bool.and_eq_true,decide_eq_true_eq] at hg
   obtain⟨⟨g1,g2⟩,g3⟩:=hg
   refine⟨?_,fun y hy=>?_⟩
   ·rw[zDD] at h1
    rw[zDD,← h1,List.append_assoc]
    congr 1
    apply List.ext_getElem
    ·rw[List.length_append,zBL,zBL]
     simp only[more,List.length_singleton];omega
    ·intro i i1 i2
     rw[zBZ]
     by_cases hi:i<q.elR.length
     ·rw[List.getElem_append_left hi,zBZ]
      rw[zBL] at hi
      have e3:(more q x).rs.getD i 0=q.rs.getD i 0:=by
       simp only[more,List.getD_eq_getElem?_getD]
       rw[List.getElem?_append_left (by omega)]
      rw[e3];rfl
     ·have hi':i=q.elR.length:=by
       rw[zBL] at i1 hi ⊢
       simp only[more] at i1
       omega
      rw[List.getElem_append_right (Nat.le_of_not_lt hi),List.getElem_singleton]
      rw[zBL] at hi'
      rw[hi']
      clear hi' i1 i2 hi
      obtain⟨xi,xa,xc⟩:=x
      simp only at g2 g3
      have e:((q.sp.n.toNat:Nat):Int)=q.sp.n:=by omega
      have e3:(more q ⟨xi,xa,xc⟩).rs.getD q.sp.n.toNat 0=xc:=by
       simp only[more,List.getD_eq_getElem?_getD]
       rw[List.getElem?_append_right (by omega),show q.sp.n.toNat - q.rs.length=0 by omega]
       rfl
      have e2:(more q ⟨xi,xa,xc⟩).afAt ((q.sp.n.toNat:Nat):Int)=xa:=by
       unfold Rn.afAt
       rw[if_pos (by omega),e,g2]
       rfl
      rw[e2,e3,e,g3]
      rfl
   ·rcases List.mem_append.1 hy with hy | hy
    ·exact h2 y (List.mem_append_left _ hy)
    ·rw[List.mem_singleton] at hy;subst hy
     simp only[more,List.length_append,List.length_singleton]
     omega
  ·rw[if_neg hg]
   refine⟨by rw[zDD,ho,h1],fun y hy=>?_⟩
   exact zB0P
theorem zTJ {E:List El}(h:∀ x∈E,x.may=true):∀ q∈zC5 E,q.may=true:=by
 revert h
 refine zDA (P:=fun E=>(∀ x∈E,x.may=true) → ∀ q∈zC5 E,q.may=true) (fun _ q hq=>absurd hq (by simp [zC5])) (fun E x ih h=>?_) E
 have h2:=ih fun y hy=>h y (List.mem_append_left _ hy)
 have hx:=h x (List.mem_append_right _ List.mem_cons_self)
 have hs:zC5 (E++[x])=addX (zC5 E) x:=by simp [zC5]
 rw[hs]
 have h1x:(one x).may=true:=by
  rw[El.may_iff,Eid.may_iff] at hx
  rw[Rn.may_iff,Spn.may_iff,Eid.may_iff]
  simp only[one,List.length_singleton,List.all_cons,List.all_nil,Bool.and_true]
  exact⟨⟨⟨hx.1.1,hx.1.2⟩,by omega,by omega,by omega⟩,hx.2.1,by omega,by omega,hx.2.2⟩
 generalize zC5 E=out at *
 rcases zCJ out with rfl | ⟨o,q,rfl⟩
 ·rw[zG8]
  exact fun q hq=>by rw[List.mem_singleton] at hq;subst hq;exact h1x
 ·rw[zCW]
  have hq:=h2 q (List.mem_append_right _ List.mem_cons_self)
  by_cases hg:goes q x=true
  ·rw[if_pos hg]
   unfold goes at hg
   simp only[Bool.and_eq_true,decide_eq_true_eq] at hg
   obtain⟨⟨g1,g2⟩,g3⟩:=hg
   intro y hy
   rcases List.mem_append.1 hy with hy | hy
   ·exact h2 y (List.mem_append_left _ hy)
   ·rw[List.mem_singleton] at hy;subst hy
    have:more q x=q.both (one x):=rfl
    rw[this]
    exact zHU hq h1x g3 (by simp only[one];omega)
  ·rw[if_neg hg]
   intro y hy
   exact zB0P
theorem zE0 {l:List Rn}(h:∀ r∈l,r.may=true):zBB l=(elsR l).length:=by
 induction l with
 | nil=>rfl
 | cons r l ih =>
  have br:=Spn.may_le (Rn.may_sp (h r List.mem_cons_self))
  have:elsR (r::l)=r.elR++elsR l:=by simp [elsR]
  rw[this,List.length_append,zBL]
  simp only[zBB]
  rw[ih fun x hx=>h x (List.mem_cons_of_mem _ hx)]
  omega
def zEK (l:List Rn):Prop:=(∀ r∈l,r.may=true)∧zBB l≤8192∧Ord (elsL l)∧zBV l=l
structure TxtM (E:List El):Prop where
 t:Txt E
 m:∀ x∈E,x.may=true
 n:E.length≤8192
theorem zW9 {E:List El}(h:TxtM E):zEK (zC5 E):=by
 have hm:=zTJ h.m
 obtain⟨he,_⟩:=zEV E
 refine⟨hm, ?_, ?_, ?_⟩
 ·rw[zE0 hm,he];have:=h.n;omega
 ·rw[← zLR,he];exact(zVE fun x hx=>El.may_ct (h.m x hx)).2 h.t
 ·rw[(zCS hm).1,he]
theorem zFF {l:List Rn}(h:zEK l):TxtM (elsR l)∧l=zC5 (elsR l):=by
 obtain⟨h1,h2,h3,h4⟩:=h
 have hm:=zQ3 h1
 refine⟨⟨?_,hm, ?_⟩, ?_⟩
 ·rw[← zLR] at h3;exact(zVE fun x hx=>El.may_ct (hm x hx)).1 h3
 ·rw[zE0 h1] at h2;omega
 ·rw[← (zCS h1).1,h4]
theorem zL9 {s:Spn}{x:Eid}{k:Int}:s.has x=some k↔s.may=true∧0≤k∧k<s.n∧s.at k=x:=by
 obtain⟨hd,c⟩:=x
 unfold Spn.has Spn.at
 simp only
 constructor
 ·intro h
  split at h
  ·rename_i g
   injection h with h
   refine⟨g.1,by omega,by omega, ?_⟩
   rw[g.2.1];congr 1;omega
  ·cases h
 ·rintro⟨h1,h2,h3,h4⟩
  injection h4 with h4 h5
  rw[if_pos ⟨h1,h4.symm,by omega,by omega⟩]
  congr 1;omega
theorem zcD {r:Rn}(hr:r.may=true)(x:Eid):r.sp.has x=none ↔ ∀ e∈r.elR,e.id≠x:=by
 have br:=Spn.may_le (Rn.may_sp hr)
 constructor
 ·intro h e he k
  obtain⟨i,hi,rfl⟩:=List.getElem_of_mem he
  rw[zBL] at hi
  rw[zBZ] at k
  have:=(zL9 (k:=(i:Int))).2 ⟨Rn.may_sp hr,by omega,by omega,k⟩
  rw[h] at this
  cases this
 ·intro h
  cases hh:r.sp.has x with
  | none=>rfl
  | some k =>
   obtain⟨h1,h2,h3,h4⟩:=zL9.1 hh
   have hl:k.toNat<r.elR.length:=by rw[zBL];omega
   refine absurd ?_ (h _ (List.getElem_mem hl))
   rw[zBZ]
   have:((k.toNat:Nat):Int)=k:=by omega
   rw[this];exact h4
theorem zO0 {l:List Rn}(h:∀ r∈l,r.may=true)(x:Eid):zBG l x=none ↔ ∀ e∈elsR l,e.id≠x:=by
 induction l with
 | nil=>exact⟨fun _ e he=>absurd he (by simp [elsR]),fun _=>rfl⟩
 | cons r l ih =>
  have hr:=h r List.mem_cons_self
  have ih:=ih fun y hy=>h y (List.mem_cons_of_mem _ hy)
  have he:elsR (r::l)=r.elR++elsR l:=by simp [elsR]
  rw[he]
  unfold zBG
  have hh:=zcD hr x
  cases hc:r.sp.has x with
  | none =>
   rw[hc] at hh
   have hh:=hh.1 rfl
   simp only[Option.map_eq_none_iff]
   rw[ih]
   constructor
   ·intro h1 e he
    rcases List.mem_append.1 he with he | he
    ·exact hh e he
    ·exact h1 e he
   ·exact fun h1 e he=>h1 e (List.mem_append_right _ he)
  | some k =>
   rw[hc] at hh
   simp only[reduceCtorEq,false_iff] at hh ⊢
   exact fun h1=>hh fun e he=>h1 e (List.mem_append_left _ he)
theorem zHA:∀ {l:List Rn} {x:Eid} {n:Nat} {k:Int},zBG l x=some (n,k) → ∃ L1 q L2,l=L1++q::L2∧L1.length=n∧q.sp.may=true∧0≤k∧k<q.sp.n∧q.sp.at k=x
 | [],_,_,_,h=>by cases h
 | r::l,x,n,k,h=>by
  unfold zBG at h
  cases hc:r.sp.has x with
  | none =>
   rw[hc] at h
   simp only at h
   cases hw:zBG l x with
   | none=>rw[hw] at h;cases h
   | some p =>
    rw[hw] at h
    obtain⟨n',k'⟩:=p
    simp only[Option.map_some,Option.some.injEq,Prod.mk.injEq] at h
    obtain⟨rfl,rfl⟩:=h
    obtain⟨L1,q,L2,rfl,rfl,hh⟩:=zHA hw
    exact⟨r::L1,q,L2,rfl,rfl,hh⟩
  | some k' =>
   rw[hc] at h
   simp only[Option.some.injEq,Prod.mk.injEq] at h
   obtain⟨rfl,rfl⟩:=h
   obtain⟨h1,h2,h3,h4⟩:=zL9.1 hc
   exact⟨[],r,l,rfl,rfl,h1,h2,h3,h4⟩
def zBE (l:List Rn)(x:Eid):List Rn × Nat :=
 if x=Eid.z then (l,0) else
 match zBG l x with
 | none=>(l,0)
 | some (n,k)=>if (l.getD n Rn.z).cutE (k+1)=0 then (l.take n++[(l.getD n Rn.z).fst (k+1),(l.getD n Rn.z).snd (k+1)]++l.drop (n+1),n+1) else (l,n+1)
def zFL (l:List Rn)(x:Eid)(n:Nat):Nat:=n+((l.drop n).takeWhile fun r=>x.less r.sp.f).length
def insL (l:List Rn)(r:Rn):List Rn:=zBV ((zBE l r.af).1.take (zFL (zBE l r.af).1 r.sp.f (zBE l r.af).2)++[r]++(zBE l r.af).1.drop (zFL (zBE l r.af).1 r.sp.f (zBE l r.af).2))
open Classical in
noncomputable def putE (l : List Rn) (r : Rn) : Int :=
  if zEK l ∧ r.may = true then
    (if r.af ≠ Eid.z ∧ zBG l r.af = none then 6
     else if ∃ i : Nat,(i : Int) < r.sp.n ∧ zBG l (r.sp.at i) ≠ none then 2
     else if 8192 < zBB l + r.sp.n then 4 else 0)
  else 8
theorem zOY {l:List Rn}{x:Eid}(h:∀ r∈l,r.may=true)(hx:x=Eid.z∨zBG l x≠none):(zBE l x).2≤(zBE l x).1.length∧(∀ r∈(zBE l x).1,r.may=true)∧elsR (zBE l x).1=elsR l∧((x=Eid.z∧(zBE l x).2=0) ∨ ∃ A w,elsR ((zBE l x).1.take (zBE l x).2)=A++[w]∧w.id=x):=by
 unfold zBE
 by_cases hz:x=Eid.z
 ·rw[if_pos hz]
  exact⟨Nat.zero_le _,h,rfl,.inl ⟨hz,rfl⟩⟩
 ·rw[if_neg hz]
  rcases hx with hx | hx
  ·exact absurd hx hz
  ·cases hw:zBG l x with
   | none=>exact absurd hw hx
   | some p =>
    obtain⟨n,k⟩:=p
    obtain⟨L1,q,L2,rfl,rfl,h1,h2,h3,h4⟩:=zHA hw
    have hq:=h q (by simp)
    have hg:(L1++q::L2).getD L1.length Rn.z=q:=by
     rw[List.getD_eq_getElem?_getD,List.getElem?_append_right (Nat.le_refl _)];simp
    simp only[hg]
    obtain⟨m,rfl⟩:∃ m:Nat,k=m:=⟨k.toNat,by omega⟩
    have hm1:((m:Int)+1)=((m+1:Nat):Int):=by omega
    have hlast:q.elR.take (m+1)=q.elR.take m++[⟨x,q.afAt m,q.rs.getD m 0⟩]:=by
     have hl:m<q.elR.length:=by rw[zBL];omega
     rw[zBO _ _ hl,zBZ,h4]
    by_cases hc:q.cutE ((m:Int)+1)=0
    ·rw[if_pos hc]
     rw[Rn.cutE_iff] at hc
     have hd:(L1++q::L2).drop (L1.length+1)=L2:=by simp
     have ht:(L1++q::L2).take L1.length=L1:=by simp
     simp only[hd,ht,hm1]
     refine⟨by simp,fun r hr=>?_, ?_,.inr ⟨elsR L1++q.elR.take m,⟨x,q.afAt m,q.rs.getD m 0⟩, ?_,rfl⟩⟩
     ·rcases List.mem_append.1 hr with hr | hr
      ·rcases List.mem_append.1 hr with hr | hr
       ·exact h r (by simp [hr])
       ·rcases List.mem_cons.1 hr with rfl | hr
        ·exact zQ9 hq (by omega) (by omega)
        ·rw[List.mem_singleton] at hr;subst hr
         exact zRD hq (by omega) (by omega)
      ·exact h r (by simp [hr])
     ·have e1:elsR (L1++q::L2)=elsR L1++q.elR++elsR L2:=by simp [elsR]
      have e2:elsR [q.fst ((m+1:Nat):Int),q.snd ((m+1:Nat):Int)]=q.elR:=by
       have:elsR [q.fst ((m+1:Nat):Int),q.snd ((m+1:Nat):Int)]=(q.fst ((m+1:Nat):Int)).elR++(q.snd ((m+1:Nat):Int)).elR:=by simp [elsR]
       rw[this,zU5 (by omega),zW8 (by omega),List.take_append_drop]
      rw[zF5,zF5,e1,e2]
     ·have e1:(L1++[q.fst ((m+1:Nat):Int),q.snd ((m+1:Nat):Int)]++L2).take (L1.length+1)=L1++[q.fst ((m+1:Nat):Int)]:=by
       rw[List.append_assoc,List.take_length_add_append];rfl
      rw[e1,zDD,zU5 (by omega),hlast,List.append_assoc]
    ·rw[if_neg hc]
     rw[Rn.cutE_iff] at hc
     have hmn:(m:Int)+1=q.sp.n:=Classical.byContradiction fun k=>hc ⟨hq,by omega,by omega⟩
     refine⟨by simp,h,rfl,.inr ⟨elsR L1++q.elR.take m,⟨x,q.afAt m,q.rs.getD m 0⟩, ?_,rfl⟩⟩
     have e1:(L1++q::L2).take (L1.length+1)=L1++[q]:=by
      rw[List.take_length_add_append];rfl
     rw[e1,zDD,List.append_assoc,← hlast,List.take_of_length_le (by rw[zBL];omega)]
theorem zeI {r:Rn}(hr:r.may=true){x:Eid}(h:x.less r.sp.f=true):∀ e∈r.elR,x.less e.id=true:=by
 intro e he
 obtain⟨i,hi,rfl⟩:=List.getElem_of_mem he
 rw[zBZ]
 cases i with
 | zero=>simpa [Spn.at] using h
 | succ i =>
  refine zKD h (zMZ ?_)
  simp only[Spn.at];omega
structure Put (l:List Rn) (r:Rn) (A0 A1 B:List El):Prop where
 e:elsR l=A0++A1++B
 a:(r.af=Eid.z∧A0=[]) ∨ ∃ A w,A0=A++[w]∧w.id=r.af
 g:∀ x∈A1,r.sp.f.less x.id=true
 t:TxtM (A0++A1++r.elR++B)
 i:insL l r=zC5 (A0++A1++r.elR++B)
theorem zR2 {l:List Rn}{r:Rn}:putE l r=0↔zEK l∧r.may=true∧(r.af=Eid.z ∨ ∃ e∈elsR l,e.id=r.af)∧(∀ x∈r.elR,∀ e∈elsR l,x.id≠e.id)∧(elsR l).length+r.elR.length≤8192:=by
 unfold putE
 by_cases h:zEK l∧r.may=true
 ·rw[if_pos h]
  obtain⟨ht,hr⟩:=h
  have hw:=fun x=>zO0 ht.1 x
  have br:=Spn.may_le (Rn.may_sp hr)
  have hn:(r.elR.length:Int)=r.sp.n:=by rw[zBL];omega
  rw[zE0 ht.1]
  by_cases h1:r.af≠Eid.z∧zBG l r.af=none
  ·rw[if_pos h1]
   refine⟨fun h=>(by cases h), ?_⟩
   rintro⟨_,_,h3,_⟩
   rcases h3 with h3 | ⟨e,he,h3⟩
   ·exact absurd h3 h1.1
   ·exact absurd h3 ((hw _).1 h1.2 e he)
  ·rw[if_neg h1]
   have h1':r.af=Eid.z ∨ ∃ e∈elsR l,e.id=r.af:=by
    by_cases hz:r.af=Eid.z
    ·exact .inl hz
    ·right
     have:¬∀ e∈elsR l,e.id≠r.af:=fun k=>h1 ⟨hz,(hw _).2 k⟩
     exact Classical.byContradiction fun k=>this fun e he k2=>k ⟨e,he,k2⟩
   by_cases h2:∃ i:Nat,(i:Int)<r.sp.n∧zBG l (r.sp.at i)≠none
   ·rw[if_pos h2]
    refine⟨fun h=>(by cases h), ?_⟩
    rintro⟨_,_,_,h3,_⟩
    obtain⟨i,hi,h2⟩:=h2
    refine absurd ((hw _).2 fun e he=>?_) h2
    have hl:i<r.elR.length:=by omega
    have:=h3 _ (List.getElem_mem hl) e he
    rw[zBZ] at this
    exact fun k=>this k.symm
   ·rw[if_neg h2]
    have h2':∀ x∈r.elR,∀ e∈elsR l,x.id≠e.id:=fun x hx e he k=>by
     obtain⟨i,hi,rfl⟩:=List.getElem_of_mem hx
     rw[zBZ] at k
     refine h2 ⟨i,by omega,fun k2=>?_⟩
     exact(hw _).1 k2 e he k.symm
    by_cases h3:8192<((elsR l).length:Int)+r.sp.n
    ·rw[if_pos h3]
     refine⟨fun h=>(by cases h), ?_⟩
     rintro⟨_,_,_,_,h4⟩
     omega
    ·rw[if_neg h3]
     exact⟨fun _=>⟨ht,hr,h1',h2',by omega⟩,fun _=>rfl⟩
 ·rw[if_neg h]
  exact⟨fun h=>(by cases h),fun k=>absurd ⟨k.1,k.2.1⟩ h⟩
theorem put_ok {l:List Rn}{r:Rn}(h:putE l r=0):∃ A0 A1 B,Put l r A0 A1 B:=by
 obtain⟨ht,hr,ha,hf,hn⟩:=zR2.1 h
 obtain⟨hE,hl⟩:=zFF ht
 have hx:r.af=Eid.z∨zBG l r.af≠none:=by
  rcases ha with ha | ⟨e,he,ha⟩
  ·exact .inl ha
  ·exact .inr fun k=>(zO0 ht.1 _).1 k e he ha
 obtain⟨p1,p2,p3,p4⟩:=zOY ht.1 hx
 have hi:insL l r=zBV ((zBE l r.af).1.take (zFL (zBE l r.af).1 r.sp.f (zBE l r.af).2)++[r]++(zBE l r.af).1.drop (zFL (zBE l r.af).1 r.sp.f (zBE l r.af).2)):=rfl
 generalize zBE l r.af=P at *
 obtain⟨l',n⟩:=P
 simp only at p1 p2 p3 p4 hi
 have hsp:l'=l'.take n++((l'.drop n).takeWhile fun q=>r.sp.f.less q.sp.f)++((l'.drop n).dropWhile fun q=>r.sp.f.less q.sp.f):=by
  rw[List.append_assoc,List.takeWhile_append_dropWhile,List.take_append_drop]
 have hg1:∀ q∈(l'.drop n).takeWhile fun q=>r.sp.f.less q.sp.f,r.sp.f.less q.sp.f=true:=fun q hq=>by
  have:=List.all_takeWhile (l:=l'.drop n) (p:=fun q=>r.sp.f.less q.sp.f)
  exact List.all_eq_true.1 this q hq
 have hg2:∀ q D,((l'.drop n).dropWhile fun q=>r.sp.f.less q.sp.f)=q::D→r.sp.f.less q.sp.f=false:=fun q D e=>by
  have:=List.head?_dropWhile_not (fun q:Rn=>r.sp.f.less q.sp.f) (l'.drop n)
  rw[e] at this
  simpa using this
 have hlen:(l'.take n).length=n:=by rw[List.length_take];omega
 unfold zFL at hi
 generalize hD1:(l'.drop n).takeWhile (fun q=>r.sp.f.less q.sp.f)=D1 at *
 generalize (l'.drop n).dropWhile (fun q=>r.sp.f.less q.sp.f)=D2 at *
 generalize l'.take n=T at *
 clear hD1
 have htk:l'.take (n+D1.length)=T++D1:=by
  rw[hsp,List.take_append_of_le_length (by rw[List.length_append];omega),List.take_of_length_le (by rw[List.length_append];omega)]
 have hdr:l'.drop (n+D1.length)=D2:=by
  rw[hsp,List.drop_append_of_le_length (by rw[List.length_append];omega),List.drop_of_length_le (by rw[List.length_append];omega),List.nil_append]
 rw[htk,hdr] at hi
 have hE':elsR l=elsR T++elsR D1++elsR D2:=by rw[← p3,hsp,zF5,zF5]
 have hmT:∀ q∈T,q.may=true:=fun q hq=>p2 q (by rw[hsp];simp [hq])
 have hmD1:∀ q∈D1,q.may=true:=fun q hq=>p2 q (by rw[hsp];simp [hq])
 have hmD2:∀ q∈D2,q.may=true:=fun q hq=>p2 q (by rw[hsp];simp [hq])
 have br:=Spn.may_le (Rn.may_sp hr)
 have hg:∀ x∈elsR D1,r.sp.f.less x.id=true:=fun x hx=>by
  obtain⟨q,hq,hx⟩:=List.mem_flatMap.1 hx
  exact zeI (hmD1 q hq) (hg1 q hq) x hx
 have hA:(r.af=Eid.z∧elsR T=[]) ∨ ∃ A w,elsR T=A++[w]∧w.id=r.af:=by
  rcases p4 with⟨h1,h2⟩ | h1
  ·have:T=[]:=List.eq_nil_of_length_eq_zero (by omega)
   subst this
   exact .inl ⟨h1,rfl⟩
  ·exact .inr h1
 have hB:∀ b B',elsR D2=b::B'→r.sp.f.less b.id=false:=fun b B' e=>by
  cases D2 with
  | nil=>exact absurd e (by simp [elsR])
  | cons q D =>
   have bq:=Spn.may_le (Rn.may_sp (hmD2 q List.mem_cons_self))
   have e2:elsR (q::D)=q.elR++elsR D:=by simp [elsR]
   rw[e2,zD7 (by omega),List.cons_append] at e
   injection e with e _
   rw[← e]
   exact hg2 q D rfl
 have hcons:=zD7 (r:=r) (by omega)
 have hT:Txt (elsR T++elsR D1++r.elR++elsR D2):=Txt.put (r:=⟨r.sp.f,r.af,r.rs.getD 0 0⟩) (by rw[← hE'];exact hE.t) hcons (zbS hr) hA (fun x hx y hy=>hf x hx y (by rw[hE'];exact hy)) hg hB
 have hmR:=zOE hr
 refine⟨elsR T,elsR D1,elsR D2,hE',hA,hg,⟨hT,fun x hx=>?_, ?_⟩, ?_⟩
 ·rcases List.mem_append.1 hx with h | h
  ·rcases List.mem_append.1 h with h | h
   ·exact hE.m x (by rw[hE'];exact List.mem_append_left _ h)
   ·exact hmR x h
  ·exact hE.m x (by rw[hE'];exact List.mem_append_right _ h)
 ·rw[hE'] at hn
  simp only[List.length_append] at hn ⊢
  omega
 ·rw[hi,(zCS (fun q hq=>?_)).1]
  ·rw[zF5,zDD,zF5]
  ·rcases List.mem_append.1 hq with hq | hq
   ·rcases List.mem_append.1 hq with hq | hq
    ·rcases List.mem_append.1 hq with hq | hq
     ·exact hmT q hq
     ·exact hmD1 q hq
    ·rw[List.mem_singleton] at hq;subst hq;exact hr
   ·exact hmD2 q hq
theorem Put.mem {l:List Rn}{r:Rn}{A0 A1 B:List El}(h:Put l r A0 A1 B)(x:El):x∈elsR (insL l r)↔x∈elsR l∨x∈r.elR:=by
 rw[h.i,(zEV _).1,h.e]
 simp only[List.mem_append]
 constructor
 ·exact zB0F
 ·exact zB0F
theorem zIQ {l:List Rn}{r:Rn}(h:putE l r=0)(x:El):x∈elsR (insL l r)↔x∈elsR l∨x∈r.elR:=by
 obtain⟨A0,A1,B,h⟩:=put_ok h
 exact h.mem x
theorem zf5 {l:List Rn}{r:Rn}(h:putE l r=0):zEK (insL l r):=by
 obtain⟨A0,A1,B,h⟩:=put_ok h
 rw[h.i]
 exact zW9 h.t
theorem zcJ {l:List Rn}{r:Rn}(h:putE l r=0):(elsR (insL l r)).length=(elsR l).length+r.elR.length:=by
 obtain⟨A0,A1,B,h⟩:=put_ok h
 rw[h.i,(zEV _).1,h.e]
 simp only[List.length_append]
 omega
theorem zeJ {r:Rn}{x:El}(h:x∈r.elR):x.id.hd=r.sp.f.hd:=by
 obtain⟨i,hi,rfl⟩:=List.getElem_of_mem h
 rw[zBZ];rfl
def zbC (E:List El):Prop:=∀ x∈E,x.af.hd.lb.leq x.id.hd.lb=true
variable {l : List Op} {a : AV} {v : Lb} {x : Eid}
theorem zY3 {s:Spn}{x:Eid}(h:(s.has x).isSome=true):x∈s.ids:=by
 obtain⟨k,hk⟩:=Option.isSome_iff_exists.1 h
 obtain⟨_,h0,h1,rfl⟩:=zL9.1 hk
 unfold Spn.ids
 exact List.mem_map.2 ⟨k.toNat,List.mem_range.2 (by omega),by rw[Int.toNat_of_nonneg h0]⟩
theorem zY7 {s:Spn}(h:s.may=true)(x:Eid):decide (x∈s.ids)=(s.has x).isSome:=by
 have hb:=Spn.may_le h
 rw[Bool.eq_iff_iff,decide_eq_true_iff]
 constructor
 ·intro hx
  unfold Spn.ids at hx
  obtain⟨i,hi,rfl⟩:=List.mem_map.1 hx
  have hi:=List.mem_range.1 hi
  unfold Spn.has
  rw[if_pos ⟨h,rfl,by show s.f.c≤s.f.c+i;omega,by show s.f.c+i<_;omega⟩]
  rfl
 ·exact zY3
theorem zVO (hS:Sl 17 isOp a l)(hm:∀ o∈l,o.may=true)(hl:l.length≤40000)(hf:l.length+200<fuel)(M:Mem):zCN fuel (d+2) 27 [a,idA x] M=some (BL (zFJ l x),M):=by
 have ll:=hS.len
 apply zB2
 refine zAJ tf27 rfl (by simp only[icyL,fun M=>hS.icy M 12 (by omega),zAT (zCH x) (show 1<12 by omega)]) (by simp [a27]) fun b' ht hx=>?_
 obtain⟨h0,h1⟩:=hx2 hx
 clear hx
 simp only[a27,c27] at ht ⊢
 simp (disch:=try exact SX) only[RV,seval,zA0,h0,h1,hS.fz.rows,hS.fz.one,hS.fz.cells,hS.fz.icy,hS.fz.frz]
 refine zAZ (I:=fun nq tq Nq => ∃ (iq:Nat),nq=l.length - iq∧iq≤l.length∧nth zA1 tq 0=a∧nth zA1 tq 3 = .ptr 0 0∧nth zA1 tq 5=I64 iq∧Wf Nq∧Nq.get 0=some (.row false (idR x))∧zFJ (l.take iq) x=false) (n:=l.length) (by omega) ?_ ?_
 ·exact zB0p
 ·rintro nq tq Nq hltq ⟨iq,rfl,hiq,gq0,gq3,gq5,wq,gq,hj⟩
  simp only[ht] at hltq ⊢
  have l0:=Mem.get_lt gq
  by_cases hc:iq<l.length
  ·have c1:decide ((iq:Int)<l.length)=true:=DT
   have w1:IntKind.i64.wrap ((iq:Int)+1)=((iq+1:Nat):Int):=WI
   obtain⟨rr,hiad,hri,_⟩:=hS.iad iq hc
   have hmo:=hm l[iq] (List.getElem_mem hc)
   have hsn:=take_snoc l iq hc
   have hgn:zFJ l x=true↔(l.any fun o=>decide (o.kd=2)&&(o.sp.has x).isSome)=true:=Iff.rfl
   have hany:(decide (l[iq].kd=2)&&(l[iq].sp.has x).isSome)=true→zFJ l x=true:=fun h=>List.any_eq_true.2 ⟨l[iq],List.getElem_mem hc,h⟩
   have hnext:(decide (l[iq].kd=2)&&(l[iq].sp.has x).isSome)=false→zFJ (l.take (iq+1)) x=false:=fun h=>by
    rw[hsn,zXZ,hj]
    unfold zFJ
    simp only[List.any_cons,List.any_nil,h,Bool.or_false]
   generalize l[iq]=e at *
   obtain⟨ra,rfl,hra,hok⟩:=hri
   by_cases q2:e.kd=2
   ·have q2':(!decide (e.kd=2))=false:=by rw[decide_eq_true q2];rfl
    have q2'':=decide_eq_true q2
    rw[q2'',Bool.true_and] at hany hnext
    have hsm:=may_sp hmo
    have hb:=Spn.may_le hsm
    obtain⟨ri,hri,hia⟩:=zJH (fuel:=fuel) (d:=d) hok.2.2.2.1 hsm (by omega)
    have hmi:=zY7 hsm x
    have lri:=hri.len
    have hil:e.sp.ids.length≤64:=by unfold Spn.ids;rw[List.length_map,List.length_range];omega
    generalize e.sp.ids=I at *
    simp (disch:=try exact SX) only[RV,seval,zA0,gq0,gq3,gq5,ll,c1,hiad,hra.fz.rows,hra.fz.one,hra.fz.cells,hra.fz.icy,hra.fz.frz,hS.fz.rows,hS.fz.one,hS.fz.cells,hS.fz.icy,hS.fz.frz,q2',q2'',hia,hri.fz.rows,hri.fz.one,hri.fz.cells,hri.fz.icy,hri.fz.frz]
    refine zAZ (I:=fun nk tk Nk => ∃ (ik:Nat),nk=I.length - ik∧ik≤I.length∧nth zA1 tk 0=a∧nth zA1 tk 3 = .ptr 0 0∧nth zA1 tk 5=I64 iq∧nth zA1 tk 6=ri∧nth zA1 tk 7=I64 ik∧Wf Nk∧Nk.get 0=some (.row false (idR x))∧(∀ j (hj:j<I.length),j<ik→I[j]≠x)) (n:=I.length) (by omega) ?_ ?_
    ·refine⟨0,rfl,Nat.zero_le _, ?_, ?_, ?_, ?_, ?_,wq,gq,(fun _ _ h=>absurd h (by omega))⟩ <;> simp (disch:=try exact SX) only[RV,seval,zA0,gq0,gq3,gq5]
     all_goals first | rfl | assumption | done
    ·rintro nk tk Nk hltk ⟨ik,rfl,hik,gk0,gk3,gk5,gk6,gk7,wk,gk,hk⟩
     simp only[hltq] at hltk ⊢
     have l0k:=Mem.get_lt gk
     by_cases hc2:ik<I.length
     ·have c2:decide ((ik:Int)<I.length)=true:=DT
      have w2:IntKind.i64.wrap ((ik:Int)+1)=((ik+1:Nat):Int):=WI
      obtain⟨r2,hiad2,⟨rfl,_⟩,_⟩:=hri.iad ik hc2
      cases q3:decide (I[ik]=x) with
      | true =>
       have e1:zFJ l x=true:=hany (by rw[← hmi];exact decide_eq_true (by rw[← of_decide_eq_true q3];exact List.getElem_mem hc2))
       simp (disch:=try exact SX) only[RV,seval,zA0,gk0,gk3,gk5,gk6,gk7,lri,c2,hiad2,hri.fz.rows,hri.fz.one,hri.fz.cells,hri.fz.icy,hri.fz.frz,gk,q3,↓pIdE,zAA,↓pIdN,zA9,↓pHdE,zAB,↓pHdN,zAC,↓pLbE,zA8,↓pLbN,zAD,↓pSpE,zAE,↓pSpN,zAF,ETA,e1]
      | false =>
       have q3':=of_decide_eq_false q3
       simp (disch:=try exact SX) only[RV,seval,zA0,gk0,gk3,gk5,gk6,gk7,lri,c2,hiad2,hri.fz.rows,hri.fz.one,hri.fz.cells,hri.fz.icy,hri.fz.frz,gk,q3,↓pIdE,zAA,↓pIdN,zA9,↓pHdE,zAB,↓pHdN,zAC,↓pLbE,zA8,↓pLbN,zAD,↓pSpE,zAE,↓pSpN,zAF,ETA,w2]
       exact⟨hltk,I.length - (ik+1),by omega,ik+1,rfl,by omega,rfl,wk,fun j hj hji=>by
        rcases Nat.lt_succ_iff_lt_or_eq.1 hji with h | rfl
        ·exact hk j hj h
        ·exact q3'⟩
     ·obtain rfl:ik=I.length:=by omega
      have c2:decide ((I.length:Int)<I.length)=false:=DF
      have hno:decide (x∈I)=false:=decide_eq_false fun hx=>by
       obtain⟨j,hj,e1⟩:=List.getElem_of_mem hx
       exact hk j hj hj e1
      rw[hno] at hmi
      have hn:=hnext hmi.symm
      simp (disch:=try exact SX) only[RV,seval,zA0,gk0,gk3,gk5,gk6,gk7,lri,c2,hri.fz.rows,hri.fz.one,hri.fz.cells,hri.fz.icy,hri.fz.frz,w1]
      exact⟨hltk,l.length - (iq+1),by omega,iq+1,rfl,by omega,rfl,wk,gk,hn⟩
   ·have q2':(!decide (e.kd=2))=true:=by rw[decide_eq_false q2];rfl
    have q2'':=decide_eq_false q2
    rw[q2'',Bool.false_and] at hnext
    simp (disch:=try exact SX) only[RV,seval,zA0,gq0,gq3,gq5,ll,c1,hiad,hra.fz.rows,hra.fz.one,hra.fz.cells,hra.fz.icy,hra.fz.frz,hS.fz.rows,hS.fz.one,hS.fz.cells,hS.fz.icy,hS.fz.frz,q2',q2'',w1]
    exact⟨hltq,l.length - (iq+1),by omega,iq+1,rfl,by omega,rfl,wq,gq,hnext rfl⟩
  ·obtain rfl:iq=l.length:=by omega
   have c1:decide ((l.length:Int)<l.length)=false:=DF
   rw[List.take_length] at hj
   simp (disch:=try exact SX) only[RV,seval,zA0,gq0,gq3,gq5,ll,c1,hS.fz.rows,hS.fz.one,hS.fz.cells,hS.fz.icy,hS.fz.frz,hj]
theorem zM5 {α:Type}[DecidableEq α]:∀ {l m:List α},l.Nodup→(∀ x∈l,x∈m)→l.length≤m.length
 | [],_,_,_=>Nat.zero_le _
 | a::l,m,hn,h=>by
  rw[List.nodup_cons] at hn
  have ha:=h a List.mem_cons_self
  have:=zM5 (l:=l) (m:=m.erase a) hn.2 fun x hx=>(List.mem_erase_of_ne (fun e=>hn.1 (by rw[← e];exact hx))).2 (h x (List.mem_cons_of_mem _ hx))
  rw[List.length_erase_of_mem ha] at this
  have:=List.length_pos_of_mem ha
  rw[List.length_cons]
  omega
theorem zN9 {α:Type}[DecidableEq α]:∀ {l m:List α},l.Nodup→(∀ x∈l,x∈m)→m.length≤l.length→m.Nodup
 | [],m,_,_,h=>by
  rw[List.length_nil] at h
  have e:m=[]:=List.eq_nil_of_length_eq_zero (by omega)
  rw[e]
  exact List.nodup_nil
 | a::l,m,hn,h,hl=>by
  have hn':=List.nodup_cons.1 hn
  have ha:=h a List.mem_cons_self
  have hs:∀ x∈l,x∈m.erase a:=fun x hx=>(List.mem_erase_of_ne (fun e=>hn'.1 (by rw[← e];exact hx))).2 (h x (List.mem_cons_of_mem _ hx))
  have hle:=List.length_erase_of_mem ha
  have hp:=List.length_pos_of_mem ha
  rw[List.length_cons] at hl
  have ih:=zN9 hn'.2 hs (by omega)
  have hna:a ∉ m.erase a:=fun hm=>by
   have:=zM5 (l:=a::l) (m:=m.erase a) hn fun x hx=>by
    rcases List.mem_cons.1 hx with rfl | hx
    ·exact hm
    ·exact hs x hx
   rw[List.length_cons] at this
   omega
  exact(List.perm_cons_erase ha).nodup_iff.2 (List.nodup_cons.2 ⟨hna,ih⟩)
end Go.Proofs.YtlmeadmpldjdaaaGreat
set_option linter.unusedSectionVars false
namespace Go.Ax
open Go
namespace NK
variable {α β : Type} {K : NK α β} {M N : Mem}
theorem ND.grow {B:Nat}{o:AV}{l:List α}(h:K.ND M B o l){i:Nat}(hi:i<l.length):∃ id cs ra,rowOf o=some id∧B≤id∧id<M.size∧M.get id=some (.row false cs)∧(∀ N,iadO N K.st o (some i)=some (.ptr id (i*K.st),N))∧slot cs (i*K.st) K.st=K.H l[i]++[ra]∧(i+1)*K.st≤cs.length∧K.InN M B (l[i],ra)∧rowOf ra≠some id ∧
  ∀ (N:Mem) (y:α) (rb:AV),M.size≤N.size→K.InN N B (y,rb)→(∀ j,rowOf rb=some j→rowOf ra=some j∨M.size≤j)→oneA rb=true→cellsA rb=[rb]→(∀ j,B≤j→j<M.size→rowOf ra≠some j→j≠id→N.get j=M.get j)→N.get id=some (.row false (lay cs (i*K.st) (K.H y++[rb])))→B≤M.size→K.ND N B o (l.set i y):=by
 obtain⟨lr,rfl,h2,h3,h4,h5,h6⟩:=h
 have hi':i<lr.length:=by simpa using hi
 rcases h2 with⟨rfl,rfl⟩ | ⟨id,rows,cap,rfl,hc,hg,hA,hr⟩
 ·exact absurd hi' (by simp)
 ·have hlen:=hA.length_eq
  have hfl:=zAO hr
  have hri:i<rows.length:=by omega
  have hn:=hA.get hri hi'
  have hrl:=hr rows[i] (List.getElem_mem hri)
  have hmem:=List.getElem_mem hi'
  have hle:(i+1)*K.st≤rows.flatten.length:=by rw[hfl];exact Nat.mul_le_mul_right _ (by omega)
  refine⟨id,rows.flatten,lr[i].2,rfl,h4 id rfl,Mem.get_lt hg,hg,fun N=>by rw[zIN (by omega)];simp, ?_,hle, ?_,h5 _ hmem id rfl, ?_⟩
  ·rw[slot,zC9 i hr,List.drop_eq_getElem_cons hri,List.flatten_cons,List.take_append_of_le_length (by omega),List.take_of_length_le (by omega),hn.1]
   simp
  ·simpa using h3 _ hmem
  ·intro N y rb hsz hin hrb ho hcl hk hgn hB
   have hlH:(K.H y++[rb]).length=K.st:=by rw[List.length_append,List.length_singleton];exact K.hl y
   have hlay:lay rows.flatten (i*K.st) (K.H y++[rb])=(rows.set i (K.H y++[rb])).flatten:=by
    rw[lay,List.set_eq_take_append_cons_drop,if_pos hri,List.flatten_append,List.flatten_cons,hlH]
    have e1:rows.flatten.take (i*K.st)=(rows.take i).flatten:=by
     have:=zF8 (st:=K.st) i hr
     simpa using this
    have e2:rows.flatten.drop (i*K.st+K.st)=(rows.drop (i+1)).flatten:=by
     rw[show i*K.st+K.st=(i+1)*K.st by rw[Nat.succ_mul]]
     exact zC9 (i+1) hr
    rw[e1,e2,List.append_assoc]
   have hother:∀ j (hj:j<lr.length),j≠i→K.InN N B lr[j]:=fun j hj e=>by
    have hmj:=List.getElem_mem hj
    refine(h3 _ hmj).keep fun q hq=>hk q ((h3 _ hmj).2.1 q hq) ((h3 _ hmj).lt q hq) (fun hrow=>?_) (fun e=>h5 _ hmj id rfl (by rw[hq,e]))
    rcases Nat.lt_or_gt_of_ne e with e' | e'
    ·exact List.pairwise_iff_getElem.1 h6 j i hj hi' e' q hq hrow
    ·exact List.pairwise_iff_getElem.1 h6 i j hi' hj e' q hrow hq
   refine⟨lr.set i (y,rb),by rw[List.map_set],.inr ⟨id,rows.set i (K.H y++[rb]),cap,by simp,by simpa using hc,by rw[← hlay];exact hgn,hA.set2 i ⟨rfl,ho,hcl⟩,fun r hr'=>?_⟩,fun x hx=>?_,h4,fun x hx=>?_, ?_⟩
   ·rcases List.mem_or_eq_of_mem_set hr' with h | rfl
    ·exact hr r h
    ·exact hlH
   ·obtain⟨j,hj,rfl⟩:=List.getElem_of_mem hx
    rw[List.length_set] at hj
    by_cases e:i=j
    ·subst e
     rw[List.getElem_set_self]
     exact hin
    ·rw[List.getElem_set_ne e]
     exact hother j hj (fun h=>e h.symm)
   ·rcases List.mem_or_eq_of_mem_set hx with hx' | rfl
    ·exact h5 x hx'
    ·intro j hj e
     have hj:some id=some j:=hj
     cases hj
     rcases hrb id e with h | h
     ·exact h5 _ hmem id rfl h
     ·have:=Mem.get_lt hg
      omega
   ·rw[List.pairwise_iff_getElem]
    intro p q hp hq hpq
    rw[List.length_set] at hp hq
    intro j hj e
    by_cases e1:i=p
    ·subst e1
     rw[List.getElem_set_self] at hj
     rw[List.getElem_set_ne (by omega)] at e
     have b:=(h3 _ (List.getElem_mem hq)).lt j e
     rcases hrb j hj with h | h
     ·exact List.pairwise_iff_getElem.1 h6 i q hi' hq hpq j h e
     ·omega
    ·rw[List.getElem_set_ne e1] at hj
     by_cases e2:i=q
     ·subst e2
      rw[List.getElem_set_self] at e
      have b:=(h3 _ (List.getElem_mem hp)).lt j hj
      rcases hrb j e with h | h
      ·exact List.pairwise_iff_getElem.1 h6 p i hp hi' hpq j hj h
      ·omega
     ·rw[List.getElem_set_ne e2] at e
      exact List.pairwise_iff_getElem.1 h6 p q hp hq hpq j hj e
end NK
end Go.Ax
namespace Go.Proofs.YtlmeadmpldjdaaaGreat
open Go Go.Ax
variable {fuel : Nat} {M : Mem} {Q : AV → Mem → Prop} {d : Nat}
def Fit (q:Rn):Prop:=(1≤q.sp.n∧q.sp.n≤64)∧(q.rs.length:Int)=q.sp.n∧(0≤q.sp.f.c∧q.sp.f.c≤1099511627776)∧q.ok
def FitX (x:El):Prop:=0≤x.id.c∧x.id.c≤1099511627776∧x.id.ok∧x.af.ok ∧ -2147483648≤x.ch∧x.ch≤2147483647
theorem zRS (E:List El)(x:El):zC5 (E++[x])=addX (zC5 E) x:=by simp [zC5]
theorem zOP {x:El}(h:FitX x):Fit (one x):=by
 obtain⟨h1,h2,h3,h4,h5⟩:=h
 refine⟨⟨Int.le_refl _,by show (1:Int)≤64;omega⟩,rfl,⟨h1,h2⟩,⟨h3,by show i64R 1;unfold i64R;omega⟩,h4,fun y hy=>?_⟩
 have e:y=x.ch:=by simpa [one] using hy
 rw[e];exact h5
theorem zQ4 {q:Rn}{x:El}(hq:Fit q)(h:FitX x)(hg:goes q x=true):Fit (more q x):=by
 obtain⟨⟨a1,a2⟩,a3,a4,a5⟩:=hq
 have hn:q.sp.n<64:=by
  unfold goes at hg
  simp only[Bool.and_eq_true,decide_eq_true_eq] at hg
  exact hg.1.1
 refine⟨⟨by show 1≤q.sp.n+1;omega,by show q.sp.n+1≤64;omega⟩,by simp only[more,List.length_append,List.length_singleton];omega,a4,⟨a5.1.1,by show i64R (q.sp.n+1);unfold i64R;omega⟩,a5.2.1,fun y hy=>?_⟩
 rcases List.mem_append.1 hy with hy | hy
 ·exact a5.2.2 y hy
 ·rw[List.mem_singleton] at hy;subst hy;exact h.2.2.2.2
theorem zWO {out:List Rn}{x:El}(ho:∀ q∈out,Fit q)(h:FitX x):∀ q∈addX out x,Fit q:=by
 rcases zCJ out with rfl | ⟨o,q,rfl⟩
 ·rw[zG8]
  intro y hy
  rw[List.mem_singleton] at hy;subst hy;exact zOP h
 ·rw[zCW]
  split
  ·rename_i hg
   intro y hy
   rcases List.mem_append.1 hy with hy | hy
   ·exact ho y (List.mem_append_left _ hy)
   ·rw[List.mem_singleton] at hy;subst hy;exact zQ4 (ho q (by simp)) h hg
  ·intro y hy
   rcases List.mem_append.1 hy with hy | hy
   ·exact ho y hy
   ·rw[List.mem_singleton] at hy;subst hy;exact zOP h
theorem zWP (out:List Rn)(x:El):(addX out x).length≤out.length+1:=by
 rcases zCJ out with rfl | ⟨o,q,rfl⟩
 ·rw[zG8];simp
 ·rw[zCW]
  split <;> simp
def zMO (out:List Rn)(x:El):Bool:=match out.getLast? with
 | none=>false
 | some q=>goes q x
theorem zc8 {out:List Rn}{x:El}(h:zMO out x=false):addX out x=out++[one x]:=by
 unfold zMO at h
 unfold addX
 cases hg:out.getLast? with
 | none=>rfl
 | some q=>rw[hg] at h;simp only at h;simp only[h,Bool.false_eq_true,if_false]
theorem zcA {out:List Rn}{x:El}(h:zMO out x=true):∃ (n:Nat) (hn:n<out.length),out.length=n+1∧goes out[n] x=true∧addX out x=out.set n (more out[n] x):=by
 rcases zCJ out with rfl | ⟨o,q,rfl⟩
 ·cases h
 ·unfold zMO at h
  rw[List.getLast?_concat] at h
  simp only at h
  refine⟨o.length,by simp,by simp,by simpa using h, ?_⟩
  unfold addX
  rw[List.getLast?_concat]
  simp only[h,if_true]
  simp
theorem zc9 {out:List Rn}{x:El}{n:Nat}(hn:n<out.length)(h:out.length=n+1):zMO out x=goes out[n] x:=by
 unfold zMO
 rw[List.getLast?_eq_getElem?,h,Nat.add_sub_cancel,List.getElem?_eq_getElem hn]
theorem zP9 {ra:AV}{q:Rn}{x:El}(hS:Sl 1 zAS ra q.rs)(hq:Fit q)(M:Mem):zCN fuel (d+2) 88 [.agg (rnR q ra),.agg (elR9 x)] M=some (BL (goes q x),M):=by
 obtain⟨⟨a1,a2⟩,a3,a4,a5⟩:=hq
 have ora:=hS.one
 have hi:=fun n M=>zJB (fuel:=fuel) (d:=d) hS n M
 apply zB2
 refine zEU tf88 rfl (by simp only[icyL,zCP hS.fz,zAT (zGY x) (show 1<12 by omega)]) (by simp [a88]) fun b' ht hx=>?_
 obtain⟨h0,h1⟩:=hx2 hx
 clear hx
 simp only[a88,c88] at ht ⊢
 unfold goes Spn.at
 have w1:IntKind.i64.wrap (q.sp.n - 1)=q.sp.n - 1:=wrap_i64 (by omega) (by omega)
 have w2:IntKind.i64.wrap (q.sp.f.c+(q.sp.n - 1))=q.sp.f.c+(q.sp.n - 1):=wrap_i64 (by omega) (by omega)
 have w3:IntKind.i64.wrap (q.sp.f.c+q.sp.n)=q.sp.f.c+q.sp.n:=wrap_i64 (by omega) (by omega)
 cases q1:decide (q.sp.n<64) with
 | false=>simp (disch:=try exact SX) only[RV,seval,zA0,h0,h1,hS.fz.rows,hS.fz.one,hS.fz.cells,hS.fz.icy,hS.fz.frz,q1,Bool.false_and,zBD]
 | true =>
  cases q2:decide (x.af=(⟨q.sp.f.hd,q.sp.f.c+(q.sp.n - 1)⟩:Eid)) with
  | false=>simp (disch:=try exact SX) only[RV,seval,zA0,h0,h1,hS.fz.rows,hS.fz.one,hS.fz.cells,hS.fz.icy,hS.fz.frz,q1,↓pIdE,zAA,↓pIdN,zA9,↓pHdE,zAB,↓pHdN,zAC,↓pLbE,zA8,↓pLbN,zAD,↓pSpE,zAE,↓pSpN,zAF,ETA,q2,w1,w2,hi,Bool.false_and,Bool.true_and,zBD]
  | true=>simp (disch:=try exact SX) only[RV,seval,zA0,h0,h1,hS.fz.rows,hS.fz.one,hS.fz.cells,hS.fz.icy,hS.fz.frz,q1,↓pIdE,zAA,↓pIdN,zA9,↓pHdE,zAB,↓pHdN,zAC,↓pLbE,zA8,↓pLbN,zAD,↓pSpE,zAE,↓pSpN,zAF,ETA,q2,w1,w2,w3,hi,Bool.true_and,zBD]
theorem zJC {ra:AV}{q:Rn}{x:El}(hS:SlM M 1 zAS ra q.rs)(wf:Wf M)(hq:Fit q):zCN fuel (d+2) 88 [.agg (rnR q ra),.agg (elR9 x)] M=some (BL (goes q x),M):=by
 obtain⟨a',N',i1,b1,_⟩:=zGH (H:=rnH q) (zIK q) hS wf zCM (k:=12) (by omega)
 have i1:icy 12 M (.agg (rnR q ra))=some (.agg (rnR q a'),N'):=i1
 exact zDZ (bs:=[.agg (rnR q a'),.agg (elR9 x)]) tf88 rfl (zP9 b1 hq mem0) (M3:=mem0) (M2:=N') (by simp only[icyL,zCP b1.fz,zAT (zGY x) (show 1<12 by omega)]) (by simp only[icyL,i1,zAT (zGY x) (show 1<12 by omega)])
theorem zYG {cs:List AV}{k:Nat}{x y:Rn}{ra rb:AV}(h:slot cs k 10=rnR x ra)(hl:k+10≤cs.length)(hf:y.sp.f=x.sp.f)(ha:y.af=x.af):lay (lay cs (k+4) [I64 y.sp.n]) (k+9) [rb]=lay cs k (rnR y rb):=by
 have h2:(cs.drop k).take 10=rnR x ra:=h
 have e4:cs.take (k+4)=cs.take k++(rnR x ra).take 4:=by
  exact zB0X
 have e5:cs.drop (k+5)=(rnR x ra).drop 5++cs.drop (k+10):=by
  exact zB0l
 have lk:(cs.take k).length=k:=by rw[List.length_take];omega
 have e6:lay cs (k+4) [I64 y.sp.n]=cs.take k++(rnR y ra++cs.drop (k+10)):=by
  unfold lay
  rw[e4,show k+4+[I64 y.sp.n].length=k+5 from rfl,e5]
  simp [hf,ha]
 rw[e6]
 unfold lay
 have d1:(cs.take k).drop (k+9+[rb].length)=[]:=List.drop_of_length_le (by rw[lk];simp;omega)
 have d2:(cs.take k).take (k+9)=cs.take k:=List.take_of_length_le (by omega)
 rw[List.take_append,List.drop_append,lk,d1,d2,show k+9 - k=9 by omega,show k+9+[rb].length - k=10 by simp;omega]
 simp
theorem zYH {cs:List AV}{k j:Nat}{v:AV}(h:k+1≤j)(hk:k<cs.length):(cs.take k++[v]++cs.drop (k+1))[j]? = cs[j]? := by
 rw[List.getElem?_append_right (by simp;omega),List.getElem?_drop]
 congr 1
 simp
 omega
theorem zPB {a:AV}{E:List El}(hS:Sl 9 isEl a E)(hx:∀ x∈E,FitX x)(hl:E.length≤100000)(hf:E.length+1000<fuel):∃ r,Sl 10 isRn r (zC5 E) ∧ ∀ M,zCN fuel (d+3) 51 [a] M=some (r,M):=by
 have ll:=hS.len
 refine zEP tf51 rfl (fun M=>by simp only[icyL,fun M=>hS.icy M 12 (by omega)]) ?_
 refine zAJ tf51 rfl (by simp only[icyL,fun M=>hS.icy M 12 (by omega)]) (by simp [a51]) fun b' ht hx=>?_
 have h0:=hx 0 _ rfl
 clear hx
 simp only[a51,c51] at ht ⊢
 simp (disch:=try exact SX) only[RV,seval,zA0,h0,hS.fz.rows,hS.fz.one,hS.fz.cells,hS.fz.icy,hS.fz.frz]
 refine zAZ (I:=fun n t N => ∃ (i:Nat) (o:AV),n=E.length - i∧i≤E.length∧nth zA1 t 0=a∧nth zA1 t 3=o∧nth zA1 t 4=I64 i∧Wf N∧rnK.ND N 0 o (zC5 (E.take i))∧(zC5 (E.take i)).length≤i∧(∀ q∈zC5 (E.take i),Fit q)) (n:=E.length) (by omega) ?_ ?_
 ·refine⟨0,NIL,rfl,Nat.zero_le _, ?_, ?_, ?_,Wf.mem0,NK.ND.nil _ _,Nat.le_refl 0,(fun _ h=>by cases h)⟩ <;> simp (disch:=try exact SX) only[RV,seval,zA0,h0]
  all_goals first | rfl | assumption | done
 ·rintro n t N hlt ⟨i,o,rfl,hi,g0,g3,g4,w,sm,bl,bf⟩
  simp only[ht] at hlt ⊢
  obtain⟨oo,oc,orl,olen,opu,olt⟩:=ND.lr sm
  by_cases hc:i<E.length
  ·have q1:decide ((i:Int)<E.length)=true:=DT
   have w1:IntKind.i64.wrap ((i:Int)+1)=((i+1:Nat):Int):=WI
   obtain⟨r,hiad,⟨rfl,hxok⟩,_⟩:=hS.iad i hc
   have hts:zC5 (E.take (i+1))=addX (zC5 (E.take i)) E[i]:=by rw[zBO E i hc,zRS]
   have hfx:=hx E[i] (List.getElem_mem hc)
   have hal:=zWP (zC5 (E.take i)) E[i]
   have haf:=zWO bf hfx
   rw[← hts] at hal haf
   generalize E[i]=x at *
   generalize zC5 (E.take i)=out at *
   have rlo:∀ m,N.size≤m→((rowsOf o).all fun i=>Nat.blt i m)=true:=fun m h=>zAN orl h
   have hnone:zMO out x=false→addX out x=out++[one x]:=zc8
   cases hg1:zMO out x with
   | false =>
    rw[hnone hg1] at hts
    have hcase:out.length=0∨0<out.length:=by omega
    have olen':∀ N,lenO N o=some (I64 out.length,N):=olen
    have wU:Wf (N.add (.row false [I32 x.ch])):=w.add _
    have ra0:((rowsOf (.sl N.size 0 1 (some 1) 1)).all fun i=>Nat.blt i (N.size+1))=true:=by simp [rowsOf,Nat.blt]
    rcases hcase with hz | hz
    case' inl =>
     have q2:decide ((0:Int)<out.length)=false:=DF
     simp (disch:=try exact SX) only[RV,seval,zA0,g0,g3,g4,ll,q1,hS.fz.rows,hS.fz.one,hS.fz.cells,hS.fz.icy,hS.fz.frz,hiad,olen',q2,oo,oc,w]
    case' inr =>
     have q2:decide ((0:Int)<out.length)=true:=DT
     obtain⟨n,hn⟩:∃ n:Nat,out.length=n+1:=⟨out.length - 1,by omega⟩
     have hnl:n<out.length:=by omega
     have w2:IntKind.i64.wrap ((out.length:Int) - 1)=(n:Int):=WI
     obtain⟨id,cs,ra,hrow,_,lid,hg,hiad2,hsl,hcs,hin,hne,hput⟩:=NK.ND.grow sm hnl
     have hcs:(n+1)*10≤cs.length:=hcs
     have hsl:slot cs (n*10) 10=rnR out[n] ra:=hsl
     have hiad2:∀ N,iadO N 10 o (some n)=some (.ptr id (n*10),N):=hiad2
     have hpt:=zF1 (off:=0) (n:=10) (ag:=true) hsl (by omega) (by omega)
     rw[Nat.add_zero] at hpt
     have hpt:Go.Ax.part cs (n*10) 10 true=some (.agg (rnR out[n] ra)):=hpt
     have hgo:=zJC (fuel:=fuel) (d:=d) (M:=N.lo) (x:=x) (hin.1.keep fun _ _=>rfl) (by rw[zN0];exact w) (bf out[n] (List.getElem_mem hnl))
     rw[← zc9 hnl hn,hg1] at hgo
     simp (disch:=try exact SX) only[RV,seval,zA0,g0,g3,g4,ll,q1,hS.fz.rows,hS.fz.one,hS.fz.cells,hS.fz.icy,hS.fz.frz,hiad,olen',q2,oo,oc,w,w2,hiad2,hg,hpt,hgo,zHT,zAP]
    all_goals
     refine⟨rlo _ (by omega), ?_⟩
     refine NK.ND.app (K:=rnK) (M:=N) (ra:=.sl N.size 0 1 (some 1) 1) (x:=one x) (by':=80) wU sm (fun j _ hj=>zAK w _ _ hj) (by show N.size≤N.size+1;omega) ⟨rfl,rfl,rfl⟩ ⟨.inr ⟨N.size,[[I32 x.ch]],some 1,rfl,.inr rfl,zAM w _ _ (Nat.le_refl _) (Nat.lt_succ_self _),.cons rfl .nil,by simp⟩,fun j _=>Nat.zero_le j,(zOP hfx).2.2.2⟩ (fun j hj=>by cases hj;exact Nat.le_refl _) (by omega) (by omega) (Nat.zero_le _) fun o' M' sm' w' le' kp nw wm'=>?_
     obtain⟨oo',oc',orl',olen',opu',olt'⟩:=ND.lr sm'
     simp (disch:=try exact SX) only[RV,seval,zA0,g0,g3,g4,w1,oo',oc',w']
     exact⟨hlt,E.length - (i+1),by omega,i+1,o',rfl,by omega,rfl,rfl,by rw[hts];exact sm',by omega,haf⟩
   | true =>
    obtain⟨n,hnl,hn,hgs,hadd⟩:=zcA hg1
    rw[hadd] at hts
    have q2:decide ((0:Int)<out.length)=true:=DT
    have olen':∀ N,lenO N o=some (I64 out.length,N):=olen
    have w2:IntKind.i64.wrap ((out.length:Int) - 1)=(n:Int):=WI
    obtain⟨id,cs,ra,hrow,_,lid,hg,hiad2,hsl,hcs,hin,hne,hput⟩:=NK.ND.grow sm hnl
    have hcs:(n+1)*10≤cs.length:=hcs
    have hsl:slot cs (n*10) 10=rnR out[n] ra:=hsl
    have hiad2:∀ N,iadO N 10 o (some n)=some (.ptr id (n*10),N):=hiad2
    have hfq:=bf out[n] (List.getElem_mem hnl)
    have hpt:=zF1 (off:=0) (n:=10) (ag:=true) hsl (by omega) (by omega)
    rw[Nat.add_zero] at hpt
    have hpt:Go.Ax.part cs (n*10) 10 true=some (.agg (rnR out[n] ra)):=hpt
    have hgo:=zJC (fuel:=fuel) (d:=d) (M:=N.lo) (x:=x) (hin.1.keep fun _ _=>rfl) (by rw[zN0];exact w) hfq
    rw[hgs] at hgo
    have hpn:=zFA hsl (show 4<10 by omega)
    have hpn:cs[n*10+4]? = some (I64 out[n].sp.n):=hpn
    have hpl:=zFA hsl (show 9<10 by omega)
    have hpl:cs[n*10+9]? = some ra:=hpl
    generalize out[n]=q at *
    have hmok:=(zQ4 hfq hfx hgs).2.2.2
    obtain⟨⟨fa,fb⟩,fc,fd,fe⟩:=hfq
    have w3:IntKind.i64.wrap (q.sp.n+1)=q.sp.n+1:=wrap_i64 (by omega) (by omega)
    have ora:=hin.1.one
    have cra:=hin.1.cells
    have hpl2:=zYH (cs:=cs) (k:=n*10+4) (j:=n*10+9) (v:=.sc (.int .i64 (q.sp.n+1))) (by omega) (by omega)
    rw[hpl] at hpl2
    have wD:Wf (N.upd id (.row false (cs.take (n*10+4)++[.sc (.int .i64 (q.sp.n+1))]++cs.drop (n*10+4+1)))):=w.upd _ _
    have sD:SlM (N.upd id (.row false (cs.take (n*10+4)++[.sc (.int .i64 (q.sp.n+1))]++cs.drop (n*10+4+1)))) 1 zAS ra q.rs:=hin.1.keep fun j hj=>zA2 w _ _ _ (fun e=>hne (by rw[hj,e]))
    have rra:=zAN hin.1.rl (show N.size≤N.size+1 by omega)
    have hrl:q.rs.length≤64:=by omega
    simp (disch:=try exact SX) only[RV,seval,zA0,g0,g3,g4,ll,q1,hS.fz.rows,hS.fz.one,hS.fz.cells,hS.fz.icy,hS.fz.frz,hiad,olen',q2,oo,oc,w,w2,hiad2,hg,hpt,hgo,zHT,zAP,hpn,hpl2,w3,ora,cra,rra]
    have hlg:=fun rb=>zYG (y:=more q x) (rb:=rb) hsl (by omega) rfl rfl
    have hlg:∀ rb,lay (cs.take (n*10+4)++[.sc (.int .i64 (q.sp.n+1))]++cs.drop (n*10+4+1)) (n*10+9) [rb]=lay cs (n*10) (rnR (more q x) rb):=hlg
    have hCl:(cs.take (n*10+4)++[AV.sc (.int .i64 (q.sp.n+1))]++cs.drop (n*10+4+1)).length=cs.length:=by simp;omega
    have gid0:=zAI w (.row false (cs.take (n*10+4)++[.sc (.int .i64 (q.sp.n+1))]++cs.drop (n*10+4+1))) id lid
    have gne0:=fun j hj=>zA2 w (.row false (cs.take (n*10+4)++[.sc (.int .i64 (q.sp.n+1))]++cs.drop (n*10+4+1))) id j hj
    generalize cs.take (n*10+4)++[AV.sc (.int .i64 (q.sp.n+1))]++cs.drop (n*10+4+1)=C at *
    refine app1 (bytes:=4) wD sD zCM (x:=x.ch) rfl rfl (by omega) (by omega) (by omega) fun o' M' sm' w' le' kp' nw' wm' rl' on' oc'=>?_
    have le':N.size≤M'.size:=le'
    have gid:M'.get id=some (.row false C):=by
     rw[kp' id (by exact lid) hne];exact gid0
    have bid:Nat.blt id M'.size=true:=zD6 (by omega)
    have hC10:n*10+9+1≤C.length:=by omega
    have lM:id<M'.size:=by omega
    have hro:∀ j,rowOf o'=some j→j≠id:=fun j hj e=>by
     rcases nw' j hj with h | h
     ·exact hne (by rw[h,e])
     ·have h:N.size≤j:=h
      omega
    have hfin:rnK.ND (M'.upd id (.row false (lay C (n*10+9) [o']))) 0 o (out.set n (more q x)):=by
     refine hput _ (more q x) o' (by show N.size≤M'.size;exact le') ⟨sm'.keep fun j hj=>zA2 w' _ _ _ (hro j hj).symm,fun j _=>Nat.zero_le j,hmok⟩ (fun j hj=>nw' j hj) on' oc' (fun j _ hj h1 h2=>?_) ?_ (Nat.zero_le _)
     ·rw[zA2 w' _ _ _ (fun e=>h2 e.symm),kp' j (by exact hj) h1,gne0 j (fun e=>h2 e.symm)]
     ·rw[zAI w' _ _ lM,hlg];rfl
    simp (disch:=try exact SX) only[RV,seval,zA0,g0,g3,g4,w1,on',oc',w',rl',gid,hiad2,oo,oc,bid]
    exact⟨hlt,E.length - (i+1),by omega,i+1,o,rfl,by omega,rfl,rfl,by rw[hts];exact hfin,by omega,haf⟩
  ·obtain rfl:i=E.length:=by omega
   have q1:decide ((E.length:Int)<E.length)=false:=DF
   rw[List.take_length] at sm
   obtain⟨r,hz,hsr⟩:=sm.nn.frz (k:=11) (by omega)
   have hz:=hz N fun _ _=>rfl
   simp (disch:=try exact SX) only[RV,seval,zA0,g0,g3,g4,ll,q1,hS.fz.rows,hS.fz.one,hS.fz.cells,hS.fz.icy,hS.fz.frz,hz,oo]
   exact⟨r,hsr,rfl⟩
end Go.Proofs.YtlmeadmpldjdaaaGreat
