/-
  Texts joined: TrM TwA TwN SwN RlC RlS RhD SwR SwG RmD SwV RmE.
-/
import Derived.Test.YtlmeadmpldjdaaaGreatEg
import Derived.Test.YtlmeadmpldjdaaaGreatPc
set_option linter.unusedSimpArgs false
set_option linter.unusedVariables false
set_option maxHeartbeats 64000000
set_option maxRecDepth 100000
namespace Go.Proofs.YtlmeadmpldjdaaaGreat
open Go Go.Ax
variable {fuel : Nat} {M : Mem} {Q : AV → Mem → Prop} {d : Nat}
theorem zQC {X:Mem}{o:AV}{r:List AV}{x:Rn}(wf:Wf X)(h:SlN X 10 isRn o [])(hx:isRn r x)(hr:r.length=10)
  (k:∀ o' M',SlM M' 10 isRn o' [x]→Wf M'→X.size≤M'.size→(∀ j,j<X.size→rowOf o≠some j→M'.get j=X.get j)→(∀ id,rowOf o'=some id→rowOf o=some id∨X.size≤id)→M'.wm=X.wm→Q o' M') :
  W3 (zCN fuel (d+1) 49 [o,I64 0,.sl X.size 0 1 (some 1) 10] (X.add (.row false r))) Q:=by
 have sm:=h.slm
 have oo:=sm.one
 have ol:=sm.len
 have z10:decide ((1:Int)=0)=false:=rfl
 have ge:∀ N,lenO N (.sl X.size 0 1 (some 1) 10)=some (I64 1,N):=fun _=>rfl
 have hs:∀ N,(∀ j,rowOf o=some j→N.get j=X.get j) → ∃ v,slcO N 10 o (some (I64 0)) none none=some (v,N)∧oneA v=true:=fun N hN=>by
  rcases h with⟨_,rfl | ⟨id,rfl,hg⟩⟩ | ⟨hn,_⟩
  ·exact⟨_,rfl,rfl⟩
  ·exact⟨_,rfl,rfl⟩
  ·exact absurd rfl hn
 obtain⟨v,hsv,ov⟩:=hs (X.add (.row false r)) (fun j hj=>zAK wf _ _ (sm.lt j hj))
 refine zBK tf49 rfl (by simp [a49]) fun b' ht hx=>?_
 obtain⟨h0,h1,h2⟩:=hx3 hx
 clear hx
 simp only[a49,c49] at ht ⊢
 have ol0:∀ N,lenO N o=some (I64 0,N):=ol
 have rlo:=zAN sm.rl (show X.size≤X.size+1 by omega)
 simp (disch:=try exact SX) only[RV,seval,zA0,h0,h1,h2,oo,ol0,hsv,ov,ge,z10,z00,rlo]
 refine app1 wf sm zFI (x:=x) hx hr (by omega) (by simp) (by simp) fun o' M' sm' w' le' kp nw wm' rl on oc=>?_
 simp (disch:=try exact SX) only[RV,seval,zA0,on,oc,rl]
 exact k o' M' sm' w' le' kp nw wm'
theorem zQN {l:List Rn}{r:Rn}{n:Nat}(D:List Rn)(h:D=(l.drop n).takeWhile fun q=>r.sp.f.less q.sp.f){i:Nat}(hi:i<D.length)(hn:n+i<l.length):r.sp.f.less l[n+i].sp.f=true∧D[i]=l[n+i]:=by
 have h1:D[i]∈(l.drop n).takeWhile fun q=>r.sp.f.less q.sp.f:=by rw[← h];exact List.getElem_mem hi
 have h2:=List.all_eq_true.1 (List.all_takeWhile (l:=l.drop n) (p:=fun q=>r.sp.f.less q.sp.f)) _ h1
 have h3:D[i]=l[n+i]:=by
  have hp:D <+: l.drop n:=by rw[h];exact List.takeWhile_prefix _
  rw[hp.getElem hi,List.getElem_drop]
 rw[← h3]
 exact⟨h2,rfl⟩
theorem zNV {l:List Rn}{x:Eid}{n:Nat}(h:zFL l x n<l.length):x.less l[zFL l x n].sp.f=false:=by
 have hd:((l.drop n).dropWhile fun q=>x.less q.sp.f)=l.drop (zFL l x n):=by
  have e:=List.takeWhile_append_dropWhile (p:=fun q:Rn=>x.less q.sp.f) (l:=l.drop n)
  have e2:=congrArg (List.drop ((l.drop n).takeWhile fun q=>x.less q.sp.f).length) e
  rw[List.drop_left,List.drop_drop] at e2
  exact e2
 have:=List.head?_dropWhile_not (fun q:Rn=>x.less q.sp.f) (l.drop n)
 rw[hd,List.drop_eq_getElem_cons h] at this
 exact this
theorem zW3 {l:List Rn}{x:Eid}{n:Nat}(hn:n≤l.length):zFL l x n≤l.length:=by
 unfold zFL
 have:=(List.takeWhile_sublist (l:=l.drop n) (fun q:Rn=>x.less q.sp.f)).length_le
 rw[List.length_drop] at this
 omega
theorem zLO (l:List Rn)(x:Eid):(zBE l x).1.length≤l.length+2:=by
 unfold zBE
 split
 ·simp
 ·split
  ·simp
  ·split
   ·simp;omega
   ·simp
theorem zUV (l:List Rn):(zBV l).length≤l.length:=by
 refine zDA (P:=fun l=>(zBV l).length≤l.length) (Nat.le_refl _) (fun l r ih=>?_) l
 rw[zN1]
 have:=zPU (zBV l) r
 exact zB0R
theorem zYA (l:List Rn)(r:Rn):(insL l r).length≤l.length+3:=by
 unfold insL
 refine Nat.le_trans (zUV _) ?_
 have:=zLO l r.af
 simp only[List.length_append,List.length_take,List.length_drop,List.length_singleton]
 omega
noncomputable def insR (l:List Rn)(r:Rn):List Rn:=if putE l r=0 then insL l r else []
def insW (l:List Rn)(x:Rn)(v:AV)(M:Mem):Prop:=∃ r,v = .tup [r,I64 (putE l x)]∧rnK.ND M 0 r (insR l x)
open Classical in
theorem zS7 {a ra:AV}{l:List Rn}{x:Rn}(hS:Sl 10 isRn a l)(hR:Sl 1 zAS ra x.rs)(hx:x.ok)(hl:l.length≤900)(hf:64*l.length+3011000<fuel):zDC Tryz.prog (fsT tbl) fuel (d+10) 21 [a,.agg (rnR x ra)] (insW l x):=by
 have oa:=hS.one
 have ora:=hR.one
 have hck:=fun M=>@zTI fuel d a l hS (by omega) (by omega) M
 have hcx:=fun M=>@zC4 fuel (d+4) x ra hR (by omega) M
 have hpz:∀ e:Int,purA (.tup [NIL,I64 e])=true:=fun e=>by simp [purA,purL]
 unfold insW
 refine zEG tf21 rfl (by simp [a21]) fun b' ht hx=>?_
 obtain⟨h0,h1⟩:=hx2 hx
 clear hx
 simp only[a21,c21] at ht ⊢
 have hiE:putE l x=if zFM l=true∧x.may=true then (if x.af≠Eid.z∧zBG l x.af=none then 6 else if ∃ i:Nat,(i:Int)<x.sp.n∧zBG l (x.sp.at i)≠none then 2 else if 8192<zBB l+x.sp.n then 4 else 0) else 8:=by
  unfold putE
  simp only[zNX]
 by_cases h8:zFM l=true∧x.may=true
 ·rw[if_pos h8] at hiE
  obtain⟨htb,hxm⟩:=h8
  have hok:=zNX.1 htb
  rw[htb] at hck
  rw[hxm] at hcx
  have hwh:=fun y M=>@zO1 fuel (d+4) a l y hS (by omega) (by omega) M
  have hwa:=fun M=>hwh x.af M
  have hb:=Spn.may_le (Rn.may_sp hxm)
  obtain⟨m,hmn⟩:∃ m:Nat,x.sp.n=m:=⟨x.sp.n.toNat,by omega⟩
  have ia:∀ i:Nat,i<m → ∀ M,zCN fuel (d+10) 44 [spA x.sp,I64 i] M=some (.tup [idA (x.sp.at i),I64 0],M):=fun i hi M=>by
   have:=@zIO fuel (d+5) x.sp i M
   rw[if_pos (Rn.may_sp hxm),if_neg (by omega)] at this
   exact this
  have qn1:decide ((-1:Int)<0)=true:=rfl
  have qg1:decide ((0:Int) ≤ -1)=false:=rfl
  by_cases h6:x.af≠Eid.z∧zBG l x.af=none
  ·have e6:putE l x=6:=by rw[hiE,if_pos h6]
   have er:insR l x=[]:=by unfold insR;rw[e6];rfl
   rw[e6,er]
   have q:decide (x.af=Eid.z)=false:=decide_eq_false h6.1
   rw[h6.2] at hwa
   simp (disch:=try exact SX) only[RV,seval,zA0,h0,h1,hS.fz.rows,hS.fz.one,hS.fz.cells,hS.fz.icy,hS.fz.frz,hR.fz.rows,hR.fz.one,hR.fz.cells,hR.fz.icy,hR.fz.frz,hck,hcx,IMX,zB9,z00,zD1,zD3,zD2,BMM,zAP,hwa,wN,wK,qn1,↓pIdE,zAA,↓pIdN,zA9,↓pHdE,zAB,↓pHdN,zAC,↓pLbE,zA8,↓pLbN,zAD,↓pSpE,zAE,↓pSpN,zAF,ETA,q]
   exact⟨hpz _,NIL,rfl,NK.ND.nil _ _⟩
  ·rw[if_neg h6] at hiE
   have hx6:x.af=Eid.z∨zBG l x.af≠none:=by
    by_cases h:x.af=Eid.z
    ·exact .inl h
    ·exact .inr fun k=>h6 ⟨h,k⟩
   have step:∃ b:Bool,(decide ((wN (zBG l x.af))<0)=b)∧(b=true→decide (x.af=Eid.z)=true):=by
    refine⟨_,rfl,fun hb=>?_⟩
    rcases hx6 with h | h
    ·exact decide_eq_true h
    ·cases hw:zBG l x.af with
     | none=>exact absurd hw h
     | some p =>
      have hb:=of_decide_eq_true hb
      rw[hw] at hb
      simp only[wN] at hb
      omega
   obtain⟨b6,hb6,hb6'⟩:=step
   have main:∀ (b6:Bool),decide ((wN (zBG l x.af))<0)=b6→(b6=true→decide (x.af=Eid.z)=true)→True:=fun _ _ _=>trivial
   clear main
   cases b6 with
   | true =>
    have q:=hb6' rfl
    simp (disch:=try exact SX) only[RV,seval,zA0,h0,h1,hS.fz.rows,hS.fz.one,hS.fz.cells,hS.fz.icy,hS.fz.frz,hR.fz.rows,hR.fz.one,hR.fz.cells,hR.fz.icy,hR.fz.frz,hck,hcx,IMX,zB9,z00,zD1,zD3,zD2,BMM,zAP,hwa,hb6,↓pIdE,zAA,↓pIdN,zA9,↓pHdE,zAB,↓pHdN,zAC,↓pLbE,zA8,↓pLbN,zAD,↓pSpE,zAE,↓pSpN,zAF,ETA,q]
    exact zB00
   | false =>
    simp (disch:=try exact SX) only[RV,seval,zA0,h0,h1,hS.fz.rows,hS.fz.one,hS.fz.cells,hS.fz.icy,hS.fz.frz,hR.fz.rows,hR.fz.one,hR.fz.cells,hR.fz.icy,hR.fz.frz,hck,hcx,IMX,zB9,z00,zD1,zD3,zD2,BMM,zAP,hwa,hb6]
    exact zB00
 ·have e8:putE l x=8:=by rw[hiE,if_neg h8]
  have er:insR l x=[]:=by unfold insR;rw[e8];rfl
  have hz:imax (err (zFM l)) (err x.may)=8:=by
   cases ma:zFM l <;> cases mb:x.may <;> first | rfl | exact absurd ⟨ma,mb⟩ h8
  rw[e8,er]
  simp (disch:=try exact SX) only[RV,seval,zA0,h0,h1,hS.fz.rows,hS.fz.one,hS.fz.cells,hS.fz.icy,hS.fz.frz,hR.fz.rows,hR.fz.one,hR.fz.cells,hR.fz.icy,hR.fz.frz,hck,hcx,hz,z80,zD1,zD3,zD2,BMM,zAP]
  exact⟨hpz _,NIL,rfl,NK.ND.nil _ _⟩
variable {l : List Op} {a : AV}
theorem zRF (l:List Op):(textOf l).length≤3*l.length:=by
 refine zDA (P:=fun l=>(textOf l).length≤3*l.length) (Nat.le_refl _) (fun l o ih=>?_) l
 rw[zG7]
 unfold stepT
 split
 ·have:=zYA (textOf l) o.rn
  exact zB0R
 ·exact zB0R
theorem zgI {o:Op}(h:o.ok):o.rn.ok:=⟨h.2.2.2.1,h.2.2.2.2.1,h.2.2.2.2.2.2⟩
theorem zOV {o ra:AV}{l:List Rn}{x:Rn}{B:Nat}(hN:rnK.ND M B o l)(hR:Sl 1 zAS ra x.rs)(hx:x.ok)(hl:l.length≤900)(hf:64*l.length+3011000<fuel)(wf:Wf M)(k:∀ r N,Kept M N→rnK.ND N M.size r (insR l x)→Q (.tup [r,I64 (putE l x)]) N):W3 (zCN fuel (d+11) 21 [o,.agg (rnR x ra)] M) Q:=by
 obtain⟨o',M',i1,s1,_⟩:=hN.nn.nr.icyk wf (k:=11) (by omega)
 have s2:Sl 10 isRn o' l:=s1
 refine zDC.use (zS7 (fuel:=fuel) (d:=d) s2 hR hx hl hf) (M0:=M') (by simp only[icyL,i1,zCP hR.fz]) wf fun u M2 hu=>?_
 obtain⟨r,rfl,hr⟩:=hu
 have:=k _ _ (zEE wf) (zZQ hr wf)
 simpa [shA,shL] using this
def txtW (l:List Op)(u:AV)(M:Mem):Prop:=∃ r,u = .tup [r,I64 (err (zAY [] l))]∧rnK.ND M 0 r (if zAY [] l=true then textOf l else [])
theorem za2 (hS:Sl 17 isOp a l)(hl:l.length≤200)(hf:3080000<fuel):zDC Tryz.prog (fsT tbl) fuel (d+14) 7 [a] (txtW l):=by
 have hpz:∀ e:Int,purA (.tup [NIL,I64 e])=true:=fun e=>by simp [purA,purL]
 have ll:=hS.len
 have hck:=fun M=>zDP (fuel:=fuel) (d:=d) hS (by omega) (by omega) M
 refine zEG tf7 rfl (by simp [a7]) fun b' ht hx=>?_
 have h0:=hx 0 _ rfl
 clear hx
 simp only[a7,c7] at ht ⊢
 unfold txtW
 cases q1:zAY [] l with
 | false =>
  rw[q1] at hck
  simp (disch:=try exact SX) only[RV,seval,zA0,h0,hS.fz.rows,hS.fz.one,hS.fz.cells,hS.fz.icy,hS.fz.frz,hck,zBH,z00,z80,zD1,zD3,zD2,BMM,IMX]
  exact⟨hpz _,NIL,rfl,NK.ND.nil _ _⟩
 | true =>
  rw[q1] at hck
  simp only[if_true]
  simp (disch:=try exact SX) only[RV,seval,zA0,h0,hS.fz.rows,hS.fz.one,hS.fz.cells,hS.fz.icy,hS.fz.frz,hck,zB9,z00,z80,ll,zD1,zD3,zD2,BMM,IMX]
  refine zAZ (I:=fun n t N => ∃ (i:Nat) (r:AV),n=l.length - i∧i≤l.length∧nth zA1 t 2=r∧nth zA1 t 14=a∧nth zA1 t 15=I64 l.length∧nth zA1 t 16=I64 i∧Wf N∧N.wm=0∧rnK.ND N 0 r (textOf (l.take i))) (n:=l.length) (by omega) ?_ ?_
  ·refine⟨0,NIL,rfl,Nat.zero_le _, ?_, ?_, ?_, ?_,Wf.mem0,rfl,NK.ND.nil _ _⟩ <;> simp (disch:=try exact SX) only[RV,seval,zA0,h0,ll]
   all_goals first | rfl | assumption | done
  ·rintro n t N hlt ⟨i,r,rfl,hi,g2,g14,g15,g16,w,wm,hA⟩
   simp only[ht] at hlt ⊢
   obtain⟨or',cr',_,_,pr',lr'⟩:=ND.lr hA
   by_cases hc:i<l.length
   ·have q3:decide ((i:Int)<l.length)=true:=DT
    have w1:IntKind.i64.wrap ((i:Int)+1)=((i+1:Nat):Int):=WI
    obtain⟨r0,hiad,hr,hrl⟩:=hS.iad i hc
    have hts:=zG7 (l.take i) l[i]
    rw[← take_snoc l i hc] at hts
    have htl:=zRF (l.take i)
    rw[List.length_take] at htl
    have hsp:l.take i++l[i]::l.drop (i+1)=l:=by rw[← List.drop_eq_getElem_cons hc,List.take_append_drop]
    have hput:rofE l[i]=0→putE (textOf (l.take i)) l[i].rn=0:=zY6 (m:=l.drop (i+1)) (by rw[hsp];exact q1)
    clear hsp
    generalize l[i]=e at *
    obtain⟨ra,rfl,hra,hok⟩:=hr
    have ora:=hra.one
    obtain⟨rr,hk,hof⟩:=zNT (fuel:=fuel) (d:=d+6) hra hok (by omega)
    have kX:=((Kept.refl w).add (.row false (opR ⟨0,Hd.z,0,⟨Eid.z,0⟩,Eid.z,Lb.z,[]⟩ NIL))).upd (i:=N.size) (by omega) (Nat.le_refl _) (.row false (opR e ra))
    have kY:=fun (q:Rn) (b:AV)=>(kX.add (.row false (rnR ⟨⟨Eid.z,0⟩,Eid.z,[]⟩ NIL))).upd (i:=N.size+1) (by omega) (by omega) (.row false (rnR q b))
    by_cases q4:rofE e=0
    ·have q4':decide (rofE e=0)=true:=decide_eq_true q4
     unfold rofK at hk
     rw[if_pos q4] at hk
     obtain⟨rb,rfl,hrb⟩:=hk
     have orb:=hrb.one
     unfold stepT at hts
     rw[if_pos q4] at hts
     simp (disch:=try exact SX) only[RV,seval,zA0,g2,g14,g15,g16,hS.fz.rows,hS.fz.one,hS.fz.cells,hS.fz.icy,hS.fz.frz,q3,hiad,hra.fz.rows,hra.fz.one,hra.fz.cells,hra.fz.icy,hra.fz.frz,hrb.fz.rows,hrb.fz.one,hrb.fz.cells,hrb.fz.icy,hrb.fz.frz,hof,w,w1,z00,or',cr']
     refine zOV (d:=d+3) (hA.keep fun j _ hj=>(kY e.rn rb).get j hj) hrb (zgI hok) (by omega) (by omega) (kY e.rn rb).wf fun r2 N2 k2 nd2=>?_
     have w2:=k2.wf
     obtain⟨o2,c2,_,_,_,_⟩:=ND.lr nd2
     rw[hput q4]
     unfold insR at nd2
     rw[if_pos (hput q4),← hts] at nd2
     simp (disch:=try exact SX) only[RV,seval,zA0,g2,g14,g15,g16,w2,w1,z00,o2,c2]
     exact⟨hlt,l.length - (i+1),by omega,i+1,r2,rfl,by omega,rfl,rfl,by rw[k2.wm,(kY e.rn rb).wm];exact wm,ND.mono nd2 (Nat.zero_le _)⟩
    ·have q4':decide (rofE e=0)=false:=decide_eq_false q4
     unfold rofK at hk
     rw[if_neg q4] at hk
     subst hk
     unfold stepT at hts
     rw[if_neg q4] at hts
     unfold rnZ at hof
     simp (disch:=try exact SX) only[RV,seval,zA0,g2,g14,g15,g16,hS.fz.rows,hS.fz.one,hS.fz.cells,hS.fz.icy,hS.fz.frz,q3,hiad,hra.fz.rows,hra.fz.one,hra.fz.cells,hra.fz.icy,hra.fz.frz,hof,q4',w,w1,z00]
     exact⟨hlt,l.length - (i+1),by omega,i+1,r,rfl,by omega,rfl,rfl,by exact wm,by rw[hts];exact hA.keep fun j _ hj=>(kY ⟨⟨Eid.z,0⟩,Eid.z,[]⟩ NIL).get j hj⟩
   ·obtain rfl:i=l.length:=by omega
    have q3:decide ((l.length:Int)<l.length)=false:=DF
    rw[List.take_length] at hA
    simp (disch:=try exact SX) only[RV,seval,zA0,g2,g14,g15,g16,q3,or',cr']
    exact⟨by simp [purA,purL,pr'],r,rfl,hA⟩
theorem za3 (hS:Sl 17 isOp a l)(hl:l.length≤200)(hf:3080000<fuel)(wf:Wf M)(k:∀ r N,Kept M N→rnK.ND N M.size r (if zAY [] l=true then textOf l else [])→Q (.tup [r,I64 (err (zAY [] l))]) N):W3 (zCN fuel (d+15) 7 [a] M) Q:=by
 refine zDC.use (za2 (fuel:=fuel) (d:=d) hS hl hf) (M0:=M) (by simp only[icyL,hS.icy M 12 (by omega)]) wf fun u M2 hu=>?_
 obtain⟨r,rfl,hr⟩:=hu
 have:=k _ _ (zEE wf) (zZQ hr wf)
 simpa [shA,shL] using this
theorem zNR {a b:AV}{l m:List Int}(ha:Sl 1 zAS a l)(hb:Sl 1 zAS b m)(hf:l.length<fuel)(hl:l.length≤1000000000)(M:Mem) :
  zCN fuel (d+1) 39 [a,b] M=some (BL (decide (l=m)),M):=by
 have hla:=ha.len
 have hlb:=hb.len
 apply zB2
 refine zAJ tf39 rfl (by simp (disch:=try exact SX) only[RV,seval,zA0,ha.fz.rows,ha.fz.one,ha.fz.cells,ha.fz.icy,ha.fz.frz,hb.fz.rows,hb.fz.one,hb.fz.cells,hb.fz.icy,hb.fz.frz]) (by simp [a39]) fun b' ht hx=>?_
 obtain⟨h0,h1⟩:=hx2 hx
 clear hx
 simp only[a39,c39] at ht ⊢
 by_cases hll:l.length=m.length
 ·have q1:decide ((l.length:Int)=m.length)=true:=by simp;omega
  simp (disch:=try exact SX) only[RV,seval,zA0,h0,h1,hla,hlb,q1]
  refine zAZ (I:=fun n t N => ∃ (i:Nat),n=l.length - i∧i≤l.length∧nth zA1 t 0=a∧nth zA1 t 1=b∧nth zA1 t 5=I64 i∧l.take i=m.take i) (n:=l.length) (by omega) ?_ ?_
  ·refine⟨0,rfl,Nat.zero_le _, ?_, ?_, ?_,rfl⟩ <;> simp (disch:=try exact SX) only[RV,seval,zA0,h0,h1]
   all_goals first | rfl | assumption | done
  ·rintro n t N hlt ⟨i,rfl,hi,g0,g1,g5,tk⟩
   simp only[ht] at hlt ⊢
   by_cases hlt':i<l.length
   ·have hc':decide ((i:Int)<l.length)=true:=by simp;omega
    have hmt:i<m.length:=by omega
    have w1:IntKind.i64.wrap ((i:Int)+1)=((i+1:Nat):Int):=WI
    obtain⟨r,hr,rfl,_⟩:=ha.iad i hlt'
    obtain⟨r2,hr2,rfl,_⟩:=hb.iad i hmt
    by_cases he:l[i]=m[i]
    ·have q2:decide (l[i]=m[i])=true:=by simp [he]
     simp (disch:=try exact SX) only[RV,seval,zA0,g0,g1,g5,hla,hc',hr,hr2,w1,q2]
     exact zB0w
    ·have q2:decide (l[i]=m[i])=false:=by simp [he]
     simp (disch:=try exact SX) only[RV,seval,zA0,g0,g1,g5,hla,hc',hr,hr2,w1,q2]
     exact zB0M
   ·have hc':decide ((i:Int)<l.length)=false:=by simp;omega
    simp (disch:=try exact SX) only[RV,seval,zA0,g0,g1,g5,hla,hc']
    exact zB0r
 ·have q1:decide ((l.length:Int)=m.length)=false:=by simp;omega
  have q3:decide (l=m)=false:=by
   simp only[decide_eq_false_iff_not]
   rintro rfl;exact hll rfl
  simp (disch:=try exact SX) only[RV,seval,zA0,h0,h1,hla,hlb,q1,q3]
theorem zP7 {o p:Rn}{ra rb:AV}(hR:Sl 1 zAS ra o.rs)(hP:Sl 1 zAS rb p.rs)(hl:o.rs.length≤1000000000)(hf:o.rs.length<fuel)(M:Mem):zCN fuel (d+2) 33 [.agg (rnR o ra),.agg (rnR p rb)] M=some (BL (rnEq o p),M):=by
 have ora:=hR.one
 have orb:=hP.one
 have hs:=fun M=>zNR (fuel:=fuel) (d:=d) hR hP hf hl M
 apply zB2
 refine zAJ tf33 rfl (by simp only[icyL,zCP hR.fz,zCP hP.fz]) (by simp [a33]) fun b' ht hx=>?_
 obtain⟨h0,h1⟩:=hx2 hx
 clear hx
 simp only[a33,c33] at ht ⊢
 exact zB05
theorem zPC {a b:AV}{l m:List Rn}(h1':Sl 10 isRn a l)(h2':Sl 10 isRn b m)(hl:l.length≤1000000)(hc:∀ e∈l,e.rs.length≤1000000∧e.rs.length<fuel)(hf:l.length<fuel)(M:Mem):zCN fuel (d+3) 13 [a,b] M=some (BL (zH5 l m),M):=by
 have la:=h1'.len
 have lb:=h2'.len
 apply zB2
 refine zEU tf13 rfl (by simp (disch:=try exact SX) only[RV,seval,zA0,h1'.fz.rows,h1'.fz.one,h1'.fz.cells,h1'.fz.icy,h1'.fz.frz,h2'.fz.rows,h2'.fz.one,h2'.fz.cells,h2'.fz.icy,h2'.fz.frz]) (by simp [a13]) fun b' ht hx=>?_
 obtain⟨h0,h1⟩:=hx2 hx
 clear hx
 simp only[a13,c13] at ht ⊢
 by_cases q:l.length=m.length
 ·have q0:decide ((l.length:Int)=m.length)=true:=DT
  simp (disch:=try exact SX) only[RV,seval,zA0,h0,h1,la,lb,h1'.fz.rows,h1'.fz.one,h1'.fz.cells,h1'.fz.icy,h1'.fz.frz,h2'.fz.rows,h2'.fz.one,h2'.fz.cells,h2'.fz.icy,h2'.fz.frz,q0]
  refine zAZ (I:=fun n t N => ∃ (i:Nat),n=l.length - i∧i≤l.length∧nth zA1 t 0=a∧nth zA1 t 1=b∧nth zA1 t 5=I64 i∧Wf N∧(∀ j (x1:j<l.length) (x2:j<m.length),j<i→rnEq l[j] m[j]=true)) (n:=l.length) (by omega) ?_ ?_
  ·refine⟨0,rfl,Nat.zero_le _, ?_, ?_, ?_,Wf.mem0,(fun _ _ _ h=>absurd h (by omega))⟩ <;> simp (disch:=try exact SX) only[RV,seval,zA0,h0,h1]
   all_goals first | rfl | assumption | done
  ·rintro n t N hlt ⟨i,rfl,hi,g0,g1,g5,wN,hj⟩
   simp only[ht] at hlt ⊢
   by_cases hc':i<l.length
   ·have q1:decide ((i:Int)<l.length)=true:=DT
    have hc2:i<m.length:=by omega
    obtain⟨r1,i1,hr1,hl1⟩:=h1'.iad i hc'
    obtain⟨r2,i2,hr2,hl2⟩:=h2'.iad i hc2
    have hcr:=hc l[i] (List.getElem_mem hc')
    have w1:IntKind.i64.wrap ((i:Int)+1)=((i+1:Nat):Int):=WI
    have qat:=fun q2=>zTS (p:=rnEq) hc' hc2 q2
    have hj':=hj
    have key:rnEq l[i] m[i]=true → ∀ j (x1:j<l.length) (x2:j<m.length),j<i+1→rnEq l[j] m[j]=true:=fun q2 j x1 x2 hj'=>by
     exact zB0V
    generalize l[i]=e1 at *
    generalize m[i]=e2 at *
    obtain⟨ra1,rfl,b1,_⟩:=hr1
    obtain⟨ra2,rfl,b2,_⟩:=hr2
    have hp:=fun M=>zP7 (fuel:=fuel) (d:=d) b1 b2 (by omega) hcr.2 M
    have o1:=b1.one
    have o3:=b2.one
    cases q2:rnEq e1 e2 with
    | true =>
     rw[q2] at hp
     simp (disch:=try exact SX) only[RV,seval,zA0,g0,g1,g5,la,h1'.fz.rows,h1'.fz.one,h1'.fz.cells,h1'.fz.icy,h1'.fz.frz,h2'.fz.rows,h2'.fz.one,h2'.fz.cells,h2'.fz.icy,h2'.fz.frz,q1,i1,i2,w1,b1.fz.rows,b1.fz.one,b1.fz.cells,b1.fz.icy,b1.fz.frz,b2.fz.rows,b2.fz.one,b2.fz.cells,b2.fz.icy,b2.fz.frz,hp,wN]
     exact⟨hlt,l.length - (i+1),by omega,i+1,rfl,by omega,rfl,key q2⟩
    | false =>
     rw[q2] at hp
     have e:zH5 l m=false:=qat q2
     simp (disch:=try exact SX) only[RV,seval,zA0,g0,g1,g5,la,h1'.fz.rows,h1'.fz.one,h1'.fz.cells,h1'.fz.icy,h1'.fz.frz,h2'.fz.rows,h2'.fz.one,h2'.fz.cells,h2'.fz.icy,h2'.fz.frz,q1,i1,i2,w1,b1.fz.rows,b1.fz.one,b1.fz.cells,b1.fz.icy,b1.fz.frz,b2.fz.rows,b2.fz.one,b2.fz.cells,b2.fz.icy,b2.fz.frz,hp,wN,e,zBD]
   ·obtain rfl:i=l.length:=by omega
    have q1:decide ((l.length:Int)<l.length)=false:=DF
    have e:zH5 l m=true:=zOH q fun j x1 x2 _=>hj j x1 x2 x1
    simp (disch:=try exact SX) only[RV,seval,zA0,g0,g1,g5,la,q1,e,zBD]
 ·have q0:decide ((l.length:Int)=m.length)=false:=DF
  have e:zH5 l m=false:=zTV q
  exact zB0v
variable {o : AV} {E B : Nat} {L : List Nat}
theorem lay_n {cs:List AV}{k:Nat}{x:Rn}{ra:AV}(h:slot cs k 10=rnR x ra)(hl:k+10≤cs.length)(n:Int):lay cs (k+4) [I64 n]=lay cs k (rnR ⟨⟨x.sp.f,n⟩,x.af,x.rs⟩ ra):=by
 have h2:(cs.drop k).take 10=rnR x ra:=h
 have e4:cs.take (k+4)=cs.take k++(rnR x ra).take 4:=by
  exact zB0X
 have e5:cs.drop (k+5)=(rnR x ra).drop 5++cs.drop (k+10):=by
  exact zB0l
 unfold lay
 rw[e4,show k+4+[I64 n].length=k+5 from rfl,e5]
 simp
def SpT (M:Mem)(E B:Nat)(o:AV)(L:List Nat):Prop:=∃ (G:Mem) (l:List Rn),Wf G∧G.size=E∧(∀ j,B≤j→j<E→M.get j=G.get j)∧rnK.ND G B o l∧l.map (fun o=>o.rs.length)=L
theorem SpT.of {l:List Rn}(h:rnK.ND M B o l)(wf:Wf M):SpT M M.size B o (l.map fun o=>o.rs.length):=⟨M,l,wf,rfl,fun _ _ _=>rfl,h,rfl⟩
theorem SpT.keep {N:Mem}(h:SpT M E B o L)(k:∀ j,B≤j→j<E→N.get j=M.get j):SpT N E B o L:=by
 obtain⟨G,l,h1,h2,h3,h4⟩:=h
 exact⟨G,l,h1,h2,fun j a b=>(k j a b).trans (h3 j a b),h4⟩
theorem SpT.len (h:SpT M E B o L):∀ N,lenO N o=some (I64 L.length,N):=by
 obtain⟨G,l,_,_,_,hN,rfl⟩:=h
 rw[List.length_map]
 exact hN.nn.len
theorem SpT.one (h:SpT M E B o L):oneA o=true:=by
 obtain⟨G,l,_,_,_,hN,rfl⟩:=h
 exact hN.nn.one
theorem SpT.rows (h:SpT M E B o L)(hn:E≤M.size):(rowsOf o).all (fun x=>Nat.blt x M.size)=true:=by
 obtain⟨G,l,_,rfl,_,hN,rfl⟩:=h
 exact hN.nn.rows hn
theorem zbA {G:Mem}{id:Nat}{x:AObj}(wf:Wf M)(wg:Wf G)(hE:G.size≤M.size)(lid:id<G.size)(ag:∀ j,B≤j→j<G.size→M.get j=G.get j):∀ j,B≤j→j<G.size→(M.upd id x).get j=(G.upd id x).get j:=fun j h1 h2=>by
 by_cases e:id=j
 ·subst e
  rw[zAI wf _ _ (by omega),zAI wg _ _ lid]
 ·rw[zA2 wf _ _ _ e,zA2 wg _ _ _ e]
  exact ag j h1 h2
theorem SpT.at (h:SpT M E B o L)(wf:Wf M)(hE:E≤M.size){i:Nat}(hi:i<L.length):∃ id cs ra,(B≤id∧id<E)∧M.get id=some (.row false cs)∧(∀ N,iadO N 10 o (some i)=some (.ptr id (i*10),N))∧(i+1)*10≤cs.length∧cs[i*10+9]? = some ra∧oneA ra=true∧(∀ N,lenO N ra=some (I64 L[i],N))∧SpT (M.upd id (.row false (lay cs (i*10+4) [I64 (-7)]))) E B o L ∧
  ∀ k,k<L[i] → ∃ id2 cs2 v,(id2<E∧B≤id2)∧M.get id2=some (.row false cs2)∧k<cs2.length∧(∀ N,iadO N 1 ra (some k)=some (.ptr id2 k,N))∧cs2[k]? = some (I32 v) ∧ ∀ w,(-2147483648≤w∧w≤2147483647)→SpT (M.upd id2 (.row false (lay cs2 k [I32 w]))) E B o L:=by
 obtain⟨G,l,wg,rfl,ag,hN,rfl⟩:=h
 have hi':i<l.length:=by simpa using hi
 obtain⟨id,cs,ra,hrow,hB,lid,hg,hiad,hsl,hcl,hin,hne,hput⟩:=NK.ND.grow hN hi'
 obtain⟨id',cs',ra',hrow',hB',hg',_,hsl',_,hin',hne',hset⟩:=hN.at hi'
 obtain rfl:id'=id:=by rw[hrow] at hrow';exact(Option.some.inj hrow').symm
 obtain rfl:cs'=cs:=by rw[hg] at hg';simpa using hg'.symm
 have hsl:slot cs' (i*10) 10=rnR l[i] ra:=hsl
 have hsl':slot cs' (i*10) 10=rnR l[i] ra':=hsl'
 obtain rfl:ra'=ra:=by rw[hsl] at hsl';simpa using hsl'.symm
 have hcl:(i+1)*10≤cs'.length:=hcl
 have p9:cs'[i*10+9]? = some ra':=(zFA (off:=9) hsl (by decide)).trans rfl
 have sm:SlM G 1 zAS ra' l[i].rs:=hin.1
 have hok:l[i].ok:=hin.2.2
 have hL:(l.map fun o=>o.rs.length)[i]=l[i].rs.length:=by rw[List.getElem_map]
 rw[hL]
 refine⟨id',cs',ra',⟨hB,lid⟩,(ag id' hB lid).trans hg,hiad,hcl,p9,sm.one,sm.len, ?_,fun k hk=>?_⟩
 ·refine⟨G.upd id' (.row false (lay cs' (i*10+4) [I64 (-7)])),l.set i ⟨⟨l[i].sp.f, -7⟩,l[i].af,l[i].rs⟩,wg.upd _ _,rfl,zbA wf wg hE lid ag, ?_, ?_⟩
  ·refine hput _ ⟨⟨l[i].sp.f, -7⟩,l[i].af,l[i].rs⟩ ra' (Nat.le_refl _) ⟨sm.keep fun j hj=>zA2 wg _ _ _ (fun e=>hne (by rw[hj,e])),hin.2.1,⟨⟨hok.1.1,by show i64R (-7);unfold i64R;omega⟩,hok.2⟩⟩ (fun j hj => .inl hj) sm.one sm.cells (fun j _ _ _ h=>zA2 wg _ _ _ (fun e=>h e.symm)) ?_ (by omega)
   rw[zAI wg _ _ lid,lay_n hsl (by omega)]
   rfl
  ·rw[List.map_set]
   rw[← hL,List.set_getElem_self]
 ·obtain⟨id2,cs2,r,hrow2,lid2,hg2,hcs2,hiad2,hr,_,_,hcell,_,hset2⟩:=sm.atS hk
  have hr:r=[I32 l[i].rs[k]]:=hr
  subst hr
  have hB2:=hin.2.1 id2 hrow2
  have hc0:=hcell 0 (by omega)
  simp only[Nat.mul_one,Nat.add_zero] at hc0 hiad2 hset2 hcs2
  refine⟨id2,cs2,l[i].rs[k],⟨lid2,hB2⟩,(ag id2 hB2 lid2).trans hg2,by omega,hiad2,hc0,fun w hw=>⟨G.upd id2 (.row false (lay cs2 k [I32 w])),l.set i { l[i] with rs:=l[i].rs.set k w },wg.upd _ _,rfl,zbA wf wg hE lid2 ag, ?_, ?_⟩⟩
  ·refine hset _ _ rfl ?_ (fun j h1 h2 h3=>zA2 wg _ _ _ (fun e=>h3 (by rw[hrow2,e]))) (hset2 [I32 w] w rfl rfl _ (zAI wg _ _ lid2))
   refine⟨hok.1,hok.2.1, ?_⟩
   intro x hx
   rcases List.mem_or_eq_of_mem_set hx with h | rfl
   ·exact hok.2.2 x h
   ·exact hw
  ·rw[List.map_set]
   simp only[List.length_set]
   rw[← hL,List.set_getElem_self]
def Sp (M:Mem)(E B:Nat)(o:AV)(L:List Nat):Prop:=∃ (G:Mem) (l:List Op),Wf G∧G.size=E∧(∀ j,B≤j→j<E→M.get j=G.get j)∧opK.ND G B o l∧l.map (fun o=>o.rs.length)=L
theorem Sp.of {l:List Op}(h:opK.ND M B o l)(wf:Wf M):Sp M M.size B o (l.map fun o=>o.rs.length):=⟨M,l,wf,rfl,fun _ _ _=>rfl,h,rfl⟩
theorem Sp.keep {N:Mem}(h:Sp M E B o L)(k:∀ j,B≤j→j<E→N.get j=M.get j):Sp N E B o L:=by
 obtain⟨G,l,h1,h2,h3,h4⟩:=h
 exact⟨G,l,h1,h2,fun j a b=>(k j a b).trans (h3 j a b),h4⟩
theorem Sp.len (h:Sp M E B o L):∀ N,lenO N o=some (I64 L.length,N):=by
 obtain⟨G,l,_,_,_,hN,rfl⟩:=h
 rw[List.length_map]
 exact hN.nn.len
theorem Sp.one (h:Sp M E B o L):oneA o=true:=by
 obtain⟨G,l,_,_,_,hN,rfl⟩:=h
 exact hN.nn.one
theorem Sp.rows (h:Sp M E B o L)(hn:E≤M.size):(rowsOf o).all (fun x=>Nat.blt x M.size)=true:=by
 obtain⟨G,l,_,rfl,_,hN,rfl⟩:=h
 exact hN.nn.rows hn
theorem Sp.at (h:Sp M E B o L)(wf:Wf M)(hE:E≤M.size){i:Nat}(hi:i<L.length):∃ id cs ra,M.get id=some (.row false cs)∧(∀ N,iadO N 17 o (some i)=some (.ptr id (i*17),N))∧(i+1)*17≤cs.length∧cs[i*17+16]? = some ra∧oneA ra=true∧(∀ N,lenO N ra=some (I64 L[i],N)) ∧
  ∀ k,k<L[i] → ∃ id2 cs2,id2<E∧B≤id2∧M.get id2=some (.row false cs2)∧k<cs2.length∧(∀ N,iadO N 1 ra (some k)=some (.ptr id2 k,N))∧Sp (M.upd id2 (.row false (lay cs2 k [I32 7]))) E B o L:=by
 obtain⟨G,l,wg,rfl,ag,hN,rfl⟩:=h
 have hi':i<l.length:=by simpa using hi
 obtain⟨id,cs,ra,hrow,hB,hg,hiad,hsl,hcl,hin,hne,hset⟩:=hN.at hi'
 have hsl:slot cs (i*17) 17=opR l[i] ra:=hsl
 have hcl:(i+1)*17≤cs.length:=hcl
 have p16:cs[i*17+16]? = some ra:=(zFA (off:=16) hsl (by decide)).trans rfl
 have sm:SlM G 1 zAS ra l[i].rs:=hin.1
 have hok:l[i].ok:=hin.2.2
 have hL:(l.map fun o=>o.rs.length)[i]=l[i].rs.length:=by rw[List.getElem_map]
 rw[hL]
 refine⟨id,cs,ra,(ag id hB (Mem.get_lt hg)).trans hg,hiad,hcl,p16,sm.one,sm.len,fun k hk=>?_⟩
 obtain⟨id2,cs2,hrow2,lid2,hg2,hcs2,hiad2,hset2⟩:=sm.at1 hk
 have hB2:=hin.2.1 id2 hrow2
 refine⟨id2,cs2,lid2,hB2,(ag id2 hB2 lid2).trans hg2,hcs2,hiad2,G.upd id2 (.row false (lay cs2 k [I32 7])),l.set i { l[i] with rs:=l[i].rs.set k 7 },wg.upd _ _,rfl,fun j h1 h2=>?_, ?_, ?_⟩
 ·by_cases e:id2=j
  ·subst e
   rw[zAI wf _ _ (by omega),zAI wg _ _ lid2]
  ·rw[zA2 wf _ _ _ e,zA2 wg _ _ _ e]
   exact ag j h1 h2
 ·refine hset _ _ rfl ?_ (fun j h1 h2 h3=>zA2 wg _ _ _ (fun e=>h3 (by rw[hrow2,e]))) (hset2 (I32 7) 7 rfl _ (zAI wg _ _ lid2))
  refine⟨hok.1,hok.2.1,hok.2.2.1,hok.2.2.2.1,hok.2.2.2.2.1,hok.2.2.2.2.2.1, ?_⟩
  intro x hx
  rcases List.mem_or_eq_of_mem_set hx with h | rfl
  ·exact hok.2.2.2.2.2.2 x h
  ·decide
 ·rw[List.map_set]
  simp only[List.length_set]
  rw[← hL,List.set_getElem_self]
def opEq (o p:Op):Bool:=decide (o.kd=p.kd)&&decide (o.hd=p.hd)&&decide (o.sr=p.sr)&&decide (o.sp=p.sp)&&decide (o.af=p.af)&&decide (o.to=p.to)&&decide (o.rs=p.rs)
theorem zQS (o p:Op):opEq o p=true↔o=p:=by
 obtain⟨a1,a2,a3,a4,a5,a6,a7⟩:=o
 obtain⟨b1,b2,b3,b4,b5,b6,b7⟩:=p
 simp [opEq,and_assoc]
theorem zKI {o p:Op}{ra rb:AV}(hR:Sl 1 zAS ra o.rs)(hP:Sl 1 zAS rb p.rs)(hl:o.rs.length≤1000000000)(hf:o.rs.length<fuel)(M:Mem):zCN fuel (d+2) 19 [.agg (opR o ra),.agg (opR p rb)] M=some (BL (opEq o p),M):=by
 have ora:=hR.one
 have orb:=hP.one
 have hs:=fun M=>zNR (fuel:=fuel) (d:=d) hR hP hf hl M
 apply zB2
 refine zAJ tf19 rfl (by simp only[icyL,zDI hR.fz,zDI hP.fz]) (by simp [a19]) fun b' ht hx=>?_
 obtain⟨h0,h1⟩:=hx2 hx
 clear hx
 simp only[a19,c19] at ht ⊢
 unfold opEq
 cases q1:decide (o.kd=p.kd)
 ·simp (disch:=try exact SX) only[RV,seval,zA0,h0,h1,hR.fz.rows,hR.fz.one,hR.fz.cells,hR.fz.icy,hR.fz.frz,hP.fz.rows,hP.fz.one,hP.fz.cells,hP.fz.icy,hP.fz.frz,↓pIdE,zAA,↓pIdN,zA9,↓pHdE,zAB,↓pHdN,zAC,↓pLbE,zA8,↓pLbN,zAD,↓pSpE,zAE,↓pSpN,zAF,ETA,q1,Bool.false_and,zBD]
 cases q2:decide (o.hd=p.hd)
 ·simp (disch:=try exact SX) only[RV,seval,zA0,h0,h1,hR.fz.rows,hR.fz.one,hR.fz.cells,hR.fz.icy,hR.fz.frz,hP.fz.rows,hP.fz.one,hP.fz.cells,hP.fz.icy,hP.fz.frz,↓pIdE,zAA,↓pIdN,zA9,↓pHdE,zAB,↓pHdN,zAC,↓pLbE,zA8,↓pLbN,zAD,↓pSpE,zAE,↓pSpN,zAF,ETA,q1,q2,Bool.false_and,zBD]
 cases q3:decide (o.sr=p.sr)
 ·simp (disch:=try exact SX) only[RV,seval,zA0,h0,h1,hR.fz.rows,hR.fz.one,hR.fz.cells,hR.fz.icy,hR.fz.frz,hP.fz.rows,hP.fz.one,hP.fz.cells,hP.fz.icy,hP.fz.frz,↓pIdE,zAA,↓pIdN,zA9,↓pHdE,zAB,↓pHdN,zAC,↓pLbE,zA8,↓pLbN,zAD,↓pSpE,zAE,↓pSpN,zAF,ETA,q1,q2,q3,Bool.false_and,zBD]
 cases q4:decide (o.sp=p.sp)
 ·simp (disch:=try exact SX) only[RV,seval,zA0,h0,h1,hR.fz.rows,hR.fz.one,hR.fz.cells,hR.fz.icy,hR.fz.frz,hP.fz.rows,hP.fz.one,hP.fz.cells,hP.fz.icy,hP.fz.frz,↓pIdE,zAA,↓pIdN,zA9,↓pHdE,zAB,↓pHdN,zAC,↓pLbE,zA8,↓pLbN,zAD,↓pSpE,zAE,↓pSpN,zAF,ETA,q1,q2,q3,q4,Bool.false_and,zBD]
 cases q5:decide (o.af=p.af)
 ·simp (disch:=try exact SX) only[RV,seval,zA0,h0,h1,hR.fz.rows,hR.fz.one,hR.fz.cells,hR.fz.icy,hR.fz.frz,hP.fz.rows,hP.fz.one,hP.fz.cells,hP.fz.icy,hP.fz.frz,↓pIdE,zAA,↓pIdN,zA9,↓pHdE,zAB,↓pHdN,zAC,↓pLbE,zA8,↓pLbN,zAD,↓pSpE,zAE,↓pSpN,zAF,ETA,q1,q2,q3,q4,q5,Bool.false_and,zBD]
 cases q6:decide (o.to=p.to)
 ·simp (disch:=try exact SX) only[RV,seval,zA0,h0,h1,hR.fz.rows,hR.fz.one,hR.fz.cells,hR.fz.icy,hR.fz.frz,hP.fz.rows,hP.fz.one,hP.fz.cells,hP.fz.icy,hP.fz.frz,↓pIdE,zAA,↓pIdN,zA9,↓pHdE,zAB,↓pHdN,zAC,↓pLbE,zA8,↓pLbN,zAD,↓pSpE,zAE,↓pSpN,zAF,ETA,q1,q2,q3,q4,q5,q6,Bool.false_and,zBD]
 ·simp (disch:=try exact SX) only[RV,seval,zA0,h0,h1,hR.fz.rows,hR.fz.one,hR.fz.cells,hR.fz.icy,hR.fz.frz,hP.fz.rows,hP.fz.one,hP.fz.cells,hP.fz.icy,hP.fz.frz,↓pIdE,zAA,↓pIdN,zA9,↓pHdE,zAB,↓pHdN,zAC,↓pLbE,zA8,↓pLbN,zAD,↓pSpE,zAE,↓pSpN,zAF,ETA,q1,q2,q3,q4,q5,q6,hs,zBD]
def zVD (l m:List Op):Bool:=eqL opEq l m
theorem zJT {a b:AV}{l m:List Op}(h1':Sl 17 isOp a l)(h2':Sl 17 isOp b m)(hl:l.length≤1000000)(hc:∀ o∈l,o.rs.length≤1000000000∧o.rs.length<fuel)(hf:l.length<fuel)(M:Mem):zCN fuel (d+3) 14 [a,b] M=some (BL (zVD l m),M):=by
 have la:=h1'.len
 have lb:=h2'.len
 apply zB2
 refine zEU tf14 rfl (by simp (disch:=try exact SX) only[RV,seval,zA0,h1'.fz.rows,h1'.fz.one,h1'.fz.cells,h1'.fz.icy,h1'.fz.frz,h2'.fz.rows,h2'.fz.one,h2'.fz.cells,h2'.fz.icy,h2'.fz.frz]) (by simp [a14]) fun b' ht hx=>?_
 obtain⟨h0,h1⟩:=hx2 hx
 clear hx
 simp only[a14,c14] at ht ⊢
 by_cases q:l.length=m.length
 ·have q0:decide ((l.length:Int)=m.length)=true:=DT
  simp (disch:=try exact SX) only[RV,seval,zA0,h0,h1,la,lb,h1'.fz.rows,h1'.fz.one,h1'.fz.cells,h1'.fz.icy,h1'.fz.frz,h2'.fz.rows,h2'.fz.one,h2'.fz.cells,h2'.fz.icy,h2'.fz.frz,q0,zBD]
  refine zAZ (I:=fun n t N => ∃ (i:Nat),n=l.length - i∧i≤l.length∧nth zA1 t 0=a∧nth zA1 t 1=b∧nth zA1 t 5=I64 i∧N=mem0∧(∀ j (x1:j<l.length) (x2:j<m.length),j<i→opEq l[j] m[j]=true)) (n:=l.length) (by omega) ?_ ?_
  ·refine⟨0,rfl,Nat.zero_le _, ?_, ?_, ?_,rfl,(fun _ _ _ h=>absurd h (by omega))⟩ <;> simp (disch:=try exact SX) only[RV,seval,zA0,h0,h1,la]
   all_goals first | rfl | assumption | done
  ·rintro n t N hlt ⟨i,rfl,hi,g0,g1,g5,hm,hj⟩
   simp only[ht] at hlt ⊢
   subst hm
   by_cases hc':i<l.length
   ·have q1:decide ((i:Int)<l.length)=true:=DT
    have hc2:i<m.length:=by omega
    obtain⟨r1,i1,⟨ra,hr1,s1,_⟩,hl1⟩:=h1'.iad i hc'
    obtain⟨r2,i2,⟨rb,hr2,s2,_⟩,hl2⟩:=h2'.iad i hc2
    have hcr:=hc l[i] (List.getElem_mem hc')
    have hp:=fun M=>zKI (fuel:=fuel) (d:=d) s1 s2 hcr.1 hcr.2 M
    have w1:IntKind.i64.wrap ((i:Int)+1)=((i+1:Nat):Int):=WI
    subst hr1 hr2
    cases q2:opEq l[i] m[i] with
    | true =>
     rw[q2] at hp
     simp (disch:=try exact SX) only[RV,seval,zA0,g0,g1,g5,la,lb,h1'.fz.rows,h1'.fz.one,h1'.fz.cells,h1'.fz.icy,h1'.fz.frz,h2'.fz.rows,h2'.fz.one,h2'.fz.cells,h2'.fz.icy,h2'.fz.frz,q1,i1,i2,w1,s1.fz.rows,s1.fz.one,s1.fz.cells,s1.fz.icy,s1.fz.frz,s2.fz.rows,s2.fz.one,s2.fz.cells,s2.fz.icy,s2.fz.frz,hp,zBD]
     exact⟨hlt,l.length - (i+1),by omega,i+1,rfl,by omega,rfl,fun j x1 x2 hj'=>by
      rcases Nat.lt_succ_iff_lt_or_eq.1 hj' with h | rfl
      ·exact hj j x1 x2 h
      ·exact q2⟩
    | false =>
     rw[q2] at hp
     have e:zVD l m=false:=zTS hc' hc2 q2
     simp (disch:=try exact SX) only[RV,seval,zA0,g0,g1,g5,la,lb,h1'.fz.rows,h1'.fz.one,h1'.fz.cells,h1'.fz.icy,h1'.fz.frz,h2'.fz.rows,h2'.fz.one,h2'.fz.cells,h2'.fz.icy,h2'.fz.frz,q1,i1,i2,w1,s1.fz.rows,s1.fz.one,s1.fz.cells,s1.fz.icy,s1.fz.frz,s2.fz.rows,s2.fz.one,s2.fz.cells,s2.fz.icy,s2.fz.frz,hp,e,zBD]
   ·obtain rfl:i=l.length:=by omega
    have q1:decide ((l.length:Int)<l.length)=false:=DF
    have e:zVD l m=true:=zOH q fun j x1 x2 _=>hj j x1 x2 x1
    simp (disch:=try exact SX) only[RV,seval,zA0,g0,g1,g5,la,q1,h1'.fz.rows,h1'.fz.one,h1'.fz.cells,h1'.fz.icy,h1'.fz.frz,e,zBD]
 ·have q0:decide ((l.length:Int)=m.length)=false:=DF
  have e:zVD l m=false:=zTV q
  exact zB0v
def wO (o:Op):Int:=imax (imin (imax o.sp.n 0) 100) (imin (o.rs.length:Int) 1000)
def sumW (l:List Op):Int:=(l.map wO).sum
def zMP (l:List Op)(many:Int):Bool:=decide (many<l.length) || decide (300<sumW (l.take 300))
theorem zRG (o:Op):0≤wO o∧wO o≤1000∧((o.rs.length:Int)≤wO o∨1000≤wO o):=by
 unfold wO imax imin
 repeat' split
 all_goals omega
theorem sumW_snoc (l:List Op)(o:Op):sumW (l++[o])=sumW l+wO o:=by unfold sumW;simp
theorem zM6:∀ (l:List Op),0≤sumW l∧sumW l≤1000*l.length
 | []=>by simp [sumW]
 | o::l=>by
  have h1:=zM6 l
  have h2:=zRG o
  unfold sumW at *
  simp only[List.map_cons,List.sum_cons,List.length_cons]
  omega
theorem zRE:∀ (l:List Op) (o:Op),o∈l→wO o≤sumW l
 | [],_,h=>by cases h
 | p::l,o,h=>by
  have h1:=zM6 l
  have h2:=zRG p
  rcases List.mem_cons.1 h with rfl | h
  ·unfold sumW at *;simp only[List.map_cons,List.sum_cons];omega
  ·have:=zRE l o h
   unfold sumW at *;simp only[List.map_cons,List.sum_cons];omega
theorem zOQ {many:Int}(hm:many≤300)(h:zMP l many=false):(l.length:Int)≤many ∧ ∀ o∈l,o.rs.length≤300:=by
 unfold zMP at h
 simp only[Bool.or_eq_false_iff,decide_eq_false_iff_not] at h
 refine⟨by omega,fun o ho=>?_⟩
 have ht:l.take 300=l:=List.take_of_length_le (by omega)
 rw[ht] at h
 have:=zRE l o ho
 have:=zRG o
 omega
theorem zUB {many:Int}(hS:Sl 17 isOp a l)(hf:400<fuel)(M:Mem):zCN fuel (d+1) 4 [a,I64 many] M=some (BL (zMP l many),M):=by
 have ll:=hS.len
 apply zB2
 refine zAJ tf4 rfl (by simp only[icyL,fun M=>hS.icy M 12 (by omega),zOR]) (by simp [a4]) fun b' ht hx=>?_
 obtain⟨h0,h1⟩:=hx2 hx
 clear hx
 simp only[a4,c4] at ht ⊢
 unfold zMP
 simp (disch:=try exact SX) only[RV,zA0,reduceIte,Nat.reduceEqDiff,Nat.reduceBEq,Nat.reduceLT,Nat.reduceAdd,Nat.reduceLeDiff,Nat.reduceSub,Nat.reduceMul,Int.reduceLT,Int.reduceLE,Int.reduceEq,Int.reduceAdd,Int.reduceSub,Int.reduceMul,h0,h1,ll,hS.fz.rows,hS.fz.one,hS.fz.cells,hS.fz.icy,hS.fz.frz]
 refine zAZ (I:=fun n t N => ∃ (i:Nat),n=300 - i∧i≤300∧nth zA1 t 0=a∧nth zA1 t 1=I64 many∧nth zA1 t 5=I64 (sumW (l.take i))∧nth zA1 t 6=I64 i∧N=mem0∧i≤l.length) (n:=300) (by omega) ?_ ?_
 ·refine⟨0,rfl,Nat.zero_le _, ?_, ?_, ?_, ?_,rfl,Nat.zero_le _⟩ <;> simp (disch:=try exact SX) only[RV,zA0,reduceIte,Nat.reduceEqDiff,Nat.reduceBEq,Nat.reduceLT,Nat.reduceAdd,Nat.reduceLeDiff,Nat.reduceSub,Nat.reduceMul,Int.reduceLT,Int.reduceLE,Int.reduceEq,Int.reduceAdd,Int.reduceSub,Int.reduceMul,h0,h1]
  all_goals first | rfl | assumption | done
 ·rintro n t N hlt ⟨i,rfl,hi,g0,g1,g5,g6,hm,hil⟩
  simp only[ht] at hlt ⊢
  subst hm
  by_cases hc:i<l.length
  ·have q1:decide ((i:Int)<l.length)=true:=DT
   by_cases hc3:i<300
   ·have q2:decide ((i:Int)<300)=true:=DT
    have w1:IntKind.i64.wrap ((i:Int)+1)=((i+1:Nat):Int):=WI
    obtain⟨r,hiad,hr,hrl⟩:=hS.iad i hc
    have hsn:=sumW_snoc (l.take i) l[i]
    rw[← take_snoc l i hc] at hsn
    have hps:=zM6 (l.take i)
    rw[List.length_take] at hps
    have hwo:=zRG l[i]
    generalize l[i]=e at *
    obtain⟨ra,rfl,hra,hok⟩:=hr
    have lra:=hra.len
    have w2:IntKind.i64.wrap (sumW (l.take i)+wO e)=sumW (l.take (i+1)):=by rw[hsn];exact wrap_i64 (by omega) (by omega)
    simp (disch:=try exact SX) only[RV,zA0,reduceIte,Nat.reduceEqDiff,Nat.reduceBEq,Nat.reduceLT,Nat.reduceAdd,Nat.reduceLeDiff,Nat.reduceSub,Nat.reduceMul,Int.reduceLT,Int.reduceLE,Int.reduceEq,Int.reduceAdd,Int.reduceSub,Int.reduceMul,g0,g1,g5,g6,ll,hS.fz.rows,hS.fz.one,hS.fz.cells,hS.fz.icy,hS.fz.frz,q1,q2,w1,hiad,lra,zD1,zD3,zD2,BMM,w2]
    refine⟨hlt,300 - (i+1),by omega,i+1,rfl,by omega, ?_,rfl,by omega⟩
    show AV.sc (.int .i64 (IntKind.i64.wrap (sumW (l.take i)+wO e)))=I64 _
    rw[w2]
   ·have q2:decide ((i:Int)<300)=false:=DF
    obtain rfl:i=300:=by omega
    cases q3:decide (many<(l.length:Int))
    all_goals simp (disch:=try exact SX) only[RV,zA0,reduceIte,Nat.reduceEqDiff,Nat.reduceBEq,Nat.reduceLT,Nat.reduceAdd,Nat.reduceLeDiff,Nat.reduceSub,Nat.reduceMul,Int.reduceLT,Int.reduceLE,Int.reduceEq,Int.reduceAdd,Int.reduceSub,Int.reduceMul,g0,g1,g5,g6,ll,hS.fz.rows,hS.fz.one,hS.fz.cells,hS.fz.icy,hS.fz.frz,q1,q2,q3,Bool.false_or,Bool.true_or]
  ·have q1:decide ((i:Int)<l.length)=false:=DF
   obtain rfl:i=l.length:=by omega
   have et:l.take 300=l.take l.length:=by rw[List.take_of_length_le (Nat.le_refl _),List.take_of_length_le (by omega)]
   rw[et]
   cases q3:decide (many<(l.length:Int))
   all_goals simp (disch:=try exact SX) only[RV,zA0,reduceIte,Nat.reduceEqDiff,Nat.reduceBEq,Nat.reduceLT,Nat.reduceAdd,Nat.reduceLeDiff,Nat.reduceSub,Nat.reduceMul,Int.reduceLT,Int.reduceLE,Int.reduceEq,Int.reduceAdd,Int.reduceSub,Int.reduceMul,g0,g1,g5,g6,ll,hS.fz.rows,hS.fz.one,hS.fz.cells,hS.fz.icy,hS.fz.frz,q1,q3,Bool.false_or,Bool.true_or]
variable {v : Lb}
theorem zcN {f n B:Nat}{af:AFunc}{o y:AV}{l:List Op}{w:Value}(h:fsT tbl f=some af)(hg:af.gc=2)(hN:opK.ND M B o l)(wf:Wf M)(hy:∀ M,icy 12 M y=some (y,M))(hc:∀ o',Sl 17 isOp o' l → ∀ M,zAR Tryz.prog (fsT tbl) fuel (n+1) (.fn f) [o',y] M=some (.sc w,M)):zAR Tryz.prog (fsT tbl) fuel (n+1) (.fn f) [o,y] M=some (.sc w,M):=by
 obtain⟨o',M',i1,s1,_⟩:=hN.nn.nr.icyk wf (k:=11) (by omega)
 have s2:Sl 17 isOp o' l:=s1
 exact zB0E
theorem zWB {l:List Op}:∀ r∈(if zAY [] l=true then textOf l else []),r.rs.length≤64:=by
 intro r hr
 split at hr
 ·rename_i h
  exact(Rn.may_iffB ((zE2 h).ok.1 r hr)).2
 ·cases hr
theorem zWA {l:List Op}:(if zAY [] l=true then textOf l else []).length≤3*l.length:=by
 split
 ·exact zRF l
 ·exact Nat.zero_le _
theorem zV6 {l:List Op}:(if zFK l v=0 then lowL l v else []).length≤l.length ∧ ∀ o∈(if zFK l v=0 then lowL l v else []),o∈l:=by
 split
 ·exact⟨zLK l v,fun o ho=>(List.mem_filter.1 ho).1⟩
 ·exact⟨Nat.zero_le _,fun _ h=>by cases h⟩
theorem zKQ (l:List Op):zVD l l=true:=(zTT zQS).2 rfl
theorem zRV {a ra:AV}{l:List Op}{o:Op}{y:Eid}(hS:Sl 17 isOp a l)(hR:Sl 1 zAS ra o.rs)(ho:o.ok)(hv:v.ok)(M:Mem):zCN 4000000 61 3 [a,.agg (opR o ra),idA y,lbA v] M=some (BL true,M):=by
 have oa:=hS.one
 have ora:=hR.one
 have lra:=hR.len
 have hg1:=fun M=>zUB (fuel:=4000000) (d:=59) (many:=25) hS (by omega) M
 apply zB2
 refine zAJ tf3 rfl (by simp only[icyL,fun M=>hS.icy M 12 (by omega),zDI hR.fz,zAT (zCH y) (show 1<12 by omega),zAT (zCO v) (show 1<12 by omega)]) (by simp [a3]) fun b' ht hx=>?_
 obtain⟨h0,h1,h2⟩:=hx3 hx
 have h3:=hx 3 _ rfl
 clear hx
 simp only[a3,c3] at ht ⊢
 cases c1:zMP l 25 with
 | true =>
  rw[c1] at hg1
  simp (disch:=try exact SX) only[RV,seval,zA0,h0,h1,h2,h3,hS.fz.rows,hS.fz.one,hS.fz.cells,hS.fz.icy,hS.fz.frz,hR.fz.rows,hR.fz.one,hR.fz.cells,hR.fz.icy,hR.fz.frz,hg1]
 | false =>
 rw[c1] at hg1
 by_cases c3:300<o.rs.length
 ·have q3:decide ((300:Int)<o.rs.length)=true:=DT
  simp (disch:=try exact SX) only[RV,seval,zA0,h0,h1,h2,h3,hS.fz.rows,hS.fz.one,hS.fz.cells,hS.fz.icy,hS.fz.frz,hR.fz.rows,hR.fz.one,hR.fz.cells,hR.fz.icy,hR.fz.frz,hg1,lra,q3,gt_iff_lt]
 ·have q3:decide ((300:Int)<o.rs.length)=false:=DF
  obtain⟨hl,hrs⟩:=zOQ (by omega) c1
  have hrs2:∀ o∈l,o.rs.length≤1000000000:=fun o ho=>by have:=hrs o ho;omega
  obtain⟨ro,sro,hro⟩:=zHN (fuel:=4000000) (d:=58) hS (by omega) hrs2 (by omega)
  obtain⟨rm,srm,hrm⟩:=zJJ (fuel:=4000000) (d:=59) hR (by omega)
  have oro:=sro.one
  have orm:=srm.one
  simp (disch:=try exact SX) only[RV,seval,zA0,h0,h1,h2,h3,hS.fz.rows,hS.fz.one,hS.fz.cells,hS.fz.icy,hS.fz.frz,hR.fz.rows,hR.fz.one,hR.fz.cells,hR.fz.icy,hR.fz.frz,hg1,lra,q3,hro,hrm,sro.fz.rows,sro.fz.one,sro.fz.cells,sro.fz.icy,sro.fz.frz,srm.fz.rows,srm.fz.one,srm.fz.cells,srm.fz.icy,srm.fz.frz,gt_iff_lt]
  refine za3 (d:=45) sro (by omega) (by omega) (by simp (disch:=try exact SX) only[RV,seval,zA0]) fun ta N1 k1 nd1=>?_
  have w1:=k1.wf
  have l1:4≤N1.size:=k1.le
  have e0:N1.get 0=some (.row false (opR o ra)):=(k1.get 0 (by show 0<4;omega)).trans (by simp (disch:=try exact SX) only[RV,seval,zA0])
  have e1:N1.get 1=some (.row false (idR y)):=(k1.get 1 (by show 1<4;omega)).trans (by simp (disch:=try exact SX) only[RV,seval,zA0])
  have e2:N1.get 2=some (.row false (lbR v)):=(k1.get 2 (by show 2<4;omega)).trans (by simp (disch:=try exact SX) only[RV,seval,zA0])
  have e3:N1.get 3=some (.row false (opR o rm)):=(k1.get 3 (by show 3<4;omega)).trans (by simp (disch:=try exact SX) only[RV,seval,zA0])
  have nd1:rnK.ND N1 4 ta (if zAY [] l=true then textOf l else []):=nd1
  obtain⟨ib,sib,hib⟩:=zPH (fuel:=4000000) (d:=52) hS (by omega) (by omega)
  have hga:=fun M=>zY0 (fuel:=4000000) (d:=45) (x:=y) sro (by omega) (by omega) M
  have hgb:=fun M=>zPE (fuel:=4000000) (d:=52) (x:=y) hS (by omega) (by omega) M
  obtain⟨ota,cta,_,lta,_,_⟩:=ND.lr nd1
  have oib:=sib.one
  simp (disch:=try exact SX) only[RV,seval,zA0,h0,h1,h2,h3,hS.fz.rows,hS.fz.one,hS.fz.cells,hS.fz.icy,hS.fz.frz,hR.fz.rows,hR.fz.one,hR.fz.cells,hR.fz.icy,hR.fz.frz,w1,e0,e1,e2,e3,ota,cta,oib,hib,hga,hgb,sro.fz.rows,sro.fz.one,sro.fz.cells,sro.fz.icy,sro.fz.frz,sib.fz.rows,sib.fz.one,sib.fz.cells,sib.fz.icy,sib.fz.frz]
  refine zYZ (d:=45) sro (by omega) (by omega) hrs2 w1 fun tx N2 k2 nd2=>?_
  have w2:=k2.wf
  have l2:N1.size≤N2.size:=k2.le
  have e0:=(k2.get 0 (by omega)).trans e0
  have e1:=(k2.get 1 (by omega)).trans e1
  have e2:=(k2.get 2 (by omega)).trans e2
  have e3:=(k2.get 3 (by omega)).trans e3
  obtain⟨iy,siy,hiy⟩:=zPF (fuel:=4000000) (d:=52) hS hv (by omega) hrs2 (by omega)
  have otx:=nd2.nn.one
  have ctx:=nd2.nn.cells
  have oiy:=siy.one
  have tl:=zWB (l:=l)
  have tn:=zWA (l:=l)
  have xl:=zV6 (l:=l) (v:=v)
  have hrs3:∀ o∈l,o.rs.length≤1000000000∧o.rs.length<4000000:=fun o ho=>by have:=hrs o ho;omega
  have n1:=nd1.keep (N:=N2) fun j _ hj=>k2.get j hj
  have hsa:=zaY (fuel:=4000000) (n:=59) tf13 rfl n1 w2 (fun M=>sib.icy M 12 (by omega)) fun o' ho' M=>zPC (fuel:=4000000) (d:=57) ho' sib (by omega) (fun e he=>by have:=tl e he;omega) (by omega) M
  have hsx:=zcN (fuel:=4000000) (n:=59) tf14 rfl nd2 w2 (fun M=>siy.icy M 12 (by omega)) fun o' ho' M=>zJT (fuel:=4000000) (d:=57) ho' siy (by omega) (fun e he=>hrs3 e (xl.2 e he)) (by omega) M
  rw[zJS.2 rfl] at hsa
  rw[zKQ] at hsx
  have hca:=fun M=>zDP (fuel:=4000000) (d:=46) sro (by omega) (by omega) M
  have hcb:=fun M=>zNN (fuel:=4000000) (d:=52) hS (by omega) (by omega) M
  have hfa:=fun M=>zOD (fuel:=4000000) (d:=46) sro (by omega) (by omega) srm ho M
  have hfb:=fun M=>zPD (fuel:=4000000) (d:=52) hS hR ho (by omega) (by omega) M
  have qe:decide (err (zAY [] l)=err (zAY [] l))=true:=decide_eq_true rfl
  have qo:decide (zFK l v=zFK l v)=true:=decide_eq_true rfl
  have qf:decide (zRU l o=zRU l o)=true:=decide_eq_true rfl
  have qs:binB Tryz.prog .eql 4 (zAY [] l&&zFJ l y) (zAY [] l&&zFJ l y)=some (.bool true):=by cases (zAY [] l&&zFJ l y) <;> rfl
  simp (disch:=try exact SX) only[RV,seval,zA0,h0,h1,h2,h3,hS.fz.rows,hS.fz.one,hS.fz.cells,hS.fz.icy,hS.fz.frz,hR.fz.rows,hR.fz.one,hR.fz.cells,hR.fz.icy,hR.fz.frz,w2,e0,e2,e3,otx,ctx,oiy,hiy,sro.fz.rows,sro.fz.one,sro.fz.cells,sro.fz.icy,sro.fz.frz,siy.fz.rows,siy.fz.one,siy.fz.cells,siy.fz.icy,siy.fz.frz,srm.fz.rows,srm.fz.one,srm.fz.cells,srm.fz.icy,srm.fz.frz,hsa,hsx,hca,hcb,hfa,hfb,qe,qo,qf,qs]
  have sp1:SpT N2 N1.size 4 ta ((if zAY [] l=true then textOf l else []).map fun o=>o.rs.length):=(SpT.of nd1 w1).keep fun j _ hj=>k2.get j hj
  have sp2:Sp N2 N2.size N1.size tx ((if zFK l v=0 then lowL l v else []).map fun o=>o.rs.length):=Sp.of nd2 w2
  have hL1:((if zAY [] l=true then textOf l else []).map fun o=>o.rs.length).length≤1000:=by rw[List.length_map];omega
  have hM1:∀ n∈((if zAY [] l=true then textOf l else []).map fun o=>o.rs.length),n≤1000:=fun n hn=>by obtain⟨e,he,rfl⟩:=List.mem_map.1 hn;have:=tl e he;omega
  have hL2:((if zFK l v=0 then lowL l v else []).map fun o=>o.rs.length).length≤1000:=by rw[List.length_map];omega
  have hM2:∀ n∈((if zFK l v=0 then lowL l v else []).map fun o=>o.rs.length),n≤1000:=fun n hn=>by obtain⟨e,he,rfl⟩:=List.mem_map.1 hn;have:=hrs e (xl.2 e he);omega
  clear hsa hsx n1 nd1 nd2 tl tn xl
  generalize ((if zAY [] l=true then textOf l else []).map fun o=>o.rs.length)=L1 at *
  generalize ((if zFK l v=0 then lowL l v else []).map fun o=>o.rs.length)=L2 at *
  have hso:=fun M=>zJT (fuel:=4000000) (d:=57) sro hS (by omega) hrs3 (by omega) M
  have hsm:=fun M=>zKI (fuel:=4000000) (d:=58) srm hR (by omega) (by omega) M
  rw[zKQ] at hso
  rw[(zQS o o).2 rfl] at hsm
  refine zAZ (I:=fun nq tq Nq => ∃ (iq:Nat),nq=L1.length - iq∧iq≤L1.length∧nth zA1 tq 0=a∧nth zA1 tq 5 = .ptr 0 0∧nth zA1 tq 9=ro∧nth zA1 tq 10 = .ptr 3 0∧nth zA1 tq 11=ta∧nth zA1 tq 19=tx∧nth zA1 tq 23=BL true∧nth zA1 tq 24=BL true∧nth zA1 tq 25=I64 iq∧Wf Nq∧Nq.size=N2.size∧(∀ j,(j<4∨N1.size≤j)→Nq.get j=N2.get j)∧SpT Nq N1.size 4 ta L1) (n:=L1.length) (by omega) ?_ ?_
  ·refine⟨0,rfl,Nat.zero_le _, ?_, ?_, ?_, ?_, ?_, ?_, ?_, ?_, ?_,w2,rfl,fun _ _=>rfl,sp1⟩ <;> simp (disch:=try exact SX) only[RV,seval,zA0,h0]
   all_goals first | rfl | assumption | done
  ·rintro nq tq Nq hltq ⟨iq,rfl,hiq,gq0,gq5,gq9,gq10,gq11,gq19,gq23,gq24,gq25,wq,sq,kq,hq⟩
   simp only[ht] at hltq ⊢
   have loq:=hq.len
   by_cases hc:iq<L1.length
   ·have c1:decide ((iq:Int)<L1.length)=true:=DT
    have w1q:IntKind.i64.wrap ((iq:Int)+1)=((iq+1:Nat):Int):=WI
    have hrl:=hM1 L1[iq] (List.getElem_mem hc)
    simp (disch:=try exact SX) only[RV,seval,zA0,gq0,gq5,gq9,gq10,gq11,gq19,gq23,gq24,gq25,loq,c1]
    refine zAZ (I:=fun nk tk Nk => ∃ (ik:Nat),nk=L1[iq] - ik∧ik≤L1[iq]∧nth zA1 tk 0=a∧nth zA1 tk 5 = .ptr 0 0∧nth zA1 tk 9=ro∧nth zA1 tk 10 = .ptr 3 0∧nth zA1 tk 11=ta∧nth zA1 tk 19=tx∧nth zA1 tk 23=BL true∧nth zA1 tk 24=BL true∧nth zA1 tk 25=I64 iq∧nth zA1 tk 26=I64 ik∧Wf Nk∧Nk.size=N2.size∧(∀ j,(j<4∨N1.size≤j)→Nk.get j=N2.get j)∧SpT Nk N1.size 4 ta L1) (n:=L1[iq]) (by omega) ?_ ?_
    ·refine⟨0,rfl,Nat.zero_le _, ?_, ?_, ?_, ?_, ?_, ?_, ?_, ?_, ?_, ?_,wq,sq,kq,hq⟩ <;> simp (disch:=try exact SX) only[RV,seval,zA0,gq0,gq5,gq9,gq10,gq11,gq19,gq23,gq24,gq25]
     all_goals first | rfl | assumption | done
    ·rintro nk tk Nk hltk ⟨ik,rfl,hik,gk0,gk5,gk9,gk10,gk11,gk19,gk23,gk24,gk25,gk26,wk,sk,kk,hk⟩
     simp only[hltq] at hltk ⊢
     obtain⟨id,cs,rb,⟨hB1,lid⟩,hg,hiad,hcl,p9,orb,lrb,_,hset⟩:=hk.at wk (by omega) hc
     have rl:=hk.rows (by omega)
     have oo:=hk.one
     have lid':=Mem.get_lt hg
     have w2k:IntKind.i64.wrap ((ik:Int)+1)=((ik+1:Nat):Int):=WI
     by_cases hc5:ik<L1[iq]
     ·have c5:decide ((ik:Int)<L1[iq])=true:=DT
      obtain⟨id2,cs2,v2,⟨lid2,hB2⟩,hg2,hcs2,hiad2,hv2,hs2⟩:=hset ik hc5
      have hs3:=hs2 7 (by omega)
      simp (disch:=try exact SX) only[RV,seval,zA0,gk0,gk5,gk9,gk10,gk11,gk19,gk23,gk24,gk25,gk26,hiad,hg,rl,oo,p9,lrb,orb,c5,w2k,hiad2,hg2]
      exact⟨hltk,L1[iq] - (ik+1),by omega,ik+1,rfl,by omega,rfl,wk,sk,fun j hj=>by rw[zA2 wk _ _ _ (by omega)];exact kk j hj,hs3⟩
     ·have c5:decide ((ik:Int)<L1[iq])=false:=DF
      simp (disch:=try exact SX) only[RV,seval,zA0,gk0,gk5,gk9,gk10,gk11,gk19,gk23,gk24,gk25,gk26,hiad,hg,rl,oo,p9,lrb,orb,c5,w1q,wk]
      exact⟨hltk,L1.length - (iq+1),by omega,iq+1,rfl,by omega,rfl,sk,kk,hk⟩
   ·obtain rfl:iq=L1.length:=by omega
    have c1:decide ((L1.length:Int)<L1.length)=false:=DF
    have sp3:Sp Nq N2.size N1.size tx L2:=sp2.keep fun j h1 _=>kq j (.inr h1)
    simp (disch:=try exact SX) only[RV,seval,zA0,gq0,gq5,gq9,gq10,gq11,gq19,gq23,gq24,gq25,loq,c1]
    refine zAZ (I:=fun np tp Np => ∃ (ip:Nat),np=L2.length - ip∧ip≤L2.length∧nth zA1 tp 0=a∧nth zA1 tp 5 = .ptr 0 0∧nth zA1 tp 9=ro∧nth zA1 tp 10 = .ptr 3 0∧nth zA1 tp 19=tx∧nth zA1 tp 23=BL true∧nth zA1 tp 24=BL true∧nth zA1 tp 27=I64 ip∧Wf Np∧Np.size=N2.size∧(∀ j,j<4→Np.get j=N2.get j)∧Sp Np N2.size N1.size tx L2) (n:=L2.length) (by omega) ?_ ?_
    ·refine⟨0,rfl,Nat.zero_le _, ?_, ?_, ?_, ?_, ?_, ?_, ?_, ?_,wq,sq,fun j h=>kq j (.inl h),sp3⟩ <;> simp (disch:=try exact SX) only[RV,seval,zA0,gq0,gq5,gq9,gq10,gq19,gq23,gq24]
     all_goals first | rfl | assumption | done
    ·rintro np tp Np hltp ⟨ip,rfl,hip,gp0,gp5,gp9,gp10,gp19,gp23,gp24,gp27,wp,sp,kp,hp⟩
     simp only[hltq] at hltp ⊢
     have lop:=hp.len
     by_cases hd:ip<L2.length
     ·have d1:decide ((ip:Int)<L2.length)=true:=DT
      have w1p:IntKind.i64.wrap ((ip:Int)+1)=((ip+1:Nat):Int):=WI
      have hrl:=hM2 L2[ip] (List.getElem_mem hd)
      simp (disch:=try exact SX) only[RV,seval,zA0,gp0,gp5,gp9,gp10,gp19,gp23,gp24,gp27,lop,d1]
      refine zAZ (I:=fun nm tm Nm => ∃ (im:Nat),nm=L2[ip] - im∧im≤L2[ip]∧nth zA1 tm 0=a∧nth zA1 tm 5 = .ptr 0 0∧nth zA1 tm 9=ro∧nth zA1 tm 10 = .ptr 3 0∧nth zA1 tm 19=tx∧nth zA1 tm 23=BL true∧nth zA1 tm 24=BL true∧nth zA1 tm 27=I64 ip∧nth zA1 tm 28=I64 im∧Wf Nm∧Nm.size=N2.size∧(∀ j,j<4→Nm.get j=N2.get j)∧Sp Nm N2.size N1.size tx L2) (n:=L2[ip]) (by omega) ?_ ?_
      ·refine⟨0,rfl,Nat.zero_le _, ?_, ?_, ?_, ?_, ?_, ?_, ?_, ?_, ?_,wp,sp,kp,hp⟩ <;> simp (disch:=try exact SX) only[RV,seval,zA0,gp0,gp5,gp9,gp10,gp19,gp23,gp24,gp27]
       all_goals first | rfl | assumption | done
      ·rintro nm tm Nm hltm ⟨im,rfl,him,gm0,gm5,gm9,gm10,gm19,gm23,gm24,gm27,gm28,wm,sm,km,hm⟩
       simp only[hltp] at hltm ⊢
       obtain⟨id,cs,rb,hg,hiad,hcl,p16,orb,lrb,hset⟩:=hm.at wm (by omega) hd
       have rl:=hm.rows (by omega)
       have oo:=hm.one
       have lid':=Mem.get_lt hg
       have w2m:IntKind.i64.wrap ((im:Int)+1)=((im+1:Nat):Int):=WI
       by_cases hc5:im<L2[ip]
       ·have c5:decide ((im:Int)<L2[ip])=true:=DT
        obtain⟨id2,cs2,lid2,hB2,hg2,hcs2,hiad2,hs2⟩:=hset im hc5
        simp (disch:=try exact SX) only[RV,seval,zA0,gm0,gm5,gm9,gm10,gm19,gm23,gm24,gm27,gm28,hiad,hg,rl,oo,p16,lrb,orb,c5,w2m,hiad2,hg2]
        exact⟨hltm,L2[ip] - (im+1),by omega,im+1,rfl,by omega,rfl,wm,sm,fun j hj=>by rw[zA2 wm _ _ _ (by omega)];exact km j hj,hs2⟩
       ·have c5:decide ((im:Int)<L2[ip])=false:=DF
        simp (disch:=try exact SX) only[RV,seval,zA0,gm0,gm5,gm9,gm10,gm19,gm23,gm24,gm27,gm28,hiad,hg,rl,oo,p16,lrb,orb,c5,w1p,wm]
        exact⟨hltm,L2.length - (ip+1),by omega,ip+1,rfl,by omega,rfl,sm,km,hm⟩
     ·obtain rfl:ip=L2.length:=by omega
      have d1:decide ((L2.length:Int)<L2.length)=false:=DF
      have f0:=(kp 0 (by omega)).trans e0
      have f3:=(kp 3 (by omega)).trans e3
      simp (disch:=try exact SX) only[RV,seval,zA0,gp0,gp5,gp9,gp10,gp19,gp23,gp24,gp27,lop,d1,f0,f3,wp,hso,hsm,sro.fz.rows,sro.fz.one,sro.fz.cells,sro.fz.icy,sro.fz.frz,hS.fz.rows,hS.fz.one,hS.fz.cells,hS.fz.icy,hS.fz.frz,srm.fz.rows,srm.fz.one,srm.fz.cells,srm.fz.icy,srm.fz.frz,hR.fz.rows,hR.fz.one,hR.fz.cells,hR.fz.icy,hR.fz.frz]
abbrev gLb:GT:=.ag [.int .u8,.int .u32]
abbrev gHd:GT:=.ag [gLb,.int .u8]
abbrev gId:GT:=.ag [gHd,.int .i64]
abbrev gSp:GT:=.ag [gId,.int .i64]
abbrev gOp:GT:=.ag [.int .u8,gHd,.int .i64,gSp,gId,gLb,.sl (.int .i32)]
theorem zFR {n:Int}(h:(Lit.int .u8 n).wf=true):0≤n∧n≤255:=by
 simp [Lit.wf,IntKind.min,IntKind.max,IntKind.signed,IntKind.bits] at h
 omega
theorem zH4 {n:Int}(h:(Lit.int .u32 n).wf=true):0≤n∧n<4294967296:=by
 simp [Lit.wf,IntKind.min,IntKind.max,IntKind.signed,IntKind.bits] at h
 omega
theorem zLX {n:Int}(h:(Lit.int .i64 n).wf=true):i64R n:=by
 simp [Lit.wf,IntKind.min,IntKind.max,IntKind.signed,IntKind.bits] at h
 unfold i64R
 omega
def zUL (r:List AV)(x:Int):Prop:=zAS r x∧(-2147483648≤x∧x≤2147483647)
theorem zfI (r:List AV)(h:Is (.int .i32) r):∃ x,zUL r x:=by
 simp only[Is] at h
 obtain⟨n,rfl,hw⟩:=h
 refine⟨n,rfl, ?_⟩
 simp [Lit.wf,IntKind.min,IntKind.max,IntKind.signed,IntKind.bits] at hw
 omega
theorem zPW:∀ {rows:List (List AV)} {l:List Int},All2 zUL rows l→All2 zAS rows l∧i32s l
 | _,_,.nil=>⟨.nil,fun x h=>by cases h⟩
 | _,_,.cons a t=>by
  obtain⟨h1,h2⟩:=zPW t
  refine⟨.cons a.1 h1,fun x h=>?_⟩
  rcases List.mem_cons.1 h with rfl | h
  ·exact a.2
  ·exact h2 x h
theorem zgQ {a:AV}{l:List Int}(h:Sl 1 zUL a l):Sl 1 zAS a l∧i32s l:=by
 rcases h with⟨rfl,rfl⟩ | ⟨rows,cap,rfl,hA,hr⟩
 ·exact⟨.inl ⟨rfl,rfl⟩,fun x h=>by cases h⟩
 ·obtain⟨h1,h2⟩:=zPW hA
  exact⟨.inr ⟨rows,cap,rfl,h1,hr⟩,h2⟩
theorem zYT {r:List AV}(h:Is (.sl (.int .i32)) r):∃ a l,r=[a]∧Sl 1 zAS a l∧i32s l:=by
 obtain⟨a,l,e,hs⟩:=Is.slice zfI h
 obtain⟨h1,h2⟩:=zgQ hs
 exact⟨a,l,e,h1,h2⟩
theorem of_lb (r:List AV)(h:Is gLb r):∃ x,isLb r x:=by
 simp only[Is,IsL] at h
 obtain⟨_,_,rfl,⟨n1,rfl,w1⟩,_,_,rfl,⟨n2,rfl,w2⟩,rfl⟩:=h
 exact⟨⟨n1,n2⟩,rfl,(zFR w1).1,(zFR w1).2,(zH4 w2).1,(zH4 w2).2⟩
theorem zfJ (r:List AV)(h:Is gOp r):∃ x,isOp r x:=by
 simp only[Is,IsL] at h
 obtain⟨_,_,rfl,⟨n1,rfl,w1⟩,_,_,rfl,⟨_,_,rfl,⟨_,_,rfl,⟨n2,rfl,w2⟩,_,_,rfl,⟨n3,rfl,w3⟩,rfl⟩,_,_,rfl,⟨n4,rfl,w4⟩,rfl⟩,_,_,rfl,⟨n5,rfl,w5⟩,_,_,rfl,⟨_,_,rfl,⟨_,_,rfl,⟨_,_,rfl,⟨_,_,rfl,⟨n6,rfl,w6⟩,_,_,rfl,⟨n7,rfl,w7⟩,rfl⟩,_,_,rfl,⟨n8,rfl,w8⟩,rfl⟩,_,_,rfl,⟨n9,rfl,w9⟩,rfl⟩,_,_,rfl,⟨n10,rfl,w10⟩,rfl⟩,_,_,rfl,⟨_,_,rfl,⟨_,_,rfl,⟨_,_,rfl,⟨n11,rfl,w11⟩,_,_,rfl,⟨n12,rfl,w12⟩,rfl⟩,_,_,rfl,⟨n13,rfl,w13⟩,rfl⟩,_,_,rfl,⟨n14,rfl,w14⟩,rfl⟩,_,_,rfl,⟨_,_,rfl,⟨n15,rfl,w15⟩,_,_,rfl,⟨n16,rfl,w16⟩,rfl⟩,_,_,rfl,hr,rfl⟩:=h
 have r1:0≤n1∧n1≤255:=by exact zFR w1
 have r2:0≤n2∧n2≤255:=by exact zFR w2
 have r3:0≤n3∧n3<4294967296:=by exact zH4 w3
 have r4:0≤n4∧n4≤255:=by exact zFR w4
 have r5:i64R n5:=by exact zLX w5
 have r6:0≤n6∧n6≤255:=by exact zFR w6
 have r7:0≤n7∧n7<4294967296:=by exact zH4 w7
 have r8:0≤n8∧n8≤255:=by exact zFR w8
 have r9:i64R n9:=by exact zLX w9
 have r10:i64R n10:=by exact zLX w10
 have r11:0≤n11∧n11≤255:=by exact zFR w11
 have r12:0≤n12∧n12<4294967296:=by exact zH4 w12
 have r13:0≤n13∧n13≤255:=by exact zFR w13
 have r14:i64R n14:=by exact zLX w14
 have r15:0≤n15∧n15≤255:=by exact zFR w15
 have r16:0≤n16∧n16<4294967296:=by exact zH4 w16
 obtain⟨ra,l,e,hs,hi⟩:=zYT (r:=_) (by simp only[Is];exact hr)
 subst e
 exact⟨⟨n1,⟨⟨n2,n3⟩,n4⟩,n5,⟨⟨⟨⟨n6,n7⟩,n8⟩,n9⟩,n10⟩,⟨⟨⟨n11,n12⟩,n13⟩,n14⟩,⟨n15,n16⟩,l⟩,ra,rfl,hs,r1,⟨⟨r2.1,r2.2,r3.1,r3.2⟩,r4⟩,r5,⟨⟨⟨⟨r6.1,r6.2,r7.1,r7.2⟩,r8⟩,r9⟩,r10⟩,⟨⟨⟨r11.1,r11.2,r12.1,r12.2⟩,r13⟩,r14⟩,⟨r15.1,r15.2,r16.1,r16.2⟩,hi⟩
theorem zfH (r:List AV)(h:Is gId r):∃ y:Eid,r=idR y:=by
 simp only[gId,gHd,gLb,Is,IsL] at h
 obtain⟨_,_,rfl,⟨_,_,rfl,⟨_,_,rfl,⟨n1,rfl,w1⟩,_,_,rfl,⟨n2,rfl,w2⟩,rfl⟩,_,_,rfl,⟨n3,rfl,w3⟩,rfl⟩,_,_,rfl,⟨n4,rfl,w4⟩,rfl⟩:=h
 exact⟨⟨⟨⟨n1,n2⟩,n3⟩,n4⟩,rfl⟩
theorem run_args (a0 a1 a2 a3:AV)(h0:IsA (.sl gOp) a0)(h1:IsA gOp a1)(h2:IsA gId a2)(h3:IsA gLb a3):zCN 4000000 61 3 [a0,a1,a2,a3] mem0=some (BL true,mem0):=by
 obtain⟨a,l,ha,hl⟩:=Is.slice zfJ h0
 obtain rfl:a0=a:=by simpa using ha
 obtain⟨c1,rfl,h1⟩:=h1
 obtain⟨x,ra,rfl,hra,hx⟩:=zfJ c1 h1
 obtain⟨c2,rfl,h2⟩:=h2
 obtain⟨y,rfl⟩:=zfH c2 h2
 obtain⟨c3,rfl,h3⟩:=h3
 obtain⟨v,rfl,hv⟩:=of_lb c3 h3
 exact zRV hl hra hx hv mem0
end Go.Proofs.YtlmeadmpldjdaaaGreat
