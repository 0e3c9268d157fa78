/-
  Texts joined: TrG TrH TrI TrJ TrK TrM TwA TwC VqE VqI VqJ VqK VpE VpF RuP RuG EdI EdT VqM VqH SwG EdJ CcG CcH CcI CcJ VqG CcK ChG.
-/
import Derived.Test.YtliicocdhkcanaaGreatEg
import Derived.Lib.RuneBytes
import Derived.Lib.TrimUEq
import Derived.Test.YtliicocdhkcanaaGreatTb
import Derived.KernelRfl
import Derived.Test.YtliicocdhkcanaaGreatPb
set_option linter.unusedSimpArgs false
set_option linter.unusedVariables false
set_option maxHeartbeats 64000000
set_option maxRecDepth 100000
namespace Go.Proofs.YtliicocdhkcanaaGreat
open Go Go.Ax
theorem tf155:fsT tbl 155=some a155:=rfl
variable {fuel : Nat} {M : Mem} {Q : AV -> Mem -> Prop} {d : Nat}
def cO1:ACode:=(.seq (.region [⟨some 5,.alloc 48 (.agg #[(.int .u8 0),(.int .u32 0),(.int .u8 0),(.int .i64 0)]),none,[]⟩,⟨none,.store 4 (.tmp 5) (.tmp 12),none,[]⟩] false) (.region [⟨some 6,.alloc 48 (.agg #[(.int .u8 0),(.int .u32 0),(.int .u8 0),(.int .i64 0)]),none,[]⟩,⟨none,.store 4 (.tmp 6) (.tmp 13),none,[]⟩] false))
def cO2:ACode:=(.block 1 (.scope (.seq (.region [⟨some 7,.alloc 48 (.agg #[(.int .u8 0),(.int .u32 0),(.int .u8 0),(.int .i64 0)]),none,[]⟩] false) (.seq .label (.seq (.block 2 (.loop (.seq (.seq (.region [⟨some 14,.load 1 false (.tmp 3),none,[]⟩,⟨some 15,.len (.tmp 14),none,[]⟩,⟨some 16,.pur (mkO (.binOp .gtr 3 (.tmp 15) (.const (.int .i64 0)) 3) 4),none,[]⟩] false) (.cond (.tmp 16) .skip (.exit 2))) (.block 3 (.seq (.region [⟨some 17,.load 1 false (.tmp 3),none,[]⟩,⟨some 18,.load 1 false (.tmp 3),none,[]⟩,⟨some 19,.len (.tmp 18),none,[]⟩,⟨some 20,.pur (mkO (.binOp .sub 3 (.tmp 19) (.const (.int .i64 1)) 3) 3),none,[]⟩,⟨some 21,.iad 4 (.tmp 17) (.tmp 20),none,[]⟩,⟨some 22,.load 4 true (.tmp 21),none,[]⟩,⟨some 8,.alloc 48 (.agg #[(.int .u8 0),(.int .u32 0),(.int .u8 0),(.int .i64 0)]),none,[]⟩,⟨none,.store 4 (.tmp 8) (.tmp 22),none,[]⟩] false) (.seq (.seq (.region [⟨some 23,.load 4 true (.tmp 8),none,[]⟩,⟨some 24,.load 4 true (.tmp 6),none,[]⟩,⟨some 25,.pur (mkO (.binOp .eql 48 (.tmp 23) (.tmp 24) 48) 4),none,[]⟩] false) (.cond (.tmp 25) (.exit 2) .skip)) (.region [⟨some 26,.load 4 true (.tmp 8),none,[1,2,3,4,5]⟩,⟨some 27,.load 1 false (.tmp 3),none,[0,2,3,4,6]⟩,⟨some 28,.load 1 false (.tmp 3),none,[0,1,6]⟩,⟨some 29,.len (.tmp 28),none,[0,1,6]⟩,⟨some 30,.pur (mkO (.binOp .sub 3 (.tmp 29) (.const (.int .i64 1)) 3) 3),none,[0,1,6]⟩,⟨some 31,.slc 4 (.tmp 27) none (some (.tmp 30)) none,none,[0,6]⟩,⟨none,.store 4 (.tmp 7) (.tmp 26),none,[1,2,3,4,5]⟩,⟨none,.store 1 (.tmp 3) (.tmp 31),none,[]⟩] true))))))) (.seq (.seq (.region [⟨some 32,.load 1 false (.tmp 3),none,[]⟩,⟨some 33,.len (.tmp 32),none,[]⟩,⟨some 34,.pur (mkO (.binOp .eql 3 (.tmp 33) (.const (.int .i64 0)) 3) 4),none,[]⟩,⟨some 35,.mov (.tmp 34),none,[]⟩,⟨some 36,.load 4 true (.tmp 6),some (35,true),[]⟩,⟨some 37,.build (.agg #[(.int .u8 0),(.int .u32 0),(.int .u8 0),(.int .i64 0)]) [],some (35,true),[]⟩,⟨some 38,.pur (mkO (.binOp .neq 48 (.tmp 36) (.tmp 37) 48) 4),some (35,true),[]⟩,⟨some 39,.pick (.tmp 35) (.tmp 38) (.const (.bool false)),none,[]⟩,⟨some 40,.mov (.tmp 39),none,[]⟩,⟨some 41,.load 4 true (.tmp 7),some (40,false),[]⟩,⟨some 42,.build (.agg #[(.int .u8 0),(.int .u32 0),(.int .u8 0),(.int .i64 0)]) [],some (40,false),[]⟩,⟨some 43,.pur (mkO (.binOp .neq 48 (.tmp 41) (.tmp 42) 48) 4),some (40,false),[]⟩,⟨some 44,.mov (.tmp 43),some (40,false),[]⟩,⟨some 45,.load 4 true (.tmp 5),some (44,true),[]⟩,⟨some 46,.load 4 true (.tmp 7),some (44,true),[]⟩,⟨some 47,.call (.func 152) [(.tmp 45),(.tmp 46)],some (44,true),[]⟩,⟨some 48,.pur (mkO (.unOp .not 4 (.tmp 47)) 4),some (44,true),[]⟩,⟨some 49,.pick (.tmp 44) (.tmp 48) (.const (.bool false)),some (40,false),[]⟩,⟨some 50,.pick (.tmp 40) (.const (.bool true)) (.tmp 49),none,[]⟩,⟨some 51,.mov (.tmp 50),none,[]⟩,⟨some 52,.load 1 false (.tmp 4),some (51,false),[]⟩,⟨some 53,.load 4 true (.tmp 5),some (51,false),[]⟩,⟨some 54,.lookup 48 (.int .i64 0) (.tmp 52) (.tmp 53) false,some (51,false),[]⟩,⟨some 55,.pur (mkO (.binOp .gtr 3 (.tmp 54) (.const (.int .i64 0)) 3) 4),some (51,false),[]⟩,⟨some 56,.pick (.tmp 51) (.const (.bool true)) (.tmp 55),none,[]⟩] false) (.cond (.tmp 56) (.seq (.region [⟨none,.store 1 (.tmp 2) (.const (.bool false)),none,[]⟩] false) .ret) .skip)) (.seq (.region [⟨some 57,.load 1 false (.tmp 4),none,[]⟩,⟨some 58,.load 4 true (.tmp 5),none,[]⟩,⟨none,.mupd 48 (.tmp 57) (.tmp 58) (.const (.int .i64 1)),none,[]⟩] false) (.region [⟨some 59,.load 1 false (.tmp 3),none,[]⟩,⟨some 60,.load 4 true (.tmp 5),none,[]⟩,⟨some 61,.bsl 48 4 (.agg #[(.int .u8 0),(.int .u32 0),(.int .u8 0),(.int .i64 0)]) 1 [(0,4,(.tmp 60))],none,[]⟩,⟨some 62,.app 48 4 24 (.agg #[(.int .u8 0),(.int .u32 0),(.int .u8 0),(.int .i64 0)]) (.tmp 59) (.tmp 61),none,[]⟩,⟨none,.store 1 (.tmp 3) (.tmp 62),none,[]⟩] false))))))))
structure OI (tm:List AV) (pre:List (Eid × Eid)) (O:Nat->Prop) (N:Mem):Prop where
 wf:Wf N
 sz:7<=N.size
 g0:N.get 0=some (.row false [BL false])
 g1:∃ o,N.get 1=some (.row false [o])/\SlP N 4 zLY o (stk pre).reverse /\ ∀ j,rowOf o=some j->O j/\7<=j
 g2:∃ obj,N.get 2=some obj/\zIG idA (I64 1) obj (pre.map (·.1))
 g3:N.get 3=some (.row false [.mp 2])
 g5:N.get 5=some (.dfr false)
 g6:N.get 6=some (.loop .ready none tm [12,13] cO1 cO2 5)
 o1:O 1
 o2:O 2
 o6:O 6
 ol:∀ j,O j->j<N.size/\(j=1∨j=2∨6<=j)
 od:Ord pre
theorem OI.keep {tm:List AV}{pre:List (Eid × Eid)}{O:Nat->Prop}{N N':Mem}(h:OI tm pre O N)(wf:Wf N')(hs:N.size<=N'.size)(k:∀ j,j<N.size->N'.get j=N.get j):OI tm pre O N':=by
 have:=h.sz
 obtain⟨o,h1,h2,h3⟩:=h.g1
 obtain⟨obj,h4,h5⟩:=h.g2
 exact⟨wf,by omega,(k 0 (by omega)).trans h.g0,⟨o,(k 1 (by omega)).trans h1,h2.keep fun j hj=>k j (h2.lt j hj),h3⟩,⟨obj,(k 2 (by omega)).trans h4,h5⟩,(k 3 (by omega)).trans h.g3,(k 5 (by omega)).trans h.g5,(k 6 (by omega)).trans h.g6,h.o1,h.o2,h.o6,fun j hj=>⟨by have:=(h.ol j hj).1;omega,(h.ol j hj).2⟩,h.od⟩
structure OS (tm:List AV) (N:Mem):Prop where
 wf:Wf N
 sz:7<=N.size
 g0:N.get 0=some (.row false [BL false])
 g5:N.get 5=some (.dfr false)
 g6:N.get 6=some (.loop .done (some .ret) tm [12,13] cO1 cO2 5)
theorem zID:FzT zLY:=fun r x h y hy=>by
 obtain⟨rfl,_⟩:=h
 exact zEX x y hy
theorem zRF (af:Eid):∀ (s:List Eid) (el:Eid),(popT af s el).2.length<=s.length
 | [],_=>Nat.le_refl _
 | t::s,el=>by
  rw[popT]
  split
  ·exact Nat.le_refl _
  ·exact Nat.le_trans (zRF af s t) (Nat.le_succ _)
theorem zeP (l:List (Eid × Eid)):(stk l).length<=l.length:=by
 refine zD5 (P:=fun l=>(stk l).length<=l.length) (Nat.le_refl _) (fun l x ih=>?_) l
 rw[zES,List.length_cons,List.length_append]
 have:=zRF x.2 (stk l) Eid.z
 simp only[List.length_singleton]
 omega
theorem zhH {B:Nat}{tm:List AV}{pre:List (Eid × Eid)}{O:Nat->Prop}{x:Eid × Eid}(h:OI tm pre O M)(h2:nth zA3 tm 2 = .ptr 0 0)(h3':nth zA3 tm 3 = .ptr 1 0)(h4':nth zA3 tm 4 = .ptr 3 0)(hlen:tm.length=63)(hx:x.1.ok)(hn:pre.length<=100000)(hf:pre.length+10<fuel) :
  W3 (zAF Tryz.prog (fsT tbl) fuel (d+7) (.yl 6) [idA x.1,idA x.2] M) (fun v N'=>(v=BL true/\Yl (OI tm) (pre++[x]) O B M N')∨(v=BL false/\OS tm N'/\ordS x (stk pre) (pre.map (·.1))=false)):=by
 obtain⟨o,g1,sp,ro⟩:=h.g1
 obtain⟨obj,gm2,hset⟩:=h.g2
 have wf:=h.wf
 have sz:=h.sz
 have hsl:=zeP pre
 have g6:=h.g6
 refine zXZ g6 rfl ?_
 have e1:zFI tm [12,13] [idA x.1,idA x.2]=St tm [(13,idA x.2),(12,idA x.1)]:=rfl
 rw[e1]
 unfold cO1 cO2
 simp (disch:=try exact SX) only[RV,seval,wf]
 refine⟨tm,[12,13],_,_,5,g6, ?_⟩
 generalize hX:((((((M.add _).upd M.size _).add _).upd (M.size+1) _).upd 6 _).add _)=X
 have wX:Wf X:=by rw[<- hX];exact((((((wf.add _).upd _ _).add _).upd _ _).upd _ _).add _)
 have sX:X.size=M.size+1+1+1:=by rw[<- hX];rfl
 have gX:∀ j,j<M.size->j≠6->X.get j=M.get j:=fun j a b=>by
  rw[<- hX,zAA (((((wf.add _).upd _ _).add _).upd _ _).upd _ _) _ _ (by simp only[zA7,zA2];omega),zA0 ((((wf.add _).upd _ _).add _).upd _ _) _ _ _ (fun e=>b e.symm),zA0 (((wf.add _).upd _ _).add _) _ _ _ (by omega),zAA ((wf.add _).upd _ _) _ _ (by simp only[zA7,zA2];omega),zA0 (wf.add _) _ _ _ (by omega),zAA wf _ _ a]
 have x6:X.get 6=some (.loop .busy none tm [12,13] cO1 cO2 5):=by
  rw[<- hX,zAA (((((wf.add _).upd _ _).add _).upd _ _).upd _ _) _ _ (by simp only[zA7,zA2];omega),zAC ((((wf.add _).upd _ _).add _).upd _ _) _ _ (by simp only[zA7,zA2];omega)]
 have xa:X.get M.size=some (.row false (idR x.1)):=by
  rw[<- hX,zAA (((((wf.add _).upd _ _).add _).upd _ _).upd _ _) _ _ (by simp only[zA7,zA2];omega),zA0 ((((wf.add _).upd _ _).add _).upd _ _) _ _ _ (by omega),zA0 (((wf.add _).upd _ _).add _) _ _ _ (by omega),zAA ((wf.add _).upd _ _) _ _ (by simp only[zA7,zA2];omega),zAC (wf.add _) _ _ (by simp only[zA2];omega)]
 have xb:X.get (M.size+1)=some (.row false (idR x.2)):=by
  rw[<- hX,zAA (((((wf.add _).upd _ _).add _).upd _ _).upd _ _) _ _ (by simp only[zA7,zA2];omega),zA0 ((((wf.add _).upd _ _).add _).upd _ _) _ _ _ (by omega),zAC (((wf.add _).upd _ _).add _) _ _ (by simp only[zA7,zA2];omega)]
 have xc:X.get (M.size+1+1)=some (.row false (idR Eid.z)):=by
  rw[<- hX]
  exact zAE (((((wf.add _).upd _ _).add _).upd _ _).upd _ _) _ _ (by simp only[zA7,zA2];omega) (by simp only[zA7,zA2];omega)
 clear hX
 have spX:SlP X 4 zLY o (stk pre).reverse:=sp.keep fun j hj=>gX j (sp.lt j hj) (by have:=ro j hj;omega)
 refine zBB (I:=fun n t N => ∃ (i:Nat) (o':AV),n=(stk pre).length - i/\i<=(stk pre).length/\nth zA3 t 2 = .ptr 0 0/\nth zA3 t 3 = .ptr 1 0/\nth zA3 t 4 = .ptr 3 0/\nth zA3 t 5 = .ptr M.size 0/\nth zA3 t 6 = .ptr (M.size+1) 0/\nth zA3 t 7 = .ptr (M.size+1+1) 0/\Wf N/\X.size<=N.size/\(∀ j,j<M.size->j≠1->N.get j=X.get j)/\N.get 1=some (.row false [o'])/\SlP N 4 zLY o' ((stk pre).drop i).reverse/\rowOf o'=rowOf o/\N.get M.size=some (.row false (idR x.1))/\N.get (M.size+1)=some (.row false (idR x.2))/\N.get (M.size+1+1)=some (.row false (idR (((stk pre).take i).getLast?.getD Eid.z)))/\(∀ t∈(stk pre).take i,t≠x.2)) (n:=(stk pre).length) (by omega) ?_ ?_
 ·refine⟨0,o,rfl,Nat.zero_le _, ?_, ?_, ?_, ?_, ?_, ?_,wX,Nat.le_refl _,(fun _ _ _=>rfl),((gX 1 (by omega) (by omega)).trans g1),(by rw[List.drop_zero];exact spX),rfl,xa,xb,(by rw[List.take_zero];exact xc),(fun t ht=>absurd ht (by simp))⟩ <;> simp (disch:=try exact SX) only[RV,seval,h2,h3',h4']
  all_goals first | rfl | assumption | done
 ·rintro n t N hlt ⟨i,o',rfl,hi,g2,g3,g4,g5,g6,g7,w,le,kk,c1,spN,ro',ca,cb,cc,hm⟩
  simp only[hlen] at hlt ⊢
  have olen:=spN.len
  have oo':=spN.one
  rw[List.length_reverse,List.length_drop] at olen
  have l1:=Mem.get_lt c1
  have la:=Mem.get_lt ca
  have lb:=Mem.get_lt cb
  have lc:=Mem.get_lt cc
  by_cases hc:i<(stk pre).length
  ·have q1:decide ((0:Int)<((stk pre).length - i:Nat))=true:=DT
   have hil:(stk pre).length - i - 1<((stk pre).drop i).reverse.length:=by rw[List.length_reverse,List.length_drop];omega
   obtain⟨rid,cs,r,hrow,lrid,hgr,hiad,hr,hrl,hpt⟩:=spN.at hil
   have w1:IntKind.i64.wrap (((stk pre).length - i:Nat) - 1)=((stk pre).length - i - 1:Nat):=WI
   obtain⟨oc,hslc,spc,roc⟩:=spN.cut (by omega) (n:=(stk pre).length - i - 1) (by omega)
   have hel:((stk pre).drop i).reverse[(stk pre).length - i - 1]=(stk pre)[i]:=by
    rw[List.getElem_reverse,List.getElem_drop]
    congr 1
    rw[List.length_drop];omega
   rw[hel] at hr
   obtain⟨rfl,hrok⟩:=hr
   simp (disch:=try exact SX) only[RV,seval,g3,g6,olen,q1,w1,c1,hiad,hgr,hpt,cb,↓pIdE,zB2,ETA]
   by_cases hte:(stk pre)[i]=x.2
   ·have q2:decide ((stk pre)[i]=x.2)=true:=decide_eq_true hte
    have hpop:=zJK (el:=Eid.z) (q:=(stk pre).drop i) hm (.inr ⟨(stk pre).drop (i+1),by rw[List.drop_eq_getElem_cons hc,hte]⟩)
    rw[List.take_append_drop] at hpop
    have hne:decide (((((stk pre).length - i:Nat):Int))=0)=false:=DF
    have hqz:decide ((stk pre).drop i=[])=false:=decide_eq_false (fun e=>by have:=congrArg List.length e;rw[List.length_drop] at this;simp at this;omega)
    simp (disch:=try exact SX) only[RV,seval,g3,olen,q2,c1]
    generalize hY:(N.add _).upd N.size _=Y
    have wY:Wf Y:=by rw[<- hY];exact(w.add _).upd _ _
    have kY:∀ j,j<N.size->Y.get j=N.get j:=fun j hj=>by
     rw[<- hY,zA0 (w.add _) _ _ _ (by omega),zAA w _ _ hj]
    clear hY
    have y0:Y.get 0=some (.row false [BL false]):=(kY 0 (by omega)).trans ((kk 0 (by omega) (by omega)).trans ((gX 0 (by omega) (by omega)).trans h.g0))
    have y1:=(kY 1 (by omega)).trans c1
    have y2:=(kY 2 (by omega)).trans ((kk 2 (by omega) (by omega)).trans ((gX 2 (by omega) (by omega)).trans gm2))
    have y3:=(kY 3 (by omega)).trans ((kk 3 (by omega) (by omega)).trans ((gX 3 (by omega) (by omega)).trans h.g3))
    have y6:=(kY 6 (by omega)).trans ((kk 6 (by omega) (by omega)).trans x6)
    have ya:=(kY _ (by omega)).trans ca
    have yb:=(kY _ (by omega)).trans cb
    have yc:=(kY _ (by omega)).trans cc
    have yj:∀ j,j<M.size->j≠1->j≠6->Y.get j=M.get j:=fun j a b c=>(kY j (by omega)).trans ((kk j a b).trans (gX j a c))
    have spY:SlP Y 4 zLY o' ((stk pre).drop i).reverse:=spN.keep fun j hj=>kY j (spN.lt j hj)
    clear kY kk w c1 ca cb cc spN l1 la lb lc
    have l1:=Mem.get_lt y1
    have la:=Mem.get_lt ya
    have lc:=Mem.get_lt yc
    have l2:=Mem.get_lt y2
    have l3:=Mem.get_lt y3
    have l0:=Mem.get_lt y0
    have hlk:=zR1 zLT (z:=.int .i64 0) y2 hset x.1
    unfold ordS
    rw[hpop]
    simp only[hqz]
    have hql:((stk pre).drop i).length<=pre.length:=by rw[List.length_drop];omega
    generalize (stk pre).drop i=q at *
    generalize ((stk pre).take i).getLast?.getD Eid.z=el at *
    have hls:=fun M=>@zFQ fuel (d+4) x.1 el M
    have c2:True:=trivial
    cases c3:decide (el=Eid.z)
    ·cases c4:x.1.less el
     ·rw[c4] at hls
      simp (disch:=try exact SX) only[RV,seval,zAB,g2,g5,g7,hne,y0,ya,yc,wY,↓pIdN,zBK,ETA,c3,hls]
      exact zB02
     ·rw[c4] at hls
      by_cases c5:x.1∈pre.map (·.1)
      ·simp only[c5,if_true] at hlk
       simp (disch:=try exact SX) only[RV,seval,zAB,g2,g4,g5,g7,hne,y0,y3,ya,yc,wY,↓pIdN,zBK,ETA,c3,hls,x_lk,hlk]
       exact zB02
      ·simp only[c5,if_false] at hlk
       simp (disch:=try exact SX) only[RV,seval,zAB,g4,g5,g7,hne,y3,ya,yc,↓pIdN,zBK,ETA,c3,hls,x_lk,hlk,x_mu]
       exact zB01
    ·skip
     by_cases c5:x.1∈pre.map (·.1)
     ·simp only[c5,if_true] at hlk
      simp (disch:=try exact SX) only[RV,seval,zAB,g2,g4,g5,g7,hne,y0,y3,ya,yc,wY,↓pIdN,zBK,ETA,c3,x_lk,hlk]
      exact zB02
     ·simp only[c5,if_false] at hlk
      simp (disch:=try exact SX) only[RV,seval,zAB,g4,g5,g7,hne,y3,ya,yc,↓pIdN,zBK,ETA,c3,x_lk,hlk,x_mu]
      exact zB01
   ·have q2:decide ((stk pre)[i]=x.2)=false:=decide_eq_false hte
    simp (disch:=try exact SX) only[RV,seval,g3,olen,q2,w1,c1]
    refine⟨spN.rows (by omega), ?_⟩
    rw[hslc _ (fun id hid=>by
     have:=spN.lt id hid
     rw[zA0 (w.add _) _ _ _ (by omega),zAA w _ _ this])]
    have oco:=spc.one
    have occ:=spc.cells
    have ocr:=fun m hm=>spc.rows (m:=m) hm
    simp (disch:=try exact SX) only[RV,seval,g2,g3,g4,g5,g6,g7,occ,c1,ca,cb,cc,w]
    have ror:=spN.row1 hrow
    have rid7:7<=rid/\rid<M.size:=by
     have e:rowOf o=some rid:=ro' ▸ hrow
     exact⟨(ro rid e).2,sp.lt rid e⟩
    refine⟨?_,hlt,(stk pre).length - (i+1),by omega,i+1,oc,rfl,by omega,by omega,fun j a b=>?_,rfl, ?_,roc.trans ro', ?_, ?_⟩
    ·have e2:¬(M.size+1+1=rid):=by omega
     rw[ror]
     simp [FP.apart,disj,FP.reads,FP.writes,fpOf,e2]
    ·rw[zA0 (((w.add _).upd _ _).upd _ _) _ _ _ (by omega),zA0 ((w.add _).upd _ _) _ _ _ (by omega),zA0 (w.add _) _ _ _ (by omega),zAA w _ _ (by omega)]
     exact kk j a b
    ·have e:((stk pre).drop i).reverse.take ((stk pre).length - i - 1)=((stk pre).drop (i+1)).reverse:=by
      rw[List.take_reverse,List.drop_drop,List.length_drop]
      congr 2
      omega
     rw[<- e]
     refine spc.keep fun j hj=>?_
     rw[roc,hrow] at hj
     injection hj with hj
     subst hj
     rw[zA0 (((w.add _).upd _ _).upd _ _) _ _ _ (by omega),zA0 ((w.add _).upd _ _) _ _ _ (by omega),zA0 (w.add _) _ _ _ (by omega),zAA w _ _ (by omega)]
    ·have e:((stk pre).take (i+1)).getLast?.getD Eid.z=(stk pre)[i]:=by
      rw[zBR _ _ hc,List.getLast?_concat];rfl
     rw[e]
    ·intro t ht
     rw[zBR _ _ hc] at ht
     rcases List.mem_append.1 ht with ht | ht
     ·exact hm t ht
     ·rw[List.mem_singleton] at ht;subst ht;exact hte
  ·obtain rfl:i=(stk pre).length:=by omega
   have q1:decide ((0:Int)<((stk pre).length - (stk pre).length:Nat))=false:=DF
   have hne:decide (((((stk pre).length - (stk pre).length:Nat):Int))=0)=true:=DT
   have hqz:decide ((stk pre).drop (stk pre).length=[])=true:=decide_eq_true (List.drop_length)
   have hpop:=zJK (el:=Eid.z) (q:=(stk pre).drop (stk pre).length) hm (.inl List.drop_length)
   rw[List.take_append_drop] at hpop
   simp (disch:=try exact SX) only[RV,seval,g3,olen,q1,c1]
   obtain⟨Y,hY⟩:∃ Y,Y=N:=⟨N,rfl⟩
   rw[<- hY]
   have wY:Wf Y:=by rw[hY];exact w
   have kY:∀ j,j<N.size->Y.get j=N.get j:=fun j hj=>by rw[hY]
   clear hY
   have y0:Y.get 0=some (.row false [BL false]):=(kY 0 (by omega)).trans ((kk 0 (by omega) (by omega)).trans ((gX 0 (by omega) (by omega)).trans h.g0))
   have y1:=(kY 1 (by omega)).trans c1
   have y2:=(kY 2 (by omega)).trans ((kk 2 (by omega) (by omega)).trans ((gX 2 (by omega) (by omega)).trans gm2))
   have y3:=(kY 3 (by omega)).trans ((kk 3 (by omega) (by omega)).trans ((gX 3 (by omega) (by omega)).trans h.g3))
   have y6:=(kY 6 (by omega)).trans ((kk 6 (by omega) (by omega)).trans x6)
   have ya:=(kY _ (by omega)).trans ca
   have yb:=(kY _ (by omega)).trans cb
   have yc:=(kY _ (by omega)).trans cc
   have yj:∀ j,j<M.size->j≠1->j≠6->Y.get j=M.get j:=fun j a b c=>(kY j (by omega)).trans ((kk j a b).trans (gX j a c))
   have spY:SlP Y 4 zLY o' ((stk pre).drop (stk pre).length).reverse:=spN.keep fun j hj=>kY j (spN.lt j hj)
   clear kY kk w c1 ca cb cc spN l1 la lb lc
   have l1:=Mem.get_lt y1
   have la:=Mem.get_lt ya
   have lb:=Mem.get_lt yb
   have lc:=Mem.get_lt yc
   have l2:=Mem.get_lt y2
   have l3:=Mem.get_lt y3
   have l0:=Mem.get_lt y0
   have hlk:=zR1 zLT (z:=.int .i64 0) y2 hset x.1
   unfold ordS
   rw[hpop]
   simp only[hqz]
   have hql:((stk pre).drop (stk pre).length).length<=pre.length:=by rw[List.length_drop];omega
   generalize (stk pre).drop (stk pre).length=q at *
   generalize ((stk pre).take (stk pre).length).getLast?.getD Eid.z=el at *
   have hls:=fun M=>@zFQ fuel (d+4) x.1 el M
   cases c2:decide (x.2=Eid.z)
   ·simp (disch:=try exact SX) only[RV,seval,zAB,g2,g6,hne,y0,yb,wY,↓pIdN,zBK,ETA,c2]
    exact zB02
   ·skip
    cases c3:decide (el=Eid.z)
    ·cases c4:x.1.less el
     ·rw[c4] at hls
      simp (disch:=try exact SX) only[RV,seval,zAB,g2,g5,g6,g7,hne,y0,ya,yb,yc,wY,↓pIdN,zBK,ETA,c2,c3,hls]
      exact zB02
     ·rw[c4] at hls
      by_cases c5:x.1∈pre.map (·.1)
      ·simp only[c5,if_true] at hlk
       simp (disch:=try exact SX) only[RV,seval,zAB,g2,g4,g5,g6,g7,hne,y0,y3,ya,yb,yc,wY,↓pIdN,zBK,ETA,c2,c3,hls,x_lk,hlk]
       exact zB02
      ·simp only[c5,if_false] at hlk
       simp (disch:=try exact SX) only[RV,seval,zAB,g4,g5,g6,g7,hne,y3,ya,yb,yc,↓pIdN,zBK,ETA,c2,c3,hls,x_lk,hlk,x_mu]
       exact zB01
    ·skip
     by_cases c5:x.1∈pre.map (·.1)
     ·simp only[c5,if_true] at hlk
      simp (disch:=try exact SX) only[RV,seval,zAB,g2,g4,g5,g6,g7,hne,y0,y3,ya,yb,yc,wY,↓pIdN,zBK,ETA,c2,c3,x_lk,hlk]
      exact zB02
     ·simp only[c5,if_false] at hlk
      simp (disch:=try exact SX) only[RV,seval,zAB,g4,g5,g6,g7,hne,y3,ya,yb,yc,↓pIdN,zBK,ETA,c2,c3,x_lk,hlk,x_mu]
      exact zB01
theorem zSF {a:AV}{l:List Rn}(hS:Sl 10 isRn a l)(wf:Wf M)(k:Q (.fn 248 [] [.ptr M.size 0]) (M.add (.row false [a]))) :
  W3 (zCN fuel (d+1) 235 [a] M) Q:=by
 refine zAT tf235 rfl (by simp [a235]) fun b' ht hx=>?_
 have h0:=hx 0 _ rfl
 clear hx
 simp only[a235,c235] at ht ⊢
 simp (disch:=try exact SX) only[RV,seval,h0,hS.fz.cells]
 exact k
theorem zhS {a:AV}{l:List Rn}(hS:Sl 10 isRn a l):∀ r∈l,r.ok:=by
 intro r hr
 obtain⟨i,hi,rfl⟩:=List.getElem_of_mem hr
 obtain⟨_,_,⟨_,_,_,hok⟩,_⟩:=hS.iad i hi
 exact hok
theorem zfM {l:List Rn}(h:∀ r∈l,r.ok)(hm:∀ r∈l,r.may=true):∀ x∈elsL l,x.1.ok:=by
 intro x hx
 obtain⟨r,hr,hx⟩:=List.mem_flatMap.1 hx
 obtain⟨i,hi,rfl⟩:=List.mem_map.1 hx
 rw[List.mem_range] at hi
 have hb:=Spn.may_le (Rn.may_sp (hm r hr))
 have hk:=h r hr
 refine⟨hk.1.1.1, ?_⟩
 simp only[Spn.at,i64R]
 omega
theorem zSH {l:List Rn}(hm:∀ r∈l,r.may=true):(elsL l).length<=64*l.length:=by
 have:=zF7 hm
 have e:=zE8 hm
 rw[<- zMG]
 unfold prs
 rw[List.length_map]
 omega
theorem zcI {X:Mem}{tm:List AV}{a:AV}{l:List Rn}(hS:Sl 10 isRn a l)(hl:l.length<=1000)(hm:∀ r∈l,r.may=true)(hf:64*l.length+1000<fuel)(w:Wf X)(h2:nth zA3 tm 2 = .ptr 0 0)(h3:nth zA3 tm 3 = .ptr 1 0)(h4:nth zA3 tm 4 = .ptr 3 0)(hlen:tm.length=63)(hX:X.size=5)(g0:X.get 0=some (.row false [BL false]))(g1:X.get 1=some (.row false [NIL]))(g2:X.get 2=some (.map [] 0))(g3:X.get 3=some (.row false [.mp 2]))(g4:X.get 4=some (.row false [a]))
  (kt:Ord (elsL l) -> ∀ u O N,OI tm (elsL l) O N->Q u N) (ks:¬Ord (elsL l) -> ∀ u N,OS tm N->Q u N) :
  W3 (zCN fuel (d+8) 248 ([]++[.yl (X.size+1)]++[.ptr 4 0]) ((X.add (.dfr false)).add (.loop .ready none tm [12,13] cO1 cO2 X.size))) Q:=by
 have w1:=w.add (.dfr false)
 have hel:=zSH hm
 have heo:=zfM (zhS hS) hm
 have e:X.size+1=6:=by omega
 have u:∀ j,j<5->((X.add (.dfr false)).add (.loop .ready none tm [12,13] cO1 cO2 X.size)).get j=X.get j:=fun j hj=>by
  rw[zAA w1 _ _ (by rw[zA2];omega),zAA w _ _ (by omega)]
 have hJ0:OI tm [] (fun j=>j=1∨j=2∨j=6) ((X.add (.dfr false)).add (.loop .ready none tm [12,13] cO1 cO2 X.size)):=by
  refine⟨w1.add _,by simp only[zA2];omega,(u 0 (by omega)).trans g0,⟨NIL,(u 1 (by omega)).trans g1,SlP.nil,fun j hj=>by cases hj⟩,⟨_,(u 2 (by omega)).trans g2,zIG.nil _ _⟩,(u 3 (by omega)).trans g3, ?_, ?_,.inl rfl,.inr (.inl rfl),.inr (.inr rfl), ?_,Ord.nil⟩
  ·rw[zAA w1 _ _ (by rw[zA2];omega),<- hX]
   exact zAE w _ _ (Nat.le_refl _) (Nat.lt_succ_self _)
  ·have:=zAE w1 (.loop .ready none tm [12,13] cO1 cO2 X.size) 6 (by rw[zA2];omega) (by rw[zA2];omega)
   rw[hX] at this ⊢
   exact this
  ·intro j hj
   simp only[zA2]
   rcases hj with rfl | rfl | rfl <;> omega
 have key:=zYC (d:=d) (fuel:=fuel) (Q:=Q) (J:=OI tm) (S:=fun N=>OS tm N /\ ¬Ord (elsL l)) (id:=6) (p:=4) hS (by omega) hm (by omega) (w1.add _) ((u 4 (by omega)).trans g4) hJ0 (fun pre O N N' h wf le k=>h.keep wf le k) (fun pre O N h j hj=>(h.ol j hj).1) (fun pre x post O N he h wf le=>?_) (fun u N O h _ _=>kt h.od u O N h) (fun u N h=>ks h.2 u N h.1)
 ·rw[<- e] at key
  exact key
 ·have hxm:x∈elsL l:=by rw[he];simp
  have hpl:pre.length<=(elsL l).length:=by rw[he];simp
  obtain⟨v,N',hc,hv⟩:=zhH (fuel:=fuel) (d:=d) (B:=((X.add (.dfr false)).add (.loop .ready none tm [12,13] cO1 cO2 X.size)).size) h h2 h3 h4 hlen (heo x hxm) (by omega) (by omega)
  refine⟨v,N',hc, ?_⟩
  rcases hv with⟨rfl,hv⟩ | ⟨rfl,hv,ho⟩
  ·exact .inl ⟨rfl,hv⟩
  ·refine .inr ⟨rfl,hv,fun k=>?_⟩
   rw[k pre x post he] at ho
   cases ho
open Classical in
theorem zPK {a:AV}{l:List Rn}(hS:Sl 10 isRn a l)(hl:l.length<=1000)(hm:∀ r∈l,r.may=true)(hf:64*l.length+1000<fuel)(M:Mem):zCN fuel (d+9) 204 [a] M=some (BL (decide (Ord (elsL l))),M):=by
 apply zB1
 refine zAD tf204 rfl (by simp only[icyL,fun M=>hS.icy M 12 (by omega)]) (by simp [a204]) fun b' ht hx=>?_
 have h0:=hx 0 _ rfl
 clear hx
 simp only[a204,c204] at ht ⊢
 have cm:cellsA (.mp 2)=[.mp 2]:=rfl
 have om:oneA (.mp 2)=true:=rfl
 have sm:scs (.map none)=[.sc (.map none)]:=rfl
 simp (disch:=try exact SX) only[RV,seval,h0,zXC,cm,sm]
 refine zSF hS (by simp (disch:=try exact SX) only[RV,seval]) ?_
 simp (disch:=try exact SX) only[RV,seval]
 refine zaR (g:=248) (first:=[]) (cap:=[.ptr 4 0]) (by simp (disch:=try exact SX) only[RV,seval]) (by simp (disch:=try exact SX) only[RV,seval]) ?_
 refine zcI (d:=d) hS hl hm hf ?_ ?_ ?_ ?_ ?_ ?_ ?_ ?_ ?_ ?_ ?_ (fun ho u O N h=>?_) (fun ho u N h=>?_)
 ·exact zB04
 ·exact zB04
 ·exact zB04
 ·exact zB04
 ·rw[zN0];exact ht
 ·exact zB04
 ·exact zB04
 ·exact zB04
 ·exact zB04
 ·exact zB04
 ·exact zB04
 ·have wf:=h.wf
  have sz:=h.sz
  refine⟨wf,by simp only[zA2,zA7,zAH];omega,_,_,_,_,_,_,_,.inl rfl,h.g6, ?_⟩
  generalize hX:N.upd _ _=X
  have wX:Wf X:=by rw[<- hX];exact wf.upd _ _
  have sX:X.size=N.size:=by rw[<- hX];rfl
  have gX:∀ j,j≠6->X.get j=N.get j:=fun j hj=>by rw[<- hX];exact zA0 wf _ _ _ (fun e=>hj e.symm)
  have x0:=(gX 0 (by omega)).trans h.g0
  have x5:=(gX 5 (by omega)).trans h.g5
  have hd:decide (Ord (elsL l))=true:=decide_eq_true ho
  rw[hd]
  simp (disch:=try exact SX) only[RV,seval,x0,Option.getD_none]
  refine zLH (by simp (disch:=try exact SX) only[RV,seval,wX]) (by simp (disch:=try exact SX) only[RV,seval,x5]) ?_
  exact zB04
 ·have wf:=h.wf
  have sz:=h.sz
  refine⟨wf,by simp only[zA2,zA7,zAH];omega,_,_,_,_,_,_,_,.inr rfl,h.g6, ?_⟩
  generalize hX:N.upd _ _=X
  have wX:Wf X:=by rw[<- hX];exact wf.upd _ _
  have gX:∀ j,j≠6->X.get j=N.get j:=fun j hj=>by rw[<- hX];exact zA0 wf _ _ _ (fun e=>hj e.symm)
  have x0:=(gX 0 (by omega)).trans h.g0
  have x5:=(gX 5 (by omega)).trans h.g5
  have hd:decide (Ord (elsL l))=false:=decide_eq_false ho
  rw[hd]
  simp (disch:=try exact SX) only[RV,seval,Option.getD_some]
  refine zLH (by simp (disch:=try exact SX) only[seval,wX]) (by simp (disch:=try exact SX) only[seval,x5]) ?_
  simp (disch:=try exact SX) only[RV,seval,x0]
theorem zS7 {o:Rn}{ra:AV}(hR:Sl 1 isI32 ra o.rs)(hf:100<fuel)(M:Mem):zCN fuel (d+7) 203 [.agg (rnR o ra)] M=some (BL (!o.may),M):=by
 have hck:=fun M=>@zCC fuel d o ra hR hf M
 apply zB1
 refine zAD tf203 rfl (by simp only[icyL,zCW hR.fz]) (by simp [a203]) fun b' ht hx=>?_
 have h0:=hx 0 _ rfl
 clear hx
 simp only[a203,c203] at ht ⊢
 cases hm:o.may <;> rw[hm] at hck <;> simp (disch:=try exact SX) only[RV,seval,h0,hck,zAU,zBA]
open Classical in
noncomputable def zFW (l:List Rn):Bool:=decide (zDW l)
open Classical in
theorem zeR {l:List Rn}(h:zDW l):zFW l=true:=by unfold zFW;exact decide_eq_true h
open Classical in
theorem zMS {l:List Rn}(h:¬zDW l):zFW l=false:=by unfold zFW;exact decide_eq_false h
open Classical in
theorem zOA {l:List Rn}:zFW l=true↔zDW l:=by unfold zFW;exact⟨of_decide_eq_true,fun h=>decide_eq_true h⟩
theorem zG1 {l:List Rn}(h:∀ r∈l,r.may=true):∀ r∈l,r.rs.length<=64:=fun r hr=>((Rn.may_iff.1 (h r hr)).2.2.2.1)
theorem check_run {a:AV}{l:List Rn}(hS:Sl 10 isRn a l)(hl:l.length<=1000)(hf:64*l.length+3001000<fuel)(M:Mem):zCN fuel (d+10) 147 [a] M=some (I64 (err (zFW l)),M):=by
 have hh:=fun M=>zd3 (P:=Tryz.prog) (fs:=fsT tbl) (fuel:=fuel) (l:=l) (ag:=true) (n:=d+7) tf202 tf234 (fun h=>by cases h) zDH hS (by omega) (by omega) (zQP 203) (p:=fun x => !x.may) (fun r x hr _ M=>by
  obtain⟨ra,rfl,hra,_⟩:=hr
  exact @zS7 fuel d x ra hra (by omega) M) M
 rw[zTL] at hh
 apply zB1
 refine zAD tf147 rfl (by simp only[icyL,fun M=>hS.icy M 12 (by omega)]) (by simp [a147]) fun b' ht hx=>?_
 have h0:=hx 0 _ rfl
 clear hx
 simp only[a147,c147] at ht ⊢
 cases hb:l.all Rn.may with
 | false =>
  rw[hb] at hh
  have hno:zFW l=false:=zMS fun k=>by
   rw[List.all_eq_true.2 k.1] at hb;cases hb
  rw[hno]
  simp (disch:=try exact SX) only[RV,seval,h0,hh,zBA]
 | true =>
  rw[hb] at hh
  have hm:∀ r∈l,r.may=true:=List.all_eq_true.1 hb
  have hrs:=zG1 hm
  have hct:=fun M=>@zIU fuel (d+8) a l hS hm (by omega) (by omega) M
  have hord:=fun M=>@zPK fuel d a l hS hl hm (by omega) M
  obtain⟨r,hr,hlong⟩:=zGZ (fuel:=fuel) (d:=d) hS (by omega) (fun r hr=>by have:=hrs r hr;omega) (by omega)
  have hmL:=(zCI hm).2
  have hrsL:=zG1 hmL
  have hlenL:(zBU l).length<=64000:=by
   have e1:=zE8 hmL
   have e2:=zF7 hm
   have e3:=zE8 hm
   rw[(zCI hm).1,(zD7 _).1] at e1
   have:(zBU l).length<=(zB8 (zBU l)):=by
    rw[(zCI hm).1]
    have hh:=(zD7 (elsR l)).2
    generalize zDG (elsR l)=C at *
    clear e1
    induction C with
    | nil=>simp [zB8]
    | cons q C ih =>
     have:=ih (fun q hq=>hh q (List.mem_cons_of_mem _ hq))
     have:=(hh q List.mem_cons_self).1
     simp only[zB8,List.length_cons]
     omega
   rw[(zCI hm).1] at this ⊢
   omega
  have hsame:=fun M=>@zX2 fuel (d+5) r a (zBU l) l hr hS (by omega) (fun e he=>⟨by have:=hrsL e he;omega,by have:=hrsL e he;omega⟩) (by omega) M
  have or:=hr.one
  by_cases h1:zB8 l<=8192
  ·have q1:decide (8192<zB8 l)=false:=DF
   by_cases h2:Ord (elsL l)
   ·have ho:=@decide_eq_true _ (Classical.propDecidable (Ord (elsL l))) h2
    rw[ho] at hord
    by_cases h3:zBU l=l
    ·have hyes:zFW l=true:=zeR ⟨hm,h1,h2,h3⟩
     have hs:zMM (zBU l) l=true:=zO6.2 h3
     rw[hs] at hsame
     rw[hyes]
     simp (disch:=try exact SX) only[RV,seval,h0,hh,hct,q1,hord,hlong,hsame,zAU]
    ·have hno:zFW l=false:=zMS fun k=>h3 k.2.2.2
     have hs:zMM (zBU l) l=false:=by
      cases hq:zMM (zBU l) l with
      | false=>rfl
      | true=>exact absurd (zO6.1 hq) h3
     rw[hs] at hsame
     rw[hno]
     simp (disch:=try exact SX) only[RV,seval,h0,hh,hct,q1,hord,hlong,hsame,zBA]
   ·have ho:=@decide_eq_false _ (Classical.propDecidable (Ord (elsL l))) h2
    rw[ho] at hord
    have hno:zFW l=false:=zMS fun k=>h2 k.2.2.1
    rw[hno]
    simp (disch:=try exact SX) only[RV,seval,h0,hh,hct,q1,hord,zBA]
  ·have q1:decide (8192<zB8 l)=true:=DT
   have hno:zFW l=false:=zMS fun k=>h1 k.2.1
   rw[hno]
   simp (disch:=try exact SX) only[RV,seval,h0,hh,hct,q1,zBA]
abbrev zRn:Value:=.agg #[.int .u8 0,.int .u32 0,.int .u8 0,.int .i64 0,.int .i64 0,.int .u8 0,.int .u32 0,.int .u8 0,.int .i64 0,.slice none 0 0]
theorem zg5 {n:Nat}(wf:Wf M)(hn:0<n)(hb:n<=1000000)(k:Q (.sl M.size 0 0 none 10) (M.add (.row false (zA9 zRn n)))) :
  W3 (zCN fuel (d+1) 240 [NIL,I64 n] M) Q:=by
 have hz:=zQB (X:=M) (st:=10) (bytes:=80) (z:=zRn) wf rfl rfl hn (by omega) (by omega) (by omega)
 have e0:decide ((n:Int)<0)=false:=DF
 have e1:decide ((0:Int)<n)=true:=DT
 have w0:IntKind.i64.wrap 0=0:=by decide
 have w1:IntKind.i64.wrap ((n:Int) - 0)=n:=WI
 refine zAT tf240 rfl (by simp [a240]) fun b' ht hx=>?_
 obtain⟨h0,h1⟩:=hx2 hx
 clear hx
 simp only[a240,c240] at ht ⊢
 have hs:=zWT (M:=M.add (.row false (zA9 zRn n))) (st:=10) (n:=n) (zAE wf (.row false (zA9 zRn n)) M.size (Nat.le_refl _) (Nat.lt_succ_self _))
 simp (disch:=try exact SX) only[RV,seval,h0,h1,e0,e1,w0,w1,zbZ,zf6,zOL,zRN,hz,hs]
 exact k
theorem zU8 {id:Nat}{a0 a1 a2:AV}{l0 l1 l2:List Rn}(wf:Wf M)(hg:M.get id=some (.row false [a0,a1,a2]))(h0':Sl 10 isRn a0 l0)(h1':SlM M 10 isRn a1 l1)(h2':Sl 10 isRn a2 l2)(hn:0<l1.length)(hb0:l0.length<=10000)(hb1:l1.length<=10000)(hb2:l2.length<=10000)(hf:100<fuel)(hw:M.wm<=M.size)
  (k:∀ o N,SlM N 10 isRn o (l0++l1++l2)->Kept M N->(∀ j,rowOf o=some j->M.size<=j)->oneA o=true->cellsA o=[o]->((rowsOf o).all fun i=>Nat.blt i N.size)=true->Q o N) :
  W3 (zCN fuel (d+2) 207 [.sl id 0 3 (some 3) 1] M) Q:=by
 have x0:=h0'.len
 have x1:=h1'.len
 have x2:=h2'.len
 have o0:=h0'.one
 have o1:=h1'.one
 have o2:=h2'.one
 have li:=Mem.get_lt hg
 have c3:((3:Nat):Int)=3:=rfl
 have t0:zCL (I64 0)=some 0:=rfl
 have t1:zCL (I64 1)=some 1:=rfl
 have t2:zCL (I64 2)=some 2:=rfl
 have q03:decide ((0:Int)<3)=true:=rfl
 have q13:decide ((1:Int)<3)=true:=rfl
 have q23:decide ((2:Int)<3)=true:=rfl
 have q33:decide ((3:Int)<3)=false:=rfl
 have v1:IntKind.i64.wrap 1=1:=by decide
 have v2:IntKind.i64.wrap 2=2:=by decide
 have v3:IntKind.i64.wrap 3=3:=by decide
 have w0:IntKind.i64.wrap (0+(l0.length:Int))=(l0.length:Nat):=WI
 have w1:IntKind.i64.wrap ((l0.length:Int)+(l1.length:Int))=((l0.length+l1.length:Nat):Int):=WI
 have w2:IntKind.i64.wrap (((l0.length+l1.length:Nat):Int)+(l2.length:Int))=((l0.length+l1.length+l2.length:Nat):Int):=WI
 have n0:decide (((l0.length:Nat):Int)<0)=false:=DF
 have n1:decide (((l0.length+l1.length:Nat):Int)<0)=false:=DF
 have n2:decide (((l0.length+l1.length+l2.length:Nat):Int)<0)=false:=DF
 refine zAT tf207 rfl (by simp [a207]) fun b' ht hx=>?_
 have h0:=hx 0 _ rfl
 clear hx
 simp only[a207,c207] at ht ⊢
 simp (disch:=try exact SX) only[RV,seval,h0]
 refine w_un (by omega) ?_
 simp (disch:=try exact SX) only[RV,seval,hg,t0,x0,w0,n0,v1,zAX]
 refine w_un (by omega) ?_
 simp (disch:=try exact SX) only[RV,seval,hg,t1,x1,w1,n1,v2,zAX]
 refine w_un (by omega) ?_
 simp (disch:=try exact SX) only[RV,seval,hg,t2,x2,w2,n2,v3,zAX]
 refine w_un (by omega) ?_
 simp (disch:=try exact SX) only[RV,seval,zCZ]
 refine zg5 (d:=d) (n:=l0.length+l1.length+l2.length) wf (by omega) (by omega) ?_
 have sq0:=SlQ.fresh (X:=M) (st:=10) (T:=isRn) (n:=l0.length+l1.length+l2.length) (z:=zRn) wf rfl
 have wX:=wf.add (.row false (zA9 zRn (l0.length+l1.length+l2.length)))
 have kX:∀ j,j<M.size->(M.add (.row false (zA9 zRn (l0.length+l1.length+l2.length)))).get j=M.get j:=fun j hj=>zAA wf _ _ hj
 have sX:(M.add (.row false (zA9 zRn (l0.length+l1.length+l2.length)))).size=M.size+1:=rfl
 have dX:(M.add (.row false (zA9 zRn (l0.length+l1.length+l2.length)))).dirty=M.dirty:=rfl
 have vX:(M.add (.row false (zA9 zRn (l0.length+l1.length+l2.length)))).wm=M.wm:=rfl
 generalize (M.add (.row false (zA9 zRn (l0.length+l1.length+l2.length))))=X at *
 have gX:=(kX id li).trans hg
 simp (disch:=try exact SX) only[RV,seval,h0,c3]
 refine w_un (by omega) ?_
 simp (disch:=try exact SX) only[RV,seval,gX,t0,h0'.fz.rows]
 obtain⟨r0,y0,z0,A0,R0⟩:=h0'.cells2 X
 refine SlQ.app (bytes:=80) wX sq0 y0 z0 A0 R0 zDH.cel (by omega) (by simp;omega) (by simp;omega) fun o' Y sq1 wY sY kY rY wmY diY=>?_
 have on1:=sq1.one
 have oc1:=sq1.cells
 have rl1:=sq1.rl (Nat.le_refl _)
 have ro1:∀ j,rowOf o'=some j->j=M.size:=fun j hj=>by rw[rY] at hj;cases hj;rfl
 have gY:Y.get id=some (.row false [a0,a1,a2]):=(kY id (fun e=>by cases e;omega)).trans gX
 have mY:∀ j,j<M.size->Y.get j=M.get j:=fun j hj=>(kY j (fun e=>by cases e;omega)).trans (kX j hj)
 simp (disch:=try exact SX) only[RV,seval,v1,zAX]
 refine w_un (by omega) ?_
 have sm1:SlM Y 10 isRn a1 l1:=h1'.keep fun j hj=>mY j (h1'.lt j hj)
 have rla:=zB3 sm1.rl (Nat.le_refl _)
 simp (disch:=try exact SX) only[RV,seval,gY,t1,rl1,rla]
 obtain⟨r1,y1,z1,A1,R1⟩:=sm1.cells2
 refine SlQ.app (bytes:=80) wY sq1 y1 z1 A1 R1 zDH.cel (by omega) (by simp;omega) (by simp;omega) fun o2' Z sq2 wZ sZ kZ rZ wmZ diZ=>?_
 have on2:=sq2.one
 have oc2:=sq2.cells
 have rl2:=sq2.rl (Nat.le_refl _)
 have ro2:∀ j,rowOf o2'=some j->j=M.size:=fun j hj=>ro1 j (rZ ▸ hj)
 have gZ:Z.get id=some (.row false [a0,a1,a2]):=(kZ id (fun e=>by have:=ro1 _ e;omega)).trans gY
 have mZ:∀ j,j<M.size->Z.get j=M.get j:=fun j hj=>(kZ j (fun e=>by have:=ro1 _ e;omega)).trans (mY j hj)
 simp (disch:=try exact SX) only[RV,seval,v2,zAX]
 refine w_un (by omega) ?_
 simp (disch:=try exact SX) only[RV,seval,gZ,t2,rl2,h2'.fz.rows]
 obtain⟨r2,y2,z2,A2,R2⟩:=h2'.cells2 Z
 refine SlQ.app (bytes:=80) wZ sq2 y2 z2 A2 R2 zDH.cel (by omega) (by simp;omega) (by simp;omega) fun o3' U sq3 wU sU kU rU wmU diU=>?_
 have on3:=sq3.one
 have oc3:=sq3.cells
 have rl3:=sq3.rl (Nat.le_refl _)
 have ro3:∀ j,rowOf o3'=some j->j=M.size:=fun j hj=>ro2 j (rU ▸ hj)
 have mU:∀ j,j<M.size->U.get j=M.get j:=fun j hj=>(kU j (fun e=>by have:=ro2 _ e;omega)).trans (mZ j hj)
 simp (disch:=try exact SX) only[RV,seval,v3,zAX]
 refine w_un (by omega) ?_
 simp (disch:=try exact SX) only[RV,seval,zCZ]
 have e0:l0.length+l1.length+l2.length - l0.length - l1.length - l2.length=0:=by omega
 rw[e0] at sq3
 have d1:=diY (fun j hj=>by cases hj;omega)
 have d2:=diZ (fun j hj=>by have:=ro1 j hj;omega)
 have d3:=diU (fun j hj=>by have:=ro2 j hj;omega)
 exact k o3' U (by have:=sq3.slm;simpa using this) ⟨wU,by omega,mU,by omega,d3.trans (d2.trans (d1.trans dX))⟩ (fun j hj=>by have:=ro3 j hj;omega) on3 oc3 rl3
theorem zNZ {a:AV}{l:List Rn}{x:Eid}(hS:Sl 10 isRn a l)(hm:∀ r∈l,r.may=true)(hx:x=Eid.z∨zBI l x≠none)(hl:l.length<=9000)(hf:l.length+100<fuel) :
  ∃ r,Sl 10 isRn r (zBC l x).1 /\ ∀ M,zCN fuel (d+8) 151 [a,idA x] M=some (.tup [r,I64 (zBC l x).2],M):=by
 have hw:=fun M=>@zOG fuel (d+1) a l x hS (by omega) (by omega) M
 refine zF9 tf151 rfl (fun M=>by simp only[icyL,fun M=>hS.icy M 12 (by omega),zAP (zEX x) (show 1<12 by omega)]) ?_
 refine zAD tf151 rfl (by simp only[icyL,fun M=>hS.icy M 12 (by omega),zAP (zEX x) (show 1<12 by omega)]) (by simp [a151]) fun b' ht hx=>?_
 obtain⟨h0,h1⟩:=hx2 hx
 clear hx
 simp only[a151,c151] at ht ⊢
 by_cases hz:x=Eid.z
 ·have q:decide (x=Eid.z)=true:=decide_eq_true hz
  have hpl:zBC l x=(l,0):=by unfold zBC;rw[if_pos hz]
  rw[hpl]
  simp (disch:=try exact SX) only[RV,seval,zAB,h0,h1,hS.fz.frz,↓pIdE,zB2,ETA,q]
  exact⟨_,hS,rfl⟩
 ·have q:decide (x=Eid.z)=false:=decide_eq_false hz
  rcases hx with hx | hx
  ·exact absurd hx hz
  cases hwl:zBI l x with
  | none=>exact absurd hwl hx
  | some p =>
   obtain⟨n,k⟩:=p
   obtain⟨L1,o,L2,hle,hln,h1',h2',h3',h4'⟩:=zHT hwl
   rw[hwl] at hw
   simp only[wN,wK] at hw
   have hnl:n<l.length:=by rw[hle,List.length_append,List.length_cons];omega
   obtain⟨r,hiad,hr,hrl⟩:=hS.iad n hnl
   have hgo:l.getD n Rn.z=l[n]:=by rw[List.getD_eq_getElem?_getD,List.getElem?_eq_getElem hnl];rfl
   have hpl:zBC l x=if (l.getD n Rn.z).cutE (k+1)=0 then (l.take n++[(l.getD n Rn.z).fst (k+1),(l.getD n Rn.z).snd (k+1)]++l.drop (n+1),n+1) else (l,n+1):=by unfold zBC;rw[if_neg hz];simp only[hwl]
   rw[hpl,hgo]
   clear hpl
   have hom:=hm l[n] (List.getElem_mem hnl)
   have hro:=zhS hS l[n] (List.getElem_mem hnl)
   have hon:o=l[n]:=by simp [hle,<- hln]
   have hln':=hon ▸ h3'
   generalize l[n]=e at *
   obtain⟨ra,rfl,hra,_⟩:=hr
   have hb:=Spn.may_le (Rn.may_sp hom)
   have w1:IntKind.i64.wrap (k+1)=k+1:=WI
   have w2:IntKind.i64.wrap ((n:Int)+1)=((n+1:Nat):Int):=WI
   obtain⟨v,⟨ca,cb,rfl,hca,hcb⟩,hcut⟩:=zHP (fuel:=fuel) (d:=d) (n:=k+1) hra (by omega)
   have oca:=hca.one
   have ocb:=hcb.one
   by_cases hc:e.cutE (k+1)=0
   ·have q2:decide (e.cutE (k+1)=0)=true:=decide_eq_true hc
    rw[if_pos hc]
    obtain⟨r1,s1,b1⟩:=zeL hS (j:=n) (by omega)
    obtain⟨r2,s2,b2⟩:=zWP hS (i:=n+1) (by omega)
    have ob1:=b1.one
    have ob2:=b2.one
    have eA:e.cutA (k+1)=e.fst (k+1):=by unfold Rn.cutA;rw[if_pos hc]
    have eB:e.cutB (k+1)=e.snd (k+1):=by unfold Rn.cutB;rw[if_pos hc]
    have okA:=zb5 hro hc
    have okB:=zbX hro hc
    rw[eA] at hca hcut
    rw[eB] at hcb hcut
    generalize e.fst (k+1)=eF at *
    generalize e.snd (k+1)=eS at *
    simp (disch:=try exact SX) only[RV,seval,zAB,h0,h1,hS.fz.rows,↓pIdE,zB2,ETA,q,hw,hiad,w1,w2,hcut,q2,s1,s2,b1.fz.cells,b2.fz.cells,zBD]
    refine zU8 (d:=d+5) (id:=4) (a0:=r1) (a1:=.sl 3 0 2 (some 2) 10) (a2:=r2) (l1:=[eF,eS]) (by simp (disch:=try exact SX) only[RV,seval]) ?_ b1 (zWU (zQX hca hcb okA okB) (by simp) rfl (.inr rfl) ?_) b2 (by simp) (by rw[List.length_take];omega) (by simp) (by rw[List.length_drop];omega) (by omega) (Nat.le_refl _) fun o' N sm kN nr on oc rl=>?_
    ·exact zB04
    ·simp (disch:=try exact SX) only[RV,seval]
     rfl
    ·have wN:=kN.wf
     have dN:N.dirty=false:=kN.di
     simp (disch:=try exact SX) only[RV,seval,dN]
     obtain⟨ro,hro2,hfr⟩:=zFS sm zDH.cel 12 (by omega)
     rw[hfr _ (fun id h=>by simp (disch:=try exact SX) only[RV,seval])]
     exact⟨ro,hro2,by rw[w2] <;> rfl⟩
   ·have q2:decide (e.cutE (k+1)=0)=false:=decide_eq_false hc
    rw[if_neg hc]
    simp (disch:=try exact SX) only[RV,seval,zAB,h0,h1,hS.fz.frz,↓pIdE,zB2,ETA,q,hw,hiad,w1,w2,hcut,q2]
    exact⟨_,hS,rfl⟩
theorem zQW {X:Mem}{o:AV}{r:List AV}{x:Rn}(wf:Wf X)(h:SlN X 10 isRn o [])(hx:isRn r x)(hr:r.length=10)
  (k:∀ o' M',SlM M' 10 isRn o' [x]->Wf M'->X.size<=M'.size->(∀ j,j<X.size->rowOf o≠some j->M'.get j=X.get j)->(∀ id,rowOf o'=some id->rowOf o=some id∨X.size<=id)->M'.wm=X.wm->Q o' M') :
  W3 (zCN fuel (d+1) 154 [o,I64 0,.sl X.size 0 1 (some 1) 10] (X.add (.row false r))) Q:=by
 have sm:=h.slm
 have oo:=sm.one
 have ol:=sm.len
 have z10:decide ((1:Int)=0)=false:=rfl
 have ge:∀ N,lenO N (.sl X.size 0 1 (some 1) 10)=some (I64 1,N):=fun _=>rfl
 have hs:∀ N,(∀ j,rowOf o=some j->N.get j=X.get j) -> ∃ v,slcO N 10 o (some (I64 0)) none none=some (v,N)/\oneA v=true:=fun N hN=>by
  rcases h with⟨_,rfl | ⟨id,rfl,hg⟩⟩ | ⟨hn,_⟩
  ·exact⟨_,rfl,rfl⟩
  ·exact⟨_,rfl,rfl⟩
  ·exact absurd rfl hn
 obtain⟨v,hsv,ov⟩:=hs (X.add (.row false r)) (fun j hj=>zAA wf _ _ (sm.lt j hj))
 refine zAT tf154 rfl (by simp [a154]) fun b' ht hx=>?_
 obtain⟨h0,h1,h2⟩:=hx3 hx
 clear hx
 simp only[a154,c154] at ht ⊢
 have ol0:∀ N,lenO N o=some (I64 0,N):=ol
 have rlo:=zB3 sm.rl (show X.size<=X.size+1 by omega)
 simp (disch:=try exact SX) only[RV,seval,h0,h1,h2,ol0,hsv,ge,rlo]
 refine app1 wf sm zDH (x:=x) hx hr (by omega) (by simp) (by simp) fun o' M' sm' w' le' kp nw wm' rl on oc=>?_
 simp (disch:=try exact SX) only[RV,seval]
 exact k o' M' sm' w' le' kp nw wm'
theorem zR4 {l:List Rn}{r:Rn}{n:Nat}(D:List Rn)(h:D=(l.drop n).takeWhile fun q=>r.sp.f.less q.sp.f){i:Nat}(hi:i<D.length)(hn:n+i<l.length):r.sp.f.less l[n+i].sp.f=true/\D[i]=l[n+i]:=by
 have h1:D[i]∈(l.drop n).takeWhile fun q=>r.sp.f.less q.sp.f:=by rw[<- h];exact List.getElem_mem hi
 have h2:=List.all_eq_true.1 (List.all_takeWhile (l:=l.drop n) (p:=fun q=>r.sp.f.less q.sp.f)) _ h1
 have h3:D[i]=l[n+i]:=by
  have hp:D <+: l.drop n:=by rw[h];exact List.takeWhile_prefix _
  rw[hp.getElem hi,List.getElem_drop]
 rw[<- h3]
 exact⟨h2,rfl⟩
theorem zO8 {l:List Rn}{x:Eid}{n:Nat}(h:zFV l x n<l.length):x.less l[zFV l x n].sp.f=false:=by
 have hd:((l.drop n).dropWhile fun q=>x.less q.sp.f)=l.drop (zFV l x n):=by
  have e:=List.takeWhile_append_dropWhile (p:=fun q:Rn=>x.less q.sp.f) (l:=l.drop n)
  have e2:=congrArg (List.drop ((l.drop n).takeWhile fun q=>x.less q.sp.f).length) e
  rw[List.drop_left,List.drop_drop] at e2
  exact e2
 have:=List.head?_dropWhile_not (fun q:Rn=>x.less q.sp.f) (l.drop n)
 rw[hd,List.drop_eq_getElem_cons h] at this
 exact this
theorem zWO {l:List Rn}{x:Eid}{n:Nat}(hn:n<=l.length):zFV l x n<=l.length:=by
 unfold zFV
 have:=(List.takeWhile_sublist (l:=l.drop n) (fun q:Rn=>x.less q.sp.f)).length_le
 rw[List.length_drop] at this
 omega
theorem zMC (l:List Rn)(x:Eid):(zBC l x).1.length<=l.length+2:=by
 unfold zBC
 split
 ·simp
 ·split
  ·simp
  ·split
   ·simp;omega
   ·simp
theorem zVF (l:List Rn):(zBU l).length<=l.length:=by
 refine zD5 (P:=fun l=>(zBU l).length<=l.length) (Nat.le_refl _) (fun l r ih=>?_) l
 rw[zNN]
 have:=zQ8 (zBU l) r
 exact zB0z
theorem zYX (l:List Rn)(r:Rn):(insL l r).length<=l.length+3:=by
 unfold insL
 refine Nat.le_trans (zVF _) ?_
 have:=zMC l r.af
 simp only[List.length_append,List.length_take,List.length_drop,List.length_singleton]
 omega
noncomputable def insR (l:List Rn)(r:Rn):List Rn:=if putE l r=0 then insL l r else []
open Classical in
theorem zSU {a ra:AV}{l:List Rn}{x:Rn}(hS:Sl 10 isRn a l)(hR:Sl 1 isI32 ra x.rs)(hx:x.ok)(hl:l.length<=900)(hf:64*l.length+3011000<fuel):∃ r,Sl 10 isRn r (insR l x) /\ ∀ M,zCN fuel (d+11) 88 [a,.agg (rnR x ra)] M=some (.tup [r,I64 (putE l x)],M):=by
 have hck:=fun M=>@check_run fuel d a l hS (by omega) (by omega) M
 have hcx:=fun M=>@zCC fuel (d+4) x ra hR (by omega) M
 refine zF9 tf88 rfl (fun M=>by simp only[icyL,fun M=>hS.icy M 12 (by omega),zCW hR.fz]) ?_
 refine zAD tf88 rfl (by simp only[icyL,fun M=>hS.icy M 12 (by omega),zCW hR.fz]) (by simp [a88]) fun b' ht hx=>?_
 obtain⟨h0,h1⟩:=hx2 hx
 clear hx
 simp only[a88,c88] at ht ⊢
 have hiE:putE l x=if zFW l=true/\x.may=true then (if x.af≠Eid.z/\zBI l x.af=none then 6 else if ∃ i:Nat,(i:Int)<x.sp.n/\zBI l (x.sp.at i)≠none then 2 else if 8192<zB8 l+x.sp.n then 4 else 0) else 8:=by
  unfold putE
  simp only[zOA]
 by_cases h8:zFW l=true/\x.may=true
 ·rw[if_pos h8] at hiE
  obtain⟨htb,hxm⟩:=h8
  have hok:=zOA.1 htb
  rw[htb] at hck
  rw[hxm] at hcx
  have hwh:=fun y M=>@zOG fuel (d+4) a l y hS (by omega) (by omega) M
  have hwa:=fun M=>hwh x.af M
  have hb:=Spn.may_le (Rn.may_sp hxm)
  obtain⟨m,hmn⟩:∃ m:Nat,x.sp.n=m:=⟨x.sp.n.toNat,by omega⟩
  have ia:∀ i:Nat,i<m -> ∀ M,zCN fuel (d+10) 149 [spA x.sp,I64 i] M=some (.tup [idA (x.sp.at i),I64 0],M):=fun i hi M=>by
   have:=@zJ0 fuel (d+5) x.sp i M
   rw[if_pos (Rn.may_sp hxm),if_neg (by omega)] at this
   exact this
  have qn1:decide ((-1:Int)<0)=true:=rfl
  have qg1:decide ((0:Int) <= -1)=false:=rfl
  by_cases h6:x.af≠Eid.z/\zBI l x.af=none
  ·have e6:putE l x=6:=by rw[hiE,if_pos h6]
   have er:insR l x=[]:=by unfold insR;rw[e6];rfl
   rw[e6,er]
   have q:decide (x.af=Eid.z)=false:=decide_eq_false h6.1
   rw[h6.2] at hwa
   simp (disch:=try exact SX) only[RV,seval,zAB,h0,h1,hck,hcx,IMX,zAU,zC5,BMM,hwa,wN,wK,↓pIdN,zBK,ETA,q]
   exact⟨NIL,.inl ⟨rfl,rfl⟩,rfl⟩
  ·rw[if_neg h6] at hiE
   have hx6:x.af=Eid.z∨zBI l x.af≠none:=by
    by_cases h:x.af=Eid.z
    ·exact .inl h
    ·exact .inr fun k=>h6 ⟨h,k⟩
   have step:∃ b:Bool,(decide ((wN (zBI l x.af))<0)=b)/\(b=true->decide (x.af=Eid.z)=true):=by
    refine⟨_,rfl,fun hb=>?_⟩
    rcases hx6 with h | h
    ·exact decide_eq_true h
    ·cases hw:zBI l x.af with
     | none=>exact absurd hw h
     | some p =>
      have hb:=of_decide_eq_true hb
      rw[hw] at hb
      simp only[wN] at hb
      omega
   obtain⟨b6,hb6,hb6'⟩:=step
   have main:∀ (b6:Bool),decide ((wN (zBI l x.af))<0)=b6->(b6=true->decide (x.af=Eid.z)=true)->True:=fun _ _ _=>trivial
   clear main
   cases b6 with
   | true =>
    have q:=hb6' rfl
    simp (disch:=try exact SX) only[RV,seval,zAB,h0,h1,hck,hcx,IMX,zAU,zC5,BMM,hwa,hb6,↓pIdN,zBK,ETA,q]
    exact zB00
   | false =>
    simp (disch:=try exact SX) only[RV,seval,h0,h1,hck,hcx,IMX,zAU,zC5,BMM,hwa,hb6]
    exact zB00
 ·have e8:putE l x=8:=by rw[hiE,if_neg h8]
  have er:insR l x=[]:=by unfold insR;rw[e8];rfl
  have hz:imax (err (zFW l)) (err x.may)=8:=by
   cases ma:zFW l <;> cases mb:x.may <;> first | rfl | exact absurd ⟨ma,mb⟩ h8
  rw[e8,er]
  simp (disch:=try exact SX) only[RV,seval,h0,h1,hck,hcx,hz,zC5,BMM]
  exact⟨NIL,.inl ⟨rfl,rfl⟩,rfl⟩
variable {l : List Op} {a : AV}
theorem zH9 (l:List Op):(textOf l).length<=3*l.length:=by
 refine zD5 (P:=fun l=>(textOf l).length<=3*l.length) (Nat.le_refl _) (fun l o ih=>?_) l
 rw[zEV]
 unfold stepT
 split
 ·have:=zYX (textOf l) o.rn
  exact zB0z
 ·exact zB0z
def zi0 (l:List Op)(r:AV):Prop:=∃ r1,r = .tup [r1,I64 (err (zAS [] l))]/\Sl 10 isRn r1 (if zAS [] l=true then textOf l else [])
theorem zhT {o:Op}(h:o.ok):o.rn.ok:=⟨h.2.2.2.1,h.2.2.2.2.1,h.2.2.2.2.2.2⟩
theorem zRT (hS:Sl 17 isOp a l)(hl:l.length<=200)(hf:3080000<fuel):∃ r,zi0 l r /\ ∀ M,zCN fuel (d+15) 44 [a] M=some (r,M):=by
 have ll:=hS.len
 have hck:=fun M=>zD8 (fuel:=fuel) (d:=d) hS (by omega) (by omega) M
 refine zF9 tf44 rfl (fun M=>by simp only[icyL,fun M=>hS.icy M 12 (by omega)]) ?_
 refine zAD tf44 rfl (by simp only[icyL,fun M=>hS.icy M 12 (by omega)]) (by simp [a44]) fun b' ht hx=>?_
 have h0:=hx 0 _ rfl
 clear hx
 simp only[a44,c44] at ht ⊢
 unfold zi0
 cases q1:zAS [] l with
 | false =>
  rw[q1] at hck
  simp (disch:=try exact SX) only[RV,seval,h0,hck,zBA]
  exact zB08
 | true =>
  rw[q1] at hck
  simp only[if_true]
  simp (disch:=try exact SX) only[RV,seval,h0,hck,zAU,ll]
  refine zBB (I:=fun n t N => ∃ (i:Nat) (r:AV),n=l.length - i/\i<=l.length/\nth zA3 t 2=r/\nth zA3 t 14=a/\nth zA3 t 15=I64 l.length/\nth zA3 t 16=I64 i/\Wf N/\Sl 10 isRn r (textOf (l.take i))) (n:=l.length) (by omega) ?_ ?_
  ·refine⟨0,NIL,rfl,Nat.zero_le _, ?_, ?_, ?_, ?_,Wf.mem0,.inl ⟨rfl,rfl⟩⟩ <;> simp (disch:=try exact SX) only[RV,seval]
   all_goals first | rfl | assumption | done
  ·rintro n t N hlt ⟨i,r,rfl,hi,g2,g14,g15,g16,w,hA⟩
   simp only[ht] at hlt ⊢
   by_cases hc:i<l.length
   ·have q3:decide ((i:Int)<l.length)=true:=DT
    have w1:IntKind.i64.wrap ((i:Int)+1)=((i+1:Nat):Int):=WI
    obtain⟨r0,hiad,hr,hrl⟩:=hS.iad i hc
    have hts:=zEV (l.take i) l[i]
    rw[<- take_snoc l i hc] at hts
    have htl:=zH9 (l.take i)
    rw[List.length_take] at htl
    have hsp:l.take i++l[i]::l.drop (i+1)=l:=by rw[<- List.drop_eq_getElem_cons hc,List.take_append_drop]
    have hput:rofE l[i]=0->putE (textOf (l.take i)) l[i].rn=0:=zYU (m:=l.drop (i+1)) (by rw[hsp];exact q1)
    clear hsp
    generalize l[i]=e at *
    obtain⟨ra,rfl,hra,hok⟩:=hr
    have ora:=hra.one
    obtain⟨rr,hk,hof⟩:=zO5 (fuel:=fuel) (d:=d+6) hra hok (by omega)
    by_cases q4:rofE e=0
    ·have q4':decide (rofE e=0)=true:=decide_eq_true q4
     unfold rofK at hk
     rw[if_pos q4] at hk
     obtain⟨rb,rfl,hrb⟩:=hk
     have orb:=hrb.one
     obtain⟨r2,hr2,hins⟩:=zSU (fuel:=fuel) (d:=d+3) (x:=e.rn) hA hrb (zhT hok) (by omega) (by omega)
     have or2:=hr2.one
     rw[hput q4] at hins
     unfold insR at hr2
     rw[if_pos (hput q4)] at hr2
     unfold stepT at hts
     rw[if_pos q4] at hts
     simp (disch:=try exact SX) only[RV,seval,g2,g14,g15,g16,q3,hiad,hof,hins,w,w1]
     exact⟨hlt,l.length - (i+1),by omega,i+1,r2,rfl,by omega,rfl,rfl,by rw[hts];exact hr2⟩
    ·have q4':decide (rofE e=0)=false:=decide_eq_false q4
     unfold rofK at hk
     rw[if_neg q4] at hk
     subst hk
     unfold stepT at hts
     rw[if_neg q4] at hts
     unfold rnZ at hof
     simp (disch:=try exact SX) only[RV,seval,g2,g14,g15,g16,q3,hiad,hof,q4',w,w1]
     exact⟨hlt,l.length - (i+1),by omega,i+1,r,rfl,by omega,rfl,rfl,by rw[hts];exact hA⟩
   ·obtain rfl:i=l.length:=by omega
    have q3:decide ((l.length:Int)<l.length)=false:=DF
    rw[List.take_length] at hA
    simp (disch:=try exact SX) only[RV,seval,g2,g15,g16,hA.fz.frz]
    exact⟨_,⟨r,rfl,hA⟩,rfl⟩
theorem zVW (hS:Sl 17 isOp a l):∀ p∈l,p.ok:=by
 rcases hS with⟨_,rfl⟩ | ⟨rows,cap,_,hA,_⟩
 ·intro p hp;cases hp
 ·intro p hp
  obtain⟨i,hi,rfl⟩:=List.getElem_of_mem hp
  have hr:i<rows.length:=by rw[hA.length_eq];exact hi
  obtain⟨_,_,_,h⟩:=hA.get hr hi
  exact h
end Go.Proofs.YtliicocdhkcanaaGreat
namespace Go.Ax
open Go
variable {α : Type} {M N : Mem} {st : Nat} {T : List AV -> α -> Prop} {v o : AV} {l : List α}
end Go.Ax
namespace Go.Proofs.YtliicocdhkcanaaGreat
open Go Go.Ax
variable {fuel : Nat} {M : Mem} {Q : AV -> Mem -> Prop} {d : Nat} {l : List Op} {a : AV} {v : Lb}
theorem zV8 (l:List Op)(v:Lb):zJ3 (lowL l v) v (zCO (elsR (textOf (lowL l v))))=zBV l v:=by
 unfold zJ3 zCO zBV
 rw[List.filter_map,List.map_map]
 rfl
theorem zMV {l:List Op}(h:zAS [] l=true)(v:Lb):(zBV l v).length<=192*l.length:=by
 have hT:=zC2 (zDP v h)
 have h1:=zGQ hT.ok.1
 have h2:=zH9 (lowL l v)
 have h3:=zM5 l v
 unfold zBV
 rw[List.length_map]
 exact Nat.le_trans (List.length_filter_le _ _) (by omega)
def zTZ (l:List Op)(v:Lb)(r:AV):Prop:=∃ r1,r = .tup [r1,I64 (zF2 l v)]/\Sl 5 zDE r1 (if zF2 l v=0 then zBV l v else [])
theorem zKN (h:zF2 l v=0):zAS [] l=true/\v.may=true:=by
 unfold zF2 err at h
 cases h1:zAS [] l <;> cases h2:v.may <;> rw[h1,h2] at h <;> first | exact⟨rfl,rfl⟩ | cases h
theorem zGO (hS:Sl 17 isOp a l)(hl:l.length<=200)(hf:3200000<fuel)(hd:∀ o∈l,o.rs.length<=1000000000):∃ r,zTZ l v r /\ ∀ M,zCN fuel (d+18) 22 [a,lbA v] M=some (r,M):=by
 obtain⟨ro,⟨r2,rfl,hr2⟩,hon⟩:=zZQ (fuel:=fuel) (d:=d+2) (v:=v) hS (by omega) (by omega) hd
 have or2:=hr2.one
 refine zF9 tf22 rfl (fun M=>by simp only[icyL,fun M=>hS.icy M 12 (by omega),zAP (zEA v) (show 1<12 by omega)]) ?_
 refine zAD tf22 rfl (by simp only[icyL,fun M=>hS.icy M 12 (by omega),zAP (zEA v) (show 1<12 by omega)]) (by simp [a22]) fun b' ht hx=>?_
 obtain⟨h0,h1⟩:=hx2 hx
 clear hx
 simp only[a22,c22] at ht ⊢
 unfold zTZ
 by_cases q1:zF2 l v=0
 ·rw[if_pos q1] at hr2
  obtain⟨q2,q3⟩:=zKN q1
  have q4:=zDP v q2
  have hlow:=zM5 l v
  obtain⟨rt,⟨r3,rfl,hr3⟩,htx⟩:=zRT (fuel:=fuel) (d:=d+2) hr2 (by omega) (by omega)
  rw[q4] at htx hr3
  simp only[if_true] at hr3
  have hT:=zC2 q4
  have htl:=zH9 (lowL l v)
  obtain⟨r4,hr4,hal⟩:=zTJ (fuel:=fuel) (d:=d+9) hr3 hT.ok.1 (by omega) (by omega)
  have hel:=zGQ hT.ok.1
  rw[q1]
  rw[q1] at hon
  simp (disch:=try exact SX) only[RV,seval,h0,h1,hon,htx,hal,zAU,hr2.fz.cells]
  refine zeK (d:=d) (low:=lowL l v) (v:=v) hr4 (by rw[zE7];omega) hr2 q4 (by omega) (by rw[zE7];omega) ?_ ?_ ?_ ?_ fun o N wN leN kpN smN nwN wmN=>?_
  ·exact zB04
  ·exact Nat.zero_le _
  ·exact zB04
  ·exact zB04
  ·rw[zV8] at smN
   obtain⟨ro,hz,hs⟩:=smN.frz zLN.cel (k:=12) (by omega)
   have oo:=smN.one
   simp (disch:=try exact SX) only[RV,seval,hz]
   exact⟨_,⟨ro,rfl,by simpa using hs⟩,rfl⟩
 ·have q1':=decide_eq_false q1
  simp (disch:=try exact SX) only[RV,seval,h0,h1,hon,q1',hr2.fz.cells]
  exact⟨_,⟨NIL,rfl,by rw[if_neg q1];exact .inl ⟨rfl,rfl⟩⟩,rfl⟩
def zM2 (l:List Op)(v:Lb)(k:Int):Int:=if zF2 l v=0 then (if k<0∨((zBV l v).length:Int)<k then 2 else 0) else zF2 l v
def zDV (l:List Op)(v:Lb)(k:Int):Eid:=if zM2 l v k=0/\0<k then (((zBV l v)[(k - 1).toNat]?).map (·.id)).getD Eid.z else Eid.z
theorem zZ8 {k:Int}(hS:Sl 17 isOp a l)(hl:l.length<=200)(hf:3200000<fuel)(hd:∀ o∈l,o.rs.length<=1000000000)(M:Mem):zCN fuel (d+19) 39 [a,lbA v,I64 k] M=some (.tup [idA (zDV l v k),I64 (zM2 l v k)],M):=by
 obtain⟨rc,⟨r2,rfl,hr2⟩,hce⟩:=zGO (fuel:=fuel) (d:=d) (v:=v) hS hl hf hd
 apply zB1
 refine zAD tf39 rfl (by simp only[icyL,fun M=>hS.icy M 12 (by omega),zAP (zEA v) (show 1<12 by omega),zF1]) (by simp [a39]) fun b' ht hx=>?_
 obtain⟨h0,h1,h2⟩:=hx3 hx
 clear hx
 simp only[a39,c39] at ht ⊢
 unfold zDV zM2
 by_cases q1:zF2 l v=0
 ·rw[q1] at hr2 hce
  simp only[if_true] at hr2
  have hvl:=zMV (zKN q1).1 v
  have lr2:=hr2.len
  by_cases q2:k<0
  ·have q2':=decide_eq_true q2
   simp only[q1,if_true,q2,true_or]
   simp (disch:=try exact SX) only[RV,seval,zAB,h0,h1,h2,hce,q2']
   rfl
  ·have q2':=decide_eq_false q2
   by_cases q3:((zBV l v).length:Int)<k
   ·have q3':=decide_eq_true q3
    simp only[q1,if_true,q3,or_true]
    simp (disch:=try exact SX) only[RV,seval,zAB,h0,h1,h2,hce,q2',q3',lr2]
    rfl
   ·have q3':=decide_eq_false q3
    have q4:¬(k<0∨((zBV l v).length:Int)<k):=by omega
    simp only[q1,if_true,q4,if_false,true_and]
    by_cases q5:k=0
    ·subst q5
     simp (disch:=try exact SX) only[RV,seval,zAB,h0,h1,h2,hce,q3',lr2]
    ·have q5':=decide_eq_false q5
     have q6:0<k:=by omega
     obtain⟨m,rfl⟩:∃ m:Nat,k=(m:Int)+1:=⟨(k - 1).toNat,by omega⟩
     have hm:m<(zBV l v).length:=by omega
     have w1:IntKind.i64.wrap ((m:Int)+1 - 1)=(m:Int):=WI
     obtain⟨r,hiad,⟨rfl,hok⟩,hrl⟩:=hr2.iad m hm
     have e:(((zBV l v)[((m:Int)+1 - 1).toNat]?).map (·.id)).getD Eid.z=(zBV l v)[m].id:=by
      rw[show ((m:Int)+1 - 1).toNat=m by omega,List.getElem?_eq_getElem hm]
      rfl
     simp only[q6,if_true,e]
     simp (disch:=try exact SX) only[RV,seval,h0,h1,h2,hce,q2',q3',q5',lr2,w1,hiad]
 ·have q1':=decide_eq_false q1
  simp only[q1,if_false,false_and]
  simp (disch:=try exact SX) only[RV,seval,zAB,h0,h1,hce,q1']
def topC (cs:List CellV)(v:Lb):Int:=cs.foldl (fun m c=>if c.id.hd.lb.leq v=true then imax m c.id.c else m) 0
theorem zOC (cs:List CellV)(v:Lb)(c:CellV):topC (cs++[c]) v=if c.id.hd.lb.leq v=true then imax (topC cs v) c.id.c else topC cs v:=by simp [topC]
theorem zPZ {cs:List CellV}{v:Lb}:0<=topC cs v /\ ∀ c∈cs,c.id.hd.lb.leq v=true->c.id.c<=topC cs v:=by
 refine zD5 (P:=fun cs=>0<=topC cs v /\ ∀ c∈cs,c.id.hd.lb.leq v=true->c.id.c<=topC cs v) ⟨Int.le_refl 0,fun c h=>absurd h (by simp)⟩ (fun cs x ih=>?_) cs
 rw[zOC]
 unfold imax
 refine⟨?_,fun c hc hq=>?_⟩
 ·split
  ·split <;> omega
  ·exact ih.1
 ·rcases List.mem_append.1 hc with hc | hc
  ·have:=ih.2 c hc hq
   split
   ·split <;> omega
   ·exact this
  ·rw[List.mem_singleton] at hc
   subst hc
   rw[if_pos hq]
   split <;> omega
def topH (l:List Op)(h:Hd):Int:=topC (zCO (elsR (textOf l))) h.lb
def zI6 (l:List Op)(h:Hd):Int:=if zAS [] l=true then (if h.may=true then (if 1099511627776<=topH l h then 9 else 0) else 8) else 8
def zC3 (l:List Op)(h:Hd):Int:=if zI6 l h=0 then topH l h+1 else 0
theorem zfU (x:Hd):∀ y∈hdR x,Fz y:=fun y hy=>by
 exact zB0y
theorem zX3 {h:Hd}(hS:Sl 17 isOp a l)(hl:l.length<=200)(hf:3200000<fuel)(M:Mem):zCN fuel (d+19) 40 [a,hdA h] M=some (.tup [I64 (zC3 l h),I64 (zI6 l h)],M):=by
 obtain⟨rt,⟨r3,rfl,hr3⟩,htx⟩:=zRT (fuel:=fuel) (d:=d+3) hS (by omega) (by omega)
 have hch:=fun M=>@zDL fuel (d+16) h M
 apply zB1
 refine zAD tf40 rfl (by simp only[icyL,fun M=>hS.icy M 12 (by omega),zAP (zfU h) (show 1<12 by omega)]) (by simp [a40]) fun b' ht hx=>?_
 obtain⟨h0,h1⟩:=hx2 hx
 clear hx
 simp only[a40,c40] at ht ⊢
 unfold zC3 zI6
 cases q1:zAS [] l with
 | false =>
  rw[q1] at htx
  simp (disch:=try exact SX) only[RV,reduceIte,Nat.reduceEqDiff,Int.reduceEq,h0,h1,htx,zBA]
  rfl
 | true =>
  rw[q1] at htx hr3
  simp only[if_true] at hr3
  have hT:=zC2 q1
  have htl:=zH9 l
  have hel:=zGQ hT.ok.1
  cases q2:h.may with
  | false =>
   rw[q2] at hch
   simp (disch:=try exact SX) only[RV,reduceIte,Nat.reduceEqDiff,Int.reduceEq,h0,h1,htx,hch,zAU,zBA]
   rfl
  | true =>
   rw[q2] at hch
   obtain⟨r4,hr4,hal⟩:=zTJ (fuel:=fuel) (d:=d+10) hr3 hT.ok.1 (by omega) (by omega)
   have lr4:=hr4.len
   have hcl:=zE7 (elsR (textOf l))
   unfold topH
   generalize zCO (elsR (textOf l))=cs at *
   simp (disch:=try exact SX) only[RV,reduceIte,Nat.reduceEqDiff,h0,h1,htx,hch,hal,zAU,lr4]
   refine zBB (I:=fun n t N => ∃ (i:Nat),n=cs.length - i/\i<=cs.length/\nth zA3 t 3 = .ptr 0 0/\nth zA3 t 9=I64 (topC (cs.take i) h.lb)/\nth zA3 t 26=r4/\nth zA3 t 27=I64 cs.length/\nth zA3 t 28=I64 i/\Wf N/\1<=N.size/\N.get 0=some (.row false (hdR h))) (n:=cs.length) (by omega) ?_ ?_
   ·refine⟨0,rfl,Nat.zero_le _, ?_, ?_, ?_, ?_, ?_,Wf.mem0.add _,Nat.le_refl 1,by simp (disch:=try exact SX) only[RV]⟩ <;> simp (disch:=try exact SX) only[RV,reduceIte,Nat.reduceEqDiff]
    all_goals first | rfl | assumption | done
   ·rintro n t N hlt ⟨i,rfl,hi,g3,g9,g26,g27,g28,w,le,m0⟩
    simp only[ht] at hlt ⊢
    have l0:0<N.size:=by omega
    by_cases hc:i<cs.length
    ·have q3:decide ((i:Int)<cs.length)=true:=DT
     have w1:IntKind.i64.wrap ((i:Int)+1)=((i+1:Nat):Int):=WI
     obtain⟨r,hiad,hr,hrl⟩:=hr4.iad i hc
     have hts:=zOC (cs.take i) h.lb cs[i]
     rw[<- take_snoc cs i hc] at hts
     generalize cs[i]=c at *
     obtain⟨rfl,hok⟩:=hr
     have hle:=fun M=>zGC (fuel:=fuel) (d:=d+17) c.id.hd.lb h.lb M
     have gY:∀ z r,((N.add z).upd N.size r).get 0=some (.row false (hdR h)):=fun z r=>by
      rw[zA0 (w.add _) _ _ _ (by omega),zAA w _ _ l0];exact m0
     cases q4:c.id.hd.lb.leq h.lb with
     | true =>
      rw[q4,if_pos rfl] at hts
      simp only[q4] at hle
      simp (disch:=try exact SX) only[RV,reduceIte,Nat.reduceEqDiff,Nat.reduceAdd,Nat.reduceLeDiff,g3,g9,g26,g27,g28,q3,hiad,w,m0,hle,w1,zC5,BMM]
      exact⟨hlt,cs.length - (i+1),by omega,i+1,rfl,by omega,by rw[hts],rfl⟩
     | false =>
      rw[q4,if_neg (by decide)] at hts
      simp only[q4] at hle
      simp (disch:=try exact SX) only[RV,reduceIte,Nat.reduceEqDiff,Nat.reduceAdd,Nat.reduceLeDiff,g3,g9,g26,g27,g28,q3,hiad,w,m0,hle,w1]
      exact⟨hlt,cs.length - (i+1),by omega,i+1,rfl,by omega,by rw[hts],rfl⟩
    ·obtain rfl:i=cs.length:=by omega
     have q3:decide ((cs.length:Int)<cs.length)=false:=DF
     rw[List.take_length] at g9
     have htp:=(zPZ (cs:=cs) (v:=h.lb)).1
     by_cases q5:1099511627776<=topC cs h.lb
     ·have q5':=decide_eq_true q5
      rw[if_pos q5]
      simp (disch:=try exact SX) only[RV,reduceIte,Nat.reduceEqDiff,Int.reduceEq,g9,g27,g28,q5']
     ·have q5':=decide_eq_false q5
      have w2:IntKind.i64.wrap (topC cs h.lb+1)=topC cs h.lb+1:=WI
      rw[if_neg q5]
      simp (disch:=try exact SX) only[RV,reduceIte,Nat.reduceEqDiff,g9,g27,g28,q5',w2]
end Go.Proofs.YtliicocdhkcanaaGreat
namespace Go.Ax
open Go
variable {P : Program} {call : Tg -> List AV -> Mem -> Option (AV × Mem)} {t : List AV} {M : Mem}
abbrev zOp6:Value:=.agg #[(.int .u8 0),(.int .u8 0),(.int .u32 0),(.int .u8 0),(.int .i64 0),(.int .u8 0),(.int .u32 0),(.int .u8 0),(.int .i64 0),(.int .i64 0),(.int .u8 0),(.int .u32 0),(.int .u8 0),(.int .i64 0),(.int .u8 0),(.int .u32 0),(.slice none 0 0)]
def bldO (P:Program)(call:Tg->List AV->Mem->Option (AV × Mem))(t:List AV)(M:Mem)(x0 x1 x2 x3 x4 x5:Operand)(a b c d e f:List AV):OR:=match a,b,c,d,e,f with
 | [a],[b1,b2,b3],[c],[d1,d2,d3,d4,d5],[e1,e2,e3,e4],[f]=>some (.agg [a,b1,b2,b3,c,d1,d2,d3,d4,d5,e1,e2,e3,e4,.sc (.int .u8 0),.sc (.int .u32 0),f],M)
 | _,_,_,_,_,_=>zA6 P call t M (.build zOp6 [(0,1,x0),(1,3,x1),(4,1,x2),(5,5,x3),(10,4,x4),(16,1,x5)])
theorem zfG (x0 x1 x2 x3 x4 x5:Operand):zA6 P call t M (.build (.agg #[(.int .u8 0),(.int .u8 0),(.int .u32 0),(.int .u8 0),(.int .i64 0),(.int .u8 0),(.int .u32 0),(.int .u8 0),(.int .i64 0),(.int .i64 0),(.int .u8 0),(.int .u32 0),(.int .u8 0),(.int .i64 0),(.int .u8 0),(.int .u32 0),(.slice none 0 0)]) [(0,1,x0),(1,3,x1),(4,1,x2),(5,5,x3),(10,4,x4),(16,1,x5)])=bldO P call t M x0 x1 x2 x3 x4 x5 (cellsA (zA5 t x0)) (cellsA (zA5 t x1)) (cellsA (zA5 t x2)) (cellsA (zA5 t x3)) (cellsA (zA5 t x4)) (cellsA (zA5 t x5)):=by
 unfold bldO
 split
 ·rename_i h0 h1 h2 h3 h4 h5
  rw[zXB]
  simp only[zAB,h0,h1,h2,h3,h4,h5]
  rfl
 ·rfl
theorem zc7 (x0 x1 x2 x3 x4 x5:Operand)(a b1 b2 b3 c d1 d2 d3 d4 d5 e1 e2 e3 e4 f:AV):bldO P call t M x0 x1 x2 x3 x4 x5 [a] [b1,b2,b3] [c] [d1,d2,d3,d4,d5] [e1,e2,e3,e4] [f]=some (.agg [a,b1,b2,b3,c,d1,d2,d3,d4,d5,e1,e2,e3,e4,.sc (.int .u8 0),.sc (.int .u32 0),f],M):=rfl
end Go.Ax
namespace Go.Proofs.YtliicocdhkcanaaGreat
open Go Go.Ax
theorem zX1 (l m:List Op):zAO (l++m)=zAO l++zAO m:=by simp [zAO]
theorem zTK {l:List Op}{o:Op}(h:allB l o=true){x:Eid}(hx:x∈o.sp.ids):x∈zAO l:=by
 have:=List.all_eq_true.1 h x hx
 unfold zFH at this
 simp only[Bool.and_eq_true,decide_eq_true_eq] at this
 exact this.1
theorem zOD {l:List Op}(h:zAS [] l=true){o:Op}(ho:o∈l){x:Eid}(hk:o.kd≠1)(hx:(o.sp.has x).isSome=true):x∈zAO l:=by
 obtain⟨a,b,rfl⟩:=List.append_of_mem ho
 have e:a++o::b=(a++[o])++b:=by simp
 rw[e] at h
 have h:=zQU h
 rw[zED] at h
 simp only[Bool.and_eq_true,decide_eq_true_eq] at h
 have hr:=zI9 h.2.2
 unfold zE4 at hr
 rw[if_neg hk] at hr
 have ha:allB a o=true:=by
  split at hr
  ·unfold remE at hr
   split at hr
   ·assumption
   ·cases hr
  ·unfold raiE at hr
   split at hr
   ·assumption
   ·cases hr
 rw[zX1]
 exact List.mem_append_left _ (zTK ha (zd5 hx))
theorem zSQ {l:List Op}(h:zAS [] l=true){x:Eid}(hg:zCY l x=true):x∈zAO l:=by
 obtain⟨o,ho,hc⟩:=List.any_eq_true.1 hg
 simp only[Bool.and_eq_true,decide_eq_true_eq] at hc
 exact zOD h ho (by omega) hc.2
def zCG (h:Hd)(s n:Int)(af:Eid)(row:List Int):Op:=⟨1,h,s,⟨⟨h,n⟩,row.length⟩,af,Lb.z,row⟩
theorem zUB {l:List Op}(h:zAS [] l=true){v:Lb}:∀ x∈elsR (textOf (lowL l v)),x.id.hd.lb.leq v=true/\1<=x.id.c/\x.id.may=true:=by
 intro x hx
 have hT:=zC2 (zDP v h)
 obtain⟨o,ho,hr,hxo⟩:=(hT.mem x).1 hx
 have hm:=zQJ hT.ok.1 x hx
 have hmi:=(El.may_iff.1 hm).1
 refine⟨?_,(Eid.may_iff.1 hmi).2.1,hmi⟩
 have hid:x.id∈o.sp.ids:=by rw[<- zIV];exact List.mem_map.2 ⟨x,hxo,rfl⟩
 rw[zM7 hid]
 obtain⟨hom,hk,_⟩:=zJS hr
 rw[(zGD hom hk).1]
 exact(List.mem_filter.1 ho).2
theorem zaQ {l:List Op}(h:zAS [] l=true)(v:Lb):((zBV l v).map (·.id)).Nodup:=by
 have hT:=zC2 (zDP v h)
 have hn:=(zEL hT.ok).1.t.s1.nd
 have e:(zBV l v).map (·.id)=((elsR (textOf (lowL l v))).filter fun x => !zCY (lowL l v) x.id).map (·.id):=by
  unfold zBV
  rw[List.map_map]
  rfl
 rw[e]
 exact hn.sublist (List.Sublist.map _ List.filter_sublist)
theorem zQ1 {l:List Op}{v:Lb}{c:CellV}(hc:c∈zBV l v):∃ x∈elsR (textOf (lowL l v)),x.id=c.id/\zCY (lowL l v) c.id=false:=by
 unfold zBV at hc
 obtain⟨x,hx,rfl⟩:=List.mem_map.1 hc
 obtain⟨h1,h2⟩:=List.mem_filter.1 hx
 exact⟨x,h1,rfl,by have h2:(!zCY (lowL l v) x.id)=true:=h2;simpa [cellV] using h2⟩
theorem zWL {l:List Op}{o:Op}(h:zAS [] l=true)(h2:zAS [] (l++[o])=true)(hk:o.kd=1)(x:Eid)(v:Lb):zFJ (l++[o]) x v=zFJ l x v:=by
 unfold zFJ askE made zCB
 rw[zEC h,zEC h2,List.filter_append]
 have e:[o].filter (zCJ x v)=[]:=by
  rw[List.filter_cons_of_neg]
  ·rfl
  ·unfold zCJ;simp [hk]
 rw[e,List.append_nil]
theorem zYR {l:List Op}{o:Op}(hk:o.kd=1)(x:Eid):zCY (l++[o]) x=zCY l x:=by
 rw[zYQ]
 unfold zCY
 simp [hk]
def newC (h:Hd)(n:Int)(row:List Int):List CellV:=(List.range row.length).map fun (j:Nat)=>⟨⟨h,n+j⟩,row.getD j 0⟩
theorem zZ2 {l:List Op}(hl:zAS [] l=true){h:Hd}{s n:Int}{af:Eid}{row:List Int}{k:Nat}(hm:(zCG h s n af row).may=true)(hf:fitE l (zCG h s n af row)=0)(htop:∀ x∈elsR (textOf (lowL l h.lb)),x.id.c<n)(hk:k<=(zBV l h.lb).length)(haf:(k=0/\af=Eid.z)∨(0<k /\ ∃ c,(zBV l h.lb)[k - 1]? = some c/\c.id=af)) :
  zBV (l++[zCG h s n af row]) h.lb=(zBV l h.lb).take k++newC h n row++(zBV l h.lb).drop k:=by
 generalize ho:zCG h s n af row=o at *
 have okd:o.kd=1:=by rw[<- ho];rfl
 have ohd:o.hd=h:=by rw[<- ho];rfl
 have osp:o.sp=⟨⟨h,n⟩,row.length⟩:=by rw[<- ho];rfl
 have oaf:o.af=af:=by rw[<- ho];rfl
 have ors:o.rs=row:=by rw[<- ho];rfl
 clear ho
 have h2:zAS [] (l++[o])=true:=by rw[zED,hl,hm,hf];rfl
 have elow:lowL (l++[o]) h.lb=lowL l h.lb++[o]:=by rw[zM6,ohd,zGY,if_pos rfl]
 have hL:=zDP h.lb hl
 have hL2:=zDP h.lb h2
 rw[elow] at hL2
 have hlab:=zUB hl (v:=h.lb)
 have hids:=zaQ hl h.lb
 have hvat:=fun c (hc:c∈zBV l h.lb)=>zQ1 hc
 unfold zBV at *
 rw[elow]
 generalize lowL l h.lb=L at *
 have hfL:fitE L o=0:=by
  rw[zED] at hL2
  simp only[Bool.and_eq_true,decide_eq_true_eq] at hL2
  exact hL2.2.2
 have hT:=zC2 hL
 obtain⟨hput,hrof⟩:=(hT.step hfL hm).2 okd
 have et:textOf (L++[o])=insL (textOf L) o.rn:=by rw[zEV];unfold stepT;rw[if_pos hrof]
 obtain⟨A0,A1,B,P⟩:=put_ok hput
 have hA1:A1=[]:=by
  cases A1 with
  | nil=>rfl
  | cons x A1 =>
   have h1:=P.g x List.mem_cons_self
   have h3:=htop x (by rw[P.e];simp)
   have e:o.rn.sp.f.c=n:=by show o.sp.f.c=n;rw[osp]
   unfold Eid.less at h1
   rw[e,if_neg (by omega)] at h1
   have:=of_decide_eq_true h1
   omega
 subst hA1
 have e1:elsR (textOf L)=A0++B:=by rw[P.e,List.append_nil]
 have e2:elsR (textOf (L++[o]))=A0++o.rn.elR++B:=by rw[et,P.i,(zD7 _).1,List.append_nil]
 -- what is there is known
 have hnew:∀ x:Eid,n<=x.c->x ∉ zAO L:=fun x hx hin=>by
  obtain⟨e,he,rfl⟩:=(hT.ids x).1 hin
  have:=htop e he
  omega
 have hcell:∀ x:El,cellV (L++[o]) h.lb x=cellV L h.lb x:=fun x=>by
  unfold cellV
  rw[zWL hL hL2 okd]
 have hgone:∀ x:Eid,zCY (L++[o]) x=zCY L x:=zYR okd
 simp only[e1,e2,hgone,List.filter_append,List.map_append] at *
 have hc1:∀ E:List El,E.map (cellV (L++[o]) h.lb)=E.map (cellV L h.lb):=fun E=>List.map_congr_left fun x _=>hcell x
 simp only[hc1]
 -- the new ones
 have hN:(o.rn.elR.filter fun x => !zCY L x.id).map (cellV L h.lb)=newC h n row:=by
  have hid:∀ x∈o.rn.elR,∃ j:Nat,x.id=⟨h,n+j⟩/\j<row.length:=fun x hx=>by
   unfold Rn.elR at hx
   obtain⟨j,hj,rfl⟩:=List.mem_map.1 hx
   rw[List.mem_range] at hj
   have e:o.rn.sp=o.sp:=rfl
   rw[e,osp] at hj
   exact⟨j,by show o.sp.at j=_;rw[osp];rfl,by simpa using hj⟩
  have e3:(o.rn.elR.filter fun x => !zCY L x.id)=o.rn.elR:=List.filter_eq_self.2 fun x hx=>by
   obtain⟨j,hj,_⟩:=hid x hx
   cases hg:zCY L x.id with
   | false=>rfl
   | true=>exact absurd (zSQ hL hg) (hnew _ (by rw[hj];show n<=n+(j:Int);omega))
  rw[e3]
  unfold newC Rn.elR
  rw[List.map_map]
  have e4:o.rn.sp.n.toNat=row.length:=by show o.sp.n.toNat=_;rw[osp];exact Int.toNat_natCast _
  rw[e4]
  apply List.map_congr_left
  intro j hj
  rw[List.mem_range] at hj
  have e5:o.rn.sp.at (j:Int)=⟨h,n+j⟩:=by show o.sp.at j=_;rw[osp];rfl
  have hxm:(⟨h,n+j⟩:Eid).may=true:=by
   have hmr:=zLE (zJS hrof).2.2 ⟨o.rn.sp.at (j:Int),o.rn.afAt j,o.rn.rs.getD j 0⟩ (List.mem_map.2 ⟨j,List.mem_range.2 (by rw[e4];exact hj),rfl⟩)
   have:=(El.may_iff.1 hmr).1
   rwa [e5] at this
  have hsh:zFJ L ⟨h,n+j⟩ h.lb=true:=by
   refine(zWK hL).2 ⟨⟨hxm, ?_⟩,zGY _,fun p hp hc=>?_⟩
   ·have:=(Eid.may_iff.1 hxm).1
    unfold Hd.may at this
    exact(Bool.and_eq_true _ _ ▸ this).1
   ·obtain⟨c1,c2,_⟩:=zT1.1 hc
    exact absurd (zOD hL hp (by omega) c2) (hnew _ (by show n<=n+(j:Int);omega))
  simp only[Function.comp_apply,cellV,e5,hsh,if_true]
  congr 1
  show o.rs.getD j 0=_
  rw[ors]
 rw[hN]
 -- where they stand
 generalize hG0:(A0.filter fun x => !zCY L x.id).map (cellV L h.lb)=G0 at *
 generalize hG1:(B.filter fun x => !zCY L x.id).map (cellV L h.lb)=G1 at *
 have hlen:G0.length=k:=by
  rcases haf with⟨rfl,hz⟩ | ⟨hk0,c,hc,hz⟩
  ·have hA0:A0=[]:=by
    rcases P.a with⟨_,h1⟩ | ⟨A,w,h1,h3⟩
    ·exact h1
    ·have h4:=(hlab w (by rw[h1];simp)).2.1
     have e:o.rn.af=af:=oaf
     rw[h3,e,hz] at h4
     exact absurd h4 (by decide)
   rw[<- hG0,hA0]
   rfl
  ·have e:o.rn.af=af:=oaf
   obtain⟨hk1,hc⟩:=List.getElem?_eq_some_iff.1 hc
   obtain⟨x,hx,hxe,hxg⟩:=hvat c (hc ▸ List.getElem_mem hk1)
   rcases P.a with⟨h1,_⟩ | ⟨A,w,h1,h3⟩
   ·have h4:=(hlab x hx).2.1
    rw[hxe,hz,<- e,h1] at h4
    exact absurd h4 (by decide)
   ·rw[e,<- hz] at h3
    have hwg:zCY L w.id=false:=by rw[h3];exact hxg
    have e6:G0=(A.filter fun x => !zCY L x.id).map (cellV L h.lb)++[cellV L h.lb w]:=by
     rw[<- hG0,h1,List.filter_append,List.map_append]
     simp [hwg]
    have hl0:0<G0.length:=by rw[e6];simp
    have hlt:G0.length - 1<(G0++G1).length:=by rw[List.length_append];omega
    have e7:((G0++G1)[G0.length - 1]'hlt).id=w.id:=by
     rw[List.getElem_append_left (by omega)]
     simp only[e6,List.length_append,List.length_singleton,Nat.add_sub_cancel]
     rw[List.getElem_append_right (Nat.le_refl _)]
     simp [cellV]
    have e8:((G0++G1)[G0.length - 1]'hlt).id=((G0++G1)[k - 1]'hk1).id:=e7.trans (h3.trans (by rw[hc]))
    have e9:G0.length - 1=k - 1:=by
     rw[<- List.map_append] at hids
     have hp:=List.pairwise_iff_getElem.1 (List.pairwise_map.1 hids)
     rcases Nat.lt_trichotomy (G0.length - 1) (k - 1) with h | h | h
     ·exact absurd e8 (hp _ _ hlt hk1 h)
     ·exact h
     ·exact absurd e8.symm (hp _ _ hk1 hlt h)
    omega
 rw[List.take_append_of_le_length (by omega),List.take_of_length_le (by omega),List.drop_append_of_le_length (by omega),List.drop_of_length_le (by omega),List.nil_append]
theorem zdB {h:Hd}{s n:Int}{af:Eid}{row:List Int}(hh:h.may=true)(hs:1<=s/\s<16777216)(hn:1<=n/\n+row.length<=1099511627777)(hr:1<=row.length)(hc:chkR row=0)(ha:af=Eid.z∨(af.may=true/\af.c<n)):(zCG h s n af row).may=true/\rofE (zCG h s n af row)=0:=by
 have h64:=zU4 hc
 have hf:(⟨h,n⟩:Eid).may=true:=Eid.may_iff.2 ⟨hh,hn.1,by show n<=1099511627776;omega⟩
 have hsp:(⟨⟨h,n⟩,row.length⟩:Spn).may=true:=by
  unfold Spn.may
  rw[hf]
  simp only[Bool.true_and,Bool.and_eq_true,decide_eq_true_eq]
  show (1<=(row.length:Int)/\(row.length:Int)<=64)/\n+(row.length:Int)<=1099511627777
  omega
 have hm:(zCG h s n af row).may=true:=by
  unfold Op.may Op.part zCG
  have e1:decide (s<1)=false:=DF
  have e2:decide (16777216<=s)=false:=DF
  simp only[hh,hsp,hc,e1,e2]
  rcases ha with rfl | ⟨h1,_⟩
  ·simp
  ·simp [h1]
 have hrn:(zCG h s n af row).rn.may=true:=by
  unfold Rn.may
  show ((⟨⟨h,n⟩,row.length⟩:Spn).may&&(decide (af=Eid.z) || (af.may&&decide (af.c<n)))&&decide ((row.length:Int)=row.length)&&decide (chkR row=0))=true
  rw[hsp,hc]
  rcases ha with rfl | ⟨h1,h2⟩
  ·simp
  ·simp [h1,h2]
 refine⟨hm, ?_⟩
 unfold rofE
 rw[if_pos hm,if_pos ⟨rfl,hrn⟩]
theorem zPC {l:List Op}(h:zAS [] l=true)(hok:∀ o∈l,o.ok)(v:Lb):elsR (textOf (lowL l v))=(elsR (textOf l)).filter (lowE v):=by
 rw[(zaO h hok v).1,zRU (zC2 h).ok.1,(zD7 _).1]
theorem zaP (l:List Op)(h:zAS [] l=true):(zAO l).length<=192*l.length:=by
 have hT:=zC2 h
 have h1:=zGQ hT.ok.1
 have h2:=zH9 l
 have:=hT.len
 omega
theorem zYZ {l:List Op}(hl:zAS [] l=true)(hok:∀ o∈l,o.ok)(hlen:l.length<=40){h:Hd}{s n:Int}{af:Eid}{row:List Int}(hm:(zCG h s n af row).may=true)(hr:rofE (zCG h s n af row)=0)(h64:row.length<=64)(htop:∀ x∈elsR (textOf (lowL l h.lb)),x.id.c<n)(ha:af=Eid.z ∨ ∃ c∈zBV l h.lb,c.id=af):fitE l (zCG h s n af row)=0:=by
 have hT:=zC2 hl
 have hk:zE4 l (zCG h s n af row)=0:=by
  unfold zE4
  have e0:(zCG h s n af row).kd=1:=rfl
  rw[e0,if_pos rfl]
  unfold insE
  have hnew:((zCG h s n af row).sp.ids.any fun x=>decide (x∈zAO l))=false:=by
   rw[List.any_eq_false]
   intro x hx hin
   have hin:=of_decide_eq_true hin
   unfold Spn.ids at hx
   obtain⟨j,hj,rfl⟩:=List.mem_map.1 hx
   obtain⟨e,he,hid⟩:=(hT.ids _).1 hin
   have hlow:lowE h.lb e=true:=by
    unfold lowE
    rw[hid]
    exact zGY _
   have:=htop e (by rw[zPC hl hok];exact List.mem_filter.2 ⟨he,hlow⟩)
   rw[hid] at this
   have:n+(j:Int)<n:=this
   omega
  have hsee:¬(af≠Eid.z/\zFH l (zCG h s n af row) af=false):=by
   rintro⟨hz,hs⟩
   rcases ha with h | ⟨c,hc,rfl⟩
   ·exact hz h
   ·obtain⟨x,hx,hxe,_⟩:=zQ1 hc
    rw[zPC hl hok] at hx
    obtain⟨h1,h2⟩:=List.mem_filter.1 hx
    unfold zFH at hs
    have h3:c.id∈zAO l:=(hT.ids _).2 ⟨x,h1,hxe⟩
    have h4:c.id.hd.lb.leq h.lb=true:=by rw[<- hxe];exact h2
    have h5:c.id.hd.lb.leq (zCG h s n c.id row).hd.lb=true:=h4
    rw[decide_eq_true h3,h5] at hs
    cases hs
  have ea:(zCG h s n af row).af=af:=rfl
  rw[ea,if_neg hsee,if_neg (by rintro (h | h);exact h hr;rw[hnew] at h;cases h)]
  have:=zaP l hl
  have e:(zCG h s n af row).sp.n=(row.length:Int):=rfl
  rw[e,if_neg (by omega)]
 unfold fitE
 rw[if_pos hk,if_neg (by omega)]
def isR (n:Nat):Bool:=decide (n<=1114111)&&(decide (n<55296) || decide (57343<n))
def zE3 (c:Nat):Nat × Nat:=if c<128 then (1,c) else if 192<=c/\c<224 then (2,c - 192) else if 224<=c/\c<240 then (3,c - 224) else if 240<=c/\c<248 then (4,c - 240) else (0,0)
def numN (n:Nat):List UInt8->Nat
 | []=>n
 | b::l=>numN (64*n+b.toNat % 64) l
def zK8 (n:Nat):List Nat:=if n<128 then [n] else if n<2048 then [192+n / 64,128+n % 64] else if n<65536 then [224+n / 4096,128+n / 64 % 64,128+n % 64] else [240+n / 262144,128+n / 4096 % 64,128+n / 64 % 64,128+n % 64]
def zEW (n:Nat):List UInt8:=(zK8 n).map UInt8.ofNat
def zCV (l:List UInt8):Option (Nat × Nat):=match l with
 | []=>none
 | c::tl=>if (zE3 c.toNat).1=0∨(c::tl).length<(zE3 c.toNat).1 then none
  else if isR (numN (zE3 c.toNat).2 (tl.take ((zE3 c.toNat).1 - 1)))=true/\zEW (numN (zE3 c.toNat).2 (tl.take ((zE3 c.toNat).1 - 1)))=(c::tl).take (zE3 c.toNat).1 then
   some (numN (zE3 c.toNat).2 (tl.take ((zE3 c.toNat).1 - 1)),(zE3 c.toNat).1) else none
theorem zIE (a:Nat)(x:UInt8):UInt8.ofNat a=x↔a % 256=x.toNat:=by
 constructor
 ·rintro rfl;simp
 ·intro h
  apply UInt8.toNat_inj.1
  simp [h]
theorem zfH (n:Nat)(c:UInt8):zEW n=[c]↔n<128/\n=c.toNat:=by
 unfold zEW zK8
 split
 ·simp [zIE];omega
 ·split
  ·simp;omega
  ·split <;> simp <;> omega
theorem zfI (n:Nat)(c x:UInt8):zEW n=[c,x]↔128<=n/\n<2048/\192+n / 64=c.toNat/\128+n % 64=x.toNat:=by
 unfold zEW zK8
 split
 ·simp;omega
 ·split
  ·exact zB0m
  ·split <;> simp <;> omega
theorem bytes3 (n:Nat)(c x y:UInt8):zEW n=[c,x,y]↔2048<=n/\n<65536/\224+n / 4096=c.toNat/\128+n / 64 % 64=x.toNat/\128+n % 64=y.toNat:=by
 unfold zEW zK8
 split
 ·simp;omega
 ·split
  ·simp;omega
  ·split
   ·exact zB0m
   ·simp;omega
theorem bytes4 (n:Nat)(c x y z:UInt8)(hn:n<2097152):zEW n=[c,x,y,z]↔65536<=n/\240+n / 262144=c.toNat/\128+n / 4096 % 64=x.toNat/\128+n / 64 % 64=y.toNat/\128+n % 64=z.toNat:=by
 unfold zEW zK8
 split
 ·simp;omega
 ·split
  ·simp;omega
  ·split
   ·simp;omega
   ·exact zB0m
theorem zE1 {n b0 b1 b2 b3:Nat}(h1:128<=b0)(h2:¬ (b0 / 32=6/\(1<n/\b1 / 64=2)))(h3:¬ (b0 / 16=14/\(1<n/\b1 / 64=2)/\(2<n/\b2 / 64=2)))(h4:¬ (b0 / 8=30/\(1<n/\b1 / 64=2)/\(2<n/\b2 / 64=2)/\(3<n/\b3 / 64=2))):Lib.decodeN n b0 b1 b2 b3=(65533,1):=by
 unfold Lib.decodeN
 rw[if_neg (by omega),if_neg h2,if_neg h3,if_neg h4]
theorem zNB (c:UInt8)(tl:List UInt8):Lib.decodeL (c::tl)=(zCV (c::tl)).getD (65533,1):=by
 rw[Lib.decodeL_N]
 have hc:=c.toNat_lt
 simp only[List.getD_cons_zero,List.length_cons]
 by_cases a1:c.toNat<128
 ·have hh:zE3 c.toNat=(1,c.toNat):=by simp [zE3,a1]
  simp only[zCV,hh,List.length_cons,Nat.sub_self,List.take_zero,numN,List.take_succ_cons]
  rw[if_neg (by omega),if_pos ⟨by simp [isR];omega,(zfH _ _).2 ⟨a1,rfl⟩⟩]
  unfold Lib.decodeN
  rw[if_pos a1];rfl
 by_cases a2:192<=c.toNat/\c.toNat<224
 ·have hh:zE3 c.toNat=(2,c.toNat - 192):=by simp [zE3,a1,a2]
  simp only[zCV,hh,List.length_cons]
  match tl with
  | []=>rw[if_pos (by simp),zE1 (by omega) (by simp) (by simp) (by simp)];rfl
  | x::tl =>
   have hx:=x.toNat_lt
   rw[if_neg (by simp)]
   simp only[Nat.reduceSub,List.take_succ_cons,List.take_zero,numN,zfI,List.getD_cons_succ,List.getD_cons_zero,List.length_cons]
   by_cases a3:x.toNat / 64=2
   ·unfold Lib.decodeN
    rw[if_neg a1,if_pos (by omega)]
    by_cases a4:c.toNat % 32*64+x.toNat % 64 ≥ 128
    ·rw[if_pos a4,if_pos ⟨by simp [isR];omega,by omega⟩]
     simp;omega
    ·rw[if_neg a4,if_neg (by rintro⟨_,h⟩;omega)];rfl
   ·exact zB0j
 by_cases b2:224<=c.toNat/\c.toNat<240
 ·have hh:zE3 c.toNat=(3,c.toNat - 224):=by unfold zE3;rw[if_neg a1,if_neg a2,if_pos b2]
  simp only[zCV,hh,List.length_cons]
  match tl with
  | []=>rw[if_pos (by simp),zE1 (by omega) (by simp) (by simp) (by simp)];rfl
  | [x]=>rw[if_pos (by simp),zE1 (by omega) (by omega) (by simp) (by simp)];rfl
  | x::y::tl =>
   have hx:=x.toNat_lt
   have hy:=y.toNat_lt
   rw[if_neg (by simp)]
   simp only[Nat.reduceSub,List.take_succ_cons,List.take_zero,numN,bytes3,List.getD_cons_succ,List.getD_cons_zero,List.length_cons]
   by_cases a3:x.toNat / 64=2/\y.toNat / 64=2
   ·obtain⟨a3,a5⟩:=a3
    unfold Lib.decodeN
    rw[if_neg a1,if_neg (by omega),if_pos (by omega)]
    have e:64*(64*(c.toNat - 224)+x.toNat % 64)+y.toNat % 64=c.toNat % 16*4096+x.toNat % 64*64+y.toNat % 64:=by omega
    rw[e]
    by_cases a4:c.toNat % 16*4096+x.toNat % 64*64+y.toNat % 64 ≥ 2048/\(c.toNat % 16*4096+x.toNat % 64*64+y.toNat % 64<55296∨(57344<=c.toNat % 16*4096+x.toNat % 64*64+y.toNat % 64/\c.toNat % 16*4096+x.toNat % 64*64+y.toNat % 64<=1114111))
    ·rw[if_pos a4,if_pos ⟨by simp [isR];omega,by omega⟩];rfl
    ·rw[if_neg a4,if_neg (by rintro⟨h',h⟩;simp [isR] at h';omega)];rfl
   ·exact zB0j
 by_cases c2:240<=c.toNat/\c.toNat<248
 ·have hh:zE3 c.toNat=(4,c.toNat - 240):=by unfold zE3;rw[if_neg a1,if_neg a2,if_neg b2,if_pos c2]
  simp only[zCV,hh,List.length_cons]
  match tl with
  | []=>rw[if_pos (by simp),zE1 (by omega) (by simp) (by simp) (by simp)];rfl
  | [x]=>rw[if_pos (by simp),zE1 (by omega) (by omega) (by simp) (by simp)];rfl
  | [x,y]=>rw[if_pos (by simp),zE1 (by omega) (by omega) (by omega) (by simp)];rfl
  | x::y::z::tl =>
   have hx:=x.toNat_lt
   have hy:=y.toNat_lt
   rw[if_neg (by simp)]
   have e:64*(64*(64*(c.toNat - 240)+x.toNat % 64)+y.toNat % 64)+z.toNat % 64=c.toNat % 8*262144+x.toNat % 64*4096+y.toNat % 64*64+z.toNat % 64:=by omega
   have hb:=bytes4 (c.toNat % 8*262144+x.toNat % 64*4096+y.toNat % 64*64+z.toNat % 64) c x y z (by omega)
   simp only[Nat.reduceSub,List.take_succ_cons,List.take_zero,numN,List.getD_cons_succ,List.getD_cons_zero,List.length_cons]
   rw[e];simp only[hb]
   by_cases a3:x.toNat / 64=2/\y.toNat / 64=2/\z.toNat / 64=2
   ·obtain⟨a3,a5,a6⟩:=a3
    unfold Lib.decodeN
    rw[if_neg a1,if_neg (by omega),if_neg (by omega),if_pos (by omega)]
    by_cases a4:c.toNat % 8*262144+x.toNat % 64*4096+y.toNat % 64*64+z.toNat % 64 ≥ 65536/\(c.toNat % 8*262144+x.toNat % 64*4096+y.toNat % 64*64+z.toNat % 64<55296∨(57344<=c.toNat % 8*262144+x.toNat % 64*4096+y.toNat % 64*64+z.toNat % 64/\c.toNat % 8*262144+x.toNat % 64*4096+y.toNat % 64*64+z.toNat % 64<=1114111))
    ·rw[if_pos a4,if_pos ⟨by simp [isR];omega,by omega⟩];rfl
    ·rw[if_neg a4,if_neg (by rintro⟨h',h⟩;simp [isR] at h';omega)];rfl
   ·exact zB0j
 ·have hh:zE3 c.toNat=(0,0):=by simp [zE3,a1,a2,b2,c2]
  simp only[zCV,hh]
  rw[if_pos (by simp),zE1 (by omega) (by omega) (by omega) (by omega)];rfl
def oddL:List UInt8:=[239,191,189]
theorem zVO:zEW 65533=oddL:=by decide
theorem zDA {l:List UInt8}{n k:Nat}(h:zCV l=some (n,k)):isR n=true/\zEW n=l.take k/\0<k/\k<=l.length:=by
 unfold zCV at h
 split at h
 ·cases h
 ·split at h
  ·cases h
  ·rename_i c tl h1
   split at h
   ·rename_i h2
    simp only[Option.some.injEq,Prod.mk.injEq] at h
    obtain⟨rfl,rfl⟩:=h
    exact⟨h2.1,h2.2,by omega,by omega⟩
   ·cases h
theorem zNC (tl:List UInt8):zCV (239::191::189::tl)=some (65533,3):=by
 simp [zCV,zE3,numN,isR,zEW,zK8]
variable {fuel : Nat} {M : Mem} {Q : AV -> Mem -> Prop} {d : Nat}
def ofF:Nat->List UInt8->Option (List Int)
 | 0,_=>some []
 | f+1,l=>match l with
  | []=>some []
  | c::tl=>match zCV (c::tl) with
   | none=>none
   | some (n,k)=>(ofF f ((c::tl).drop k)).map ((n:Int) :: ·)
def ofL (l:List UInt8):Option (List Int):=ofF l.length l
def ofM (l:List UInt8):List Int:=match ofL l with | none=>[] | some m=>if 64<m.length then [] else m
def ofE (l:List UInt8):Int:=match ofL l with | none=>3 | some m=>if 64<m.length then 4 else 0
theorem zR7:∀ (f g:Nat) (l:List UInt8),l.length<=f->l.length<=g->ofF f l=ofF g l
 | 0,g,l,h,_=>by
  have:l=[]:=List.eq_nil_of_length_eq_zero (by omega)
  subst this
  cases g <;> rfl
 | f+1,0,l,_,h=>by
  have:l=[]:=List.eq_nil_of_length_eq_zero (by omega)
  subst this;rfl
 | f+1,g+1,[],_,_=>rfl
 | f+1,g+1,c::tl,h1,h2=>by
  cases hf:zCV (c::tl) with
  | none=>simp only[ofF,hf]
  | some p =>
   obtain⟨n,k⟩:=p
   have:=(zDA hf).2.2.1
   simp only[ofF,hf]
   rw[zR7 f g _ (by rw[List.length_drop];simp only[List.length_cons] at h1 ⊢;omega) (by rw[List.length_drop];simp only[List.length_cons] at h2 ⊢;omega)]
theorem zJC:ofL []=some []:=rfl
theorem zVP (l:List UInt8)(h:l≠[]):ofL l=match zCV l with | none=>none | some (n,k)=>(ofL (l.drop k)).map ((n:Int) :: ·):=by
 cases l with
 | nil=>exact absurd rfl h
 | cons c tl =>
  show ofF (tl.length+1) (c::tl)=_
  cases hf:zCV (c::tl) with
  | none=>simp only[ofF,hf]
  | some p =>
   obtain⟨n,k⟩:=p
   have:=(zDA hf).2.2.1
   simp only[ofF,hf,ofL]
   rw[zR7 tl.length _ _ (by rw[List.length_drop];simp only[List.length_cons];omega) (Nat.le_refl _)]
def pre (s p:List UInt8):Bool:=decide (s.take p.length=p)
theorem zPD (s p:List UInt8):∀ M,zCN fuel (d+1) 50 [STR s,STR p] M=some (BL (pre s p),M):=by
 intro M
 apply zB1
 refine zAD tf50 rfl (by simp (disch:=try exact SX) only[RV,seval]) (by simp [a50]) fun b ht hx=>?_
 obtain⟨h0,h1⟩:=hx2 hx
 clear hx
 simp only[a50,c50] at ht ⊢
 have sl:=fun t lo hi r x=>zhJ (P:=Tryz.prog) (t:=t) Tryz.underlying9 x lo hi r
 have ln:=fun t x r=>zhI (P:=Tryz.prog) (t:=t) Tryz.underlying9 x r
 by_cases hp:p.length<=s.length
 ·have q1:decide ((p.length:Int)<=s.length)=true:=DT
  have st:=fun d=>zhZ (d:=d) hp
  simp (disch:=try exact SX) only[RV,seval,h0,h1,sl,ln,zET,q1,st]
  rfl
 ·have q1:decide ((p.length:Int)<=s.length)=false:=DF
  have:pre s p=false:=by
   simp only[pre,decide_eq_false_iff_not]
   intro h
   have:=congrArg List.length h
   rw[List.length_take] at this;omega
  rw[this]
  simp (disch:=try exact SX) only[RV,seval,h0,h1,ln,zET,q1]
theorem zQ0 (s p:List UInt8):∀ M,zCN fuel (d+2) 23 [STR s,STR p] M=some (BL (pre s p),M):=by
 intro M
 apply zB1
 refine zAD tf23 rfl (by simp (disch:=try exact SX) only[RV,seval]) (by simp [a23]) fun b ht hx=>?_
 obtain⟨h0,h1⟩:=hx2 hx
 clear hx
 simp only[a23,c23] at ht ⊢
 have lr:=zPD (fuel:=fuel) (d:=d) s p
 simp (disch:=try exact SX) only[RV,seval,h0,h1,lr]
theorem zJV (l:List UInt8)(hl:l.length<=100000)(hf:l.length+10<fuel):∃ r,Sl 1 isI32 r (ofM l) /\ ∀ M,zCN fuel (d+3) 8 [STR l] M=some (.tup [r,I64 (ofE l)],M):=by
 have ic:∀ M,icyL (icy 12) M [STR l]=some ([STR l],M):=fun M=>by simp (disch:=try exact SX) only[RV,seval]
 have key:W3 (zCN fuel (d+3) 8 [STR l] mem0) (fun r _ => ∃ r',r = .tup [r',I64 (ofE l)]/\Sl 1 isI32 r' (ofM l)):=by
  refine zAD tf8 rfl (ic mem0) (by simp [a8]) fun b ht hx=>?_
  have h0:=hx 0 _ rfl
  clear hx
  simp only[a8,c8] at ht ⊢
  simp (disch:=try exact SX) only[RV,seval,h0,@x_rng,zeD]
  refine zBB (I:=fun n t N => ∃ (i:Nat) (o:AV) (acc:List Int),n=l.length - i/\i<=l.length/\nth zA3 t 0=STR l/\nth zA3 t 2=o/\nth zA3 t 7 = .ptr 0 0/\Wf N/\N.get 0=some (.siter ⟨l.toArray⟩ i)/\SlM N 1 isI32 o acc/\rowOf o≠some 0/\acc.length<=i/\ofL l=(ofL (l.drop i)).map (acc ++ ·)) (n:=l.length) (by omega) ?_ ?_
  ·refine⟨0,NIL,[],by omega,by omega, ?_, ?_, ?_,by simp (disch:=try exact SX) only[RV,seval],by simp (disch:=try exact SX) only[RV,seval],SlM.nil,(fun h=>by cases h),by simp, ?_⟩
   ·simp (disch:=try exact SX) only[RV,seval,h0]
   ·exact zB04
   ·exact zB04
   ·simp
  ·rintro n t N hl' ⟨i,o,acc,rfl,hi,t0,t2,t7,wfN,g0,hN,ho0,hacc,hof⟩
   simp only[ht] at hl' ⊢
   clear h0 ht b
   have lN:=Mem.get_lt g0
   by_cases hlt:i<l.length
   ·have hne:l.drop i≠[]:=by
     intro h;have:=congrArg List.length h;rw[List.length_drop] at this;simp at this;omega
    have hdec:Utf8.decode ⟨l.toArray⟩ i=(zCV (l.drop i)).getD (65533,1):=by
     have:=Lib.decodeL_drop ⟨l.toArray⟩ i
     rw[<- this]
     show Lib.decodeL (l.drop i)=_
     cases hd:l.drop i with
     | nil=>exact absurd hd hne
     | cons c tl=>exact zNB c tl
    have nx:=zgO (s:=⟨l.toArray⟩) wfN g0 lN (by rw[zET];exact hlt)
    rw[hdec] at nx
    rw[zVP _ hne] at hof
    have sl:=fun t lo hi r x=>zhJ (P:=Tryz.prog) (t:=t) Tryz.underlying9 x lo hi r
    have sf:=fun d=>zaL (d:=d) (show i<=l.length by omega)
    have pr:=zQ0 (fuel:=fuel) (d:=d) (l.drop i) [239,191,189]
    cases hfi:zCV (l.drop i) with
    | none =>
     rw[hfi] at nx hof
     simp only[Option.getD_none,goInt] at nx
     have hp:pre (l.drop i) [239,191,189]=false:=by
      simp only[pre,decide_eq_false_iff_not]
      intro h
      match hd:l.drop i,h with
      | 239::191::189::tl,_=>rw[hd,zNC] at hfi;cases hfi
      | [],h=>simp at h
      | [a],h=>simp at h
      | [a,b],h=>simp at h
      | a::b::c::tl,h =>
       simp only[List.length_cons,List.length_nil,Nat.zero_add,Nat.reduceAdd,List.take_succ_cons,List.take_zero,List.cons.injEq,and_true] at h
       obtain⟨rfl,rfl,rfl⟩:=h
       rw[hd,zNC] at hfi;cases hfi
     rw[hp] at pr
     have q1:ofE l=3:=by simp [ofE,hof]
     have q2:ofM l=[]:=by simp [ofM,hof]
     rw[q1,q2]
     have qq:decide (((65533:Nat):Int)=65533)=true:=by decide
     simp (disch:=try exact SX) only[RV,seval,t0,t2,t7,@zaV,nx,sl,sf,pr]
     exact⟨_,rfl,.inl ⟨rfl,rfl⟩⟩
    | some p =>
     obtain⟨n,k⟩:=p
     obtain⟨b1,b2,b3,b4⟩:=zDA hfi
     rw[hfi] at nx hof
     rw[List.length_drop] at b4
     simp only[Option.getD_some,goInt] at nx
     simp only at hof
     have hn:(n:Int)<=1114111:=by simp [isR] at b1;omega
     have hp:decide ((n:Int)=65533)=true->pre (l.drop i) [239,191,189]=true:=fun h=>by
      have:n=65533:=by have:=of_decide_eq_true h;omega
      subst this
      rw[zVO] at b2
      simp only[pre,decide_eq_true_eq]
      have h3:k=3:=by
       rcases Nat.lt_or_ge k (l.length - i+1) with hk | hk
       ·have:=congrArg List.length b2
        rw[List.length_take,List.length_drop,Nat.min_eq_left b4] at this
        exact this.symm
       ·omega
      subst h3
      exact b2.symm
     have fin:∀ (o':AV) (N':Mem),Wf N'->N'.get 0=some (.siter ⟨l.toArray⟩ (i+k))->SlM N' 1 isI32 o' (acc++[(n:Int)])->rowOf o'≠some 0 ->
       ∃ m,m<l.length - i /\ ∃ (i':Nat) (o'':AV) (acc':List Int),m=l.length - i'/\i'<=l.length/\o'=o''/\Wf N'/\N'.get 0=some (.siter ⟨l.toArray⟩ i')/\SlM N' 1 isI32 o'' acc'/\rowOf o''≠some 0/\acc'.length<=i'/\ofL l=(ofL (l.drop i')).map (acc' ++ ·):=by
      intro o' N' w1 w2 w3 w4
      refine⟨l.length - (i+k),by omega,i+k,o',acc++[(n:Int)],rfl,by omega,rfl,w1,w2,w3,w4,by simp;omega, ?_⟩
      rw[hof,List.drop_drop]
      cases ofL (l.drop (i+k)) <;> simp
     have oo:=hN.one
     have oco:=hN.cells
     have rlo:=zB3 hN.rl (show N.size<=N.size+1 by omega)
     cases hq:decide ((n:Int)=65533)
     all_goals
      try rw[hp hq] at pr
      simp (disch:=try exact SX) only[RV,seval,zAB,t0,t2,t7,@zaV,nx,sl,sf,pr,hq,rlo]
      refine zX4 (by simp (disch:=try exact SX) only[RV,seval,wfN]) (hN.keep fun j hj=>?kp) zFZ.cel (l':=[(n:Int)]) (new:=[[I32 n]]) (zD6 (cs:=[I32 n]) (n:=1) (st:=1) (zAE (wfN.upd _ _) _ _ (Nat.le_refl _) (Nat.lt_succ_self _)) rfl) rfl (.cons rfl .nil) (by simp) (by omega) (by simp;omega) (by simp;omega) fun o4 M4 m4 wf4 le4 sz4 kp4 nw4 wm4 rl4 on4 oc4=>?_
      case kp =>
       have:=hN.lt j hj
       have:0≠j:=fun e=>ho0 (by rw[e];exact hj)
       exact zB04
      simp only[zA2,zA7] at le4 sz4
      have g4:=kp4 0 (by simp only[zA2,zA7];omega) ho0
      simp (disch:=try exact SX) only[RV,seval] at g4
      simp (disch:=try exact SX) only[RV,seval,t0,t2,t7]
      exact⟨hl',fin o4 M4 wf4 g4 m4 (fun h=>(nw4 0 h).elim (fun h=>ho0 h) (fun h=>by simp only[zA2,zA7] at h;omega))⟩
   ·have:i=l.length:=by omega
    subst this
    rw[List.drop_length,zJC] at hof
    simp only[Option.map_some,List.append_nil] at hof
    have nx:=zdM (s:=⟨l.toArray⟩) g0 (by rw[zET];exact Nat.le_refl _)
    have ln:=hN.len
    obtain⟨r,hSr,hfz⟩:=zFS hN zFZ.cel 12 (by omega)
    have hfz:=hfz N (fun _ _=>rfl)
    by_cases h64:64<acc.length
    ·have q1:decide ((64:Int)<acc.length)=true:=DT
     have q2:ofE l=4:=by simp [ofE,hof,h64]
     have q3:ofM l=[]:=by simp [ofM,hof,h64]
     rw[q2,q3]
     simp (disch:=try exact SX) only[RV,seval,t2,t7,@zaV,nx,ln,q1]
     exact⟨_,rfl,.inl ⟨rfl,rfl⟩⟩
    ·have q1:decide ((64:Int)<acc.length)=false:=DF
     have q2:ofE l=0:=by simp [ofE,hof,h64]
     have q3:ofM l=acc:=by simp [ofM,hof,h64]
     rw[q2,q3]
     simp (disch:=try exact SX) only[RV,seval,t2,t7,@zaV,nx,ln,q1,hfz]
     exact⟨_,rfl,hSr⟩
 obtain⟨r,N,hcl,r',rfl,hSr⟩:=key
 exact⟨r',hSr,fun M=>zDX tf8 rfl hcl (ic mem0) (ic M)⟩
theorem zgC {n:Nat}(h:isR n=true):okR (n:Int)=true:=by
 unfold isR at h
 unfold okR zOE
 simp at h ⊢
 omega
theorem zbR:∀ (f:Nat) (l:List UInt8) (m:List Int),l.length<=f->ofL l=some m -> ∀ x∈m,okR x=true
 | 0,l,m,h,e,x,hx=>by
  exact zB0D
 | f+1,[],m,h,e,x,hx=>by
  rw[zJC] at e
  cases e
  cases hx
 | f+1,c::tl,m,h,e,x,hx=>by
  rw[zVP _ (by simp)] at e
  cases hf:zCV (c::tl) with
  | none=>rw[hf] at e;cases e
  | some p =>
   obtain⟨n,k⟩:=p
   rw[hf] at e
   obtain⟨b1,_,b3,b4⟩:=zDA hf
   simp only at e
   cases ho:ofL ((c::tl).drop k) with
   | none=>rw[ho] at e;cases e
   | some m' =>
    rw[ho] at e
    simp only[Option.map_some,Option.some.injEq] at e
    subst e
    rcases List.mem_cons.1 hx with rfl | hx
    ·exact zgC b1
    ·exact zbR f _ m' (by rw[List.length_drop];simp only[List.length_cons] at h ⊢;omega) ho x hx
theorem zMA {l:List UInt8}(h:ofE l=0):chkR (ofM l)=0/\(ofM l).length<=64/\i32s (ofM l):=by
 unfold ofE at h
 unfold ofM
 cases ho:ofL l with
 | none=>rw[ho] at h;cases h
 | some m =>
  rw[ho] at h
  simp only at h ⊢
  split at h
  ·cases h
  ·rename_i hl
   rw[if_neg hl]
   have hok:=zbR l.length l m (Nat.le_refl _) ho
   refine⟨?_,by omega,fun x hx=>?_⟩
   ·unfold chkR
    rw[if_neg hl,List.all_eq_true.2 hok]
    rfl
   ·have:=hok x hx
    unfold okR zOE at this
    simp at this
    omega
variable {l : List Op} {a : AV} {v : Lb}
def inE (l:List Op)(h:Hd)(s k:Int)(t:List UInt8):Int:=if edE l h s=0 then (if ofE t=0 then (if zM2 l h.lb k=0 then (if (ofM t).length=0 then 2 else (if zI6 l h=0 then (if 1099511627776<zC3 l h+(ofM t).length - 1 then 9 else 0) else zI6 l h)) else 2) else ofE t) else edE l h s
def opZ:Op:=⟨0,Hd.z,0,⟨Eid.z,0⟩,Eid.z,Lb.z,[]⟩
def inO (l:List Op)(h:Hd)(s k:Int)(t:List UInt8):Op:=if inE l h s k t=0 then zCG h s (zC3 l h) (zDV l h.lb k) (ofM t) else opZ
def inK (l:List Op)(h:Hd)(s k:Int)(t:List UInt8)(r:AV):Prop:=∃ ra,r = .tup [.agg (opR (inO l h s k t) ra),I64 (inE l h s k t)]/\Sl 1 isI32 ra (inO l h s k t).rs
theorem zHJ {h:Hd}{s k:Int}{t:List UInt8}{e:Int}(he:inE l h s k t=e)(hn:e≠0):inK l h s k t (.tup [.agg (opR opZ NIL),I64 e]):=by
 refine⟨NIL, ?_, ?_⟩
 ·unfold inO;rw[he,if_neg hn]
 ·unfold inO;rw[he,if_neg hn];exact .inl ⟨rfl,rfl⟩
theorem zgQ {t:List UInt8}:ofE t=0∨ofE t=3∨ofE t=4:=by
 unfold ofE
 split
 ·exact .inr (.inl rfl)
 ·split
  ·exact .inr (.inr rfl)
  ·exact .inl rfl
theorem zM9 (l:List Op)(h:Hd)(hn:zI6 l h=0):1<=zC3 l h/\zC3 l h<=1099511627776:=by
 have h0:=(zPZ (cs:=zCO (elsR (textOf l))) (v:=h.lb)).1
 have h0:0<=topH l h:=h0
 have hn':=hn
 unfold zI6 at hn
 unfold zC3
 rw[if_pos hn']
 split at hn
 ·split at hn
  ·split at hn
   ·cases hn
   ·omega
  ·cases hn
 ·cases hn
theorem zOV {h:Hd}{s k:Int}{t:List UInt8}(hS:Sl 17 isOp a l)(ht1:t.length<=2000)(hl:l.length<=200)(hf:3200000<fuel)(hd:∀ o∈l,o.rs.length<=1000000000):∃ r,inK l h s k t r /\ ∀ M,zCN fuel (d+21) 19 [a,hdA h,I64 s,I64 k,STR t] M=some (r,M):=by
 have hask:=fun M=>zSC (fuel:=fuel) (d:=d+5) (h:=h) (s:=s) hS (by omega) (by omega) M
 obtain⟨ro,hro,hof⟩:=zJV (fuel:=fuel) (d:=d+17) t (by omega) (by omega)
 have hlf:=fun M=>zZ8 (fuel:=fuel) (d:=d+1) (v:=h.lb) (k:=k) hS hl (by omega) hd M
 have hnx:=fun M=>zX3 (fuel:=fuel) (d:=d+1) (h:=h) hS hl (by omega) M
 have lro:=hro.len
 have oro:=hro.one
 refine zF9 tf19 rfl (fun M=>by simp only[icyL,fun M=>hS.icy M 12 (by omega),zAP (zQQ h) (show 1<12 by omega),zF1]) ?_
 refine zAD tf19 rfl (by simp only[icyL,fun M=>hS.icy M 12 (by omega),zAP (zQQ h) (show 1<12 by omega),zF1]) (by simp [a19]) fun b' ht hx=>?_
 obtain⟨h0,h1,h2⟩:=hx3 hx
 have h3:=hx 3 _ rfl
 have h4:=hx 4 _ rfl
 clear hx
 simp only[a19,c19] at ht ⊢
 by_cases q1:edE l h s=0
 ·have q1':=decide_eq_true q1
  rcases zgQ (t:=t) with q2 | q2 | q2
  ·have hk:=zMA q2
   rw[q2] at hof
   by_cases q3:zM2 l h.lb k=0
   ·have q3':=decide_eq_true q3
    rw[q3] at hlf
    by_cases q4:(ofM t).length=0
    ·have q4':decide (((ofM t).length:Int)=0)=true:=DT
     have he:inE l h s k t=2:=by unfold inE;rw[if_pos q1,if_pos q2,if_pos q3,if_pos q4]
     have:=zHJ he (by decide)
     simp (disch:=try exact SX) only[RV,seval,zAB,h0,h1,h2,h3,h4,hask,q1',hof,hlf,lro,q4']
     exact⟨_,this,rfl⟩
    ·have q4':decide (((ofM t).length:Int)=0)=false:=DF
     by_cases q5:zI6 l h=0
     ·have q5':=decide_eq_true q5
      have nb:=zM9 l h q5
      rw[q5] at hnx
      have w1:IntKind.i64.wrap (zC3 l h+((ofM t).length:Int))=zC3 l h+(ofM t).length:=WI
      have w2:IntKind.i64.wrap (zC3 l h+((ofM t).length:Int) - 1)=zC3 l h+(ofM t).length - 1:=WI
      by_cases q6:1099511627776<zC3 l h+(ofM t).length - 1
      ·have q6':=decide_eq_true q6
       have he:inE l h s k t=9:=by unfold inE;rw[if_pos q1,if_pos q2,if_pos q3,if_neg q4,if_pos q5,if_pos q6]
       have:=zHJ he (by decide)
       simp (disch:=try exact SX) only[RV,seval,h0,h1,h2,h3,h4,hask,q1',hof,hlf,lro,q4']
       simp (disch:=try exact SX) only[RV,seval,zAB,lro,hnx,w1,w2,q6']
       exact⟨_,this,rfl⟩
      ·have q6':=decide_eq_false q6
       have he:inE l h s k t=0:=by unfold inE;rw[if_pos q1,if_pos q2,if_pos q3,if_neg q4,if_pos q5,if_neg q6]
       unfold inK inO
       rw[he,if_pos rfl]
       simp (disch:=try exact SX) only[RV,seval,h0,h1,h2,h3,h4,hask,q1',hof,hlf,lro,q4']
       simp (disch:=try exact SX) only[RV,seval,zAB,h2,hro.fz.cells,hro.fz.frz,lro,hnx,w1,w2,q6',↓zfG,zc7]
       exact⟨_,⟨ro,rfl,hro⟩,rfl⟩
     ·have q5':=decide_eq_false q5
      have he:inE l h s k t=zI6 l h:=by unfold inE;rw[if_pos q1,if_pos q2,if_pos q3,if_neg q4,if_neg q5]
      have:=zHJ he q5
      simp (disch:=try exact SX) only[RV,seval,h0,h1,h2,h3,h4,hask,q1',hof,hlf,lro,q4']
      simp (disch:=try exact SX) only[RV,seval,zAB,hnx,q5']
      exact⟨_,this,rfl⟩
   ·have q3':=decide_eq_false q3
    have he:inE l h s k t=2:=by unfold inE;rw[if_pos q1,if_pos q2,if_neg q3]
    have:=zHJ he (by decide)
    simp (disch:=try exact SX) only[RV,seval,zAB,h0,h1,h2,h3,h4,hask,q1',hof,hlf,q3']
    exact⟨_,this,rfl⟩
  all_goals
   rw[q2] at hof
   have he:inE l h s k t=ofE t:=by unfold inE;rw[if_pos q1,if_neg (by rw[q2];decide)]
   rw[q2] at he
   have:=zHJ he (by decide)
   simp (disch:=try exact SX) only[RV,seval,zAB,h0,h1,h2,h4,hask,q1',hof]
   exact⟨_,this,rfl⟩
 ·have q1':=decide_eq_false q1
  have he:inE l h s k t=edE l h s:=by unfold inE;rw[if_neg q1]
  have:=zHJ he q1
  simp (disch:=try exact SX) only[RV,seval,zAB,h0,h1,h2,hask,q1']
  exact⟨_,this,rfl⟩
theorem left_of {k:Int}(h:zM2 l v k=0):zF2 l v=0/\0<=k/\k<=(zBV l v).length:=by
 unfold zM2 at h
 split at h
 ·rename_i h1
  split at h
  ·cases h
  ·exact⟨h1,by omega,by omega⟩
 ·rename_i h1
  exact absurd h h1
theorem zdK {h:Hd}(hn:zI6 l h=0):h.may=true/\topH l h<1099511627776/\zC3 l h=topH l h+1:=by
 have h0:=hn
 unfold zI6 at hn
 unfold zC3
 rw[if_pos h0]
 split at hn
 ·split at hn
  ·split at hn
   ·cases hn
   ·exact⟨by assumption,by omega,rfl⟩
  ·cases hn
 ·cases hn
theorem left_at {k:Int}(h:zM2 l v k=0):(k.toNat=0/\zDV l v k=Eid.z)∨(0<k.toNat /\ ∃ c,(zBV l v)[k.toNat - 1]? = some c/\c.id=zDV l v k):=by
 obtain⟨h1,h2,h3⟩:=left_of h
 unfold zDV
 by_cases hk:0<k
 ·right
  have e:(k - 1).toNat=k.toNat - 1:=by omega
  have hlt:k.toNat - 1<(zBV l v).length:=by omega
  rw[if_pos ⟨h,hk⟩,e,List.getElem?_eq_getElem hlt]
  exact⟨by omega,_,rfl,rfl⟩
 ·left
  rw[if_neg (fun h=>hk h.2)]
  exact⟨by omega,rfl⟩
theorem cells_ok {r:AV}{cs:List CellV}(h:Sl 5 zDE r cs):∀ c∈cs,c.id.ok:=by
 intro c hc
 obtain⟨i,hi,rfl⟩:=List.getElem_of_mem hc
 obtain⟨_,_,⟨_,hok⟩,_⟩:=h.iad i hi
 exact hok
end Go.Proofs.YtliicocdhkcanaaGreat
namespace Go.Ax
open Go
variable {α : Type} {M N : Mem} {st : Nat} {T : List AV -> α -> Prop} {v o : AV} {l : List α}
end Go.Ax
namespace Go.Proofs.YtliicocdhkcanaaGreat
open Go Go.Ax
variable {fuel : Nat} {M : Mem} {Q : AV -> Mem -> Prop} {d : Nat} {l : List Op} {a : AV}
def wO (o:Op):Int:=imax (imin (imax o.sp.n 0) 100) (imin (o.rs.length:Int) 1000)
def sumW (l:List Op):Int:=(l.map wO).sum
def zEB (l:List Op)(many:Int):Bool:=decide (many<l.length) || decide (300<sumW (l.take 300))
theorem zRV (o:Op):0<=wO o/\wO o<=1000/\((o.rs.length:Int)<=wO o∨1000<=wO o):=by
 unfold wO imax imin
 repeat' split
 all_goals omega
theorem sumW_snoc (l:List Op)(o:Op):sumW (l++[o])=sumW l+wO o:=by unfold sumW;simp
theorem zMR:∀ (l:List Op),0<=sumW l/\sumW l<=1000*l.length
 | []=>by simp [sumW]
 | o::l=>by
  have h1:=zMR l
  have h2:=zRV o
  unfold sumW at *
  simp only[List.map_cons,List.sum_cons,List.length_cons]
  omega
theorem zRR:∀ (l:List Op) (o:Op),o∈l->wO o<=sumW l
 | [],_,h=>by cases h
 | p::l,o,h=>by
  have h1:=zMR l
  have h2:=zRV p
  rcases List.mem_cons.1 h with rfl | h
  ·unfold sumW at *;simp only[List.map_cons,List.sum_cons];omega
  ·have:=zRR l o h
   unfold sumW at *;simp only[List.map_cons,List.sum_cons];omega
theorem zGA {many:Int}(hm:many<=300)(h:zEB l many=false):(l.length:Int)<=many /\ ∀ o∈l,o.rs.length<=300:=by
 unfold zEB at h
 simp only[Bool.or_eq_false_iff,decide_eq_false_iff_not] at h
 refine⟨by omega,fun o ho=>?_⟩
 have ht:l.take 300=l:=List.take_of_length_le (by omega)
 rw[ht] at h
 have:=zRR l o ho
 have:=zRV o
 omega
theorem zIY {many:Int}(hS:Sl 17 isOp a l)(hf:400<fuel)(M:Mem):zCN fuel (d+1) 15 [a,I64 many] M=some (BL (zEB l many),M):=by
 have ll:=hS.len
 apply zB1
 refine zAD tf15 rfl (by simp only[icyL,fun M=>hS.icy M 12 (by omega),zF1]) (by simp [a15]) fun b' ht hx=>?_
 obtain⟨h0,h1⟩:=hx2 hx
 clear hx
 simp only[a15,c15] at ht ⊢
 unfold zEB
 simp (disch:=try exact SX) only[RV]
 refine zBB (I:=fun n t N => ∃ (i:Nat),n=300 - i/\i<=300/\nth zA3 t 0=a/\nth zA3 t 1=I64 many/\nth zA3 t 5=I64 (sumW (l.take i))/\nth zA3 t 6=I64 i/\N=mem0/\i<=l.length) (n:=300) (by omega) ?_ ?_
 ·refine⟨0,rfl,Nat.zero_le _, ?_, ?_, ?_, ?_,rfl,Nat.zero_le _⟩ <;> simp (disch:=try exact SX) only[RV,reduceIte,Nat.reduceEqDiff,h0,h1]
  all_goals first | rfl | assumption | done
 ·rintro n t N hlt ⟨i,rfl,hi,g0,g1,g5,g6,hm,hil⟩
  simp only[ht] at hlt ⊢
  subst hm
  by_cases hc:i<l.length
  ·have q1:decide ((i:Int)<l.length)=true:=DT
   by_cases hc3:i<300
   ·have q2:decide ((i:Int)<300)=true:=DT
    have w1:IntKind.i64.wrap ((i:Int)+1)=((i+1:Nat):Int):=WI
    obtain⟨r,hiad,hr,hrl⟩:=hS.iad i hc
    have hsn:=sumW_snoc (l.take i) l[i]
    rw[<- take_snoc l i hc] at hsn
    have hps:=zMR (l.take i)
    rw[List.length_take] at hps
    have hwo:=zRV l[i]
    generalize l[i]=e at *
    obtain⟨ra,rfl,hra,hok⟩:=hr
    have lra:=hra.len
    have w2:IntKind.i64.wrap (sumW (l.take i)+wO e)=sumW (l.take (i+1)):=by rw[hsn];exact wrap_i64 (by omega) (by omega)
    simp (disch:=try exact SX) only[RV,reduceIte,Nat.reduceEqDiff,Nat.reduceBEq,Nat.reduceAdd,g0,g1,g5,g6,ll,q1,q2,w1,hiad,lra,zC5,BMM]
    refine⟨hlt,300 - (i+1),by omega,i+1,rfl,by omega, ?_,rfl,by omega⟩
    show AV.sc (.int .i64 (IntKind.i64.wrap (sumW (l.take i)+wO e)))=I64 _
    rw[w2]
   ·have q2:decide ((i:Int)<300)=false:=DF
    obtain rfl:i=300:=by omega
    cases q3:decide (many<(l.length:Int))
    all_goals simp (disch:=try exact SX) only[RV,reduceIte,Nat.reduceEqDiff,Nat.reduceSub,g0,g1,g5,g6,ll,q1,q2,q3]
  ·have q1:decide ((i:Int)<l.length)=false:=DF
   obtain rfl:i=l.length:=by omega
   have et:l.take 300=l.take l.length:=by rw[List.take_of_length_le (Nat.le_refl _),List.take_of_length_le (by omega)]
   rw[et]
   cases q3:decide (many<(l.length:Int))
   all_goals simp (disch:=try exact SX) only[RV,reduceIte,Nat.reduceEqDiff,g0,g1,g5,g6,ll,q3]
variable {v : Lb}
theorem in_z {h:Hd}{s k:Int}{t:List UInt8}(e:inE l h s k t=0):edE l h s=0/\ofE t=0/\zM2 l h.lb k=0/\(ofM t).length≠0/\zI6 l h=0/\zC3 l h+(ofM t).length<=1099511627777:=by
 unfold inE at e
 split at e
 ·rename_i h1
  split at e
  ·rename_i h2
   split at e
   ·rename_i h3
    split at e
    ·cases e
    ·rename_i h4
     split at e
     ·rename_i h5
      split at e
      ·cases e
      ·exact⟨h1,h2,h3,h4,h5,by omega⟩
     ·rename_i h5;exact absurd e h5
   ·cases e
  ·rename_i h2;exact absurd e h2
 ·rename_i h1;exact absurd e h1
theorem zPB {l:List Op}(hok:∀ o∈l,o.ok)(hl:l.length<=40){h:Hd}{s k:Int}{t:List UInt8}(hz:inE l h s k t=0) :
  zF2 l h.lb=0/\(0<=k/\k<=(zBV l h.lb).length)/\zSB l (zCG h s (zC3 l h) (zDV l h.lb k) (ofM t))=0/\zF2 (l++[zCG h s (zC3 l h) (zDV l h.lb k) (ofM t)]) h.lb=0 /\
  zBV (l++[zCG h s (zC3 l h) (zDV l h.lb k) (ofM t)]) h.lb=(zBV l h.lb).take k.toNat++newC h (zC3 l h) (ofM t)++(zBV l h.lb).drop k.toNat:=by
 obtain⟨z1,z2,z3,z4,z5,z6⟩:=in_z hz
 obtain⟨e1,e2,e3,e4⟩:=ed_z z1
 obtain⟨k1,k2,k3⟩:=zMA z2
 obtain⟨q6,q7,q8⟩:=left_of z3
 obtain⟨n1,n2,n3⟩:=zdK z5
 have haf:=left_at z3
 have nb:=zM9 l h z5
 have tge:=zPZ (cs:=zCO (elsR (textOf l))) (v:=h.lb)
 have htop:∀ x∈elsR (textOf (lowL l h.lb)),x.id.c<zC3 l h:=fun x hx=>by
  rw[zPC e1 hok] at hx
  obtain⟨f1,f2⟩:=List.mem_filter.1 hx
  have f3:x.id.c<=topH l h:=tge.2 ⟨x.id,x.ch⟩ (List.mem_map.2 ⟨x,f1,rfl⟩) f2
  omega
 have hafv:zDV l h.lb k=Eid.z ∨ ∃ c∈zBV l h.lb,c.id=zDV l h.lb k:=haf.imp (fun h=>h.2) fun h=>by
  obtain⟨_,c,f1,f2⟩:=h
  exact⟨c,List.mem_of_getElem? f1,f2⟩
 have hafm:zDV l h.lb k=Eid.z∨((zDV l h.lb k).may=true/\(zDV l h.lb k).c<zC3 l h):=hafv.imp (fun h=>h) fun⟨c,f1,f2⟩=>by
  obtain⟨x,x1,x2,_⟩:=zQ1 f1
  rw[<- f2,<- x2]
  exact⟨(zUB e1 x x1).2.2,htop x x1⟩
 obtain⟨om,orf⟩:=zdB (s:=s) n1 (by omega) ⟨nb.1,z6⟩ (by omega) k1 hafm
 have ofit:=zYZ e1 hok (by omega) om orf k2 htop hafv
 have h9:zAS [] (l++[zCG h s (zC3 l h) (zDV l h.lb k) (ofM t)])=true:=by rw[zED,e1,om,ofit];rfl
 refine⟨q6,⟨q7,q8⟩, ?_, ?_,zZ2 e1 om ofit htop (k:=k.toNat) (by omega) haf⟩
 ·unfold zSB
  rw[if_pos e1,if_pos om]
  exact ofit
 ·unfold zF2
  rw[h9,(zKN q6).2]
  rfl
theorem zV3 {W N:List CellV}{k i:Nat}(hk:k<=W.length)(hi:i<(W.take k++N++W.drop k).length) :
  (i<k -> ∃ hi':i<W.length,(W.take k++N++W.drop k)[i]=W[i])/\(k<=i->i<k+N.length -> ∃ hi':i - k<N.length,(W.take k++N++W.drop k)[i]=N[i - k])/\(k+N.length<=i -> ∃ hi':i - N.length<W.length,(W.take k++N++W.drop k)[i]=W[i - N.length]):=by
 have hl:(W.take k).length=k:=by rw[List.length_take];omega
 simp only[List.length_append,List.length_drop] at hi
 rw[hl] at hi
 refine⟨fun h=>⟨by omega, ?_⟩,fun h1 h2=>⟨by omega, ?_⟩,fun h=>⟨by omega, ?_⟩⟩
 ·rw[List.getElem_append_left (by rw[List.length_append];omega),List.getElem_append_left (by omega),List.getElem_take]
 ·rw[List.getElem_append_left (by rw[List.length_append];omega),List.getElem_append_right (by omega)]
  simp only[hl]
 ·rw[List.getElem_append_right (by rw[List.length_append];omega),List.getElem_drop]
  congr 1
  rw[List.length_append]
  omega
variable {c : Cl} {o m dn p : AV} {O B D : Nat -> Prop}
structure Stay (M N:Mem) (E:Nat->Prop):Prop where
 wf:Wf N
 le:M.size<=N.size
 get:∀ j,j<M.size -> ¬E j->N.get j=M.get j
 wm:N.wm=M.wm
theorem OwnC.mis (h:OwnC M O B D c o m dn p):opK.MI M (fun j=>B j∨D j/\rowOf p≠some j) m c.mine/\opK.MI M (fun j=>B j∨D j/\rowOf p≠some j) dn c.done/\opK.MI M (fun j=>B j∨D j/\rowOf p≠some j) p c.pend :=
 ⟨h.hm.mi.mono fun _ h => .inl h,h.hd.mi.mono fun _ h => .inl h,h.hp.mi.mono fun _ h => .inr h⟩
theorem OwnC.froz {N : Mem} (h : OwnC M O B D c o m dn p) (hr : ∀ j,j < M.size -> N.rd j = M.rd j) (hg : ∀ j,j < M.size -> ¬(B j ∨ D j /\ rowOf p ≠ some j) -> N.get j = M.get j) : OwnC N O B D c o m dn p :=
  ⟨h.ho.keep fun j hj=>hg j (h.ho.lt j hj) fun e=>e.elim (fun e=>((h.ap j).1 (h.hoB j hj)).1 e) fun e=>((h.ap j).1 (h.hoB j hj)).2 e.1,h.hoB,h.hm.keep fun j _ hj=>hr j hj,h.hd.keep fun j _ hj=>hr j hj,
   h.hp.keep (fun j _ hj=>hr j hj) fun j hj=>hg j (h.hp.mr.lt j hj).2 fun e=>e.elim (fun e=>(h.ap j).2 e (h.hp.mr.lt j hj).1) fun e=>e.2 hj,h.ap⟩
def Cl.push (c:Cl)(x:Op):Cl:={ c with pend:=c.pend++[x] }
theorem Cl.push_has (c:Cl)(x:Op):(c.push x).has=c.has++[x]:=by unfold Cl.push Cl.has;simp
def Op.one (e:Op):Op:={ e with sr:=1 }
theorem Op.one_ok {e:Op}(h:e.ok):e.one.ok:=⟨h.1,h.2.1,by show (-9223372036854775808:Int)<=1/\(1:Int)<=9223372036854775807;decide,h.2.2.2.1,h.2.2.2.2.1,h.2.2.2.2.2.1,h.2.2.2.2.2.2⟩
theorem ziA {x i:Nat}{e:Op}{ra:AV}(hra:Sl 1 isI32 ra e.rs)(hok:e.ok)(hx:M.get x=some (.row false (clR c o m dn p)))(hO:OwnC M O B D c o m dn p)(hxo:∀ j,O j∨B j∨D j->j≠x/\j<M.size)(hl:c.has.length<=100)(hp:c.pend.length<=20)(hi:M.get i=some (.row false (opR e ra)))(hfit:zSB c.has e.one=0)(hf:10000<fuel)(wf:Wf M)(hw:M.wm<=M.size)
  (k:∀ p' N D',Stay M N (fun j=>B j∨D j∨j=x)->N.get x=some (.row false (clR (c.push e.one) o m dn p'))->OwnC N O B D' (c.push e.one) o m dn p'->(∀ j,D' j->D j∨M.size<=j/\j<N.size)->Q (I64 0) N) :
  W3 (zCN fuel (d+18) 21 [.ptr x 0,.sl i 0 1 (some 1) 17,I64 0] M) Q:=by
 have lp:=hO.hp.mr.len
 have hlh:c.has.length=c.mine.length+c.done.length+c.pend.length:=by unfold Cl.has;rw[List.length_append,List.length_append]
 have lx:=Mem.get_lt hx
 have li:=Mem.get_lt hi
 have w1:IntKind.i64.wrap ((c.pend.length:Int)+1)=((c.pend.length+1:Nat):Int):=WI
 have q1:decide ((32:Int)<((c.pend.length+1:Nat):Int))=false:=DF
 have oo:=hO.ho.one
 have om:=hO.hm.one
 have od:=hO.hd.one
 have op:=hO.hp.mr.one
 have ora:=hra.one
 have t0:zCL (I64 0)=some 0:=rfl
 have q01:decide ((0:Int)<1)=true:=rfl
 have q11:decide ((1:Int)<1)=false:=rfl
 have v1:IntKind.i64.wrap 1=1:=by decide
 refine zAT tf21 rfl (by simp [a21]) fun b' ht hx=>?_
 obtain⟨h0,h1,h2⟩:=hx3 hx
 clear hx
 simp only[a21,c21] at ht ⊢
 have hx':=hx
 unfold clR at hx'
 simp (disch:=try exact SX) only[RV,seval,h0,h1,h2,hx',lp,w1,q1]
 refine w_un (by omega) ?_
 simp (disch:=try exact SX) only[RV,seval,h0,t0,hi,hx']
 have kX:=(((Kept.refl wf).add (.row false (opR ⟨0,Hd.z,0,⟨Eid.z,0⟩,Eid.z,Lb.z,[]⟩ NIL))).upd hw (Nat.le_refl _) (.row false [U8 e.kd,U8 e.hd.lb.lv,U32 e.hd.lb.cats,U8 e.hd.num,I64 e.sr,U8 e.sp.f.hd.lb.lv,U32 e.sp.f.hd.lb.cats,U8 e.sp.f.hd.num,I64 e.sp.f.c,I64 e.sp.n,U8 e.af.hd.lb.lv,U32 e.af.hd.lb.cats,U8 e.af.hd.num,I64 e.af.c,U8 e.to.lv,U32 e.to.cats,ra])).upd hw (Nat.le_refl _) (.row false [U8 e.kd,U8 e.hd.lb.lv,U32 e.hd.lb.cats,U8 e.hd.num,I64 1,U8 e.sp.f.hd.lb.lv,U32 e.sp.f.hd.lb.cats,U8 e.sp.f.hd.num,I64 e.sp.f.c,I64 e.sp.n,U8 e.af.hd.lb.lv,U32 e.af.hd.lb.cats,U8 e.af.hd.num,I64 e.af.c,U8 e.to.lv,U32 e.to.cats,ra])
 have gX:(((M.add (.row false (opR ⟨0,Hd.z,0,⟨Eid.z,0⟩,Eid.z,Lb.z,[]⟩ NIL))).upd M.size (.row false [U8 e.kd,U8 e.hd.lb.lv,U32 e.hd.lb.cats,U8 e.hd.num,I64 e.sr,U8 e.sp.f.hd.lb.lv,U32 e.sp.f.hd.lb.cats,U8 e.sp.f.hd.num,I64 e.sp.f.c,I64 e.sp.n,U8 e.af.hd.lb.lv,U32 e.af.hd.lb.cats,U8 e.af.hd.num,I64 e.af.c,U8 e.to.lv,U32 e.to.cats,ra])).upd M.size (.row false [U8 e.kd,U8 e.hd.lb.lv,U32 e.hd.lb.cats,U8 e.hd.num,I64 1,U8 e.sp.f.hd.lb.lv,U32 e.sp.f.hd.lb.cats,U8 e.sp.f.hd.num,I64 e.sp.f.c,I64 e.sp.n,U8 e.af.hd.lb.lv,U32 e.af.hd.lb.cats,U8 e.af.hd.num,I64 e.af.c,U8 e.to.lv,U32 e.to.cats,ra])).get M.size=some (.row false [U8 e.kd,U8 e.hd.lb.lv,U32 e.hd.lb.cats,U8 e.hd.num,I64 1,U8 e.sp.f.hd.lb.lv,U32 e.sp.f.hd.lb.cats,U8 e.sp.f.hd.num,I64 e.sp.f.c,I64 e.sp.n,U8 e.af.hd.lb.lv,U32 e.af.hd.lb.cats,U8 e.af.hd.num,I64 e.af.c,U8 e.to.lv,U32 e.to.cats,ra]):=zAC ((wf.add _).upd _ _) _ _ (by rw[zA7,zA2];omega)
 have sX:(((M.add (.row false (opR ⟨0,Hd.z,0,⟨Eid.z,0⟩,Eid.z,Lb.z,[]⟩ NIL))).upd M.size (.row false [U8 e.kd,U8 e.hd.lb.lv,U32 e.hd.lb.cats,U8 e.hd.num,I64 e.sr,U8 e.sp.f.hd.lb.lv,U32 e.sp.f.hd.lb.cats,U8 e.sp.f.hd.num,I64 e.sp.f.c,I64 e.sp.n,U8 e.af.hd.lb.lv,U32 e.af.hd.lb.cats,U8 e.af.hd.num,I64 e.af.c,U8 e.to.lv,U32 e.to.cats,ra])).upd M.size (.row false [U8 e.kd,U8 e.hd.lb.lv,U32 e.hd.lb.cats,U8 e.hd.num,I64 1,U8 e.sp.f.hd.lb.lv,U32 e.sp.f.hd.lb.cats,U8 e.sp.f.hd.num,I64 e.sp.f.c,I64 e.sp.n,U8 e.af.hd.lb.lv,U32 e.af.hd.lb.cats,U8 e.af.hd.num,I64 e.af.c,U8 e.to.lv,U32 e.to.cats,ra])).size=M.size+1:=rfl
 generalize ((M.add (.row false (opR ⟨0,Hd.z,0,⟨Eid.z,0⟩,Eid.z,Lb.z,[]⟩ NIL))).upd M.size (.row false [U8 e.kd,U8 e.hd.lb.lv,U32 e.hd.lb.cats,U8 e.hd.num,I64 e.sr,U8 e.sp.f.hd.lb.lv,U32 e.sp.f.hd.lb.cats,U8 e.sp.f.hd.num,I64 e.sp.f.c,I64 e.sp.n,U8 e.af.hd.lb.lv,U32 e.af.hd.lb.cats,U8 e.af.hd.num,I64 e.af.c,U8 e.to.lv,U32 e.to.cats,ra])).upd M.size (.row false [U8 e.kd,U8 e.hd.lb.lv,U32 e.hd.lb.cats,U8 e.hd.num,I64 1,U8 e.sp.f.hd.lb.lv,U32 e.sp.f.hd.lb.cats,U8 e.sp.f.hd.num,I64 e.sp.f.c,I64 e.sp.n,U8 e.af.hd.lb.lv,U32 e.af.hd.lb.cats,U8 e.af.hd.num,I64 e.af.c,U8 e.to.lv,U32 e.to.cats,ra])=X at *
 have wX:=kX.wf
 have gx:=(kX.get x lx).trans hx'
 have hX:=hO.keep fun j h _=>kX.get j (hxo j h).2
 obtain⟨i0,i1,i2⟩:=hX.mis
 refine zQG (d:=d+14) oo i0 i1 i2 (by omega) (by omega) (by omega) (by omega) (by rw[zDQ];exact wX) (Nat.le_refl _) fun o1 N1 k1 hN1 r1=>?_
 have e1:N1.dirty=false:=k1.di
 have wN1:=k1.wf
 have b1:=k1.bk
 have on1:=hN1.one
 have g1:=(k1.get M.size (by show M.size<X.size;omega)).trans ((zDF _ _).trans gX)
 have gx1:=(k1.get x (by show x<X.size;omega)).trans ((zDF _ _).trans gx)
 have kY:=kX.trans b1
 have sY:X.size<=N1.size:=k1.le
 have hfits:zCN fuel (d+17) 42 [o1,.agg (opR e.one ra)] ((X.bk N1).lo)=some (.sc (.int .i64 0),(X.bk N1).lo):=by
  refine NK.MR.lend (K:=opK) (n:=d+16) (rest:=[.agg (opR e.one ra)]) tf42 rfl (hN1.keep fun _ _ _=>rfl) (by rw[zDQ,zEZ];exact wN1) (fun M=>by simp only[icyL,zJE hra.fz M]) fun a' h M=>?_
  have:=zOU (fuel:=fuel) (d:=d+3) (o:=e.one) (ra:=ra) (zKO h) (by omega) (by omega) hra (Op.one_ok hok) M
  rw[hfit] at this
  exact this
 unfold opR Op.one at hfits
 have lM1:M.size<N1.size:=by omega
 have hY:OwnC (X.bk N1) O B D c o m dn p:=hX.keep fun j h _=>b1.get j (by have:=(hxo j h).2;omega)
 have rp:=hY.hp.mr.rows (n:=N1.size+1) (by rw[zB5];omega)
 have plt:=hY.hp.mr.lt
 have cra:=hra.cells
 simp (disch:=try exact SX) only[RV,seval,zAB,h0,e1,g1,gx1,hfits,zBD,zGJ,rp]
 have wY:Wf (X.bk N1):=wN1
 have lxY:x<N1.size:=by omega
 have gY:=(b1.get x (by omega)).trans gx
 generalize hYY:X.bk N1=Y at *
 have sYY:Y.size=N1.size:=by rw[<- hYY,zB5]
 rw[<- sYY]
 refine NK.MW.app (K:=opK) (B:=fun j=>D j∨Y.size<=j) (x:=e.one) (ra:=ra) (by':=112) wY (hY.hp.mono fun _ h => .inl h) ⟨rfl,ora,cra⟩ ⟨.inl hra,Op.one_ok hok,fun j hj=>by rw[NK.sl_row hra] at hj;cases hj⟩ (fun j _ hj=>by rw[NK.sl_row hra] at hj;cases hj) (by omega) (by omega) (fun j h => .inr h) fun p' Z hZ wZ le kp nw wmZ rl' on' oc'=>?_
 have gZ:=(kp x (by omega) (fun h=>((hxo x (.inr (.inr (plt x h).1))).1 rfl))).trans gY
 have lxZ:=Mem.get_lt gZ
 simp (disch:=try exact SX) only[RV,seval,oc',gZ,zBD,v1,zAX]
 refine w_un (by omega) ?_
 simp (disch:=try exact SX) only[RV,seval,zCZ]
 have kM:∀ j,j<M.size->Y.get j=M.get j:=fun j hj=>kY.get j hj
 have lY:M.size<=Y.size:=by omega
 have eD:∀ j,rowOf p=some j->D j:=fun j h=>(plt j h).1
 refine k p' _ (fun j=>(D j∨Y.size<=j)/\j<Z.size) ⟨wZ.upd _ _,by rw[zA7];omega,fun j hj hE=>?_, ?_⟩ (zAC wZ _ _ lxZ) ⟨?_,hO.hoB, ?_, ?_, ?_,fun j=>?_⟩ (fun j h=>?_)
 ·simp only[not_or] at hE
  rw[zA0 wZ _ _ _ (fun e=>hE.2.2 e.symm),kp j (by omega) (fun h=>hE.2.1 (eD j h)),kM j hj]
 ·rw[show ∀ (A:Mem) i w,(A.upd i w).wm=A.wm from fun _ _ _=>rfl,wmZ,kY.wm]
 ·refine hY.ho.keep fun j hj=>?_
  have hj2:=hO.hoB j hj
  rw[zA0 wZ _ _ _ (fun e=>(hxo j (.inl hj2)).1 e.symm),kp j (by have:=(hxo j (.inl hj2)).2;omega) (fun h=>((hO.ap j).1 hj2).2 (eD j h))]
 ·refine hY.hm.keep fun j hB hj=>?_
  exact zB0B
 ·refine hY.hd.keep fun j hB hj=>?_
  exact zB0B
 ·have hne:∀ j,D j∨Y.size<=j->x≠j:=fun j h=>h.elim (fun h=>fun e=>(hxo j (.inr (.inr h))).1 e.symm) fun h=>by omega
  refine hZ.bnd.keep (fun j hB _=>?_) fun j hj=>?_
  ·rw[zB0,zB0,zA0 wZ _ _ _ (hne j hB.1)]
  ·rw[zA0 wZ _ _ _ (hne j (hZ.mr.lt j hj).1)]
 ·have h1:=hO.ap j
  refine⟨fun h=>⟨(h1.1 h).1,fun h2=>h2.1.elim (fun h3=>(h1.1 h).2 h3) fun h3=>by have:=(hxo j (.inl h)).2;omega⟩,fun h h2=>h2.1.elim (fun h3=>h1.2 h h3) fun h3=>by have:=(hxo j (.inr (.inl h))).2;omega⟩
 ·rw[zA7]
  exact h.1.imp (fun h=>h) fun h3=>⟨by omega,h.2⟩
theorem zf3 {y x:AV}{e:Int}(he:e≠0)(hy:rowsOf y=rowsOf y)(k:Q (I64 e) M):W3 (zCN fuel (d+18) 21 [x,y,I64 e] M) Q:=by
 have e':=decide_eq_false he
 refine zAT tf21 rfl (by simp [a21]) fun b' ht hx=>?_
 obtain⟨h0,h1,h2⟩:=hx3 hx
 clear hx
 simp only[a21,c21] at ht ⊢
 simp (disch:=try exact SX) only[RV,seval,h2,e']
 exact k
theorem zcF {x a b:Nat}{t:List UInt8}{kk:Int}(hx:M.get x=some (.row false (clR c o m dn p)))(ha:M.get a=some (.row false [I64 kk]))(hb:M.get b=some (.row false [STR t]))(hO:OwnC M O B D c o m dn p)(hxo:∀ j,O j∨B j∨D j->j≠x/\j<M.size)(hl:c.has.length<=36)(hp:c.pend.length<=20)(ht:t.length<=300)(hok:∀ x∈c.has,x.ok)(hh:c.h.ok)(hd:∀ x∈c.has,x.rs.length<=1000)(hf:3200000<fuel)(wf:Wf M)(hw:M.wm<=M.size)
  (k0:inE c.has c.h 1 kk t≠0 -> ∀ N,Stay M N (fun j=>B j∨D j∨j=x)->Q (I64 (inE c.has c.h 1 kk t)) N)
  (k:inE c.has c.h 1 kk t=0 -> ∀ p' N D',Stay M N (fun j=>B j∨D j∨j=x)->N.get x=some (.row false (clR (c.push (inO c.has c.h 1 kk t)) o m dn p'))->OwnC N O B D' (c.push (inO c.has c.h 1 kk t)) o m dn p'->(∀ j,D' j->D j∨M.size<=j/\j<N.size)->Q (I64 0) N) :
  W3 (zCN fuel (d+22) 18 [.ptr x 0,.ptr a 0,.ptr b 0] M) Q:=by
 have lx:=Mem.get_lt hx
 have la:=Mem.get_lt ha
 have lb:=Mem.get_lt hb
 have hlh:c.has.length=c.mine.length+c.done.length+c.pend.length:=by unfold Cl.has;rw[List.length_append,List.length_append]
 have oo:=hO.ho.one
 refine zAT tf18 rfl (by simp [a18]) fun b' ht hx=>?_
 obtain⟨h0,h1,h2⟩:=hx3 hx
 clear hx
 simp only[a18,c18] at ht ⊢
 have hx':=hx
 unfold clR at hx'
 simp (disch:=try exact SX) only[RV,seval,h0,hx']
 obtain⟨i0,i1,i2⟩:=hO.mis
 refine zQG (d:=d+18) oo i0 i1 i2 (by omega) (by omega) (by omega) (by omega) (by rw[zDQ];exact wf) (Nat.le_refl _) fun o1 N1 k1 hN1 r1=>?_
 have e1:N1.dirty=false:=k1.di
 have wN1:=k1.wf
 have on1:=hN1.one
 have gx1:=(k1.get x (by rw[zAV];omega)).trans ((zDF _ _).trans hx')
 have ga1:=(k1.get a (by rw[zAV];omega)).trans ((zDF _ _).trans ha)
 have gb1:=(k1.get b (by rw[zAV];omega)).trans ((zDF _ _).trans hb)
 have sY:M.size<=N1.size:=k1.le
 simp (disch:=try exact SX) only[RV,seval,h0,h1,h2,e1,gx1,ga1,gb1,zBD,zGJ]
 refine NK.MR.hand (K:=opK) (n:=d+20) (l:=c.has) (rest:=[hdA c.h,I64 1,I64 kk,STR t]) (R:=inK c.has c.h 1 kk t) tf19 rfl (hN1.keep fun _ _ _=>rfl) (by rw[zDQ,zEZ];exact wN1) (fun M=>by simp only[icyL,zAP (zQQ c.h) (show 1<12 by omega),zF1]) (fun o' ho'=>zOV (fuel:=fuel) (d:=d) (h:=c.h) (s:=1) (k:=kk) (t:=t) (zKO ho') (by omega) (by omega) hf (fun x hx=>by have:=hd x hx;omega)) fun r M1 hr wM1 zM1 rM1 gM1 mM1 _=>?_
 obtain⟨ra,rfl,hra⟩:=hr
 have ora:=hra.one
 simp only[zAV,zB5] at zM1
 have hrd:∀ j,j<M.size->((M.bk N1).bk M1).rd j=M.rd j:=fun j hj=>by
  rw[zB0,zFX,<- zB0,rM1 j,zB0,zB0,zDF,zFX,k1.get j (by rw[zAV];exact hj),zDF]
 have hgt:∀ j,j<M.size -> ¬(B j∨D j/\rowOf p≠some j)->((M.bk N1).bk M1).get j=M.get j:=fun j hj hE=>by
  rw[zFX,gM1 j (fun h=>h.elim hE fun h=>by rw[zAV] at h;omega),zDF,zFX,k1.get j (by rw[zAV];exact hj),zDF]
 have h0X:=hO.froz (N:=(M.bk N1).bk M1) hrd hgt
 have w0X:Wf ((M.bk N1).bk M1):=wM1
 have s0X:((M.bk N1).bk M1).size=N1.size:=zM1
 have m0X:((M.bk N1).bk M1).wm=M.wm:=rfl
 have l0X:M.size<=((M.bk N1).bk M1).size:=by rw[s0X];exact sY
 have gx0:=(hgt x lx (fun h=>h.elim (fun h=>(hxo x (.inr (.inl h))).1 rfl) fun h=>(hxo x (.inr (.inr h.1))).1 rfl)).trans hx
 simp (disch:=try exact SX) only[RV,seval,zAB,h0,zBD,zTM,NK.apart2_new]
 have hin:=in_z (l:=c.has) (h:=c.h) (s:=1) (k:=kk) (t:=t)
 have hlaw:=zPB (l:=c.has) hok (by omega) (h:=c.h) (s:=1) (k:=kk) (t:=t)
 have hE0:inE c.has c.h 1 kk t=0->inO c.has c.h 1 kk t=zCG c.h 1 (zC3 c.has c.h) (zDV c.has c.h.lb kk) (ofM t):=fun h=>by unfold inO;rw[if_pos h]
 have hopk:inE c.has c.h 1 kk t=0->(inO c.has c.h 1 kk t).ok:=fun h=>by
  obtain⟨z1,z2,z3,z4,z5,z6⟩:=hin h
  obtain⟨g0,⟨g1,g2⟩,_⟩:=hlaw h
  obtain⟨k1',k2',k3'⟩:=zMA z2
  have nb:=zM9 c.has c.h z5
  obtain⟨a',_,_,sa,_⟩:=hN1.icyk wN1 (k:=11) (by omega)
  obtain⟨rc,⟨r2,_,hr2⟩,_⟩:=zGO (fuel:=fuel) (d:=0) (v:=c.h.lb) (zKO sa) (by omega) hf (fun x hx=>by have:=hd x hx;omega)
  rw[g0] at hr2
  simp only[if_true] at hr2
  have hafok:(zDV c.has c.h.lb kk).ok:=by
   rcases left_at z3 with⟨_,e⟩ | ⟨_,c',f1,f2⟩
   ·rw[e];exact Eid.z_ok
   ·rw[<- f2];exact cells_ok hr2 c' (List.mem_of_getElem? f1)
  rw[hE0 h]
  exact⟨by show (0:Int)<=1/\(1:Int)<=255;decide,hh,by show (-9223372036854775808:Int)<=1/\(1:Int)<=9223372036854775807;decide,⟨⟨hh,by show -9223372036854775808<=zC3 c.has c.h/\zC3 c.has c.h<=9223372036854775807;omega⟩,by show -9223372036854775808<=((ofM t).length:Int)/\((ofM t).length:Int)<=9223372036854775807;omega⟩,hafok,Lb.z_ok,k3'⟩
 have kX0:=(((Kept.refl w0X).add (.row false (opR ⟨0,Hd.z,0,⟨Eid.z,0⟩,Eid.z,Lb.z,[]⟩ NIL))).upd (by omega) (by rw[s0X,<- zM1];exact Nat.le_refl _) (.row false (opR (inO c.has c.h 1 kk t) ra))).add (.row false (opR (inO c.has c.h 1 kk t) ra))
 by_cases q:inE c.has c.h 1 kk t=0
 ·rw[q]
  have eone:(inO c.has c.h 1 kk t).one=inO c.has c.h 1 kk t:=by rw[hE0 q];rfl
  have hfit:zSB c.has (inO c.has c.h 1 kk t).one=0:=by rw[eone,hE0 q];exact(hlaw q).2.2.1
  refine ziA (d:=d+3) (O:=O) (B:=B) (D:=D) (c:=c) (o:=o) (m:=m) (dn:=dn) (p:=p) (e:=inO c.has c.h 1 kk t) (ra:=ra) (i:=M1.size+1) hra (hopk q) ?_ (h0X.keep fun j h hj=>kX0.get j hj) (fun j h=>⟨(hxo j h).1, ?_⟩) (by omega) hp ?_ hfit (by omega) kX0.wf ?_ fun p' N D' hS gx hOw hD'=>?_
  ·rw[kX0.get x (by omega)];exact gx0
  ·exact Nat.lt_of_lt_of_le (hxo j h).2 (Nat.le_trans l0X kX0.le)
  ·exact zAE ((w0X.add _).upd _ _) _ _ (by rw[zA7,zA2,s0X,<- zM1];exact Nat.le_refl _) (by rw[zA7,zA2,s0X,<- zM1];exact Nat.lt_succ_self _)
  ·exact Nat.le_trans (Nat.le_of_eq (kX0.wm.trans m0X)) (Nat.le_trans hw (Nat.le_trans l0X kX0.le))
  ·rw[eone] at gx hOw
   simp (disch:=try exact SX) only[RV,seval]
   refine k q p' N D' ⟨hS.wf,Nat.le_trans (Nat.le_trans l0X kX0.le) hS.le,fun j hj hE=>?_,hS.wm.trans (kX0.wm.trans m0X)⟩ gx hOw fun j h=>(hD' j h).imp (fun h=>h) fun h=>⟨Nat.le_trans (Nat.le_trans l0X kX0.le) h.1,h.2⟩
   exact(hS.get j (Nat.lt_of_lt_of_le hj (Nat.le_trans l0X kX0.le)) hE).trans ((kX0.get j (Nat.lt_of_lt_of_le hj l0X)).trans (hgt j hj fun h=>hE (h.elim (fun h => .inl h) fun h => .inr (.inl h.1))))
 ·refine zf3 (d:=d+3) q rfl ?_
  simp (disch:=try exact SX) only[RV,seval]
  refine k0 q _ ⟨kX0.wf,Nat.le_trans l0X kX0.le,fun j hj hE=>?_,kX0.wm.trans m0X⟩
  exact(kX0.get j (Nat.lt_of_lt_of_le hj l0X)).trans (hgt j hj fun h=>hE (h.elim (fun h => .inl h) fun h => .inr (.inl h.1)))
def Cl.z:Cl:=⟨Hd.z,0,⟨0,0,[],0,0,false⟩,0,0,[],[],[],false,0,false,0,0,0,0,0,0,0,0,0,0⟩
theorem Cl.z_is:IsC Cl.z NIL NIL NIL NIL:=⟨.inl ⟨rfl,rfl⟩,.inl ⟨rfl,rfl⟩,.inl ⟨rfl,rfl⟩,.inl ⟨rfl,rfl⟩⟩
def cinE (c:Cl)(k:Int)(t:List UInt8):Int:=if c.may then inE c.has c.h 1 k t else 8
def cinC (c:Cl)(k:Int)(t:List UInt8):Cl:=if cinE c k t=0 then c.push (inO c.has c.h 1 k t) else Cl.z
theorem zcD {a b:Nat}{t:List UInt8}{kk:Int}(h:IsC c o m dn p)(ha:M.get a=some (.row false [I64 kk]))(hb:M.get b=some (.row false [STR t]))(hl:c.has.length<=36)(hp:c.pend.length<=20)(htl:t.length<=300)(hok:∀ x∈c.has,x.ok)(hh:c.h.ok)(hd:∀ x∈c.has,x.rs.length<=1000)(hf:3200000<fuel)(wf:Wf M)(hw:M.wm<=M.size)
  (k0:cinE c kk t≠0 -> ∀ N,Wf N->M.size<=N.size->(∀ j,j<M.size->N.get j=M.get j)->Q (.tup [.agg (clR Cl.z NIL NIL NIL NIL),I64 (cinE c kk t)]) N)
  (k:cinE c kk t=0 -> ∀ o m dn p N O B D,Wf N->M.size<=N.size->(∀ j,j<M.size->N.get j=M.get j)->OwnC N O B D (cinC c kk t) o m dn p->(∀ j,O j∨B j∨D j->M.size<=j)->Q (.tup [.agg (clR (cinC c kk t) o m dn p),I64 0]) N) :
  W3 (zCN fuel (d+24) 17 [.agg (clR c o m dn p),.fn 18 [] [.ptr a 0,.ptr b 0]] M) Q:=by
 have hlh:c.has.length=c.mine.length+c.done.length+c.pend.length:=by unfold Cl.has;rw[List.length_append,List.length_append]
 have om:=h.hm.one
 have od:=h.hd.one
 have op:=h.hp.one
 have oo:=h.ho.one
 have la:=Mem.get_lt ha
 have lb:=Mem.get_lt hb
 refine zAT tf17 rfl (by simp [a17]) fun b' ht hx=>?_
 obtain⟨h0,h1⟩:=hx2 hx
 clear hx
 simp only[a17,c17] at ht ⊢
 unfold clR at h0
 simp (disch:=try exact SX) only[RV,seval,h0]
 have kX:=((Kept.refl wf).add (.row false (clL c o m dn p))).add (.row false [U8 0,U32 0,U8 0,I64 0,I64 0,I64 0,NIL,I64 0,I64 0,BL false,U8 0,I64 0,NIL,NIL,NIL,BL false,I64 0,BL false,U8 0,I64 0,I64 0,I64 0,I64 0,I64 0,I64 0,I64 0,I64 0,I64 0])
 have gR:((M.add (.row false (clL c o m dn p))).add (.row false [U8 0,U32 0,U8 0,I64 0,I64 0,I64 0,NIL,I64 0,I64 0,BL false,U8 0,I64 0,NIL,NIL,NIL,BL false,I64 0,BL false,U8 0,I64 0,I64 0,I64 0,I64 0,I64 0,I64 0,I64 0,I64 0,I64 0])).get (M.size+1)=some (.row false [U8 0,U32 0,U8 0,I64 0,I64 0,I64 0,NIL,I64 0,I64 0,BL false,U8 0,I64 0,NIL,NIL,NIL,BL false,I64 0,BL false,U8 0,I64 0,I64 0,I64 0,I64 0,I64 0,I64 0,I64 0,I64 0,I64 0]):=zAE (wf.add _) _ _ (Nat.le_refl _) (Nat.lt_succ_self _)
 have sX:((M.add (.row false (clL c o m dn p))).add (.row false [U8 0,U32 0,U8 0,I64 0,I64 0,I64 0,NIL,I64 0,I64 0,BL false,U8 0,I64 0,NIL,NIL,NIL,BL false,I64 0,BL false,U8 0,I64 0,I64 0,I64 0,I64 0,I64 0,I64 0,I64 0,I64 0,I64 0])).size=M.size+2:=rfl
 generalize ((M.add (.row false (clL c o m dn p))).add (.row false [U8 0,U32 0,U8 0,I64 0,I64 0,I64 0,NIL,I64 0,I64 0,BL false,U8 0,I64 0,NIL,NIL,NIL,BL false,I64 0,BL false,U8 0,I64 0,I64 0,I64 0,I64 0,I64 0,I64 0,I64 0,I64 0,I64 0]))=X at *
 have wX:=kX.wf
 have gXa:=(kX.get a la).trans ha
 have gXb:=(kX.get b lb).trans hb
 refine cof_0 (d:=d+6) h (by omega) (by omega) (by omega) hd (by omega) wX (kX.wml hw) (fun hm N kN=>?_) (fun hm o' m' dn' p' x N O B D kN hO hBD lx1 lx2 gx=>?_)
 ·have he:cinE c kk t=8:=by unfold cinE;rw[hm];rfl
  have gN:=(kN.get (M.size+1) (by omega)).trans gR
  have wN:=kN.wf
  have lR:=Mem.get_lt gN
  have kM:=kX.trans kN
  simp (disch:=try exact SX) only[RV,seval,zAB,gN]
  rw[he] at k0
  refine k0 (by decide) _ (wN.upd _ _) (by rw[zA7];exact kM.le) fun j hj=>?_
  rw[zA0 wN _ _ _ (by omega),kM.get j hj]
 ·have he:cinE c kk t=inE c.has c.h 1 kk t:=by unfold cinE;rw[hm];rfl
  have gN:=(kN.get (M.size+1) (by omega)).trans gR
  have wN:=kN.wf
  have lR:=Mem.get_lt gN
  have kM:=kX.trans kN
  have ga:=(kM.get a la).trans ha
  have gb:=(kM.get b lb).trans hb
  simp (disch:=try exact SX) only[RV,seval,h1]
  refine zcF (d:=d+1) gx ga gb hO (fun j h=>by have:=hBD j h;constructor <;> omega) hl hp htl hok hh hd hf wN (kM.wml hw) (fun hne N2 hS=>?_) (fun heq p2 N2 D2 hS gx2 hO2 hD2=>?_)
  ·have gN2:=(hS.get (M.size+1) lR (fun h=>by
    rcases h with h | h | h
    ·have:=hBD _ (.inr (.inl h));omega
    ·have:=hBD _ (.inr (.inr h));omega
    ·omega)).trans gN
   have wN2:=hS.wf
   have lR2:=Mem.get_lt gN2
   have hne':=decide_eq_false hne
   simp (disch:=try exact SX) only[RV,seval,zAB,hne',gN2]
   rw[he] at k0
   refine k0 hne _ (wN2.upd _ _) (by rw[zA7];exact Nat.le_trans kM.le hS.le) fun j hj=>?_
   exact zB0c
  ·have gN2:=(hS.get (M.size+1) lR (fun h=>by
    rcases h with h | h | h
    ·have:=hBD _ (.inr (.inl h));omega
    ·have:=hBD _ (.inr (.inr h));omega
    ·omega)).trans gN
   have wN2:=hS.wf
   have lR2:=Mem.get_lt gN2
   have oo2:=hO2.ho.one
   have om2:=hO2.hm.one
   have od2:=hO2.hd.one
   have op2:=hO2.hp.mr.one
   have gx3:=gx2
   unfold clR at gx3
   have lx3:=Mem.get_lt gx2
   simp (disch:=try exact SX) only[RV,seval,gN2,gx3]
   rw[he] at k
   have ec:cinC c kk t=c.push (inO c.has c.h 1 kk t):=by unfold cinC;rw[he,if_pos heq]
   rw[ec] at k
   have hne2:∀ j,O j∨B j∨D2 j->M.size+1≠j:=fun j h=>by
    exact zB0d
   refine k heq o' m' dn' p2 _ O B D2 (wN2.upd _ _) (by rw[zA7];exact Nat.le_trans kM.le hS.le) (fun j hj=>?_) (hO2.keep fun j h hj=>zA0 wN2 _ _ _ (hne2 j h)) (fun j h=>?_)
   ·exact zB0c
   ·exact zB0d
def cinK (c:Cl)(k:Int)(t:List UInt8)(r:AV):Prop:=∃ o m dn p,r = .tup [.agg (clR (cinC c k t) o m dn p),I64 (cinE c k t)]/\IsC (cinC c k t) o m dn p
theorem OwnC.frz (h:OwnC M O B D c o m dn p):∃ o' m' dn' p',IsC c o' m' dn' p'/\Go.Ax.frz M 0 11 o=some o'/\Go.Ax.frz M 0 11 m=some m'/\Go.Ax.frz M 0 11 dn=some dn'/\Go.Ax.frz M 0 11 p=some p':=by
 obtain⟨ro,h1,h2⟩:=zeM h.ho zQF
 obtain⟨m',z1,s1⟩:=h.hm.frz (k:=10) (by omega)
 obtain⟨dn',z2,s2⟩:=h.hd.frz (k:=10) (by omega)
 obtain⟨p',z3,s3⟩:=h.hp.mr.frz (k:=10) (by omega)
 exact⟨ro,m',dn',p',⟨h1,s1,s2,s3⟩,h2 M (fun _ _=>rfl),z1,z2,z3⟩
theorem zOR {t:List UInt8}{kk:Int}(h:IsC c o m dn p)(hl:c.has.length<=36)(hp:c.pend.length<=20)(htl:t.length<=300)(hok:∀ x∈c.has,x.ok)(hh:c.h.ok)(hd:∀ x∈c.has,x.rs.length<=1000)(hf:3200000<fuel) :
  ∃ r,cinK c kk t r /\ ∀ M,zCN fuel (d+25) 6 [.agg (clR c o m dn p),I64 kk,STR t] M=some (r,M):=by
 have om:=h.hm.one
 have od:=h.hd.one
 have op:=h.hp.one
 have oo:=h.ho.one
 refine zF9 tf6 rfl (fun M=>by simp only[icyL,zAP (zGT h) (show 1<12 by omega),zF1]) ?_
 refine zAD tf6 rfl (by simp only[icyL,zAP (zGT h) (show 1<12 by omega),zF1]) (by simp [a6]) fun b' ht hx=>?_
 obtain⟨h0,h1,h2⟩:=hx3 hx
 clear hx
 simp only[a6,c6] at ht ⊢
 unfold clR at h0
 simp (disch:=try exact SX) only[RV,seval,h0,h1,h2]
 refine zcD (d:=d) (kk:=kk) (t:=t) h (by simp (disch:=try exact SX) only[RV,seval]) (by simp (disch:=try exact SX) only[RV,seval]) hl hp htl hok hh hd hf (by simp (disch:=try exact SX) only[RV,seval]) (Nat.zero_le _) (fun he N wN le kN=>?_) (fun he o' m' dn' p' N O B D wN le kN hO hge=>?_)
 ·have g3:=kN 3 (by simp (disch:=try exact SX) only[RV,seval])
  simp (disch:=try exact SX) only[RV,seval] at g3
  have l3:=Mem.get_lt g3
  unfold clR
  have ec:cinC c kk t=Cl.z:=by unfold cinC;rw[if_neg he]
  unfold cinK
  rw[ec]
  unfold Cl.z
  simp (disch:=try exact SX) only[RV,seval,g3]
  exact⟨_,⟨NIL,NIL,NIL,NIL,rfl,Cl.z_is⟩,rfl⟩
 ·have g3:=kN 3 (by simp (disch:=try exact SX) only[RV,seval])
  simp (disch:=try exact SX) only[RV,seval] at g3
  have l3:=Mem.get_lt g3
  have hO':OwnC (N.upd 3 (.row false (clL (cinC c kk t) o' m' dn' p'))) O B D (cinC c kk t) o' m' dn' p':=hO.keep fun j h hj=>zA0 wN _ _ _ (by have:=hge j h;simp only[zA2,zAH] at this;omega)
  have oo':=hO.ho.one
  have om':=hO.hm.one
  have od':=hO.hd.one
  have op':=hO.hp.mr.one
  obtain⟨zo,zm,zd,zp,hI,f0,f1,f2,f3⟩:=hO'.frz
  unfold clR
  simp (disch:=try exact SX) only[RV,seval,g3,f0,f1,f2,f3]
  unfold cinK
  rw[he]
  exact⟨_,⟨zo,zm,zd,zp,rfl,hI⟩,rfl⟩
theorem zMN {a b:AV}{l m:List CellV}(ha:Sl 5 zDE a l)(hb:Sl 5 zDE b m)(hf:l.length<fuel)(hl:l.length<=1000000000)(M:Mem) :
  zCN fuel (d+1) 9 [a,b] M=some (BL (decide (l=m)),M):=by
 have hla:=ha.len
 have hlb:=hb.len
 apply zB1
 refine zAD tf9 rfl (by simp only[icyL,fun M=>ha.icy M 12 (by omega),fun M=>hb.icy M 12 (by omega)]) (by simp [a9]) fun b' ht hx=>?_
 obtain⟨h0,h1⟩:=hx2 hx
 clear hx
 simp only[a9,c9] at ht ⊢
 by_cases hll:l.length=m.length
 ·have q1:decide ((l.length:Int)=m.length)=true:=by simp;omega
  simp (disch:=try exact SX) only[RV,seval,h0,h1,hla,hlb,q1]
  refine zBB (I:=fun n t N => ∃ (i:Nat),n=l.length - i/\i<=l.length/\nth zA3 t 0=a/\nth zA3 t 1=b/\nth zA3 t 5=I64 i/\l.take i=m.take i) (n:=l.length) (by omega) ?_ ?_
  ·refine⟨0,rfl,Nat.zero_le _, ?_, ?_, ?_,rfl⟩ <;> simp (disch:=try exact SX) only[RV,seval,h0,h1]
   all_goals first | rfl | assumption | done
  ·rintro n t N hlt ⟨i,rfl,hi,g0,g1,g5,tk⟩
   simp only[ht] at hlt ⊢
   by_cases hlt':i<l.length
   ·have hc':decide ((i:Int)<l.length)=true:=by simp;omega
    have hmt:i<m.length:=by omega
    have w1:IntKind.i64.wrap ((i:Int)+1)=((i+1:Nat):Int):=WI
    obtain⟨r,hr,⟨rfl,_⟩,_⟩:=ha.iad i hlt'
    obtain⟨r2,hr2,⟨rfl,_⟩,_⟩:=hb.iad i hmt
    by_cases he:l[i]=m[i]
    ·have q2:decide (l[i]=m[i])=true:=by simp [he]
     simp (disch:=try exact SX) only[RV,seval,g0,g1,g5,hla,hc',hr,hr2,w1,↓pCeN,zH2,ETA,CellV.eta,q2]
     exact zB0g
    ·have q2:decide (l[i]=m[i])=false:=by simp [he]
     simp (disch:=try exact SX) only[RV,seval,g0,g1,g5,hla,hc',hr,hr2,↓pCeN,zH2,ETA,CellV.eta,q2]
     exact zB0u
   ·have hc':decide ((i:Int)<l.length)=false:=by simp;omega
    simp (disch:=try exact SX) only[RV,seval,g0,g5,hla,hc']
    exact zB0e
 ·exact zB0a
theorem Cl.may_z (h:c.may=true):zF2 c.has c.h.lb=0/\zAS [] c.has=true/\c.h.may=true:=by
 unfold Cl.may Cl.lst at h
 simp only[Bool.and_eq_true] at h
 obtain⟨⟨⟨h1,h2⟩,h3⟩,h4⟩:=h
 have h5:=h1
 unfold Hd.may at h5
 simp only[Bool.and_eq_true] at h5
 refine⟨?_,h3.2,h1⟩
 unfold zF2
 rw[h3.2,h5.1]
 rfl
def zPF (c:Cl):List CellV:=if zF2 c.mine c.h.lb=0 then zBV c.mine c.h.lb else []
theorem zN7 (h:IsC c o m dn p)(hm:c.may=true)(hl:c.has.length<=40)(hd:∀ x∈c.has,x.rs.length<=1000)(hf:3200000<fuel) :
  ∃ r,(∃ a b,r = .tup [a,b,I64 0]/\Sl 5 zDE a (zBV c.has c.h.lb)/\Sl 5 zDE b (zPF c)) /\ ∀ M,zCN fuel (d+19) 7 [.agg (clR c o m dn p)] M=some (r,M):=by
 have om:=h.hm.one
 have od:=h.hd.one
 have op:=h.hp.one
 have oo:=h.ho.one
 obtain⟨z1,z2,z3⟩:=Cl.may_z hm
 have hlh:c.has.length=c.mine.length+c.done.length+c.pend.length:=by unfold Cl.has;rw[List.length_append,List.length_append]
 have hmem:∀ x∈c.mine,x∈c.has:=fun x hx=>by unfold Cl.has;simp [hx]
 have hmp:∀ x∈c.pend,x∈c.has:=fun x hx=>by unfold Cl.has;simp [hx]
 have hck:=fun M=>zHE (fuel:=fuel) (d:=d+2) h (by omega) (by omega) (by omega) (by omega) (fun x hx=>hd x (hmp x hx)) M
 rw[hm] at hck
 unfold clR at hck
 obtain⟨r2,⟨a2,rfl,s2⟩,hc2⟩:=zGO (fuel:=fuel) (d:=d) (v:=c.h.lb) h.hm (by omega) hf (fun x hx=>by have:=hd x (hmem x hx);omega)
 have o2:=s2.one
 refine zF9 tf7 rfl (fun M=>by simp only[icyL,zAP (zGT h) (show 1<12 by omega)]) ?_
 refine zAD tf7 rfl (by simp only[icyL,zAP (zGT h) (show 1<12 by omega)]) (by simp [a7]) fun b' ht hx=>?_
 have h0:=hx 0 _ rfl
 clear hx
 simp only[a7,c7] at ht ⊢
 unfold clR at h0
 simp (disch:=try exact SX) only[RV,seval,h0,hck,zAU]
 have g0:(mem0.add (.row false (clL c o m dn p))).get 0=some (.row false (clL c o m dn p)):=by simp (disch:=try exact SX) only[RV,seval]
 have wA:Wf (mem0.add (.row false (clL c o m dn p))):=Wf.mem0.add _
 have sA:(mem0.add (.row false (clL c o m dn p))).size=1:=rfl
 generalize (mem0.add (.row false (clL c o m dn p)))=A at *
 refine zQG (d:=d+15) (B:=fun _=>False) oo (.inl h.hm) (.inl h.hd) (.inl h.hp) (by omega) (by omega) (by omega) (by omega) (by rw[zDQ];exact wA) (Nat.le_refl _) fun o1 N1 k1 hN1 r1=>?_
 have e1:N1.dirty=false:=k1.di
 have wN1:=k1.wf
 have on1:=hN1.one
 have g1:=(k1.get 0 (by rw[zAV];omega)).trans ((zDF _ _).trans g0)
 have l1:0<N1.size:=Mem.get_lt g1
 have lA:0<A.size:=by omega
 simp (disch:=try exact SX) only[RV,seval,e1,g1,zBD,zGJ]
 refine NK.MR.hand (K:=opK) (n:=d+17) (l:=c.has) (rest:=[lbA c.h.lb]) (R:=zTZ c.has c.h.lb) tf22 rfl (hN1.keep fun _ _ _=>rfl) (by rw[zDQ,zEZ];exact wN1) (fun M=>by simp only[icyL,zAP (zEA c.h.lb) (show 1<12 by omega)]) (fun o' ho'=>zGO (fuel:=fuel) (d:=d) (v:=c.h.lb) (zKO ho') (by omega) hf (fun x hx=>by have:=hd x hx;omega)) fun r M1 hr wM1 zM1 rM1 gM1 mM1 _=>?_
 obtain⟨a1,rfl,s1⟩:=hr
 rw[z1,if_pos rfl] at s1
 rw[z1]
 have o1':=s1.one
 have gB:M1.get 0=_:=(gM1 0 (fun h=>h.elim (fun h=>h) fun h=>by rw[zAV] at h;omega)).trans ((zDF _ _).trans ((zFX _ _ _).trans g1))
 simp only[zAV,zB5] at zM1
 simp (disch:=try exact SX) only[RV,seval,gB,zBD,s1.fz.frz,hc2,s2.fz.frz]
 exact⟨_,⟨a1,a2,rfl,s1,s2⟩,rfl⟩
theorem zSE (e:End)(ae:AV)(he:zXE ae e)(hf:1000<fuel):∃ g:Bool,∀ M,zCN fuel (d+1) 16 [ae] M=some (BL g,M):=by
 have he':=he
 obtain⟨o,rfl,hS⟩:=he
 have hlen:=hS.len
 have key:W3 (zCN fuel (d+1) 16 [.agg [I64 e.ep,I64 e.nx,o,I64 e.want,I64 e.since,BL e.owe]] mem0) (fun r N => ∃ g:Bool,r=BL g):=by
  refine zAD tf16 rfl (by simp (disch:=try exact SX) only[RV,seval,hS.icy]) (by simp [a16]) fun b ht hx=>?_
  have h0:=hx 0 _ rfl
  clear hx
  simp only[a16,c16] at ht ⊢
  simp (disch:=try exact SX) only[RV,seval, *]
  refine zBB (I:=fun n t M => ∃ (i:Nat) (s:Int),i<=50/\n=50 - i/\0<=s/\s<=10000*i/\nth zA3 t 1 = .ptr 0 0/\nth zA3 t 3=I64 s/\nth zA3 t 4=I64 i /\
   Wf M/\0<M.size/\M.get 0=some (.row false [I64 e.ep,I64 e.nx,o,I64 e.want,I64 e.since,BL e.owe])) (n:=50) (by omega) ?_ ?_
  ·refine⟨0,0,by omega,by omega,by omega,by omega, ?_, ?_, ?_, ?_, ?_, ?_⟩
   all_goals try simp (disch:=try exact SX) only[RV,seval, *]
   all_goals try rfl
  ·rintro n t N hl ⟨i,s,hi,hn,hs1,hs2,g1,g3,g4,wf,ms,m0⟩
   simp only[ht] at hl ⊢
   clear h0 ht b
   have w1:IntKind.i64.wrap ((i:Int)+1)=((i+1:Nat):Int):=WI
   by_cases hlt:i<e.out.length
   ·have hc:decide ((i:Int)<e.out.length)=true:=by simp;omega
    by_cases h50:i<50
    ·have hc2:decide ((i:Int)<50)=true:=by simp;omega
     obtain⟨r,hr,⟨ab,rfl,hb⟩,hrl⟩:=hS.iad i hlt
     have hbl:=hb.len
     have w2:IntKind.i64.wrap (s+if (10000:Int)<(e.out[i].body.length:Int) then 10000 else (e.out[i].body.length:Int))=s+if (10000:Int)<(e.out[i].body.length:Int) then 10000 else (e.out[i].body.length:Int):=by rw[wrap_i64] <;> split <;> omega
     simp (disch:=try exact SX) only[RV,seval, *]
     refine⟨50 - (i+1),by omega,i+1,_,by omega,rfl, ?_, ?_,rfl,rfl⟩ <;> split <;> omega
    ·have hc2:decide ((i:Int)<50)=false:=by simp;omega
     (simp (disch:=try exact SX) only[RV,seval, *])
     repeat' (first | (refine zDB _ _ _ _ _ _ _ (fun hg=>?_) (fun hg=>?_) <;> (try simp (disch:=try exact SX) only[RV,seval, *])) | (refine zDM (fun hg=>?_) (fun hg=>?_) <;> (try simp (disch:=try exact SX) only[RV,seval,zAB, *])) | (refine zDO _ _ _ _ _ _ _ _ (fun hg=>?_) (fun hg=>?_) <;> (try simp (disch:=try exact SX) only[RV,seval,zAB, *])))
     all_goals exact⟨_,rfl⟩
   ·have hc:decide ((i:Int)<e.out.length)=false:=by simp;omega
    (simp (disch:=try exact SX) only[RV,seval, *])
    repeat' (first | (refine zDB _ _ _ _ _ _ _ (fun hg=>?_) (fun hg=>?_) <;> (try simp (disch:=try exact SX) only[RV,seval, *])) | (refine zDM (fun hg=>?_) (fun hg=>?_) <;> (try simp (disch:=try exact SX) only[RV,seval,zAB, *])) | (refine zDO _ _ _ _ _ _ _ _ (fun hg=>?_) (fun hg=>?_) <;> (try simp (disch:=try exact SX) only[RV,seval,zAB, *])))
    all_goals exact⟨_,rfl⟩
 obtain⟨r,N,hc,g,rfl⟩:=key
 have hi:∀ M,icyL (icy 12) M [.agg [I64 e.ep,I64 e.nx,o,I64 e.want,I64 e.since,BL e.owe]]=some ([.agg [I64 e.ep,I64 e.nx,o,I64 e.want,I64 e.since,BL e.owe]],M):=fun M=>by simp (disch:=try exact SX) only[RV,seval,hS.icy]
 exact⟨g,fun M=>zDX tf16 rfl hc (hi mem0) (hi M)⟩
end Go.Proofs.YtliicocdhkcanaaGreat
