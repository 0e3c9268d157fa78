/-
  Texts joined: TrG TrH TrI RlB SbO RgD TwC RgE SaZ SwK SwP RgF SwQ TpH RiA RiB RiC RiD SbF RmC RmF TrJ TrK.
-/
import Derived.Test.YtlmeadmpldjdaaaGreatEg
import Derived.Test.YtlmeadmpldjdaaaGreatPb
set_option linter.unusedSimpArgs false
set_option linter.unusedVariables false
set_option maxHeartbeats 64000000
set_option maxRecDepth 100000
namespace Go.Proofs.YtlmeadmpldjdaaaGreat
open Go Go.Ax
variable {fuel : Nat} {M : Mem} {Q : AV → Mem → Prop} {d : Nat}
def cO1:ACode:=(.seq (.region [⟨some 5,.alloc 29 (.agg #[(.int .u8 0),(.int .u32 0),(.int .u8 0),(.int .i64 0)]),none,[]⟩,⟨none,.store 4 (.tmp 5) (.tmp 12),none,[]⟩] false) (.region [⟨some 6,.alloc 29 (.agg #[(.int .u8 0),(.int .u32 0),(.int .u8 0),(.int .i64 0)]),none,[]⟩,⟨none,.store 4 (.tmp 6) (.tmp 13),none,[]⟩] false))
def cO2:ACode:=(.block 1 (.scope (.seq (.region [⟨some 7,.alloc 29 (.agg #[(.int .u8 0),(.int .u32 0),(.int .u8 0),(.int .i64 0)]),none,[]⟩] false) (.seq .label (.seq (.block 2 (.loop (.seq (.seq (.region [⟨some 14,.load 1 false (.tmp 3),none,[]⟩,⟨some 15,.len (.tmp 14),none,[]⟩,⟨some 16,.pur (mkO (.binOp .gtr 3 (.tmp 15) (.const (.int .i64 0)) 3) 4),none,[]⟩] false) (.cond (.tmp 16) .skip (.exit 2))) (.block 3 (.seq (.region [⟨some 17,.load 1 false (.tmp 3),none,[]⟩,⟨some 18,.load 1 false (.tmp 3),none,[]⟩,⟨some 19,.len (.tmp 18),none,[]⟩,⟨some 20,.pur (mkO (.binOp .sub 3 (.tmp 19) (.const (.int .i64 1)) 3) 3),none,[]⟩,⟨some 21,.iad 4 (.tmp 17) (.tmp 20),none,[]⟩,⟨some 22,.load 4 true (.tmp 21),none,[]⟩,⟨some 8,.alloc 29 (.agg #[(.int .u8 0),(.int .u32 0),(.int .u8 0),(.int .i64 0)]),none,[]⟩,⟨none,.store 4 (.tmp 8) (.tmp 22),none,[]⟩] false) (.seq (.seq (.region [⟨some 23,.load 4 true (.tmp 8),none,[]⟩,⟨some 24,.load 4 true (.tmp 6),none,[]⟩,⟨some 25,.pur (mkO (.binOp .eql 29 (.tmp 23) (.tmp 24) 29) 4),none,[]⟩] false) (.cond (.tmp 25) (.exit 2) .skip)) (.region [⟨some 26,.load 4 true (.tmp 8),none,[1,2,3,4,5]⟩,⟨some 27,.load 1 false (.tmp 3),none,[0,2,3,4,6]⟩,⟨some 28,.load 1 false (.tmp 3),none,[0,1,6]⟩,⟨some 29,.len (.tmp 28),none,[0,1,6]⟩,⟨some 30,.pur (mkO (.binOp .sub 3 (.tmp 29) (.const (.int .i64 1)) 3) 3),none,[0,1,6]⟩,⟨some 31,.slc 4 (.tmp 27) none (some (.tmp 30)) none,none,[0,6]⟩,⟨none,.store 4 (.tmp 7) (.tmp 26),none,[1,2,3,4,5]⟩,⟨none,.store 1 (.tmp 3) (.tmp 31),none,[]⟩] true))))))) (.seq (.seq (.region [⟨some 32,.load 1 false (.tmp 3),none,[]⟩,⟨some 33,.len (.tmp 32),none,[]⟩,⟨some 34,.pur (mkO (.binOp .eql 3 (.tmp 33) (.const (.int .i64 0)) 3) 4),none,[]⟩,⟨some 35,.mov (.tmp 34),none,[]⟩,⟨some 36,.load 4 true (.tmp 6),some (35,true),[]⟩,⟨some 37,.build (.agg #[(.int .u8 0),(.int .u32 0),(.int .u8 0),(.int .i64 0)]) [],some (35,true),[]⟩,⟨some 38,.pur (mkO (.binOp .neq 29 (.tmp 36) (.tmp 37) 29) 4),some (35,true),[]⟩,⟨some 39,.pick (.tmp 35) (.tmp 38) (.const (.bool false)),none,[]⟩,⟨some 40,.mov (.tmp 39),none,[]⟩,⟨some 41,.load 4 true (.tmp 7),some (40,false),[]⟩,⟨some 42,.build (.agg #[(.int .u8 0),(.int .u32 0),(.int .u8 0),(.int .i64 0)]) [],some (40,false),[]⟩,⟨some 43,.pur (mkO (.binOp .neq 29 (.tmp 41) (.tmp 42) 29) 4),some (40,false),[]⟩,⟨some 44,.mov (.tmp 43),some (40,false),[]⟩,⟨some 45,.load 4 true (.tmp 5),some (44,true),[]⟩,⟨some 46,.load 4 true (.tmp 7),some (44,true),[]⟩,⟨some 47,.call (.func 47) [(.tmp 45),(.tmp 46)],some (44,true),[]⟩,⟨some 48,.pur (mkO (.unOp .not 4 (.tmp 47)) 4),some (44,true),[]⟩,⟨some 49,.pick (.tmp 44) (.tmp 48) (.const (.bool false)),some (40,false),[]⟩,⟨some 50,.pick (.tmp 40) (.const (.bool true)) (.tmp 49),none,[]⟩,⟨some 51,.mov (.tmp 50),none,[]⟩,⟨some 52,.load 1 false (.tmp 4),some (51,false),[]⟩,⟨some 53,.load 4 true (.tmp 5),some (51,false),[]⟩,⟨some 54,.lookup 29 (.int .i64 0) (.tmp 52) (.tmp 53) false,some (51,false),[]⟩,⟨some 55,.pur (mkO (.binOp .gtr 3 (.tmp 54) (.const (.int .i64 0)) 3) 4),some (51,false),[]⟩,⟨some 56,.pick (.tmp 51) (.const (.bool true)) (.tmp 55),none,[]⟩] false) (.cond (.tmp 56) (.seq (.region [⟨none,.store 1 (.tmp 2) (.const (.bool false)),none,[]⟩] false) .ret) .skip)) (.seq (.region [⟨some 57,.load 1 false (.tmp 4),none,[]⟩,⟨some 58,.load 4 true (.tmp 5),none,[]⟩,⟨none,.mupd 29 (.tmp 57) (.tmp 58) (.const (.int .i64 1)),none,[]⟩] false) (.region [⟨some 59,.load 1 false (.tmp 3),none,[]⟩,⟨some 60,.load 4 true (.tmp 5),none,[]⟩,⟨some 61,.bsl 29 4 (.agg #[(.int .u8 0),(.int .u32 0),(.int .u8 0),(.int .i64 0)]) 1 [(0,4,(.tmp 60))],none,[]⟩,⟨some 62,.app 29 4 24 (.agg #[(.int .u8 0),(.int .u32 0),(.int .u8 0),(.int .i64 0)]) (.tmp 59) (.tmp 61),none,[]⟩,⟨none,.store 1 (.tmp 3) (.tmp 62),none,[]⟩] false))))))))
structure OI (tm:List AV) (pre:List (Eid × Eid)) (O:Nat→Prop) (N:Mem):Prop where
 wf:Wf N
 sz:7≤N.size
 g0:N.get 0=some (.row false [BL false])
 g1:∃ o,N.get 1=some (.row false [o])∧SlP N 4 zF0 o (stk pre).reverse ∧ ∀ j,rowOf o=some j→O j∧7≤j
 g2:∃ obj,N.get 2=some obj∧zI4 idA (I64 1) obj (pre.map (·.1))
 g3:N.get 3=some (.row false [.mp 2])
 g5:N.get 5=some (.dfr false)
 g6:N.get 6=some (.loop .ready none tm [12,13] cO1 cO2 5)
 o1:O 1
 o2:O 2
 o6:O 6
 ol:∀ j,O j→j<N.size∧(j=1∨j=2∨6≤j)
 od:Ord pre
theorem OI.keep {tm:List AV}{pre:List (Eid × Eid)}{O:Nat→Prop}{N N':Mem}(h:OI tm pre O N)(wf:Wf N')(hs:N.size≤N'.size)(k:∀ j,j<N.size→N'.get j=N.get j):OI tm pre O N':=by
 have:=h.sz
 obtain⟨o,h1,h2,h3⟩:=h.g1
 obtain⟨obj,h4,h5⟩:=h.g2
 exact⟨wf,by omega,(k 0 (by omega)).trans h.g0,⟨o,(k 1 (by omega)).trans h1,h2.keep fun j hj=>k j (h2.lt j hj),h3⟩,⟨obj,(k 2 (by omega)).trans h4,h5⟩,(k 3 (by omega)).trans h.g3,(k 5 (by omega)).trans h.g5,(k 6 (by omega)).trans h.g6,h.o1,h.o2,h.o6,fun j hj=>⟨by have:=(h.ol j hj).1;omega,(h.ol j hj).2⟩,h.od⟩
structure OS (tm:List AV) (N:Mem):Prop where
 wf:Wf N
 sz:7≤N.size
 g0:N.get 0=some (.row false [BL false])
 g5:N.get 5=some (.dfr false)
 g6:N.get 6=some (.loop .done (some .ret) tm [12,13] cO1 cO2 5)
theorem zHZ:FzT zF0:=fun r x h y hy=>by
 obtain⟨rfl,_⟩:=h
 exact zCH x y hy
theorem zR1 (af:Eid):∀ (s:List Eid) (el:Eid),(popT af s el).2.length≤s.length
 | [],_=>Nat.le_refl _
 | t::s,el=>by
  rw[popT]
  split
  ·exact Nat.le_refl _
  ·exact Nat.le_trans (zR1 af s t) (Nat.le_succ _)
theorem zdQ (l:List (Eid × Eid)):(stk l).length≤l.length:=by
 refine zDA (P:=fun l=>(stk l).length≤l.length) (Nat.le_refl _) (fun l x ih=>?_) l
 rw[zEJ,List.length_cons,List.length_append]
 have:=zR1 x.2 (stk l) Eid.z
 simp only[List.length_singleton]
 omega
theorem z01:decide ((0:Int)<1)=true:=rfl
theorem z0lt:decide ((0:Int)<0)=false:=rfl
theorem zg6 {B:Nat}{tm:List AV}{pre:List (Eid × Eid)}{O:Nat→Prop}{x:Eid × Eid}(h:OI tm pre O M)(h2:nth zA1 tm 2 = .ptr 0 0)(h3':nth zA1 tm 3 = .ptr 1 0)(h4':nth zA1 tm 4 = .ptr 3 0)(hlen:tm.length=63)(hx:x.1.ok)(hn:pre.length≤100000)(hf:pre.length+10<fuel) :
  W3 (zAR Tryz.prog (fsT tbl) fuel (d+7) (.yl 6) [idA x.1,idA x.2] M) (fun v N'=>(v=BL true∧Yl (OI tm) (pre++[x]) O B M N')∨(v=BL false∧OS tm N'∧ordS x (stk pre) (pre.map (·.1))=false)):=by
 obtain⟨o,g1,sp,ro⟩:=h.g1
 obtain⟨obj,gm2,hset⟩:=h.g2
 have wf:=h.wf
 have sz:=h.sz
 have hsl:=zdQ pre
 have g0:=h.g0
 have g3:=h.g3
 have g6:=h.g6
 have oo:=sp.one
 refine zXA g6 rfl ?_
 have e1:zFT tm [12,13] [idA x.1,idA x.2]=St tm [(13,idA x.2),(12,idA x.1)]:=rfl
 rw[e1]
 unfold cO1 cO2
 simp (disch:=try exact SX) only[RV,seval,zA0,h2,h3',h4',wf]
 refine⟨tm,[12,13],_,_,5,g6, ?_⟩
 generalize hX:((((((M.add _).upd M.size _).add _).upd (M.size+1) _).upd 6 _).add _)=X
 have wX:Wf X:=by rw[← hX];exact((((((wf.add _).upd _ _).add _).upd _ _).upd _ _).add _)
 have sX:X.size=M.size+1+1+1:=by rw[← hX];rfl
 have gX:∀ j,j<M.size→j≠6→X.get j=M.get j:=fun j a b=>by
  rw[← hX,zAK (((((wf.add _).upd _ _).add _).upd _ _).upd _ _) _ _ (by simp only[zAH,zA6];omega),zA2 ((((wf.add _).upd _ _).add _).upd _ _) _ _ _ (fun e=>b e.symm),zA2 (((wf.add _).upd _ _).add _) _ _ _ (by omega),zAK ((wf.add _).upd _ _) _ _ (by simp only[zAH,zA6];omega),zA2 (wf.add _) _ _ _ (by omega),zAK wf _ _ a]
 have x6:X.get 6=some (.loop .busy none tm [12,13] cO1 cO2 5):=by
  rw[← hX,zAK (((((wf.add _).upd _ _).add _).upd _ _).upd _ _) _ _ (by simp only[zAH,zA6];omega),zAI ((((wf.add _).upd _ _).add _).upd _ _) _ _ (by simp only[zAH,zA6];omega)]
 have xa:X.get M.size=some (.row false (idR x.1)):=by
  rw[← hX,zAK (((((wf.add _).upd _ _).add _).upd _ _).upd _ _) _ _ (by simp only[zAH,zA6];omega),zA2 ((((wf.add _).upd _ _).add _).upd _ _) _ _ _ (by omega),zA2 (((wf.add _).upd _ _).add _) _ _ _ (by omega),zAK ((wf.add _).upd _ _) _ _ (by simp only[zAH,zA6];omega),zAI (wf.add _) _ _ (by simp only[zA6];omega)]
 have xb:X.get (M.size+1)=some (.row false (idR x.2)):=by
  rw[← hX,zAK (((((wf.add _).upd _ _).add _).upd _ _).upd _ _) _ _ (by simp only[zAH,zA6];omega),zA2 ((((wf.add _).upd _ _).add _).upd _ _) _ _ _ (by omega),zAI (((wf.add _).upd _ _).add _) _ _ (by simp only[zAH,zA6];omega)]
 have xc:X.get (M.size+1+1)=some (.row false (idR Eid.z)):=by
  rw[← hX]
  exact zAM (((((wf.add _).upd _ _).add _).upd _ _).upd _ _) _ _ (by simp only[zAH,zA6];omega) (by simp only[zAH,zA6];omega)
 clear hX
 have spX:SlP X 4 zF0 o (stk pre).reverse:=sp.keep fun j hj=>gX j (sp.lt j hj) (by have:=ro j hj;omega)
 refine zAZ (I:=fun n t N => ∃ (i:Nat) (o':AV),n=(stk pre).length - i∧i≤(stk pre).length∧nth zA1 t 2 = .ptr 0 0∧nth zA1 t 3 = .ptr 1 0∧nth zA1 t 4 = .ptr 3 0∧nth zA1 t 5 = .ptr M.size 0∧nth zA1 t 6 = .ptr (M.size+1) 0∧nth zA1 t 7 = .ptr (M.size+1+1) 0∧Wf N∧X.size≤N.size∧(∀ j,j<M.size→j≠1→N.get j=X.get j)∧N.get 1=some (.row false [o'])∧SlP N 4 zF0 o' ((stk pre).drop i).reverse∧rowOf o'=rowOf o∧N.get M.size=some (.row false (idR x.1))∧N.get (M.size+1)=some (.row false (idR x.2))∧N.get (M.size+1+1)=some (.row false (idR (((stk pre).take i).getLast?.getD Eid.z)))∧(∀ t∈(stk pre).take i,t≠x.2)) (n:=(stk pre).length) (by omega) ?_ ?_
 ·refine⟨0,o,rfl,Nat.zero_le _, ?_, ?_, ?_, ?_, ?_, ?_,wX,Nat.le_refl _,(fun _ _ _=>rfl),((gX 1 (by omega) (by omega)).trans g1),(by rw[List.drop_zero];exact spX),rfl,xa,xb,(by rw[List.take_zero];exact xc),(fun t ht=>absurd ht (by simp))⟩ <;> simp (disch:=try exact SX) only[RV,seval,zA0,h2,h3',h4']
  all_goals first | rfl | assumption | done
 ·rintro n t N hlt ⟨i,o',rfl,hi,g2,g3,g4,g5,g6,g7,w,le,kk,c1,spN,ro',ca,cb,cc,hm⟩
  simp only[hlen] at hlt ⊢
  have olen:=spN.len
  have oo':=spN.one
  rw[List.length_reverse,List.length_drop] at olen
  have l1:=Mem.get_lt c1
  have la:=Mem.get_lt ca
  have lb:=Mem.get_lt cb
  have lc:=Mem.get_lt cc
  by_cases hc:i<(stk pre).length
  ·have q1:decide ((0:Int)<((stk pre).length - i:Nat))=true:=DT
   have hil:(stk pre).length - i - 1<((stk pre).drop i).reverse.length:=by rw[List.length_reverse,List.length_drop];omega
   obtain⟨rid,cs,r,hrow,lrid,hgr,hiad,hr,hrl,hpt⟩:=spN.at hil
   have w1:IntKind.i64.wrap (((stk pre).length - i:Nat) - 1)=((stk pre).length - i - 1:Nat):=WI
   obtain⟨oc,hslc,spc,roc⟩:=spN.cut (by omega) (n:=(stk pre).length - i - 1) (by omega)
   have hel:((stk pre).drop i).reverse[(stk pre).length - i - 1]=(stk pre)[i]:=by
    rw[List.getElem_reverse,List.getElem_drop]
    congr 1
    rw[List.length_drop];omega
   rw[hel] at hr
   obtain⟨rfl,hrok⟩:=hr
   simp (disch:=try exact SX) only[RV,seval,zA0,g2,g3,g4,g5,g6,g7,olen,q1,w1,c1,hiad,hgr,hpt,oo',ca,cb,cc,w,↓pIdE,zAA,↓pIdN,zA9,↓pHdE,zAB,↓pHdN,zAC,↓pLbE,zA8,↓pLbN,zAD,↓pSpE,zAE,↓pSpN,zAF,ETA]
   by_cases hte:(stk pre)[i]=x.2
   ·have q2:decide ((stk pre)[i]=x.2)=true:=decide_eq_true hte
    have hpop:=zJ4 (el:=Eid.z) (q:=(stk pre).drop i) hm (.inr ⟨(stk pre).drop (i+1),by rw[List.drop_eq_getElem_cons hc,hte]⟩)
    rw[List.take_append_drop] at hpop
    have hne:decide (((((stk pre).length - i:Nat):Int))=0)=false:=DF
    have hqz:decide ((stk pre).drop i=[])=false:=decide_eq_false (fun e=>by have:=congrArg List.length e;rw[List.length_drop] at this;simp at this;omega)
    simp (disch:=try exact SX) only[RV,seval,zA0,g2,g3,g4,g5,g6,g7,olen,q1,q2,c1,hiad,hgr,hpt,oo',ca,cb,cc,w,↓pIdE,zAA,↓pIdN,zA9,↓pHdE,zAB,↓pHdN,zAC,↓pLbE,zA8,↓pLbN,zAD,↓pSpE,zAE,↓pSpN,zAF,ETA]
    generalize hY:(N.add _).upd N.size _=Y
    have wY:Wf Y:=by rw[← hY];exact(w.add _).upd _ _
    have lY:N.size≤Y.size:=by rw[← hY,zAH,zA6];omega
    have kY:∀ j,j<N.size→Y.get j=N.get j:=fun j hj=>by
     rw[← hY,zA2 (w.add _) _ _ _ (by omega),zAK w _ _ hj]
    clear hY
    have y0:Y.get 0=some (.row false [BL false]):=(kY 0 (by omega)).trans ((kk 0 (by omega) (by omega)).trans ((gX 0 (by omega) (by omega)).trans h.g0))
    have y1:=(kY 1 (by omega)).trans c1
    have y2:=(kY 2 (by omega)).trans ((kk 2 (by omega) (by omega)).trans ((gX 2 (by omega) (by omega)).trans gm2))
    have y3:=(kY 3 (by omega)).trans ((kk 3 (by omega) (by omega)).trans ((gX 3 (by omega) (by omega)).trans h.g3))
    have y6:=(kY 6 (by omega)).trans ((kk 6 (by omega) (by omega)).trans x6)
    have ya:=(kY _ (by omega)).trans ca
    have yb:=(kY _ (by omega)).trans cb
    have yc:=(kY _ (by omega)).trans cc
    have yj:∀ j,j<M.size→j≠1→j≠6→Y.get j=M.get j:=fun j a b c=>(kY j (by omega)).trans ((kk j a b).trans (gX j a c))
    have spY:SlP Y 4 zF0 o' ((stk pre).drop i).reverse:=spN.keep fun j hj=>kY j (spN.lt j hj)
    clear kY kk w c1 ca cb cc spN l1 la lb lc
    have l1:=Mem.get_lt y1
    have la:=Mem.get_lt ya
    have lb:=Mem.get_lt yb
    have lc:=Mem.get_lt yc
    have l2:=Mem.get_lt y2
    have l3:=Mem.get_lt y3
    have l0:=Mem.get_lt y0
    have hlk:=zQJ zLB (z:=.int .i64 0) y2 hset x.1
    unfold ordS
    rw[hpop]
    simp only[hqz]
    have hql:((stk pre).drop i).length≤pre.length:=by rw[List.length_drop];omega
    generalize (stk pre).drop i=q at *
    generalize ((stk pre).take i).getLast?.getD Eid.z=el at *
    have hls:=fun M=>@zFC fuel (d+4) x.1 el M
    have c2:True:=trivial
    exact zB0c
   ·have q2:decide ((stk pre)[i]=x.2)=false:=decide_eq_false hte
    simp (disch:=try exact SX) only[RV,seval,zA0,g2,g3,g4,g5,g6,g7,olen,q1,q2,w1,c1,hiad,hgr,hpt,oo',ca,cb,cc,w,↓pIdE,zAA,↓pIdN,zA9,↓pHdE,zAB,↓pHdN,zAC,↓pLbE,zA8,↓pLbN,zAD,↓pSpE,zAE,↓pSpN,zAF,ETA]
    refine⟨spN.rows (by omega), ?_⟩
    rw[hslc _ (fun id hid=>by
     have:=spN.lt id hid
     rw[zA2 (w.add _) _ _ _ (by omega),zAK w _ _ this])]
    have oco:=spc.one
    have occ:=spc.cells
    have ocr:=fun m hm=>spc.rows (m:=m) hm
    simp (disch:=try exact SX) only[RV,seval,zA0,g2,g3,g4,g5,g6,g7,oco,occ,ocr,c1,ca,cb,cc,w]
    have ror:=spN.row1 hrow
    have rid7:7≤rid∧rid<M.size:=by
     have e:rowOf o=some rid:=ro' ▸ hrow
     exact⟨(ro rid e).2,sp.lt rid e⟩
    refine⟨?_,hlt,(stk pre).length - (i+1),by omega,i+1,oc,rfl,by omega,by omega,fun j a b=>?_,rfl, ?_,roc.trans ro', ?_, ?_⟩
    ·have e1:¬(M.size+1+1=1):=by omega
     have e2:¬(M.size+1+1=rid):=by omega
     rw[ror]
     simp [FP.apart,disj,FP.reads,FP.writes,fpOf,e2]
    ·rw[zA2 (((w.add _).upd _ _).upd _ _) _ _ _ (by omega),zA2 ((w.add _).upd _ _) _ _ _ (by omega),zA2 (w.add _) _ _ _ (by omega),zAK w _ _ (by omega)]
     exact kk j a b
    ·have e:((stk pre).drop i).reverse.take ((stk pre).length - i - 1)=((stk pre).drop (i+1)).reverse:=by
      rw[List.take_reverse,List.drop_drop,List.length_drop]
      congr 2
      omega
     rw[← e]
     refine spc.keep fun j hj=>?_
     rw[roc,hrow] at hj
     injection hj with hj
     subst hj
     rw[zA2 (((w.add _).upd _ _).upd _ _) _ _ _ (by omega),zA2 ((w.add _).upd _ _) _ _ _ (by omega),zA2 (w.add _) _ _ _ (by omega),zAK w _ _ (by omega)]
    ·have e:((stk pre).take (i+1)).getLast?.getD Eid.z=(stk pre)[i]:=by
      rw[zBO _ _ hc,List.getLast?_concat];rfl
     rw[e]
    ·intro t ht
     rw[zBO _ _ hc] at ht
     rcases List.mem_append.1 ht with ht | ht
     ·exact hm t ht
     ·rw[List.mem_singleton] at ht;subst ht;exact hte
  ·obtain rfl:i=(stk pre).length:=by omega
   have q1:decide ((0:Int)<((stk pre).length - (stk pre).length:Nat))=false:=DF
   have hne:decide (((((stk pre).length - (stk pre).length:Nat):Int))=0)=true:=DT
   have hqz:decide ((stk pre).drop (stk pre).length=[])=true:=decide_eq_true (List.drop_length)
   have hpop:=zJ4 (el:=Eid.z) (q:=(stk pre).drop (stk pre).length) hm (.inl List.drop_length)
   rw[List.take_append_drop] at hpop
   simp (disch:=try exact SX) only[RV,seval,zA0,g2,g3,g4,g5,g6,g7,olen,q1,c1,oo',ca,cb,cc,w,↓pIdE,zAA,↓pIdN,zA9,↓pHdE,zAB,↓pHdN,zAC,↓pLbE,zA8,↓pLbN,zAD,↓pSpE,zAE,↓pSpN,zAF,ETA]
   obtain⟨Y,hY⟩:∃ Y,Y=N:=⟨N,rfl⟩
   rw[← hY]
   have wY:Wf Y:=by rw[hY];exact w
   have lY:N.size≤Y.size:=by rw[hY];omega
   have kY:∀ j,j<N.size→Y.get j=N.get j:=fun j hj=>by rw[hY]
   clear hY
   have y0:Y.get 0=some (.row false [BL false]):=(kY 0 (by omega)).trans ((kk 0 (by omega) (by omega)).trans ((gX 0 (by omega) (by omega)).trans h.g0))
   have y1:=(kY 1 (by omega)).trans c1
   have y2:=(kY 2 (by omega)).trans ((kk 2 (by omega) (by omega)).trans ((gX 2 (by omega) (by omega)).trans gm2))
   have y3:=(kY 3 (by omega)).trans ((kk 3 (by omega) (by omega)).trans ((gX 3 (by omega) (by omega)).trans h.g3))
   have y6:=(kY 6 (by omega)).trans ((kk 6 (by omega) (by omega)).trans x6)
   have ya:=(kY _ (by omega)).trans ca
   have yb:=(kY _ (by omega)).trans cb
   have yc:=(kY _ (by omega)).trans cc
   have yj:∀ j,j<M.size→j≠1→j≠6→Y.get j=M.get j:=fun j a b c=>(kY j (by omega)).trans ((kk j a b).trans (gX j a c))
   have spY:SlP Y 4 zF0 o' ((stk pre).drop (stk pre).length).reverse:=spN.keep fun j hj=>kY j (spN.lt j hj)
   clear kY kk w c1 ca cb cc spN l1 la lb lc
   have l1:=Mem.get_lt y1
   have la:=Mem.get_lt ya
   have lb:=Mem.get_lt yb
   have lc:=Mem.get_lt yc
   have l2:=Mem.get_lt y2
   have l3:=Mem.get_lt y3
   have l0:=Mem.get_lt y0
   have hlk:=zQJ zLB (z:=.int .i64 0) y2 hset x.1
   unfold ordS
   rw[hpop]
   simp only[hqz]
   have hql:((stk pre).drop (stk pre).length).length≤pre.length:=by rw[List.length_drop];omega
   generalize (stk pre).drop (stk pre).length=q at *
   generalize ((stk pre).take (stk pre).length).getLast?.getD Eid.z=el at *
   have hls:=fun M=>@zFC fuel (d+4) x.1 el M
   cases c2:decide (x.2=Eid.z)
   ·simp (disch:=try exact SX) only[RV,seval,zA0,g2,g3,g4,g5,g6,g7,hne,oo',y0,y1,y3,ya,yb,yc,wY,↓pIdE,zAA,↓pIdN,zA9,↓pHdE,zAB,↓pHdN,zAC,↓pLbE,zA8,↓pLbN,zAD,↓pSpE,zAE,↓pSpN,zAF,ETA,c2]
    exact zB04
   ·skip
    exact zB0c
theorem zRW {a:AV}{l:List Rn}(hS:Sl 10 isRn a l)(wf:Wf M)(k:Q (.fn 133 [] [.ptr M.size 0]) (M.add (.row false [a]))) :
  W3 (zCN fuel (d+1) 116 [a] M) Q:=by
 have oa:=hS.one
 refine zBK tf116 rfl (by simp [a116]) fun b' ht hx=>?_
 have h0:=hx 0 _ rfl
 clear hx
 simp only[a116,c116] at ht ⊢
 simp (disch:=try exact SX) only[RV,seval,zA0,h0,hS.fz.rows,hS.fz.one,hS.fz.cells,hS.fz.icy,hS.fz.frz,wf]
 exact k
theorem zdF {a:AV}{l:List Rn}(hS:Sl 10 isRn a l):∀ r∈l,r.ok:=by
 intro r hr
 obtain⟨i,hi,rfl⟩:=List.getElem_of_mem hr
 obtain⟨_,_,⟨_,_,_,hok⟩,_⟩:=hS.iad i hi
 exact hok
theorem zaD {l:List Rn}(h:∀ r∈l,r.ok)(hm:∀ r∈l,r.may=true):∀ x∈elsL l,x.1.ok:=by
 intro x hx
 obtain⟨r,hr,hx⟩:=List.mem_flatMap.1 hx
 obtain⟨i,hi,rfl⟩:=List.mem_map.1 hx
 rw[List.mem_range] at hi
 have hb:=Spn.may_le (Rn.may_sp (hm r hr))
 have hk:=h r hr
 refine⟨hk.1.1.1, ?_⟩
 simp only[Spn.at,i64R]
 omega
theorem zK4 {l:List Rn}(hm:∀ r∈l,r.may=true):(elsL l).length≤64*l.length:=by
 have:=zEW hm
 have e:=zE0 hm
 rw[← zLR]
 unfold prs
 rw[List.length_map]
 omega
theorem zbT {X:Mem}{tm:List AV}{a:AV}{l:List Rn}(hS:Sl 10 isRn a l)(hl:l.length≤1000)(hm:∀ r∈l,r.may=true)(hf:64*l.length+1000<fuel)(w:Wf X)(h2:nth zA1 tm 2 = .ptr 0 0)(h3:nth zA1 tm 3 = .ptr 1 0)(h4:nth zA1 tm 4 = .ptr 3 0)(hlen:tm.length=63)(hX:X.size=5)(g0:X.get 0=some (.row false [BL false]))(g1:X.get 1=some (.row false [NIL]))(g2:X.get 2=some (.map [] 0))(g3:X.get 3=some (.row false [.mp 2]))(g4:X.get 4=some (.row false [a]))
  (kt:Ord (elsL l) → ∀ u O N,OI tm (elsL l) O N→Q u N) (ks:¬Ord (elsL l) → ∀ u N,OS tm N→Q u N) :
  W3 (zCN fuel (d+8) 133 ([]++[.yl (X.size+1)]++[.ptr 4 0]) ((X.add (.dfr false)).add (.loop .ready none tm [12,13] cO1 cO2 X.size))) Q:=by
 have w1:=w.add (.dfr false)
 have hel:=zK4 hm
 have heo:=zaD (zdF hS) hm
 have e:X.size+1=6:=by omega
 have u:∀ j,j<5→((X.add (.dfr false)).add (.loop .ready none tm [12,13] cO1 cO2 X.size)).get j=X.get j:=fun j hj=>by
  rw[zAK w1 _ _ (by rw[zA6];omega),zAK w _ _ (by omega)]
 have hJ0:OI tm [] (fun j=>j=1∨j=2∨j=6) ((X.add (.dfr false)).add (.loop .ready none tm [12,13] cO1 cO2 X.size)):=by
  refine⟨w1.add _,by simp only[zA6];omega,(u 0 (by omega)).trans g0,⟨NIL,(u 1 (by omega)).trans g1,SlP.nil,fun j hj=>by cases hj⟩,⟨_,(u 2 (by omega)).trans g2,zI4.nil _ _⟩,(u 3 (by omega)).trans g3, ?_, ?_,.inl rfl,.inr (.inl rfl),.inr (.inr rfl), ?_,Ord.nil⟩
  ·rw[zAK w1 _ _ (by rw[zA6];omega),← hX]
   exact zAM w _ _ (Nat.le_refl _) (Nat.lt_succ_self _)
  ·have:=zAM w1 (.loop .ready none tm [12,13] cO1 cO2 X.size) 6 (by rw[zA6];omega) (by rw[zA6];omega)
   rw[hX] at this ⊢
   exact this
  ·intro j hj
   simp only[zA6]
   rcases hj with rfl | rfl | rfl <;> omega
 have key:=zXM (d:=d) (fuel:=fuel) (Q:=Q) (J:=OI tm) (S:=fun N=>OS tm N ∧ ¬Ord (elsL l)) (id:=6) (p:=4) hS (by omega) hm (by omega) (w1.add _) ((u 4 (by omega)).trans g4) hJ0 (fun pre O N N' h wf le k=>h.keep wf le k) (fun pre O N h j hj=>(h.ol j hj).1) (fun pre x post O N he h wf le=>?_) (fun u N O h _ _=>kt h.od u O N h) (fun u N h=>ks h.2 u N h.1)
 ·rw[← e] at key
  exact key
 ·have hxm:x∈elsL l:=by rw[he];simp
  have hpl:pre.length≤(elsL l).length:=by rw[he];simp
  obtain⟨v,N',hc,hv⟩:=zg6 (fuel:=fuel) (d:=d) (B:=((X.add (.dfr false)).add (.loop .ready none tm [12,13] cO1 cO2 X.size)).size) h h2 h3 h4 hlen (heo x hxm) (by omega) (by omega)
  refine⟨v,N',hc, ?_⟩
  rcases hv with⟨rfl,hv⟩ | ⟨rfl,hv,ho⟩
  ·exact .inl ⟨rfl,hv⟩
  ·refine .inr ⟨rfl,hv,fun k=>?_⟩
   rw[k pre x post he] at ho
   cases ho
open Classical in
theorem zOX {a:AV}{l:List Rn}(hS:Sl 10 isRn a l)(hl:l.length≤1000)(hm:∀ r∈l,r.may=true)(hf:64*l.length+1000<fuel)(M:Mem):zCN fuel (d+9) 78 [a] M=some (BL (decide (Ord (elsL l))),M):=by
 have oa:=hS.one
 have hel:=zK4 hm
 have heo:=zaD (zdF hS) hm
 apply zB2
 refine zAJ tf78 rfl (by simp only[icyL,fun M=>hS.icy M 12 (by omega)]) (by simp [a78]) fun b' ht hx=>?_
 have h0:=hx 0 _ rfl
 clear hx
 simp only[a78,c78] at ht ⊢
 have cm:cellsA (.mp 2)=[.mp 2]:=rfl
 have om:oneA (.mp 2)=true:=rfl
 have sm:scs (.map none)=[.sc (.map none)]:=rfl
 simp (disch:=try exact SX) only[RV,seval,zA0,h0,hS.fz.rows,hS.fz.one,hS.fz.cells,hS.fz.icy,hS.fz.frz,zWK,cm,om,sm]
 refine zRW hS (by simp (disch:=try exact SX) only[RV,seval,zA0]) ?_
 simp (disch:=try exact SX) only[RV,seval,zA0,h0,hS.fz.rows,hS.fz.one,hS.fz.cells,hS.fz.icy,hS.fz.frz]
 refine za4 (g:=133) (first:=[]) (cap:=[.ptr 4 0]) (by simp (disch:=try exact SX) only[RV,seval,zA0]) (by simp (disch:=try exact SX) only[RV,seval,zA0]) ?_
 refine zbT (d:=d) hS hl hm hf ?_ ?_ ?_ ?_ ?_ ?_ ?_ ?_ ?_ ?_ ?_ (fun ho u O N h=>?_) (fun ho u N h=>?_)
 ·exact zB07
 ·exact zB07
 ·exact zB07
 ·exact zB07
 ·rw[zMB];exact ht
 ·exact zB07
 ·exact zB07
 ·exact zB07
 ·exact zB07
 ·exact zB07
 ·exact zB07
 ·have wf:=h.wf
  have sz:=h.sz
  have l0:=Mem.get_lt h.g0
  have l5:=Mem.get_lt h.g5
  have e6:(mem0.add (.row false [BL false])).size=1:=rfl
  refine⟨wf,by simp only[zA6,zAH,zBP];omega,_,_,_,_,_,_,_,.inl rfl,h.g6, ?_⟩
  generalize hX:N.upd _ _=X
  have wX:Wf X:=by rw[← hX];exact wf.upd _ _
  have sX:X.size=N.size:=by rw[← hX];rfl
  have gX:∀ j,j≠6→X.get j=N.get j:=fun j hj=>by rw[← hX];exact zA2 wf _ _ _ (fun e=>hj e.symm)
  have x0:=(gX 0 (by omega)).trans h.g0
  have x5:=(gX 5 (by omega)).trans h.g5
  have hd:decide (Ord (elsL l))=true:=decide_eq_true ho
  exact zB0f
 ·have wf:=h.wf
  have sz:=h.sz
  have l0:=Mem.get_lt h.g0
  have l5:=Mem.get_lt h.g5
  refine⟨wf,by simp only[zA6,zAH,zBP];omega,_,_,_,_,_,_,_,.inr rfl,h.g6, ?_⟩
  generalize hX:N.upd _ _=X
  have wX:Wf X:=by rw[← hX];exact wf.upd _ _
  have sX:X.size=N.size:=by rw[← hX];rfl
  have gX:∀ j,j≠6→X.get j=N.get j:=fun j hj=>by rw[← hX];exact zA2 wf _ _ _ (fun e=>hj e.symm)
  have x0:=(gX 0 (by omega)).trans h.g0
  have x5:=(gX 5 (by omega)).trans h.g5
  have hd:decide (Ord (elsL l))=false:=decide_eq_false ho
  exact zB0f
theorem zRR {o:Rn}{ra:AV}(hR:Sl 1 zAS ra o.rs)(hf:100<fuel)(M:Mem):zCN fuel (d+7) 77 [.agg (rnR o ra)] M=some (BL (!o.may),M):=by
 have ora:=hR.one
 have hck:=fun M=>@zC4 fuel d o ra hR hf M
 apply zB2
 refine zAJ tf77 rfl (by simp only[icyL,zCP hR.fz]) (by simp [a77]) fun b' ht hx=>?_
 have h0:=hx 0 _ rfl
 clear hx
 simp only[a77,c77] at ht ⊢
 cases hm:o.may <;> rw[hm] at hck <;> simp (disch:=try exact SX) only[RV,seval,zA0,h0,hR.fz.rows,hR.fz.one,hR.fz.cells,hR.fz.icy,hR.fz.frz,hck,zB9,zBH,z00,z80]
open Classical in
noncomputable def zFM (l:List Rn):Bool:=decide (zEK l)
open Classical in
theorem zdS {l:List Rn}(h:zEK l):zFM l=true:=by unfold zFM;exact decide_eq_true h
open Classical in
theorem zM7 {l:List Rn}(h:¬zEK l):zFM l=false:=by unfold zFM;exact decide_eq_false h
open Classical in
theorem zNX {l:List Rn}:zFM l=true↔zEK l:=by unfold zFM;exact⟨of_decide_eq_true,fun h=>decide_eq_true h⟩
theorem zFN {l:List Rn}(h:∀ r∈l,r.may=true):∀ r∈l,r.rs.length≤64:=fun r hr=>((Rn.may_iff.1 (h r hr)).2.2.2.1)
theorem zTI {a:AV}{l:List Rn}(hS:Sl 10 isRn a l)(hl:l.length≤1000)(hf:64*l.length+3001000<fuel)(M:Mem):zCN fuel (d+10) 42 [a] M=some (I64 (err (zFM l)),M):=by
 have oa:=hS.one
 have hh:=fun M=>zcE (P:=Tryz.prog) (fs:=fsT tbl) (fuel:=fuel) (l:=l) (ag:=true) (n:=d+7) tf76 tf115 (fun h=>by cases h) zFI hS (by omega) (by omega) (zaH 77) (p:=fun x => !x.may) (fun r x hr _ M=>by
  obtain⟨ra,rfl,hra,_⟩:=hr
  exact @zRR fuel d x ra hra (by omega) M) M
 rw[zT2] at hh
 apply zB2
 refine zAJ tf42 rfl (by simp only[icyL,fun M=>hS.icy M 12 (by omega)]) (by simp [a42]) fun b' ht hx=>?_
 have h0:=hx 0 _ rfl
 clear hx
 simp only[a42,c42] at ht ⊢
 cases hb:l.all Rn.may with
 | false =>
  rw[hb] at hh
  have hno:zFM l=false:=zM7 fun k=>by
   rw[List.all_eq_true.2 k.1] at hb;cases hb
  rw[hno]
  simp (disch:=try exact SX) only[RV,seval,zA0,h0,hS.fz.rows,hS.fz.one,hS.fz.cells,hS.fz.icy,hS.fz.frz,hh,zBH]
 | true =>
  rw[hb] at hh
  have hm:∀ r∈l,r.may=true:=List.all_eq_true.1 hb
  have hrs:=zFN hm
  have hct:=fun M=>@zIF fuel (d+8) a l hS hm (by omega) (by omega) M
  have hord:=fun M=>@zOX fuel d a l hS hl hm (by omega) M
  have hmL:=(zCS hm).2
  have hrsL:=zFN hmL
  have hlenL:(zBV l).length≤64000:=by
   have e1:=zE0 hmL
   have e2:=zEW hm
   have e3:=zE0 hm
   rw[(zCS hm).1,(zEV _).1] at e1
   have:(zBV l).length≤(zBB (zBV l)):=by
    rw[(zCS hm).1]
    have hh:=(zEV (elsR l)).2
    generalize zC5 (elsR l)=C at *
    clear e1
    induction C with
    | nil=>simp [zBB]
    | cons q C ih =>
     have:=ih (fun q hq=>hh q (List.mem_cons_of_mem _ hq))
     have:=(hh q List.mem_cons_self).1
     simp only[zBB,List.length_cons]
     omega
   rw[(zCS hm).1] at this ⊢
   omega
  have hsame:=fun (M:Mem) B r (hr:rnK.ND M B r (zBV l)) (w:Wf M)=>zaY (n:=d+8) tf79 rfl hr w (fun M=>hS.icy M 12 (by omega)) fun o' ho' M=>@zWC fuel (d+5) o' a (zBV l) l ho' hS (by omega) (fun e he=>⟨by have:=hrsL e he;omega,by have:=hrsL e he;omega⟩) (by omega) M
  by_cases h1:zBB l≤8192
  ·have q1:decide (8192<zBB l)=false:=DF
   by_cases h2:Ord (elsL l)
   ·have ho:=@decide_eq_true _ (Classical.propDecidable (Ord (elsL l))) h2
    rw[ho] at hord
    by_cases h3:zBV l=l
    ·have hyes:zFM l=true:=zdS ⟨hm,h1,h2,h3⟩
     have hs:zH5 (zBV l) l=true:=zJS.2 h3
     rw[hyes]
     simp (disch:=try exact SX) only[RV,seval,zA0,h0,hS.fz.rows,hS.fz.one,hS.fz.cells,hS.fz.icy,hS.fz.frz,hh,hct,q1,hord,zB9]
     refine zN2 (fuel:=fuel) (d:=d) hS (by omega) (fun r hr=>by have:=hrs r hr;omega) (by omega) Wf.mem0 fun r N kN hr=>?_
     have wN:=kN.wf
     have hs2:=hsame N _ r hr wN
     rw[hs] at hs2
     obtain⟨or,oc,rl,_⟩:=ND.lr hr
     have rl:=zAN rl (Nat.le_refl N.size)
     simp (disch:=try exact SX) only[RV,seval,zA0,h0,hS.fz.rows,hS.fz.one,hS.fz.cells,hS.fz.icy,hS.fz.frz,wN,or,oc,rl,hs2,zB9]
    ·have hno:zFM l=false:=zM7 fun k=>h3 k.2.2.2
     have hs:zH5 (zBV l) l=false:=by
      cases hq:zH5 (zBV l) l with
      | false=>rfl
      | true=>exact absurd (zJS.1 hq) h3
     rw[hno]
     simp (disch:=try exact SX) only[RV,seval,zA0,h0,hS.fz.rows,hS.fz.one,hS.fz.cells,hS.fz.icy,hS.fz.frz,hh,hct,q1,hord,zBH]
     refine zN2 (fuel:=fuel) (d:=d) hS (by omega) (fun r hr=>by have:=hrs r hr;omega) (by omega) Wf.mem0 fun r N kN hr=>?_
     have wN:=kN.wf
     have hs2:=hsame N _ r hr wN
     rw[hs] at hs2
     obtain⟨or,oc,rl,_⟩:=ND.lr hr
     have rl:=zAN rl (Nat.le_refl N.size)
     simp (disch:=try exact SX) only[RV,seval,zA0,h0,hS.fz.rows,hS.fz.one,hS.fz.cells,hS.fz.icy,hS.fz.frz,wN,or,oc,rl,hs2,zBH]
   ·have ho:=@decide_eq_false _ (Classical.propDecidable (Ord (elsL l))) h2
    rw[ho] at hord
    have hno:zFM l=false:=zM7 fun k=>h2 k.2.2.1
    rw[hno]
    simp (disch:=try exact SX) only[RV,seval,zA0,h0,hS.fz.rows,hS.fz.one,hS.fz.cells,hS.fz.icy,hS.fz.frz,hh,hct,q1,hord,zBH]
  ·have q1:decide (8192<zBB l)=true:=DT
   have hno:zFM l=false:=zM7 fun k=>h1 k.2.1
   rw[hno]
   simp (disch:=try exact SX) only[RV,seval,zA0,h0,hS.fz.rows,hS.fz.one,hS.fz.cells,hS.fz.icy,hS.fz.frz,hh,hct,q1,zBH]
theorem el_ok {a:AV}{l:List El}(hS:Sl 9 isEl a l):∀ x∈l,x.id.ok∧x.af.ok:=by
 intro x hx
 obtain⟨i,hi,rfl⟩:=List.getElem_of_mem hx
 obtain⟨r,_,h,_⟩:=hS.iad i hi
 exact h.2
theorem zcT {c:Int}(h:okR c=true) : -2147483648≤c∧c≤2147483647:=by
 unfold okR zHR at h
 simp only[Bool.or_eq_true,Bool.and_eq_true,decide_eq_true_eq] at h
 omega
theorem zbX {x:El}(hm:x.may=true)(h:x.id.ok∧x.af.ok):FitX x:=by
 rw[El.may_iff,Eid.may_iff] at hm
 have:=zcT hm.2.2
 exact⟨by omega,by omega,h.1,h.2,this.1,this.2⟩
theorem zdU {T E:List El}(hT:Txt T)(h:∀ x,x∈T↔x∈E):T.length≤E.length:=zM5 (List.Pairwise.of_map (·.id) (fun a b h e=>h (by rw[e])) hT.s1.nd) fun x hx=>(h x).1 hx
variable {a : AV} {x : Eid} {v : Lb} {l : List Op}
theorem zY4 {s:Spn}(hm:s.may=true)(x:Eid):(s.has x).isSome=(decide (s.f.hd=x.hd)&&decide (s.f.c≤x.c)&&decide (x.c<s.f.c+s.n)):=by
 unfold Spn.has
 by_cases h1:s.f.hd=x.hd
 ·by_cases h2:s.f.c≤x.c
  ·by_cases h3:x.c<s.f.c+s.n
   ·rw[if_pos ⟨hm,h1.symm,h2,h3⟩];simp [h1,h2,h3]
   ·rw[if_neg (fun h=>h3 h.2.2.2)];simp [h3]
  ·rw[if_neg (fun h=>h2 h.2.2.1)];simp [h2]
 ·rw[if_neg (fun h=>h1 h.2.1.symm)];simp [h1]
theorem zSE {s:Spn}(hm:s.may=true)(x:Eid)(M:Mem):zCN fuel (d+1) 140 [spA s,idA x] M=some (BL (s.has x).isSome,M):=by
 have hb:=Spn.may_le hm
 have w:IntKind.i64.wrap (s.f.c+s.n)=s.f.c+s.n:=wrap_i64 (by omega) (by omega)
 rw[zY4 hm]
 apply zB2
 refine zAJ tf140 rfl (by simp (disch:=try exact SX) only[RV,seval,zA0]) (by simp [a140]) fun b' ht hx=>?_
 obtain⟨h0,h1⟩:=hx2 hx
 clear hx
 simp only[a140,c140] at ht ⊢
 cases q1:decide (s.f.hd=x.hd) with
 | false=>simp (disch:=try exact SX) only[RV,seval,zA0,h0,h1,↓pIdE,zAA,↓pIdN,zA9,↓pHdE,zAB,↓pHdN,zAC,↓pLbE,zA8,↓pLbN,zAD,↓pSpE,zAE,↓pSpN,zAF,ETA,q1,Bool.false_and]
 | true =>
  cases q2:decide (s.f.c≤x.c) with
  | false=>simp (disch:=try exact SX) only[RV,seval,zA0,h0,h1,↓pIdE,zAA,↓pIdN,zA9,↓pHdE,zAB,↓pHdN,zAC,↓pLbE,zA8,↓pLbN,zAD,↓pSpE,zAE,↓pSpN,zAF,ETA,q1,q2,ge_iff_le,Bool.false_and,Bool.true_and]
  | true=>simp (disch:=try exact SX) only[RV,seval,zA0,h0,h1,↓pIdE,zAA,↓pIdN,zA9,↓pHdE,zAB,↓pHdN,zAC,↓pLbE,zA8,↓pLbN,zAD,↓pSpE,zAE,↓pSpN,zAF,ETA,q1,q2,w,ge_iff_le,Bool.true_and]
theorem zLU (hS:Sl 17 isOp a l)(hm:∀ o∈l,o.may=true)(hv:v.ok)(hl:l.length≤40000)(hf:l.length+200<fuel):∃ r,Sl 2 isLb r (zCD l x v) ∧ ∀ M,zCN fuel (d+3) 131 [a,idA x,lbA v] M=some (r,M):=by
 have ll:=hS.len
 refine zEP tf131 rfl (fun M=>by simp only[icyL,fun M=>hS.icy M 12 (by omega),zAT (zCH x) (show 1<12 by omega),zAT (zCO v) (show 1<12 by omega)]) ?_
 refine zAJ tf131 rfl (by simp only[icyL,fun M=>hS.icy M 12 (by omega),zAT (zCH x) (show 1<12 by omega),zAT (zCO v) (show 1<12 by omega)]) (by simp [a131]) fun b' ht hx=>?_
 obtain⟨h0,h1,h2⟩:=hx3 hx
 clear hx
 simp only[a131,c131] at ht ⊢
 simp (disch:=try exact SX) only[RV,seval,zA0,h0,h1,h2,hS.fz.rows,hS.fz.one,hS.fz.cells,hS.fz.icy,hS.fz.frz]
 refine zAZ (I:=fun n t N => ∃ (i:Nat) (o:AV),n=l.length - i∧i≤l.length∧nth zA1 t 0=a∧nth zA1 t 4 = .ptr 0 0∧nth zA1 t 5 = .ptr 1 0∧nth zA1 t 7=o∧nth zA1 t 8=I64 i∧Wf N∧N.get 0=some (.row false (idR x))∧N.get 1=some (.row false (lbR v))∧SlM N 2 isLb o (zCD (l.take i) x v)∧(∀ j,rowOf o=some j→2≤j)) (n:=l.length) (by omega) ?_ ?_
 ·refine⟨0,NIL,rfl,Nat.zero_le _, ?_, ?_, ?_, ?_, ?_,(Wf.mem0.add _).add _,by simp (disch:=try exact SX) only[RV,seval,zA0],by simp (disch:=try exact SX) only[RV,seval,zA0],SlM.nil,(fun _ h=>by cases h)⟩ <;> simp (disch:=try exact SX) only[RV,seval,zA0,h0,h1,h2]
  all_goals first | rfl | assumption | done
 ·rintro n t N hlt ⟨i,o,rfl,hi,g0,g4,g5,g7,g8,w,m0,m1,sm,ro⟩
  simp only[ht] at hlt ⊢
  have l0:=Mem.get_lt m0
  have l1:=Mem.get_lt m1
  have oo:=sm.one
  have co:=sm.cells
  by_cases hc:i<l.length
  ·have q1:decide ((i:Int)<l.length)=true:=DT
   have w1:IntKind.i64.wrap ((i:Int)+1)=((i+1:Nat):Int):=WI
   obtain⟨r,hiad,hr,_⟩:=hS.iad i hc
   have hsn:=zJK (l.take i) l[i] x v
   rw[← take_snoc l i hc] at hsn
   have hmi:=hm l[i] (List.getElem_mem hc)
   have hrl:=zFD (l.take i) x v
   rw[List.length_take] at hrl
   generalize l[i]=e at *
   obtain⟨ra,rfl,hra,hok⟩:=hr
   have hh:=fun M=>zSE (fuel:=fuel) (d:=d+1) (may_sp hmi) x M
   have hle:=fun M=>zGN (fuel:=fuel) (d:=d) e.hd.lb v hok.2.1.1 hv (by omega) M
   unfold zEL at hsn
   cases q2:decide (e.kd=3) with
   | false =>
    simp only[q2,Bool.false_and,Bool.false_eq_true,if_false,List.append_nil] at hsn
    simp (disch:=try exact SX) only[RV,seval,zA0,g0,g4,g5,g7,g8,ll,q1,hiad,hra.fz.rows,hra.fz.one,hra.fz.cells,hra.fz.icy,hra.fz.frz,hS.fz.rows,hS.fz.one,hS.fz.cells,hS.fz.icy,hS.fz.frz,q2,m0,m1,w1]
    exact zB0h
   | true =>
    cases q3:(e.sp.has x).isSome with
    | false =>
     rw[q3] at hh
     simp only[q2,q3,Bool.false_and,Bool.and_false,Bool.false_eq_true,if_false,List.append_nil] at hsn
     simp (disch:=try exact SX) only[RV,seval,zA0,g0,g4,g5,g7,g8,ll,q1,hiad,hra.fz.rows,hra.fz.one,hra.fz.cells,hra.fz.icy,hra.fz.frz,hS.fz.rows,hS.fz.one,hS.fz.cells,hS.fz.icy,hS.fz.frz,q2,m0,m1,hh,w1]
     exact zB0h
    | true =>
     rw[q3] at hh
     cases q4:e.hd.lb.leq v with
     | false =>
      rw[q4] at hle
      simp only[q2,q3,q4,Bool.and_false,Bool.false_eq_true,if_false,List.append_nil] at hsn
      simp (disch:=try exact SX) only[RV,seval,zA0,g0,g4,g5,g7,g8,ll,q1,hiad,hra.fz.rows,hra.fz.one,hra.fz.cells,hra.fz.icy,hra.fz.frz,hS.fz.rows,hS.fz.one,hS.fz.cells,hS.fz.icy,hS.fz.frz,q2,m0,m1,hh,hle,w1]
      exact zB0h
     | true =>
      rw[q4] at hle
      simp only[q2,q3,q4,Bool.and_self,if_true] at hsn
      simp (disch:=try exact SX) only[RV,seval,zA0,g0,g4,g5,g7,g8,ll,q1,hiad,hra.fz.rows,hra.fz.one,hra.fz.cells,hra.fz.icy,hra.fz.frz,hS.fz.rows,hS.fz.one,hS.fz.cells,hS.fz.icy,hS.fz.frz,q2,m0,m1,hh,hle,w,oo,co]
      refine⟨zAN sm.rl (by omega), ?_⟩
      refine app1 (bytes:=8) w sm zL8 (x:=e.to) ⟨rfl,hok.2.2.2.2.2.1⟩ rfl (by omega) (by omega) (by omega) fun o' M' m' w' le' kp' nw' wm' rl' on' oc'=>?_
      simp (disch:=try exact SX) only[RV,seval,zA0,g0,g4,g5,g7,g8,w',w1,on',oc']
      refine⟨hlt,l.length - (i+1),by omega,i+1,o',rfl,by omega,rfl,rfl, ?_, ?_,by rw[hsn];exact m',fun j hj=>?_⟩
      ·rw[kp' 0 l0 (fun h=>by have:=ro 0 h;omega)];exact m0
      ·rw[kp' 1 l1 (fun h=>by have:=ro 1 h;omega)];exact m1
      ·exact zB0o
  ·obtain rfl:i=l.length:=by omega
   have q1:decide ((l.length:Int)<l.length)=false:=DF
   rw[List.take_length] at sm
   obtain⟨r,hz,hsr⟩:=sm.frz zL8.cel (k:=12) (by omega)
   simp (disch:=try exact SX) only[RV,seval,zA0,g0,g4,g5,g7,g8,ll,q1,hz,oo,hS.fz.rows,hS.fz.one,hS.fz.cells,hS.fz.icy,hS.fz.frz]
   exact⟨r,hsr,rfl⟩
theorem zHM {ls:List Lb}(hS:Sl 2 isLb a ls)(b:Lb)(hl:ls.length≤1000000000)(hf:ls.length<fuel)(M:Mem):zCN fuel (d+1) 110 [a,lbA b] M=some (BL (zEO ls b),M):=by
 have ll:=hS.len
 apply zB2
 refine zEU tf110 rfl (by simp only[icyL,fun M=>hS.icy M 12 (by omega),zAT (zCO b) (show 1<12 by omega)]) (by simp [a110]) fun b' ht hx=>?_
 obtain⟨h0,h1⟩:=hx2 hx
 clear hx
 simp only[a110,c110] at ht ⊢
 unfold zEO
 simp (disch:=try exact SX) only[RV,seval,zA0,h0,h1,hS.fz.rows,hS.fz.one,hS.fz.cells,hS.fz.icy,hS.fz.frz]
 refine zAZ (I:=fun n t N => ∃ (i:Nat),n=ls.length - i∧i≤ls.length∧nth zA1 t 0=a∧nth zA1 t 3 = .ptr 0 0∧nth zA1 t 5=I64 i∧Wf N∧N.get 0=some (.row false (lbR b))∧(ls.take i).any (fun y=>decide (b=y))=false) (n:=ls.length) (by omega) ?_ ?_
 ·exact zB0p
 ·rintro n t N hlt ⟨i,rfl,hi,g0,g3,g5,w,g,hj⟩
  simp only[ht] at hlt ⊢
  have lg:=Mem.get_lt g
  by_cases hc:i<ls.length
  ·have q1:decide ((i:Int)<ls.length)=true:=DT
   have w1:IntKind.i64.wrap ((i:Int)+1)=((i+1:Nat):Int):=WI
   obtain⟨r,hiad,⟨rfl,_⟩,_⟩:=hS.iad i hc
   have hsn:=take_snoc ls i hc
   have hmem:=List.getElem_mem hc
   generalize ls[i]=y at *
   cases q2:decide (y=b) with
   | true =>
    have e:ls.any (fun y=>decide (b=y))=true:=List.any_eq_true.2 ⟨y,hmem,by rw[of_decide_eq_true q2];exact decide_eq_true rfl⟩
    simp (disch:=try exact SX) only[RV,seval,zA0,g0,g3,g5,ll,q1,hiad,g,↓pIdE,zAA,↓pIdN,zA9,↓pHdE,zAB,↓pHdN,zAC,↓pLbE,zA8,↓pLbN,zAD,↓pSpE,zAE,↓pSpN,zAF,ETA,q2,hS.fz.rows,hS.fz.one,hS.fz.cells,hS.fz.icy,hS.fz.frz,zBD]
    rw[e]
   | false =>
    simp (disch:=try exact SX) only[RV,seval,zA0,g0,g3,g5,ll,q1,hiad,g,↓pIdE,zAA,↓pIdN,zA9,↓pHdE,zAB,↓pHdN,zAC,↓pLbE,zA8,↓pLbN,zAD,↓pSpE,zAE,↓pSpN,zAF,ETA,q2,w1,hS.fz.rows,hS.fz.one,hS.fz.cells,hS.fz.icy,hS.fz.frz,zBD]
    refine⟨hlt,ls.length - (i+1),by omega,i+1,rfl,by omega,rfl,w, ?_⟩
    rw[hsn,List.any_append,hj]
    have:decide (b=y)=false:=decide_eq_false fun h=>of_decide_eq_false q2 h.symm
    simp [this]
  ·obtain rfl:i=ls.length:=by omega
   have q1:decide ((ls.length:Int)<ls.length)=false:=DF
   rw[List.take_length] at hj
   simp (disch:=try exact SX) only[RV,seval,zA0,g0,g3,g5,ll,q1,hj,hS.fz.rows,hS.fz.one,hS.fz.cells,hS.fz.icy,hS.fz.frz,zBD]
theorem zVN (hS:Sl 17 isOp a l)(hm:∀ o∈l,o.may=true)(hx:x.ok)(hv:v.ok)(hl:l.length≤40000)(hf:l.length+200<fuel):∃ r,Sl 2 isLb r (made l x v) ∧ ∀ M,zCN fuel (d+4) 111 [a,idA x,lbA v] M=some (r,M):=by
 obtain⟨rr,hrr,hra⟩:=zLU (fuel:=fuel) (d:=d) (x:=x) hS hm hv hl hf
 have lrr:=hrr.len
 have hrl:=zFD l x v
 refine zEP tf111 rfl (fun M=>by simp only[icyL,fun M=>hS.icy M 12 (by omega),zAT (zCH x) (show 1<12 by omega),zAT (zCO v) (show 1<12 by omega)]) ?_
 refine zAJ tf111 rfl (by simp only[icyL,fun M=>hS.icy M 12 (by omega),zAT (zCH x) (show 1<12 by omega),zAT (zCO v) (show 1<12 by omega)]) (by simp [a111]) fun b' ht hx=>?_
 obtain⟨h0,h1,h2⟩:=hx3 hx
 clear hx
 simp only[a111,c111] at ht ⊢
 unfold made
 generalize zCD l x v=R at *
 simp (disch:=try exact SX) only[RV,seval,zA0,h0,h1,h2,hS.fz.rows,hS.fz.one,hS.fz.cells,hS.fz.icy,hS.fz.frz,hra,hrr.fz.rows,hrr.fz.one,hrr.fz.cells,hrr.fz.icy,hrr.fz.frz]
 refine zAZ (I:=fun n t N => ∃ (i:Nat) (o:AV),n=R.length - i∧i≤R.length∧nth zA1 t 7=o∧nth zA1 t 8=rr∧nth zA1 t 9=I64 i∧Wf N∧SlM N 2 isLb o ((R.take i).foldl addL [x.hd.lb])) (n:=R.length) (by omega) ?_ ?_
 ·refine⟨0,.sl 2 0 1 (some 1) 2,rfl,Nat.zero_le _, ?_, ?_, ?_,((Wf.mem0.add _).add _).add _,zJV (rows:=[lbR x.hd.lb]) (.cons ⟨rfl,hx.1.1⟩ .nil) (by simp) rfl (.inr rfl) (by simp (disch:=try exact SX) only[RV,seval,zA0];rfl)⟩ <;> simp (disch:=try exact SX) only[RV,seval,zA0,h0,h1,h2]
  all_goals first | rfl | assumption | done
 ·rintro n t N hlt ⟨i,o,rfl,hi,g7,g8,g9,w,sm⟩
  simp only[ht] at hlt ⊢
  have oo:=sm.one
  have co:=sm.cells
  have hfl:=zHW (R.take i) [x.hd.lb]
  rw[List.length_take,List.length_singleton] at hfl
  by_cases hc:i<R.length
  ·have q1:decide ((i:Int)<R.length)=true:=DT
   have w1:IntKind.i64.wrap ((i:Int)+1)=((i+1:Nat):Int):=WI
   obtain⟨r,hiad,⟨hr1,hr2⟩,_⟩:=hrr.iad i hc
   subst hr1
   have hsn:(R.take (i+1)).foldl addL [x.hd.lb]=addL ((R.take i).foldl addL [x.hd.lb]) R[i]:=by rw[take_snoc R i hc,List.foldl_append];rfl
   generalize R[i]=y at *
   generalize (R.take i).foldl addL [x.hd.lb]=E at *
   have ham:=zfA (P:=Tryz.prog) (fs:=fsT tbl) (fuel:=fuel) (n:=d+2) (N:=N) (y:=lbA y) tf110 rfl zL8 sm w (fun M=>zAT (zCO y) (by omega) M) (fun a' h M=>zHM (fuel:=fuel) (d:=d+2) h y (by omega) (by omega) M)
   have hadd:addL E y=if zEO E y then E else E++[y]:=rfl
   rw[hadd] at hsn
   have rlo:=zAN sm.rl (Nat.le_refl N.size)
   cases q2:zEO E y with
   | true =>
    rw[q2] at ham
    rw[q2,if_pos rfl] at hsn
    simp (disch:=try exact SX) only[RV,seval,zA0,g7,g8,g9,lrr,q1,hiad,ham,w1,oo,co,rlo,hrr.fz.rows,hrr.fz.one,hrr.fz.cells,hrr.fz.icy,hrr.fz.frz]
    exact⟨hlt,R.length - (i+1),by omega,i+1,o,rfl,by omega,rfl,rfl,w,by rw[hsn];exact sm⟩
   | false =>
    rw[q2] at ham
    rw[q2,if_neg (by decide)] at hsn
    simp (disch:=try exact SX) only[RV,seval,zA0,g7,g8,g9,lrr,q1,hiad,ham,w,oo,co,rlo,hrr.fz.rows,hrr.fz.one,hrr.fz.cells,hrr.fz.icy,hrr.fz.frz]
    refine⟨zAN sm.rl (by omega), ?_⟩
    refine app1 (bytes:=8) w sm zL8 (x:=y) ⟨rfl,hr2⟩ rfl (by omega) (by omega) (by omega) fun o' M' m' w' le' kp' nw' wm' rl' on' oc'=>?_
    simp (disch:=try exact SX) only[RV,seval,zA0,g7,g8,g9,w',w1,on',oc']
    exact⟨hlt,R.length - (i+1),by omega,i+1,o',rfl,by omega,rfl,rfl,by rw[hsn];exact m'⟩
  ·obtain rfl:i=R.length:=by omega
   have q1:decide ((R.length:Int)<R.length)=false:=DF
   rw[List.take_length] at sm
   obtain⟨r,hz,hsr⟩:=sm.frz zL8.cel (k:=12) (by omega)
   simp (disch:=try exact SX) only[RV,seval,zA0,g7,g8,g9,lrr,q1,hz,oo,hrr.fz.rows,hrr.fz.one,hrr.fz.cells,hrr.fz.icy,hrr.fz.frz]
   exact⟨r,hsr,rfl⟩
end Go.Proofs.YtlmeadmpldjdaaaGreat
namespace Go.Ax
open Go
variable {α : Type} {M N : Mem} {st : Nat} {T : List AV → α → Prop} {v o : AV} {l : List α}
def SlR (M:Mem)(st:Nat)(T:List AV→α→Prop)(v:AV)(l:List α):Prop :=
 (v=NIL∧l=[]) ∨ ∃ (id:Nat) (rows:List (List AV)) (cap:Option Nat),v = .sl id 0 rows.length cap st∧M.rd id=some rows.flatten∧All2 T rows l ∧ ∀ r∈rows,r.length=st
theorem SlR.of (h:SlM M st T v l):SlR M st T v l:=by
 rcases h with h | ⟨id,rows,cap,rfl,_,hg,hA,hr⟩
 ·exact .inl h
 ·exact .inr ⟨id,rows,cap,rfl,zBN hg,hA,hr⟩
theorem SlR.keep (h:SlR M st T v l)(k:∀ j,N.rd j=M.rd j):SlR N st T v l:=by
 rcases h with h | ⟨id,rows,cap,h1,h2,h3,h4⟩
 ·exact .inl h
 ·exact .inr ⟨id,rows,cap,h1,(k id).trans h2,h3,h4⟩
theorem SlR.icyk (h:SlR M st T v l)(wf:Wf M)(hT:FzT T){k:Nat}(hk:1<k):∃ v' M',Go.Ax.icy k M v=some (v',M')∧Sl st T v' l∧Wf M'∧M'.size=M.size∧(∀ j,M'.rd j=M.rd j) ∧ ∀ j,rowOf v≠some j→M'.get j=M.get j:=by
 obtain⟨k,rfl⟩:∃ j,k=j+1:=⟨k - 1,by omega⟩
 rcases h with⟨rfl,rfl⟩ | ⟨id,rows,cap,rfl,hg,hA,hr⟩
 ·exact⟨NIL,M,rfl,.inl ⟨rfl,rfl⟩,wf,rfl,fun _=>rfl,fun _ _=>rfl⟩
 ·have hfl:=zAO hr
  have hcs:∀ N,icyL (Go.Ax.icy k) N rows.flatten=some (rows.flatten,N):=zDF (by omega) fun x hx N=>hT.celI.flat hA x hx N k (by omega)
  have hble:Nat.ble (0+rows.length*st) rows.flatten.length=true:=zBR (by omega)
  have hsl:slot rows.flatten 0 (rows.length*st)=rows.flatten:=zC0 _ _ hfl.symm
  have hrd:=hg
  rw[zEM] at hrd
  cases ho:M.get id with
  | none=>rw[ho] at hrd;cases hrd
  | some x =>
   rw[ho] at hrd
   cases x with
   | row b ds =>
    have e:ds=rows.flatten:=by simpa [rd1] using hrd
    subst e
    exact⟨_,M.upd id (.fro rows.flatten),by simp only[Go.Ax.icy,hg,hble,hcs,ho,zBJ wf (Mem.get_lt ho),hsl],.inr ⟨rows,cap,rfl,hA,hr⟩,wf.upd _ _,rfl,NK.rd_fro wf ho,fun j hj=>zA2 wf _ _ _ (fun e=>hj (by rw[e];rfl))⟩
   | fro ds=>exact⟨_,M,by simp only[Go.Ax.icy,hg,hble,hcs,ho,hsl],.inr ⟨rows,cap,rfl,hA,hr⟩,wf,rfl,fun _=>rfl,fun _ _=>rfl⟩
   | _=>simp [rd1] at hrd
theorem SlR.hand {P:Program}{fs:Nat→Option AFunc}{fuel f n:Nat}{af:AFunc}{rest:List AV}{R:AV→Prop}{Q:AV→Mem→Prop}(h:fs f=some af)(hg:af.gc=1)(hN:SlR M st T o l)(wf:Wf M)(hT:FzT T)(hr:∀ M,icyL (Go.Ax.icy 12) M rest=some (rest,M))(hc:∀ o',Sl st T o' l → ∃ r,R r ∧ ∀ M,zAR P fs fuel (n+1) (.fn f) (o'::rest) M=some (r,M))
  (k:∀ r M',R r→Wf M'→M'.size=M.size→SlR M' st T o l→(∀ j,rowOf o≠some j→M'.get j=M.get j)→Q r M'):W3 (zAR P fs fuel (n+1) (.fn f) (o::rest) M) Q:=by
 obtain⟨o',M',i1,s1,w1,z1,r1,g1⟩:=hN.icyk wf hT (k:=12) (by omega)
 obtain⟨r,hR,hcall⟩:=hc o' s1
 refine⟨r,M',zHV (bs:=o'::rest) h hg (hcall mem0) (M3:=mem0) ?_ ?_,k r M' hR w1 z1 (hN.keep r1) g1⟩
 ·simp only[icyL,s1.icy mem0 12 (by omega),hr]
 ·simp only[icyL,i1,hr]
end Go.Ax
namespace Go.Proofs.YtlmeadmpldjdaaaGreat
open Go Go.Ax
variable {fuel : Nat} {M : Mem} {Q : AV → Mem → Prop} {d : Nat} {l : List Op} {a : AV} {x : Eid} {v : Lb}
theorem zNM {o:Op}{ra:AV}(hS:Sl 17 isOp a l)(hR:Sl 1 zAS ra o.rs)(ho:o.ok)(hm:∀ o∈l,o.may=true)(hom:o.may=true)(hl:l.length≤40000)(hf:l.length+200<fuel)(M:Mem):zCN fuel (d+5) 73 [a,.agg (opR o ra)] M=some (BL (zCE l o),M):=by
 have ora:=hR.one
 have hsm:=may_sp hom
 have hb:=Spn.may_le hsm
 obtain⟨rn,hrn,hall⟩:=zJH (fuel:=fuel) (d:=d+3) ho.2.2.2.1 hsm (by omega)
 have lrn:=hrn.len
 have hle:=fun M=>zGN (fuel:=fuel) (d:=d+2) o.hd.lb o.to ho.2.1.1 ho.2.2.2.2.2.1 (by omega) M
 have hil:o.sp.ids.length≤64:=by unfold Spn.ids;rw[List.length_map,List.length_range];omega
 have hiok:∀ y∈o.sp.ids,y.ok:=fun y hy=>by
  exact zB0Q
 apply zB2
 refine zAJ tf73 rfl (by simp only[icyL,fun M=>hS.icy M 12 (by omega),zDI hR.fz]) (by simp [a73]) fun b' ht hx=>?_
 obtain⟨h0,h1⟩:=hx2 hx
 clear hx
 simp only[a73,c73] at ht ⊢
 unfold zCE
 by_cases hk:o.kd=3
 ·have hk':=decide_eq_true hk
  rw[if_pos hk]
  generalize o.sp.ids=I at *
  simp (disch:=try exact SX) only[RV,seval,zA0,h0,h1,hS.fz.rows,hS.fz.one,hS.fz.cells,hS.fz.icy,hS.fz.frz,hR.fz.rows,hR.fz.one,hR.fz.cells,hR.fz.icy,hR.fz.frz,hk',hall,hrn.fz.rows,hrn.fz.one,hrn.fz.cells,hrn.fz.icy,hrn.fz.frz]
  refine zAZ (I:=fun n t N => ∃ (i:Nat),n=I.length - i∧i≤I.length∧nth zA1 t 0=a∧nth zA1 t 3 = .ptr 0 0∧nth zA1 t 5=rn∧nth zA1 t 6=I64 i∧Wf N∧N.get 0=some (.row false (opR o ra))∧(I.take i).all (fun id=>zEO (made l id o.hd.lb) o.hd.lb)=true) (n:=I.length) (by omega) ?_ ?_
  ·refine⟨0,rfl,Nat.zero_le _, ?_, ?_, ?_, ?_,Wf.mem0.add _,by simp (disch:=try exact SX) only[RV,seval,zA0],rfl⟩ <;> simp (disch:=try exact SX) only[RV,seval,zA0,h0,h1]
   all_goals first | rfl | assumption | done
  ·rintro n t N hlt ⟨i,rfl,hi,g0,g3,g5,g6,w,g,hj⟩
   simp only[ht] at hlt ⊢
   have lg:=Mem.get_lt g
   by_cases hc:i<I.length
   ·have q1:decide ((i:Int)<I.length)=true:=DT
    have w1:IntKind.i64.wrap ((i:Int)+1)=((i+1:Nat):Int):=WI
    obtain⟨r,hiad,⟨hr1,_⟩,_⟩:=hrn.iad i hc
    subst hr1
    have hsn:=take_snoc I i hc
    have hmem:=List.getElem_mem hc
    generalize I[i]=y at *
    obtain⟨rf,hrf,hof⟩:=zVN (fuel:=fuel) (d:=d) (x:=y) (v:=o.hd.lb) hS hm (hiok y hmem) ho.2.1.1 hl hf
    have hml:=zQM l y o.hd.lb
    have ham:=fun M=>zHM (fuel:=fuel) (d:=d+3) hrf o.hd.lb (by omega) (by omega) M
    cases q2:zEO (made l y o.hd.lb) o.hd.lb with
    | true =>
     rw[q2] at ham
     simp (disch:=try exact SX) only[RV,seval,zA0,g0,g3,g5,g6,lrn,q1,hiad,g,hof,ham,w1,hS.fz.rows,hS.fz.one,hS.fz.cells,hS.fz.icy,hS.fz.frz,hR.fz.rows,hR.fz.one,hR.fz.cells,hR.fz.icy,hR.fz.frz,hrn.fz.rows,hrn.fz.one,hrn.fz.cells,hrn.fz.icy,hrn.fz.frz,hrf.fz.rows,hrf.fz.one,hrf.fz.cells,hrf.fz.icy,hrf.fz.frz]
     exact zB0T
    | false =>
     rw[q2] at ham
     have e:(I.all fun id=>zEO (made l id o.hd.lb) o.hd.lb)=false:=by
      rw[List.all_eq_false]
      exact⟨y,hmem,by rw[q2];decide⟩
     simp (disch:=try exact SX) only[RV,seval,zA0,g0,g3,g5,g6,lrn,q1,hiad,g,hof,ham,hS.fz.rows,hS.fz.one,hS.fz.cells,hS.fz.icy,hS.fz.frz,hR.fz.rows,hR.fz.one,hR.fz.cells,hR.fz.icy,hR.fz.frz,hrn.fz.rows,hrn.fz.one,hrn.fz.cells,hrn.fz.icy,hrn.fz.frz,hrf.fz.rows,hrf.fz.one,hrf.fz.cells,hrf.fz.icy,hrf.fz.frz]
     rw[e,Bool.and_false]
   ·obtain rfl:i=I.length:=by omega
    have q1:decide ((I.length:Int)<I.length)=false:=DF
    rw[List.take_length] at hj
    simp (disch:=try exact SX) only[RV,seval,zA0,g0,g3,g5,g6,lrn,q1,g,hle,hS.fz.rows,hS.fz.one,hS.fz.cells,hS.fz.icy,hS.fz.frz,hR.fz.rows,hR.fz.one,hR.fz.cells,hR.fz.icy,hR.fz.frz,hrn.fz.rows,hrn.fz.one,hrn.fz.cells,hrn.fz.icy,hrn.fz.frz]
    rw[hj,Bool.and_true]
 ·have hk':=decide_eq_false hk
  rw[if_neg hk]
  simp (disch:=try exact SX) only[RV,seval,zA0,h0,h1,hS.fz.rows,hS.fz.one,hS.fz.cells,hS.fz.icy,hS.fz.frz,hR.fz.rows,hR.fz.one,hR.fz.cells,hR.fz.icy,hR.fz.frz,hk']
def zD0 (l:List Op):List El:=l.flatMap fun o=>if o.kd=1 then o.rn.elB else []
theorem zV4 (l:List Op)(o:Op):zD0 (l++[o])=zD0 l++(if o.kd=1 then o.rn.elB else []):=by simp [zD0]
theorem zbR (r:Rn):r.elB.map (·.id)=r.sp.ids:=by simp [Rn.elB,Spn.ids,Function.comp_def]
theorem zLL (l:List Op):(zD0 l).map (·.id)=zB5 l:=by
 induction l with
 | nil=>rfl
 | cons o l ih =>
  have e1:zD0 (o::l)=(if o.kd=1 then o.rn.elB else [])++zD0 l:=by simp [zD0]
  have e2:zB5 (o::l)=(if o.kd=1 then o.sp.ids else [])++zB5 l:=by simp [zB5]
  rw[e1,e2,List.map_append,ih]
  split
  ·rw[zbR];rfl
  ·rfl
theorem zYW (l:List Op):(zD0 l).length=(zB5 l).length:=by rw[← zLL,List.length_map]
theorem zRI (l:List Op)(x:Eid):decide (0≤whI (zD0 l) x)=decide (x∈zB5 l):=by
 rw[ze3,← zLL,Bool.eq_iff_iff,List.any_eq_true,decide_eq_true_iff,List.mem_map]
 constructor
 ·rintro⟨e,he,h⟩;exact⟨e,he,of_decide_eq_true h⟩
 ·rintro⟨e,he,h⟩;exact⟨e,he,decide_eq_true h⟩
theorem zLM {l:List Op}(hr:∀ o∈l,o.kd=1→o.rn.may=true):(zD0 l).length≤64*l.length:=by
 induction l with
 | nil=>simp [zD0]
 | cons o l ih =>
  have e1:zD0 (o::l)=(if o.kd=1 then o.rn.elB else [])++zD0 l:=by simp [zD0]
  have:=ih fun p hp=>hr p (List.mem_cons_of_mem _ hp)
  rw[e1,List.length_append,List.length_cons]
  split
  ·rename_i hk
   have hb:=Spn.may_le (Rn.spB (hr o List.mem_cons_self hk))
   rw[zFY]
   omega
  ·simp;omega
theorem op_rn {o:Op}(h:o.ok):o.rn.ok:=⟨h.2.2.2.1,h.2.2.2.2.1,h.2.2.2.2.2.2⟩
theorem zJD (hS:Sl 17 isOp a l)(hr:∀ o∈l,o.kd=1→o.rn.may=true)(hl:l.length≤40000)(hf:l.length+300<fuel):∃ r,Sl 9 isEl r (zD0 l) ∧ ∀ M,zCN fuel (d+4) 53 [a] M=some (r,M):=by
 have ll:=hS.len
 refine zEP tf53 rfl (fun M=>by simp only[icyL,fun M=>hS.icy M 12 (by omega)]) ?_
 refine zAJ tf53 rfl (by simp only[icyL,fun M=>hS.icy M 12 (by omega)]) (by simp [a53]) fun b' ht hx=>?_
 have h0:=hx 0 _ rfl
 clear hx
 simp only[a53,c53] at ht ⊢
 simp (disch:=try exact SX) only[RV,seval,zA0,h0,hS.fz.rows,hS.fz.one,hS.fz.cells,hS.fz.icy,hS.fz.frz]
 refine zAZ (I:=fun n t N => ∃ (i:Nat) (o:AV),n=l.length - i∧i≤l.length∧nth zA1 t 0=a∧nth zA1 t 3=o∧nth zA1 t 4=I64 i∧Wf N∧SlM N 9 isEl o (zD0 (l.take i))) (n:=l.length) (by omega) ?_ ?_
 ·refine⟨0,NIL,rfl,Nat.zero_le _, ?_, ?_, ?_,Wf.mem0,SlM.nil⟩ <;> simp (disch:=try exact SX) only[RV,seval,zA0,h0]
  all_goals first | rfl | assumption | done
 ·rintro n t N hlt ⟨i,o,rfl,hi,g0,g3,g4,w,sm⟩
  simp only[ht] at hlt ⊢
  have oo:=sm.one
  have co:=sm.cells
  by_cases hc:i<l.length
  ·have q1:decide ((i:Int)<l.length)=true:=DT
   have w1:IntKind.i64.wrap ((i:Int)+1)=((i+1:Nat):Int):=WI
   obtain⟨r,hiad,hri,_⟩:=hS.iad i hc
   have hsn:=zV4 (l.take i) l[i]
   rw[← take_snoc l i hc] at hsn
   have hmi:=hr l[i] (List.getElem_mem hc)
   have hlen:=zLM (l:=l.take i) fun o ho=>hr o (List.mem_of_mem_take ho)
   rw[List.length_take] at hlen
   generalize l[i]=e at *
   obtain⟨ra,rfl,hra,hok⟩:=hri
   have ora:=hra.one
   by_cases hk:e.kd=1
   ·have hk':=decide_eq_true hk
    rw[if_pos hk] at hsn
    have hrm:=hmi hk
    have hb:=Spn.may_le (Rn.spB hrm)
    have h64:e.rn.sp.n.toNat≤64:=by omega
    simp (disch:=try exact SX) only[RV,seval,zA0,g0,g3,g4,ll,q1,hiad,hra.fz.rows,hra.fz.one,hra.fz.cells,hra.fz.icy,hra.fz.frz,hS.fz.rows,hS.fz.one,hS.fz.cells,hS.fz.icy,hS.fz.frz,hk',w,oo,co]
    have wX:Wf (((N.add (.row false (rnR ⟨⟨Eid.z,0⟩,Eid.z,[]⟩ NIL))).upd N.size (.row false (rnR e.rn ra))).add (.row false (rnR e.rn ra))):=((w.add _).upd _ _).add _
    have hsm:SlM (((N.add (.row false (rnR ⟨⟨Eid.z,0⟩,Eid.z,[]⟩ NIL))).upd N.size (.row false (rnR e.rn ra))).add (.row false (rnR e.rn ra))) 10 isRn (.sl (N.size+1) 0 1 (some 1) 10) [e.rn]:=zJV (rows:=[rnR e.rn ra]) (.cons ⟨ra,rfl,hra,op_rn hok⟩ .nil) (by simp) rfl (.inr rfl) (by rw[zAM ((w.add _).upd _ _) _ _ (by simp only[zAH,zA6];omega) (by simp only[zAH,zA6];omega)];rfl)
    refine SlR.hand (n:=d+2) (rest:=[]) (R:=fun r=>Sl 9 isEl r e.rn.elB) tf91 rfl (SlR.of hsm) wX zFI (fun _=>rfl) (fun o' ho'=>?_) fun r N2 hrr w2 s2 n2 k2=>?_
    ·obtain⟨r,h1,h2⟩:=zSD (fuel:=fuel) (d:=d) ho' (fun r hr=>by rw[List.mem_singleton] at hr;rw[hr];exact hrm) (by simp) (by simp;omega)
     exact⟨r,by simpa [elsB] using h1,h2⟩
    ·have sm2:SlM N2 9 isEl o (zD0 (l.take i)):=sm.keep fun j hj=>by
      have hlj:=sm.lt j hj
      rw[k2 j (by simp only[rowOf];intro h;cases h;omega),zAK ((w.add _).upd _ _) _ _ (by simp only[zAH,zA6];omega),zA2 (w.add _) _ _ _ (by omega),zAK w _ _ hlj]
     have rl2:=zAN sm2.rl (Nat.le_refl N2.size)
     simp (disch:=try exact SX) only[RV,seval,zA0,g0,g3,g4,w2,oo,co,rl2,hrr.fz.rows,hrr.fz.one,hrr.fz.cells,hrr.fz.icy,hrr.fz.frz]
     refine zWE (bytes:=56) w2 sm2 zMM.cel hrr (by omega) (by rw[zFY];omega) (by rw[zFY];omega) fun o' M' m' w' le' sz' kp' nw' wm' rl' on' oc'=>?_
     simp (disch:=try exact SX) only[RV,seval,zA0,g0,g3,g4,w',w1,on',oc']
     exact⟨hlt,l.length - (i+1),by omega,i+1,o',rfl,by omega,rfl,rfl,by rw[hsn];exact m'⟩
   ·have hk':=decide_eq_false hk
    rw[if_neg hk,List.append_nil] at hsn
    simp (disch:=try exact SX) only[RV,seval,zA0,g0,g3,g4,ll,q1,hiad,hra.fz.rows,hra.fz.one,hra.fz.cells,hra.fz.icy,hra.fz.frz,hS.fz.rows,hS.fz.one,hS.fz.cells,hS.fz.icy,hS.fz.frz,hk',w1]
    exact⟨hlt,l.length - (i+1),by omega,i+1,o,rfl,by omega,rfl,rfl,w,by rw[hsn];exact sm⟩
  ·obtain rfl:i=l.length:=by omega
   have q1:decide ((l.length:Int)<l.length)=false:=DF
   rw[List.take_length] at sm
   obtain⟨r,hz,hsr⟩:=sm.frz zMM.cel (k:=12) (by omega)
   simp (disch:=try exact SX) only[RV,seval,zA0,g0,g3,g4,ll,q1,hz,oo,hS.fz.rows,hS.fz.one,hS.fz.cells,hS.fz.icy,hS.fz.frz]
   exact⟨r,hsr,rfl⟩
theorem zPG {o:Op}{ae:AV}{E:List El}(hE:Sl 9 isEl ae E)(hx:x.ok)(hv:v.ok)(hl:E.length≤1000000000)(hf:E.length+100<fuel)(M:Mem):zCN fuel (d+3) 70 [ae,idA x,lbA v] M=some (BL (decide (0≤whI E x)&&x.hd.lb.leq v),M):=by
 have hw:=fun M=>zF2 (fuel:=fuel) (d:=d+1) hE x hl (by omega) M
 have hle:=fun M=>zGN (fuel:=fuel) (d:=d) x.hd.lb v hx.1.1 hv (by omega) M
 apply zB2
 refine zAJ tf70 rfl (by simp only[icyL,fun M=>hE.icy M 12 (by omega),zAT (zCH x) (show 1<12 by omega),zAT (zCO v) (show 1<12 by omega)]) (by simp [a70]) fun b' ht hx=>?_
 obtain⟨h0,h1,h2⟩:=hx3 hx
 clear hx
 simp only[a70,c70] at ht ⊢
 cases q:decide (0≤whI E x) with
 | false=>simp (disch:=try exact SX) only[RV,seval,zA0,h0,h1,h2,hE.fz.rows,hE.fz.one,hE.fz.cells,hE.fz.icy,hE.fz.frz,hw,q,ge_iff_le,Bool.false_and]
 | true=>simp (disch:=try exact SX) only[RV,seval,zA0,h0,h1,h2,hE.fz.rows,hE.fz.one,hE.fz.cells,hE.fz.icy,hE.fz.frz,hw,q,ge_iff_le,hle,Bool.true_and]
theorem zPI (hS:Sl 17 isOp a l)(hv:v.ok)(hl:l.length≤40000)(hf:l.length+200<fuel):∃ r,Sl 17 isOp r (lowL l v) ∧ ∀ M,zCN fuel (d+3) 32 [a,lbA v] M=some (r,M):=by
 have ll:=hS.len
 refine zEP tf32 rfl (fun M=>by simp only[icyL,fun M=>hS.icy M 12 (by omega),zAT (zCO v) (show 1<12 by omega)]) ?_
 refine zAJ tf32 rfl (by simp only[icyL,fun M=>hS.icy M 12 (by omega),zAT (zCO v) (show 1<12 by omega)]) (by simp [a32]) fun b' ht hx=>?_
 obtain⟨h0,h1⟩:=hx2 hx
 clear hx
 simp only[a32,c32] at ht ⊢
 simp (disch:=try exact SX) only[RV,seval,zA0,h0,h1,hS.fz.rows,hS.fz.one,hS.fz.cells,hS.fz.icy,hS.fz.frz]
 refine zAZ (I:=fun n t N => ∃ (i:Nat) (o:AV),n=l.length - i∧i≤l.length∧nth zA1 t 0=a∧nth zA1 t 3 = .ptr 0 0∧nth zA1 t 5=o∧nth zA1 t 6=I64 i∧Wf N∧N.get 0=some (.row false (lbR v))∧SlM N 17 isOp o (lowL (l.take i) v)∧(∀ j,rowOf o=some j→1≤j)) (n:=l.length) (by omega) ?_ ?_
 ·refine⟨0,NIL,rfl,Nat.zero_le _, ?_, ?_, ?_, ?_,Wf.mem0.add _,by simp (disch:=try exact SX) only[RV,seval,zA0],SlM.nil,(fun _ h=>by cases h)⟩ <;> simp (disch:=try exact SX) only[RV,seval,zA0,h0,h1]
  all_goals first | rfl | assumption | done
 ·rintro n t N hlt ⟨i,o,rfl,hi,g0,g3,g5,g6,w,m0,sm,ro⟩
  simp only[ht] at hlt ⊢
  have l0:=Mem.get_lt m0
  have oo:=sm.one
  have co:=sm.cells
  by_cases hc:i<l.length
  ·have q1:decide ((i:Int)<l.length)=true:=DT
   have w1:IntKind.i64.wrap ((i:Int)+1)=((i+1:Nat):Int):=WI
   obtain⟨r,hiad,hri,_⟩:=hS.iad i hc
   have hsn:=zQL (l.take i) l[i] v
   rw[← take_snoc l i hc] at hsn
   have hll:=zLK (l.take i) v
   rw[List.length_take] at hll
   generalize l[i]=e at *
   obtain⟨ra,rfl,hra,hok⟩:=hri
   have ora:=hra.one
   have hle:=fun M=>zGN (fuel:=fuel) (d:=d) e.hd.lb v hok.2.1.1 hv (by omega) M
   cases q2:e.hd.lb.leq v with
   | false =>
    rw[q2] at hle
    rw[q2,if_neg (by decide),List.append_nil] at hsn
    simp (disch:=try exact SX) only[RV,seval,zA0,g0,g3,g5,g6,ll,q1,hiad,hra.fz.rows,hra.fz.one,hra.fz.cells,hra.fz.icy,hra.fz.frz,hS.fz.rows,hS.fz.one,hS.fz.cells,hS.fz.icy,hS.fz.frz,m0,hle,w1]
    exact zB0h
   | true =>
    rw[q2] at hle
    rw[q2,if_pos rfl] at hsn
    simp (disch:=try exact SX) only[RV,seval,zA0,g0,g3,g5,g6,ll,q1,hiad,hra.fz.rows,hra.fz.one,hra.fz.cells,hra.fz.icy,hra.fz.frz,hS.fz.rows,hS.fz.one,hS.fz.cells,hS.fz.icy,hS.fz.frz,m0,hle,w,oo,co]
    refine⟨zAN sm.rl (by omega), ?_⟩
    refine app1 (bytes:=112) w sm zMN (x:=e) ⟨ra,rfl,hra,hok⟩ rfl (by omega) (by omega) (by omega) fun o' M' m' w' le' kp' nw' wm' rl' on' oc'=>?_
    simp (disch:=try exact SX) only[RV,seval,zA0,g0,g3,g5,g6,w',w1,on',oc']
    refine⟨hlt,l.length - (i+1),by omega,i+1,o',rfl,by omega,rfl,rfl, ?_,by rw[hsn];exact m',fun j hj=>?_⟩
    ·rw[kp' 0 l0 (fun h=>by have:=ro 0 h;omega)];exact m0
    ·exact zB0o
  ·obtain rfl:i=l.length:=by omega
   have q1:decide ((l.length:Int)<l.length)=false:=DF
   rw[List.take_length] at sm
   obtain⟨r,hz,hsr⟩:=sm.frz zMN.cel (k:=12) (by omega)
   simp (disch:=try exact SX) only[RV,seval,zA0,g0,g3,g5,g6,ll,q1,hz,oo,hS.fz.rows,hS.fz.one,hS.fz.cells,hS.fz.icy,hS.fz.frz]
   exact⟨r,hsr,rfl⟩
theorem zHX:∀ {pre l:List Op},zAY pre l=true → ∀ o∈l,o.may=true
 | _,[],_,_,h=>by cases h
 | pre,o::l,h,p,hp=>by
  simp only[zAY,Bool.and_eq_true] at h
  rcases List.mem_cons.1 hp with rfl | hp
  ·exact h.1.1
  ·exact zHX h.2 p hp
theorem zKB (a b:Int):zLH a b=0↔BitVec.ofInt 32 a &&& ~~~ BitVec.ofInt 32 b=0#32:=by
 have e:zLH a b=((BitVec.ofInt 32 a &&& ~~~ BitVec.ofInt 32 b).toNat:Int):=by
  have:=(BitVec.ofInt 32 a &&& ~~~ BitVec.ofInt 32 b).isLt
  unfold zLH
  generalize (BitVec.ofInt 32 a &&& ~~~ BitVec.ofInt 32 b).toNat=z at *
  simp [IntKind.wrap,IntKind.bits,IntKind.signed]
  omega
 rw[e,← BitVec.toNat_inj]
 simp
theorem zYJ (a:Lb):a.leq a=true:=by
 unfold Lb.leq
 simp only[Bool.and_eq_true,decide_eq_true_eq,zKB]
 refine⟨Int.le_refl _, ?_⟩
 apply BitVec.eq_of_getLsbD_eq
 intro i hi
 simp only[BitVec.getLsbD_and,BitVec.getLsbD_not,hi,BitVec.getLsbD_zero,decide_true,Bool.true_and]
 cases (BitVec.ofInt 32 a.cats).getLsbD i <;> rfl
theorem zbY {pre:List Op}{o:Op}(h:fitE pre o=0):pre.length<2048:=by
 unfold fitE at h
 split at h
 ·split at h
  ·cases h
  ·omega
 ·rename_i h1;exact absurd h h1
theorem zL4 {pre:List Op}{o:Op}(h:fitE pre o=0):zG0 pre o=0:=by
 unfold fitE at h
 split at h
 ·assumption
 ·exact h
theorem zU1 {pre:List Op}{o:Op}(hm:o.may=true)(h:fitE pre o=0):zCE pre o=true:=by
 by_cases hk:o.kd=3
 ·have h1:=zL4 h
  unfold zG0 at h1
  rw[if_neg (by omega),if_neg (by omega)] at h1
  unfold raiE at h1
  split at h1
  ·split at h1
   ·rename_i h2
    have:=h2.2
    unfold chfB at this
    simp only[Bool.and_eq_true] at this
    exact this.2
   ·cases h1
  ·cases h1
 ·unfold zCE
  rw[if_neg hk]
theorem zK7:∀ {pre l:List Op},zAY pre l=true→zHQ pre l=true
 | _,[],_=>rfl
 | pre,o::l,h=>by
  simp only[zAY,Bool.and_eq_true,decide_eq_true_eq] at h
  simp only[zHQ,Bool.and_eq_true]
  exact⟨⟨h.1.1,zU1 h.1.1 h.1.2⟩,zK7 h.2⟩
theorem zQA:∀ {pre l:List Op},zAY pre l=true→l≠[]→pre.length+l.length≤2048
 | _,[],_,h=>absurd rfl h
 | pre,[o],h,_=>by
  simp only[zAY,Bool.and_eq_true,decide_eq_true_eq] at h
  have:=zbY h.1.2
  simp only[List.length_singleton]
  omega
 | pre,o::p::l,h,_=>by
  simp only[zAY,Bool.and_eq_true] at h
  have:=zQA (pre:=pre++[o]) (l:=p::l) (by simp only[zAY,Bool.and_eq_true];exact h.2) (by simp)
  simp only[List.length_append,List.length_cons,List.length_nil] at this ⊢
  omega
theorem zS3 {l:List Op}(h:zAY [] l=true):zHF l=0:=by
 have h1:¬2048<l.length:=by
  by_cases e:l=[]
  ·subst e;simp
  ·have:=zQA h e
   simp only[List.length_nil] at this
   omega
 unfold zHF
 rw[if_neg h1,zK7 h]
 rfl
theorem zb7 {o:Op}(hm:o.may=true)(hk:o.kd=1):rofE o=0↔o.rn.may=true:=by
 unfold rofE
 rw[if_pos hm]
 by_cases h:o.rn.may=true
 ·rw[if_pos ⟨hk,h⟩];simp [h]
 ·rw[if_neg (fun k=>h k.2)];simp [h]
theorem zIM:∀ {pre l:List Op},zAY pre l=true → ∀ o∈l,o.kd=1→o.rn.may=true
 | _,[],_,o,ho,_=>absurd ho (by simp)
 | pre,p::l,h,o,ho,hk=>by
  simp only[zAY,Bool.and_eq_true,decide_eq_true_eq] at h
  rcases List.mem_cons.1 ho with rfl | ho
  ·have h0:=zL4 h.1.2
   unfold zG0 at h0
   rw[if_pos hk] at h0
   unfold insE at h0
   split at h0
   ·cases h0
   ·split at h0
    ·cases h0
    ·rename_i h2
     exact(zb7 h.1.1 hk).1 (Classical.byContradiction fun hne=>h2 (.inl hne))
  ·exact zIM h.2 o ho hk
theorem zdK (l:List Op)(o:Op)(x:Eid):(decide (0≤whI (zD0 l) x)&&x.hd.lb.leq o.hd.lb)=zEH l o x:=by unfold zEH;rw[zRI]
theorem zgG {o:Op}(hh:zAY [] l=true)(hm:o.may=true):raiE l o=if allB l o then (if zCE l o then 0 else 2) else 6:=by
 have hc:=zS3 hh
 have h1:chfE l o=0:=by unfold chfE;rw[if_pos hc,hm];rfl
 unfold raiE chfB
 rw[h1]
 simp
theorem zHO {o:Op}{ra:AV}(hS:Sl 17 isOp a l)(hR:Sl 1 zAS ra o.rs)(ho:o.ok)(hh:zAY [] l=true)(hom:o.may=true)(hl:l.length≤10000)(hf:64*l.length+2000<fuel)(M:Mem):zCN fuel (d+6) 38 [a,.agg (opR o ra)] M=some (I64 (fitE l o),M):=by
 have ll:=hS.len
 have ora:=hR.one
 have hsm:=may_sp hom
 have hb:=Spn.may_le hsm
 have hrnm:=zIM hh
 obtain⟨ro,hro,hon⟩:=zJD (fuel:=fuel) (d:=d+1) hS hrnm (by omega) (by omega)
 obtain⟨rn,hrn,hall⟩:=zJH (fuel:=fuel) (d:=d+4) ho.2.2.2.1 hsm (by omega)
 have lro:=hro.len
 have lrn:=hrn.len
 have hom1:=zLM hrnm
 have hil:(o.sp.ids.length:Int)=o.sp.n:=by unfold Spn.ids;rw[List.length_map,List.length_range];omega
 have hiok:∀ y∈o.sp.ids,y.ok:=fun y hy=>by
  exact zB0Q
 have hse:=fun y hy M=>zPG (fuel:=fuel) (d:=d+2) (x:=y) (v:=o.hd.lb) (o:=o) hro hy ho.2.1.1 (by omega) (by omega) M
 simp only[zdK l o] at hse
 have hwh:=fun y M=>zF2 (fuel:=fuel) (d:=d+4) hro y (by omega) (by omega) M
 have hri:=fun M=>zNM (fuel:=fuel) (d:=d) hS hR ho (zHX hh) hom (by omega) (by omega) M
 have e2048:∀ b:Bool,(2048≤(l.length:Int)↔b=true)→(if 2048≤l.length then (4:Int) else 0)=if b=true then 4 else 0:=fun b h=>by
  by_cases q:2048≤l.length
  ·rw[if_pos q,if_pos (h.1 (by omega))]
  ·rw[if_neg q,if_neg (fun k=>q (by have:=h.2 k;omega))]
 apply zB2
 refine zAJ tf38 rfl (by simp only[icyL,fun M=>hS.icy M 12 (by omega),zDI hR.fz]) (by simp [a38]) fun b' ht hx=>?_
 obtain⟨h0,h1⟩:=hx2 hx
 clear hx
 simp only[a38,c38] at ht ⊢
 unfold fitE zG0
 by_cases hk:o.kd=1
 ·have k1:=decide_eq_true hk
  have k2:decide (o.kd=2)=false:=DF
  have k3:decide (o.kd=3)=false:=DF
  rw[if_pos hk]
  have hsa:=fun M=>hse o.af ho.2.2.2.2.1 M
  have h16:∀ M,zCN fuel (d+5) 71 [.agg [U8 o.sp.f.hd.lb.lv,U32 o.sp.f.hd.lb.cats,U8 o.sp.f.hd.num,I64 o.sp.f.c,I64 o.sp.n,U8 o.af.hd.lb.lv,U32 o.af.hd.lb.cats,U8 o.af.hd.num,I64 o.af.c,ra]] M=some (BL o.rn.may,M):=fun M=>zSC (fuel:=fuel) (d:=d) (o:=o.rn) hR ho.2.2.2.2.2.2 (by omega) M
  have hro1:=zb7 hom hk
  unfold insE
  by_cases z:o.af≠Eid.z∧zEH l o o.af=false
  ·rw[if_pos z]
   have z1:decide (o.af=Eid.z)=false:=decide_eq_false z.1
   rw[z.2] at hsa
   simp (disch:=try exact SX) only[RV,seval,zA0,h0,h1,hS.fz.rows,hS.fz.one,hS.fz.cells,hS.fz.icy,hS.fz.frz,hR.fz.rows,hR.fz.one,hR.fz.cells,hR.fz.icy,hR.fz.frz,hon,hall,k1,↓pIdE,zAA,↓pIdN,zA9,↓pHdE,zAB,↓pHdN,zAC,↓pLbE,zA8,↓pLbN,zAD,↓pSpE,zAE,↓pSpN,zAF,ETA,z1,hsa,hro.fz.rows,hro.fz.one,hro.fz.cells,hro.fz.icy,hro.fz.frz,hrn.fz.rows,hrn.fz.one,hrn.fz.cells,hrn.fz.icy,hrn.fz.frz]
   all_goals rfl
  ·rw[if_neg z]
   have zz:decide (o.af=Eid.z)=true∨(decide (o.af=Eid.z)=false∧zEH l o o.af=true):=by
    by_cases z1:o.af=Eid.z
    ·exact .inl (decide_eq_true z1)
    ·refine .inr ⟨decide_eq_false z1, ?_⟩
     cases h:zEH l o o.af with
     | true=>rfl
     | false=>exact absurd ⟨z1,h⟩ z
   by_cases hr1:o.rn.may=true
   ·rw[hr1] at h16
    have hro0:=hro1.2 hr1
    have st1:True:=trivial
    generalize hI:o.sp.ids=I at *
    rcases zz with z1 | ⟨z1,z2⟩
    all_goals (try rw[z2] at hsa)
    all_goals simp (disch:=try exact SX) only[RV,seval,zA0,h0,h1,hS.fz.rows,hS.fz.one,hS.fz.cells,hS.fz.icy,hS.fz.frz,hR.fz.rows,hR.fz.one,hR.fz.cells,hR.fz.icy,hR.fz.frz,hon,hall,k1,↓pIdE,zAA,↓pIdN,zA9,↓pHdE,zAB,↓pHdN,zAC,↓pLbE,zA8,↓pLbN,zAD,↓pSpE,zAE,↓pSpN,zAF,ETA,z1,hsa,h16,hro.fz.rows,hro.fz.one,hro.fz.cells,hro.fz.icy,hro.fz.frz,hrn.fz.rows,hrn.fz.one,hrn.fz.cells,hrn.fz.icy,hrn.fz.frz]
    all_goals
     refine zAZ (I:=fun n t N => ∃ (i:Nat),n=I.length - i∧i≤I.length∧nth zA1 t 0=a∧nth zA1 t 3 = .ptr 0 0∧nth zA1 t 5=ro∧nth zA1 t 6=rn∧nth zA1 t 7=I64 i∧Wf N∧N.get 0=some (.row false (opR o ra))∧(I.take i).any (fun x=>decide (x∈zB5 l))=false) (n:=I.length) (by omega) ?_ ?_
     ·exact zB0m
     ·rintro n t N hlt ⟨i,rfl,hi,g0,g3,g5,g6,g7,w,g,hj⟩
      simp only[ht] at hlt ⊢
      have lg:=Mem.get_lt g
      by_cases hc:i<I.length
      ·have q1:decide ((i:Int)<I.length)=true:=DT
       have w1:IntKind.i64.wrap ((i:Int)+1)=((i+1:Nat):Int):=WI
       obtain⟨r,hiad,⟨hr1,_⟩,_⟩:=hrn.iad i hc
       subst hr1
       have hsn:=take_snoc I i hc
       have hmem:=List.getElem_mem hc
       generalize I[i]=y at *
       have hw0:=zRI l y
       have hwy:=fun M=>hwh y M
       cases q2:decide (0≤whI (zD0 l) y) with
       | true =>
        rw[q2] at hw0
        have e:(I.any fun x=>decide (x∈zB5 l))=true:=List.any_eq_true.2 ⟨y,hmem,hw0.symm⟩
        simp (disch:=try exact SX) only[RV,seval,zA0,g0,g3,g5,g6,g7,lrn,q1,hiad,hwy,q2,ge_iff_le,hro.fz.rows,hro.fz.one,hro.fz.cells,hro.fz.icy,hro.fz.frz,hrn.fz.rows,hrn.fz.one,hrn.fz.cells,hrn.fz.icy,hrn.fz.frz]
        rw[if_pos (Or.inr e)]
        rfl
       | false =>
        rw[q2] at hw0
        simp (disch:=try exact SX) only[RV,seval,zA0,g0,g3,g5,g6,g7,lrn,q1,hiad,hwy,q2,ge_iff_le,w1,hro.fz.rows,hro.fz.one,hro.fz.cells,hro.fz.icy,hro.fz.frz,hrn.fz.rows,hrn.fz.one,hrn.fz.cells,hrn.fz.icy,hrn.fz.frz]
        exact⟨hlt,I.length - (i+1),by omega,i+1,rfl,by omega,rfl,w,g,by rw[hsn,List.any_append,hj];simp [← hw0]⟩
      ·obtain rfl:i=I.length:=by omega
       have q1:decide ((I.length:Int)<I.length)=false:=DF
       rw[List.take_length] at hj
       rw[if_neg (show ¬(rofE o≠0∨(I.any fun x=>decide (x∈zB5 l))=true) from fun h=>h.elim (fun h=>h hro0) (fun h=>by rw[hj] at h;cases h))]
       have hlo:=zYW l
       have w2:IntKind.i64.wrap (((zD0 l).length:Int)+I.length)=((zB5 l).length:Int)+o.sp.n:=by rw[hlo,hil,wrap_i64] <;> omega
       by_cases q3:8192<((zB5 l).length:Int)+o.sp.n
       ·have q3':=decide_eq_true q3
        rw[if_pos q3]
        simp (disch:=try exact SX) only[RV,seval,zA0,g0,g3,g5,g6,g7,lrn,lro,q1,w2,q3',hro.fz.rows,hro.fz.one,hro.fz.cells,hro.fz.icy,hro.fz.frz,hrn.fz.rows,hrn.fz.one,hrn.fz.cells,hrn.fz.icy,hrn.fz.frz]
        all_goals rfl
       ·have q3':=decide_eq_false q3
        rw[if_neg q3]
        simp (disch:=try exact SX) only[RV,seval,zA0,g0,g3,g5,g6,g7,lrn,lro,q1,w2,q3',hro.fz.rows,hro.fz.one,hro.fz.cells,hro.fz.icy,hro.fz.frz,hrn.fz.rows,hrn.fz.one,hrn.fz.cells,hrn.fz.icy,hrn.fz.frz]
        refine w_un (by omega) ?_
        have q4:decide ((0:Int)<I.length)=true:=DT
        by_cases q5:2048≤l.length
        ·have q5':decide ((2048:Int)≤l.length)=true:=DT
         simp (disch:=try exact SX) only[RV,seval,zA0,g0,g3,g5,g6,lrn,q4,g,k1,k2,k3,ll,q5',ge_iff_le,hS.fz.rows,hS.fz.one,hS.fz.cells,hS.fz.icy,hS.fz.frz,hR.fz.rows,hR.fz.one,hR.fz.cells,hR.fz.icy,hR.fz.frz,hro.fz.rows,hro.fz.one,hro.fz.cells,hro.fz.icy,hro.fz.frz,hrn.fz.rows,hrn.fz.one,hrn.fz.cells,hrn.fz.icy,hrn.fz.frz,zBW,zCT,zE3]
         rw[if_pos q5]
        ·have q5':decide ((2048:Int)≤l.length)=false:=DF
         simp (disch:=try exact SX) only[RV,seval,zA0,g0,g3,g5,g6,lrn,q4,g,k1,k2,k3,ll,q5',ge_iff_le,hS.fz.rows,hS.fz.one,hS.fz.cells,hS.fz.icy,hS.fz.frz,hR.fz.rows,hR.fz.one,hR.fz.cells,hR.fz.icy,hR.fz.frz,hro.fz.rows,hro.fz.one,hro.fz.cells,hro.fz.icy,hro.fz.frz,hrn.fz.rows,hrn.fz.one,hrn.fz.cells,hrn.fz.icy,hrn.fz.frz,zBW,zCT,zE3]
         rw[if_neg q5]
   ·have hr2:o.rn.may=false:=by cases h:o.rn.may with
     | true=>exact absurd h hr1
     | false=>rfl
    rw[hr2] at h16
    rw[if_pos (show rofE o≠0∨_ from .inl fun h=>hr1 (hro1.1 h))]
    rcases zz with z1 | ⟨z1,z2⟩
    all_goals (try rw[z2] at hsa)
    all_goals simp (disch:=try exact SX) only[RV,seval,zA0,h0,h1,hS.fz.rows,hS.fz.one,hS.fz.cells,hS.fz.icy,hS.fz.frz,hR.fz.rows,hR.fz.one,hR.fz.cells,hR.fz.icy,hR.fz.frz,hon,hall,k1,↓pIdE,zAA,↓pIdN,zA9,↓pHdE,zAB,↓pHdN,zAC,↓pLbE,zA8,↓pLbN,zAD,↓pSpE,zAE,↓pSpN,zAF,ETA,z1,hsa,h16,hro.fz.rows,hro.fz.one,hro.fz.cells,hro.fz.icy,hro.fz.frz,hrn.fz.rows,hrn.fz.one,hrn.fz.cells,hrn.fz.icy,hrn.fz.frz]
    all_goals rfl
 ·have k1:=decide_eq_false hk
  rw[if_neg hk]
  have hk23:=(zaZ hom ho).resolve_left hk
  have eK:(if o.kd=2 then remE l o else raiE l o)=if allB l o then (if (o.kd=2∧o.sp.f.hd.lb≠o.hd.lb)∨(o.kd=3∧zCE l o=false) then 2 else 0) else 6:=by
   rcases hk23 with h2 | h3
   ·rw[if_pos h2]
    unfold remE
    by_cases q:o.sp.f.hd.lb=o.hd.lb
    ·rw[if_pos q,if_neg (c:=_∨_) (fun h=>h.elim (fun h=>h.2 q) (fun h=>by omega))]
    ·rw[if_neg q,if_pos (c:=_∨_) (.inl ⟨h2,q⟩)]
   ·rw[if_neg (by omega),zgG hh hom]
    cases hri':zCE l o with
    | true=>rw[if_pos rfl,if_neg (c:=_∨_) (fun h=>h.elim (fun h=>by omega) (fun h=>by cases h.2))]
    | false =>
     rw[if_pos (c:=_∨_) (.inr ⟨h3,rfl⟩)]
     simp
  rw[eK]
  unfold allB
  generalize hI:o.sp.ids=I at *
  simp (disch:=try exact SX) only[RV,seval,zA0,h0,h1,hS.fz.rows,hS.fz.one,hS.fz.cells,hS.fz.icy,hS.fz.frz,hR.fz.rows,hR.fz.one,hR.fz.cells,hR.fz.icy,hR.fz.frz,hon,hall,k1,hro.fz.rows,hro.fz.one,hro.fz.cells,hro.fz.icy,hro.fz.frz,hrn.fz.rows,hrn.fz.one,hrn.fz.cells,hrn.fz.icy,hrn.fz.frz]
  refine zAZ (I:=fun n t N => ∃ (i:Nat),n=I.length - i∧i≤I.length∧nth zA1 t 0=a∧nth zA1 t 3 = .ptr 0 0∧nth zA1 t 5=ro∧nth zA1 t 6=rn∧nth zA1 t 8=I64 i∧Wf N∧N.get 0=some (.row false (opR o ra))∧(I.take i).all (fun x=>zEH l o x)=true) (n:=I.length) (by omega) ?_ ?_
  ·exact zB0m
  ·rintro n t N hlt ⟨i,rfl,hi,g0,g3,g5,g6,g8,w,g,hj⟩
   simp only[ht] at hlt ⊢
   have lg:=Mem.get_lt g
   by_cases hc:i<I.length
   ·have q1:decide ((i:Int)<I.length)=true:=DT
    have w1:IntKind.i64.wrap ((i:Int)+1)=((i+1:Nat):Int):=WI
    obtain⟨r,hiad,⟨hr1,_⟩,_⟩:=hrn.iad i hc
    subst hr1
    have hsn:=take_snoc I i hc
    have hmem:=List.getElem_mem hc
    generalize I[i]=y at *
    have hsy:=fun M=>hse y (hiok y hmem) M
    cases q2:zEH l o y with
    | true =>
     rw[q2] at hsy
     simp (disch:=try exact SX) only[RV,seval,zA0,g0,g3,g5,g6,g8,lrn,q1,g,k1,hiad,hsy,w1,hR.fz.rows,hR.fz.one,hR.fz.cells,hR.fz.icy,hR.fz.frz,hro.fz.rows,hro.fz.one,hro.fz.cells,hro.fz.icy,hro.fz.frz,hrn.fz.rows,hrn.fz.one,hrn.fz.cells,hrn.fz.icy,hrn.fz.frz]
     exact zB0T
    | false =>
     rw[q2] at hsy
     have e:(I.all fun x=>zEH l o x)=false:=by
      rw[List.all_eq_false]
      exact⟨y,hmem,by rw[q2];decide⟩
     simp (disch:=try exact SX) only[RV,seval,zA0,g0,g3,g5,g6,g8,lrn,q1,g,k1,hiad,hsy,hR.fz.rows,hR.fz.one,hR.fz.cells,hR.fz.icy,hR.fz.frz,hro.fz.rows,hro.fz.one,hro.fz.cells,hro.fz.icy,hro.fz.frz,hrn.fz.rows,hrn.fz.one,hrn.fz.cells,hrn.fz.icy,hrn.fz.frz]
     rw[e]
     rfl
   ·obtain rfl:i=I.length:=by omega
    have q1:decide ((I.length:Int)<I.length)=false:=DF
    rw[List.take_length] at hj
    rw[hj,if_pos rfl]
    by_cases q5:2048≤l.length
    ·have q5':decide ((2048:Int)≤l.length)=true:=DT
     rcases hk23 with h2 | h3
     ·have k2:=decide_eq_true h2
      have k3:decide (o.kd=3)=false:=DF
      cases q6:decide (o.sp.f.hd.lb=o.hd.lb) with
      | true =>
       rw[if_neg (c:=_∨_) (fun h=>h.elim (fun h=>h.2 (of_decide_eq_true q6)) (fun h=>by omega)),if_pos rfl,if_pos q5]
       exact zB0b
      | false =>
       exact zB08
     ·have k2:decide (o.kd=2)=false:=DF
      have k3:=decide_eq_true h3
      cases q6:zCE l o with
      | true =>
       rw[q6] at hri
       rw[if_neg (c:=_∨_) (fun h=>h.elim (fun h=>by omega) (fun h=>by cases h.2)),if_pos rfl,if_pos q5]
       exact zB0e
      | false =>
       exact zB0a
    ·have q5':decide ((2048:Int)≤l.length)=false:=DF
     rcases hk23 with h2 | h3
     ·have k2:=decide_eq_true h2
      have k3:decide (o.kd=3)=false:=DF
      cases q6:decide (o.sp.f.hd.lb=o.hd.lb) with
      | true =>
       rw[if_neg (c:=_∨_) (fun h=>h.elim (fun h=>h.2 (of_decide_eq_true q6)) (fun h=>by omega)),if_pos rfl,if_neg q5]
       exact zB0b
      | false =>
       exact zB08
     ·have k2:decide (o.kd=2)=false:=DF
      have k3:=decide_eq_true h3
      cases q6:zCE l o with
      | true =>
       rw[q6] at hri
       rw[if_neg (c:=_∨_) (fun h=>h.elim (fun h=>by omega) (fun h=>by cases h.2)),if_pos rfl,if_neg q5]
       exact zB0e
      | false =>
       exact zB0a
theorem zS4 (l:List Op)(o:Op):zAY [] (l++[o])=(zAY [] l&&(o.may&&decide (fitE l o=0))):=by
 have key:∀ (l pre:List Op),zAY pre (l++[o])=(zAY pre l&&(o.may&&decide (fitE (pre++l) o=0))):=by
  intro l
  induction l with
  | nil=>intro pre;simp [zAY]
  | cons p l ih=>intro pre;simp only[List.cons_append,zAY,ih];simp [Bool.and_assoc]
 simpa using key l []
theorem zK8:∀ {pre l m:List Op},zAY pre (l++m)=true→zAY pre l=true
 | _,[],_,_=>rfl
 | pre,o::l,m,h=>by
  simp only[List.cons_append,zAY,Bool.and_eq_true] at h ⊢
  exact⟨h.1,zK8 h.2⟩
theorem zE9 (hS:Sl 17 isOp a l)(hl:l.length≤10000)(hf:64*l.length+2000<fuel)(M:Mem):zCN fuel (d+7) 22 [a] M=some (BL (zAY [] l),M):=by
 have ll:=hS.len
 apply zB2
 refine zAJ tf22 rfl (by simp only[icyL,fun M=>hS.icy M 12 (by omega)]) (by simp [a22]) fun b' ht hx=>?_
 have h0:=hx 0 _ rfl
 clear hx
 simp only[a22,c22] at ht ⊢
 simp (disch:=try exact SX) only[RV,seval,zA0,h0,hS.fz.rows,hS.fz.one,hS.fz.cells,hS.fz.icy,hS.fz.frz]
 refine zAZ (I:=fun n t N => ∃ (i:Nat),n=l.length - i∧i≤l.length∧nth zA1 t 0=a∧nth zA1 t 3=I64 i∧Wf N∧zAY [] (l.take i)=true) (n:=l.length) (by omega) ?_ ?_
 ·refine⟨0,rfl,Nat.zero_le _, ?_, ?_,Wf.mem0,rfl⟩ <;> simp (disch:=try exact SX) only[RV,seval,zA0,h0]
  all_goals first | rfl | assumption | done
 ·rintro n t N hlt ⟨i,rfl,hi,g0,g3,w,hj⟩
  simp only[ht] at hlt ⊢
  by_cases hc:i<l.length
  ·have q1:decide ((i:Int)<l.length)=true:=DT
   have w1:IntKind.i64.wrap ((i:Int)+1)=((i+1:Nat):Int):=WI
   obtain⟨r,hiad,hri,_⟩:=hS.iad i hc
   obtain⟨at1,hsl,hst⟩:=zZW hS (j:=i) (by omega)
   have hsn:=zS4 (l.take i) l[i]
   rw[← take_snoc l i hc,hj,Bool.true_and] at hsn
   have hlt1:(l.take i).length≤i:=by rw[List.length_take];omega
   have hbad:zAY [] (l.take (i+1))=false→zAY [] l=false:=fun h=>by
    cases k:zAY [] l with
    | false=>rfl
    | true =>
     have e:l=l.take (i+1)++l.drop (i+1):=(List.take_append_drop _ _).symm
     rw[e] at k
     rw[zK8 k] at h
     cases h
   generalize l[i]=e at *
   obtain⟨ra,rfl,hra,hok⟩:=hri
   have ora:=hra.one
   have hm9:=fun M=>zNO (fuel:=fuel) (d:=d+1) hra hok (by omega) M
   cases q2:e.may with
   | false =>
    rw[q2] at hm9 hsn
    rw[hbad (by rw[hsn,Bool.false_and])]
    simp (disch:=try exact SX) only[RV,seval,zA0,g0,g3,ll,q1,hiad,hra.fz.rows,hra.fz.one,hra.fz.cells,hra.fz.icy,hra.fz.frz,hS.fz.rows,hS.fz.one,hS.fz.cells,hS.fz.icy,hS.fz.frz,hm9,hsl,hst.fz.rows,hst.fz.one,hst.fz.cells,hst.fz.icy,hst.fz.frz]
   | true =>
    have her:=fun M=>zHO (fuel:=fuel) (d:=d) hst hra hok hj q2 (by omega) (by omega) M
    rw[q2] at hm9 hsn
    by_cases q3:fitE (l.take i) e=0
    ·have q3':=decide_eq_true q3
     rw[q3',Bool.true_and] at hsn
     simp (disch:=try exact SX) only[RV,seval,zA0,g0,g3,ll,q1,hiad,hra.fz.rows,hra.fz.one,hra.fz.cells,hra.fz.icy,hra.fz.frz,hS.fz.rows,hS.fz.one,hS.fz.cells,hS.fz.icy,hS.fz.frz,hm9,hsl,hst.fz.rows,hst.fz.one,hst.fz.cells,hst.fz.icy,hst.fz.frz,her,q3',w1]
     exact⟨hlt,l.length - (i+1),by omega,i+1,rfl,by omega,rfl,w,hsn⟩
    ·have q3':=decide_eq_false q3
     rw[q3',Bool.true_and] at hsn
     rw[hbad hsn]
     simp (disch:=try exact SX) only[RV,seval,zA0,g0,g3,ll,q1,hiad,hra.fz.rows,hra.fz.one,hra.fz.cells,hra.fz.icy,hra.fz.frz,hS.fz.rows,hS.fz.one,hS.fz.cells,hS.fz.icy,hS.fz.frz,hm9,hsl,hst.fz.rows,hst.fz.one,hst.fz.cells,hst.fz.icy,hst.fz.frz,her,q3']
  ·obtain rfl:i=l.length:=by omega
   have q1:decide ((l.length:Int)<l.length)=false:=DF
   rw[List.take_length] at hj
   rw[hj]
   simp (disch:=try exact SX) only[RV,seval,zA0,g0,g3,ll,q1,hS.fz.rows,hS.fz.one,hS.fz.cells,hS.fz.icy,hS.fz.frz]
theorem zcQ {o:Op}(h:o.may=true)(hk:o.kd=1):o.sp.f.hd=o.hd∧(o.rs.length:Int)=o.sp.n:=by
 unfold Op.may Op.part at h
 rw[if_pos hk] at h
 simp only[Bool.and_eq_true,decide_eq_true_eq] at h
 exact⟨h.2.1.1.2,h.2.1.2⟩
section
variable {pre : List Op} {o : Op}
end
theorem zLA:∀ (pre a b:List Op),zAY pre (a++b)=(zAY pre a&&zAY (pre++a) b)
 | pre,[],b=>by simp [zAY]
 | pre,o::a,b=>by
  simp only[List.cons_append,zAY]
  rw[zLA (pre++[o]) a b,List.append_assoc]
  simp only[List.cons_append,List.nil_append,Bool.and_assoc]
def stepT (t:List Rn)(o:Op):List Rn:=if rofE o=0 then insL t o.rn else t
def textOf (l:List Op):List Rn:=l.foldl stepT []
theorem zG7 (l:List Op)(o:Op):textOf (l++[o])=stepT (textOf l) o:=by simp [textOf]
theorem zMQ (l:List Op)(o:Op):zAY [] (l++[o])=(zAY [] l&&(o.may&&decide (fitE l o=0))):=by
 rw[zLA]
 simp [zAY]
theorem zKZ (o:Op):o.rn.elR.map (·.id)=o.sp.ids:=by
 simp [Rn.elR,Spn.ids,Op.rn,Function.comp_def]
theorem zR5 {o:Op}(h:rofE o=0):o.may=true∧o.kd=1∧o.rn.may=true:=by
 unfold rofE at h
 split at h
 ·rename_i h1
  split at h
  ·rename_i h2;exact⟨h1,h2.1,h2.2⟩
  ·cases h
 ·cases h
structure HT (l:List Op) (t:List Rn):Prop where
 ok:zEK t
 mem:∀ x,x∈elsR t ↔ ∃ o∈l,rofE o=0∧x∈o.rn.elR
 ids:∀ y,y∈zB5 l ↔ ∃ x∈elsR t,x.id=y
 len:(elsR t).length=(zB5 l).length
 cl:(∀ o∈l,o.ok)→zbC (elsR t)
theorem z_leq {b:Lb}(h:b.ok):Lb.z.leq b=true:=by
 unfold Lb.leq
 simp only[Bool.and_eq_true,decide_eq_true_eq,zKB]
 refine⟨h.1, ?_⟩
 simp
theorem HT.step {l:List Op}{t:List Rn}{o:Op}(h:HT l t)(hf:fitE l o=0)(hm:o.may=true):HT (l++[o]) (stepT t o)∧(o.kd=1→putE t o.rn=0∧rofE o=0):=by
 have hk:=zL4 hf
 have hth:=zKR l o
 by_cases h1:o.kd=1
 ·unfold zG0 at hk
  rw[if_pos h1] at hk
  unfold insE at hk
  split at hk
  ·cases hk
  rename_i hs
  split at hk
  ·cases hk
  rename_i hr
  split at hk
  ·cases hk
  rename_i hn
  have hr0:rofE o=0:=Classical.byContradiction fun k=>hr (.inl k)
  have hfr:∀ y∈o.sp.ids,y ∉ zB5 l:=fun y hy k=>hr (.inr (List.any_eq_true.2 ⟨y,hy,decide_eq_true k⟩))
  obtain⟨_,_,hrm⟩:=zR5 hr0
  have hsee:o.af≠Eid.z→zEH l o o.af=true:=fun hz=>Classical.byContradiction fun k=>hs ⟨hz,by simpa using k⟩
  have hp:putE t o.rn=0:=by
   rw[zR2]
   refine⟨h.ok,hrm, ?_,fun x hx e he k=>?_, ?_⟩
   ·by_cases hz:o.af=Eid.z
    ·exact .inl hz
    ·right
     have:=hsee hz
     unfold zEH at this
     simp only[Bool.and_eq_true,decide_eq_true_eq] at this
     exact(h.ids _).1 this.1
   ·have h2:x.id∈o.sp.ids:=by rw[← zKZ];exact List.mem_map.2 ⟨x,hx,rfl⟩
    exact hfr _ h2 ((h.ids _).2 ⟨e,he,k.symm⟩)
   ·have hl:o.rn.elR.length=o.sp.n.toNat:=zBL _
    have hb:=Spn.may_le (Rn.may_sp hrm)
    have e1:o.rn.sp.n=o.sp.n:=rfl
    rw[e1] at hb
    rw[h.len,hl]
    omega
  have hst:stepT t o=insL t o.rn:=by unfold stepT;rw[if_pos hr0]
  rw[hst]
  refine⟨⟨zf5 hp,fun x=>?_,fun y=>?_, ?_,fun hok=>?_⟩,fun _=>⟨hp,hr0⟩⟩
  ·rw[zIQ hp,h.mem]
   constructor
   ·rintro (⟨p,h2,h3⟩ | h2)
    ·exact⟨p,List.mem_append_left _ h2,h3⟩
    ·exact⟨o,List.mem_append_right _ List.mem_cons_self,hr0,h2⟩
   ·rintro⟨p,h2,h3,h4⟩
    rcases List.mem_append.1 h2 with h2 | h2
    ·exact .inl ⟨p,h2,h3,h4⟩
    ·rw[List.mem_singleton] at h2;subst h2;exact .inr h4
  ·rw[hth,if_pos h1,List.mem_append,h.ids]
   constructor
   ·rintro (⟨x,h2,h3⟩ | h2)
    ·exact⟨x,(zIQ hp x).2 (.inl h2),h3⟩
    ·rw[← zKZ] at h2
     obtain⟨x,h3,h4⟩:=List.mem_map.1 h2
     exact⟨x,(zIQ hp x).2 (.inr h3),h4⟩
   ·rintro⟨x,h2,h3⟩
    rcases (zIQ hp x).1 h2 with h2 | h2
    ·exact .inl ⟨x,h2,h3⟩
    ·right
     rw[← zKZ]
     exact List.mem_map.2 ⟨x,h2,h3⟩
  ·rw[zcJ hp,hth,if_pos h1,List.length_append,h.len,← zKZ,List.length_map]
  ·intro x hx
   rcases (zIQ hp x).1 hx with hx | hx
   ·exact h.cl (fun p hp=>hok p (List.mem_append_left _ hp)) x hx
   ·have hhd:=(zcQ hm h1).1
    have ho:=hok o (List.mem_append_right _ List.mem_cons_self)
    rw[zeJ hx]
    obtain⟨i,hi,rfl⟩:=List.getElem_of_mem hx
    rw[zBZ]
    unfold Rn.afAt
    by_cases h0:(0:Int)<i
    ·rw[if_pos h0];exact zYJ _
    ·rw[if_neg h0]
     show o.af.hd.lb.leq o.sp.f.hd.lb=true
     by_cases hz:o.af=Eid.z
     ·rw[hz,hhd];exact z_leq ho.2.1.1
     ·have:=hsee hz
      unfold zEH at this
      simp only[Bool.and_eq_true,decide_eq_true_eq] at this
      rw[hhd];exact this.2
 ·have hr0:¬rofE o=0:=fun k=>h1 (zR5 k).2.1
  have hst:stepT t o=t:=by unfold stepT;rw[if_neg hr0]
  rw[hst]
  refine⟨⟨h.ok,fun x=>?_,fun y=>?_, ?_,fun hok=>h.cl fun p hp=>hok p (List.mem_append_left _ hp)⟩,fun k=>absurd k h1⟩
  ·rw[h.mem]
   constructor
   ·rintro⟨p,h2,h3⟩
    exact⟨p,List.mem_append_left _ h2,h3⟩
   ·rintro⟨p,h2,h3,h4⟩
    rcases List.mem_append.1 h2 with h2 | h2
    ·exact⟨p,h2,h3,h4⟩
    ·rw[List.mem_singleton] at h2;subst h2;exact absurd h3 hr0
  ·rw[hth,if_neg h1,List.append_nil];exact h.ids y
  ·rw[hth,if_neg h1,List.append_nil];exact h.len
theorem zPO:zEK []:=⟨fun _ h=>absurd h (by simp),by simp [zBB],by rw[show elsL []=[] from rfl];exact Ord.nil,rfl⟩
theorem zeZ:HT [] []:=⟨zPO,fun x=>by simp [elsR],fun y=>by simp [zB5,elsR],rfl,fun _ x hx=>absurd hx (by simp [elsR])⟩
theorem zE2 {l:List Op}:zAY [] l=true→HT l (textOf l):=by
 refine zDA (P:=fun l=>zAY [] l=true→HT l (textOf l)) (fun _=>zeZ) (fun l o ih h=>?_) l
 rw[zMQ] at h
 simp only[Bool.and_eq_true,decide_eq_true_eq] at h
 rw[zG7]
 exact((ih h.1).step h.2.2 h.2.1).1
theorem zY5 {l m:List Op}(h:zAY [] (l++m)=true):zAY [] l=true:=by
 rw[zLA] at h
 simp only[Bool.and_eq_true] at h
 exact h.1
theorem zY6 {l m:List Op}{o:Op}(h:zAY [] (l++o::m)=true)(hr:rofE o=0):putE (textOf l) o.rn=0:=by
 have e:l++o::m=(l++[o])++m:=by simp
 rw[e] at h
 have h:=zY5 h
 rw[zMQ] at h
 simp only[Bool.and_eq_true,decide_eq_true_eq] at h
 exact(((zE2 h.1).step h.2.2 h.2.1).2 (zR5 hr).2.1).1
theorem zQQ {l:List Op}(h:zAY [] l=true)(x:El):x∈zD0 l↔x∈elsR (textOf l):=by
 rw[(zE2 h).mem]
 unfold zD0
 rw[List.mem_flatMap]
 constructor
 ·rintro⟨o,ho,hx⟩
  split at hx
  ·rename_i hk
   refine⟨o,ho, ?_,hx⟩
   have h1:=zHX h o ho
   have h2:=zIM h o ho hk
   unfold rofE
   rw[if_pos h1,if_pos ⟨hk,h2⟩]
  ·cases hx
 ·rintro⟨o,ho,hr,hx⟩
  refine⟨o,ho, ?_⟩
  rw[if_pos (zR5 hr).2.1]
  exact hx
theorem zYX {l:List Op}(h:zAY [] l=true):Set1 (zD0 l):=by
 have hT:=zE2 h
 have hX:=(zFF hT.ok).1.1
 have hm:=zQQ h
 refine⟨?_,fun x hx=>hX.s1.ct x ((hm x).1 hx),fun x hx=>?_⟩
 ·rw[zLL]
  refine zN9 (l:=(elsR (textOf l)).map (·.id)) hX.s1.nd (fun y hy=>?_) (by rw[List.length_map,hT.len];exact Nat.le_refl _)
  obtain⟨x,hx,rfl⟩:=List.mem_map.1 hy
  exact(hT.ids _).2 ⟨x,hx,rfl⟩
 ·rcases hX.s1.rt x ((hm x).1 hx) with e | ⟨y,hy,e⟩
  ·exact .inl e
  ·exact .inr ⟨y,(hm y).2 hy,e⟩
theorem zV5 {l:List Op}(h:zAY [] l=true){T:List El}(hT:Txt T)(hm:∀ x,x∈T↔x∈zD0 l):T=elsR (textOf l) :=
 hT.eq (zFF (zE2 h).ok).1.1 fun x=>(hm x).trans (zQQ h x)
end Go.Proofs.YtlmeadmpldjdaaaGreat
namespace Go.Ax
open Go
variable {M : Mem} {st : Nat} {α : Type} {T : List AV → α → Prop} {a : AV} {l : List α}
structure Prt (M:Mem) (st:Nat) (T:List AV→α→Prop) (a a':AV) (l:List α):Prop where
 one:oneA a'=true
 cells:cellsA a'=[a']
 sub:∀ id,rowOf a'=some id→rowOf a=some id
 ln:lenA a'=some l.length
 rws:∀ n,M.size≤n→((rowsOf a').all fun i=>Nat.blt i n)=true
 rd:∃ rows:List (List AV),(∀ N,(∀ id,rowOf a=some id→N.get id=M.get id)→cellsOf N a'=some rows.flatten)∧All2 T rows l ∧ ∀ r∈rows,r.length=st
theorem zF3 {β:Type}{R:β→α→Prop}:∀ (n:Nat) {x:List β} {y:List α},All2 R x y→All2 R (x.drop n) (y.drop n)
 | 0,_,_,h=>h
 | _+1,_,_,.nil => .nil
 | n+1,_,_,.cons _ t=>zF3 n t
theorem zK3 {β:Type}{R:β→α→Prop}:∀ (n:Nat) {x:List β} {y:List α},All2 R x y→All2 R (x.take n) (y.take n)
 | 0,_,_,_ => .nil
 | _+1,_,_,.nil => .nil
 | n+1,_,_,.cons a t => .cons a (zK3 n t)
theorem SlM.pre (h:SlM M st T a l)(hs:0<st){n:Nat}(hn:n≤l.length):∃ a',Prt M st T a a' (l.take n) ∧ ∀ N,(∀ id,rowOf a=some id→N.get id=M.get id)→slcO N st a none (some (.sc (.int .i64 n))) none=some (a',N):=by
 rcases h with⟨rfl,rfl⟩ | ⟨id,rows,cap,rfl,hc,hg,hA,hr⟩
 ·obtain rfl:n=0:=by simpa using hn
  exact⟨.sc (.slice none 0 0),⟨rfl,rfl,fun _ h=>h,rfl,fun _ _=>rfl,[],fun _ _=>rfl,.nil,by simp⟩,fun N _=>rfl⟩
 ·have hl:=hA.length_eq
  have hfl:=zAO hr
  have hnr:n≤rows.length:=by omega
  have hnl:(l.take n).length=n:=by rw[List.length_take];omega
  have hms:n*st≤rows.length*st:=Nat.mul_le_mul_right st hnr
  refine⟨.sl id 0 n (cap.map fun _=>rows.length) st,⟨rfl,rfl,fun _ h=>h,by rw[hnl];rfl,fun n hn=>by
   simp only[rowsOf,List.all_cons,List.all_nil,Bool.and_true]
   exact zD6 (Nat.lt_of_lt_of_le (Mem.get_lt hg) hn),rows.take n,fun N hN=>?_,zES n hA,fun r hr'=>hr r (List.mem_of_mem_take hr')⟩,fun N hN=>?_⟩
  ·have hrd:=zBN ((hN id rfl).trans hg)
   simp only[cellsOf,hrd]
   rw[Nat.ble_eq_true_of_le (by omega)]
   have e:slot rows.flatten 0 (n*st)=(rows.take n).flatten:=by
    unfold slot
    rw[List.drop_zero]
    have h1:rows.flatten=(rows.take n).flatten++(rows.drop n).flatten:=by rw[← List.flatten_append,List.take_append_drop]
    have h2:(rows.take n).flatten.length=n*st:=by rw[zAO fun r hr'=>hr r (List.mem_of_mem_take hr'),List.length_take,Nat.min_eq_left hnr]
    rw[h1,← h2,List.take_left]
   rw[e]
  ·have hrd:=zBN ((hN id rfl).trans hg)
   rcases hc with rfl | rfl
   ·have hav:n≤rows.flatten.length / st:=by
     rw[Nat.le_div_iff_mul_le hs,hfl];exact hms
    unfold slcO
    simp only[Nat.beq_refl,hrd,Nat.sub_zero,zET _ _ _ _ hav,zDO,Nat.zero_mul,Nat.add_zero,Option.map_none]
   ·unfold slcO
    simp only[Nat.beq_refl,zDO,zET _ _ _ _ hnr,Nat.sub_zero,Nat.zero_mul,Nat.add_zero,Option.map_some]
    cases Nat.beq rows.length 0 <;> rfl
theorem SlM.suf (h:SlM M st T a l)(hs:0<st){n:Nat}(hn:n≤l.length):∃ a',Prt M st T a a' (l.drop n) ∧ ∀ N,(∀ id,rowOf a=some id→N.get id=M.get id)→slcO N st a (some (.sc (.int .i64 n))) none none=some (a',N):=by
 rcases h with⟨rfl,rfl⟩ | ⟨id,rows,cap,rfl,hc,hg,hA,hr⟩
 ·obtain rfl:n=0:=by simpa using hn
  exact⟨.sc (.slice none 0 0),⟨rfl,rfl,fun _ h=>h,rfl,fun _ _=>rfl,[],fun _ _=>rfl,.nil,by simp⟩,fun N _=>rfl⟩
 ·have hl:=hA.length_eq
  have hfl:=zAO hr
  have hnr:n≤rows.length:=by omega
  have hnl:(l.drop n).length=rows.length - n:=by rw[List.length_drop];omega
  have hms:n*st+(rows.length - n)*st=rows.length*st:=by rw[← Nat.add_mul];congr 1;omega
  have hav:rows.flatten.length / st=rows.length:=by rw[hfl];exact Nat.mul_div_cancel _ hs
  have e1:slot rows.flatten (n*st) ((rows.length - n)*st)=(rows.drop n).flatten:=by
   unfold slot
   have h1:rows.flatten=(rows.take n).flatten++(rows.drop n).flatten:=by rw[← List.flatten_append,List.take_append_drop]
   have h2:(rows.take n).flatten.length=n*st:=by rw[zAO fun r hr'=>hr r (List.mem_of_mem_take hr'),List.length_take,Nat.min_eq_left hnr]
   have h3:(rows.drop n).flatten.length=(rows.length - n)*st:=by rw[zAO fun r hr'=>hr r (List.mem_of_mem_drop hr'),List.length_drop]
   rw[h1,← h2,List.drop_left,← h3,List.take_length]
  have cell:∀ (off:Nat) (c:Option Nat),(off=n*st∨(off=0∧n=rows.length)) → ∀ N,(∀ j,rowOf (.sl id 0 rows.length cap st)=some j→N.get j=M.get j)→cellsOf N (.sl id off (rows.length - n) c st)=some (rows.drop n).flatten:=fun off c ho N hN=>by
   have hrd:=zBN ((hN id rfl).trans hg)
   simp only[cellsOf,hrd]
   rcases ho with rfl | ⟨rfl,rfl⟩
   ·rw[Nat.ble_eq_true_of_le (by omega),e1]
   ·rw[Nat.ble_eq_true_of_le (by rw[Nat.sub_self,Nat.zero_mul];exact Nat.zero_le _),Nat.sub_self,Nat.zero_mul,List.drop_length]
    simp [slot]
  rcases hc with rfl | rfl
  ·refine⟨.sl id (n*st) (rows.length - n) none st,⟨rfl,rfl,fun _ h=>h,by rw[hnl];rfl,fun n hn=>by
   simp only[rowsOf,List.all_cons,List.all_nil,Bool.and_true]
   exact zD6 (Nat.lt_of_lt_of_le (Mem.get_lt hg) hn),rows.drop n,cell _ _ (.inl rfl),zF3 n hA,fun r hr'=>hr r (List.mem_of_mem_drop hr')⟩,fun N hN=>?_⟩
   have hrd:=zBN ((hN id rfl).trans hg)
   unfold slcO
   simp only[Nat.beq_refl,hrd,Nat.sub_zero,zET _ _ _ _ hnr,zDO,Nat.zero_add]
  ·refine⟨.sl id (match Nat.beq rows.length n with | true=>0 | false=>0+n*st) (rows.length - n) (some (rows.length - n)) st,⟨rfl,rfl,fun _ h=>h,by rw[hnl];rfl,fun n hn=>by
   simp only[rowsOf,List.all_cons,List.all_nil,Bool.and_true]
   exact zD6 (Nat.lt_of_lt_of_le (Mem.get_lt hg) hn),rows.drop n,cell _ _ ?_,zF3 n hA,fun r hr'=>hr r (List.mem_of_mem_drop hr')⟩,fun N hN=>?_⟩
   ·cases hb:Nat.beq rows.length n with
    | true=>exact .inr ⟨rfl,(Nat.eq_of_beq_eq_true hb).symm⟩
    | false=>exact .inl (Nat.zero_add _)
   ·unfold slcO
    simp only[Nat.beq_refl,zDO,zET _ _ _ _ hnr]
    cases Nat.beq rows.length n <;> rfl
theorem SlM.row_mem (h:SlM M st T a l){i:Nat}(hi:i∈rowsOf a):rowOf a=some i:=by
 rcases h with⟨rfl,rfl⟩ | ⟨id,rows,cap,rfl,hc,hg,hA,hr⟩
 ·simp [rowsOf] at hi
 ·simp only[rowsOf,List.mem_singleton] at hi
  subst hi;rfl
theorem zDX (r w:List Nat)(n n' a b:Nat):zBC (.acc [] []) (fpOf r w n n',a,b)=true:=by
 unfold fpOf
 cases hb:(r.isEmpty&&w.isEmpty&&Nat.beq n n') <;> simp [zBC,FP.apart,disj,FP.reads,FP.writes]
theorem zME {r r' w':List Nat}{n n' m m' a b:Nat}(h:∀ i∈r,i ∉ w'∧(i<a∨b≤i)):zBC (fpOf r [] n n') (fpOf r' w' m m',a,b)=true:=by
 have h1:∀ x,x∈r→Nat.ble a x=false∨Nat.blt x b=false:=fun i hi=>by
  rcases (h i hi).2 with k | k
  ·left
   cases hb:Nat.ble a i with
   | false=>rfl
   | true=>have:=Nat.le_of_ble_eq_true hb;omega
  ·right
   cases hb:Nat.blt i b with
   | false=>rfl
   | true=>have:i<b:=Nat.le_of_ble_eq_true hb;omega
 have h2:∀ i,i∈r → ¬i∈w':=fun i hi=>(h i hi).1
 unfold fpOf
 cases hb:(r.isEmpty&&([]:List Nat).isEmpty&&Nat.beq n n') <;> cases hc:(r'.isEmpty&&w'.isEmpty&&Nat.beq m m') <;> simp [zBC,FP.apart,disj,FP.reads,FP.writes] <;> first | exact⟨h2,h1⟩ | exact h1
theorem zG9 {r r' w':List Nat}{n n' a b:Nat}(h:∀ i∈r,i ∉ w'∧(i<a∨b≤i)):zBC (fpOf r [] n n') (.acc r' w',a,b)=true:=by
 have h1:∀ x,x∈r→Nat.ble a x=false∨Nat.blt x b=false:=fun i hi=>by
  rcases (h i hi).2 with k | k
  ·left
   cases hb:Nat.ble a i with
   | false=>rfl
   | true=>have:=Nat.le_of_ble_eq_true hb;omega
  ·right
   cases hb:Nat.blt i b with
   | false=>rfl
   | true=>have:i<b:=Nat.le_of_ble_eq_true hb;omega
 have h2:∀ i,i∈r → ¬i∈w':=fun i hi=>(h i hi).1
 unfold fpOf
 cases hb:(r.isEmpty&&([]:List Nat).isEmpty&&Nat.beq n n') <;> simp [zBC,FP.apart,disj,FP.reads,FP.writes] <;> first | exact⟨h2,h1⟩ | exact h1
end Go.Ax
namespace Go.Proofs.YtlmeadmpldjdaaaGreat
open Go Go.Ax
variable {fuel : Nat} {M : Mem} {Q : AV → Mem → Prop} {d : Nat}
theorem zJE (a b:Lb)(ha:a.ok)(hb:b.ok)(M:Mem):zCN fuel (d+1) 137 [lbA a,lbA b] M=some (BL (a.ahead b),M):=by
 obtain⟨a1,a2,a3,a4⟩:=ha
 obtain⟨b1,b2,b3,b4⟩:=hb
 have e:decide (a.lv*4294967296+a.cats<b.lv*4294967296+b.cats)=a.ahead b:=by
  unfold Lb.ahead
  rw[Bool.eq_iff_iff]
  simp only[decide_eq_true_eq,Bool.or_eq_true,Bool.and_eq_true]
  omega
 have w1:IntKind.i64.wrap a.lv=a.lv:=wrap_i64 (by omega) (by omega)
 have w2:IntKind.i64.wrap a.cats=a.cats:=wrap_i64 (by omega) (by omega)
 have w3:IntKind.i64.wrap b.lv=b.lv:=wrap_i64 (by omega) (by omega)
 have w4:IntKind.i64.wrap b.cats=b.cats:=wrap_i64 (by omega) (by omega)
 have w5:IntKind.i64.wrap (a.lv*4294967296)=a.lv*4294967296:=wrap_i64 (by omega) (by omega)
 have w6:IntKind.i64.wrap (b.lv*4294967296)=b.lv*4294967296:=wrap_i64 (by omega) (by omega)
 have w7:IntKind.i64.wrap (a.lv*4294967296+a.cats)=a.lv*4294967296+a.cats:=wrap_i64 (by omega) (by omega)
 have w8:IntKind.i64.wrap (b.lv*4294967296+b.cats)=b.lv*4294967296+b.cats:=wrap_i64 (by omega) (by omega)
 have cv1:=fun t r x=>zQX (P:=Tryz.prog) (t:=t) Tryz.underlying5 Tryz.underlying3 r x
 have cv2:=fun t r x=>zQX (P:=Tryz.prog) (t:=t) Tryz.underlying23 Tryz.underlying3 r x
 apply zB2
 refine zAJ tf137 rfl (by simp (disch:=try exact SX) only[RV,seval,zA0]) (by simp [a137]) fun b' ht hx=>?_
 obtain⟨h0,h1⟩:=hx2 hx
 clear hx
 simp only[a137,c137] at ht ⊢
 simp (disch:=try exact SX) only[RV,seval,zA0,h0,h1,cv1,cv2,zLQ,w1,w2,w3,w4,w5,w6,w7,w8,e]
theorem zSF (x y:Eid)(hx:x.ok)(hy:y.ok)(M:Mem):zCN fuel (d+2) 125 [idA x,idA y] M=some (BL (x.less y),M):=by
 have h1':=fun M=>zJE (fuel:=fuel) (d:=d) x.hd.lb y.hd.lb hx.1.1 hy.1.1 M
 have h2':=fun M=>zJE (fuel:=fuel) (d:=d) y.hd.lb x.hd.lb hy.1.1 hx.1.1 M
 apply zB2
 refine zAJ tf125 rfl (by simp (disch:=try exact SX) only[RV,seval,zA0]) (by simp [a125]) fun b' ht hx=>?_
 obtain⟨h0,h1⟩:=hx2 hx
 clear hx
 simp only[a125,c125] at ht ⊢
 have key:=zDR x y
 cases q1:decide (x.c<y.c) with
 | true =>
  have e:x.less y=true:=key.2 (.inl (of_decide_eq_true q1))
  simp (disch:=try exact SX) only[RV,seval,zA0,h0,h1,q1,e]
 | false =>
  have q1':=of_decide_eq_false q1
  cases q2:decide (y.c<x.c) with
  | true =>
   have q2':=of_decide_eq_true q2
   have e:x.less y=false:=by rw[← Bool.not_eq_true,key];omega
   simp (disch:=try exact SX) only[RV,seval,zA0,h0,h1,q1,q2,e,gt_iff_lt]
  | false =>
   have q2':=of_decide_eq_false q2
   have u1:x.hd.lb.ahead y.hd.lb=true↔x.hd.lb.lv<y.hd.lb.lv∨(x.hd.lb.lv=y.hd.lb.lv∧x.hd.lb.cats<y.hd.lb.cats):=by unfold Lb.ahead;simp
   have u2:y.hd.lb.ahead x.hd.lb=true↔y.hd.lb.lv<x.hd.lb.lv∨(y.hd.lb.lv=x.hd.lb.lv∧y.hd.lb.cats<x.hd.lb.cats):=by unfold Lb.ahead;simp
   cases q3:x.hd.lb.ahead y.hd.lb with
   | true =>
    rw[q3] at h1' u1
    have u1:=u1.1 rfl
    have e:x.less y=true:=key.2 (by omega)
    simp (disch:=try exact SX) only[RV,seval,zA0,h0,h1,q1,q2,h1',e,gt_iff_lt]
   | false =>
    rw[q3] at h1' u1
    have u1:¬_:=fun h=>absurd (u1.2 h) (by decide)
    cases q4:y.hd.lb.ahead x.hd.lb with
    | true =>
     rw[q4] at h2' u2
     have u2:=u2.1 rfl
     have e:x.less y=false:=by rw[← Bool.not_eq_true,key];omega
     simp (disch:=try exact SX) only[RV,seval,zA0,h0,h1,q1,q2,h1',h2',e,gt_iff_lt]
    | false =>
     rw[q4] at h2' u2
     have u2:¬_:=fun h=>absurd (u2.2 h) (by decide)
     have e:decide (x.hd.num<y.hd.num)=x.less y:=by
      rw[Bool.eq_iff_iff,key,decide_eq_true_iff]
      omega
     simp (disch:=try exact SX) only[RV,seval,zA0,h0,h1,q1,q2,h1',h2',e,gt_iff_lt]
def ahB:List Eid→List Eid→Bool
 | [],[]=>false
 | [],_::_=>true
 | _::_,[]=>false
 | a::p,b::q=>if a=b then ahB p q else b.less a
theorem zPV (a b:Eid)(p q:List Eid):ahB (a::p) (b::q)=if a=b then ahB p q else b.less a:=rfl
theorem zO5:∀ {p q:List Eid},ahB p q=true↔ahd p q
 | [],[]=>by simp [ahB,ahd]
 | [],_::_=>by simp [ahB,ahd]
 | _::_,[]=>by simp [ahB,ahd]
 | a::p,b::q=>by
  unfold ahB ahd
  by_cases e:a=b
  ·subst e
   rw[if_pos rfl,zO5]
   simp [zI0]
  ·rw[if_neg e]
   simp [e]
theorem zHL {a b:AV}{P R:List Eid}(hP:Sl 4 zF0 a P)(hR:Sl 4 zF0 b R)(hl:P.length≤1000000000)(hl2:R.length≤1000000000)(hf:P.length<fuel)(M:Mem):zCN fuel (d+3) 90 [a,b] M=some (BL (ahB P R),M):=by
 have lp:=hP.len
 have lr:=hR.len
 apply zB2
 refine zAJ tf90 rfl (by simp only[icyL,fun M=>hP.icy M 12 (by omega),fun M=>hR.icy M 12 (by omega)]) (by simp [a90]) fun b' ht hx=>?_
 obtain⟨h0,h1⟩:=hx2 hx
 clear hx
 simp only[a90,c90] at ht ⊢
 simp (disch:=try exact SX) only[RV,seval,zA0,h0,h1,hP.fz.rows,hP.fz.one,hP.fz.cells,hP.fz.icy,hP.fz.frz,hR.fz.rows,hR.fz.one,hR.fz.cells,hR.fz.icy,hR.fz.frz]
 refine zAZ (I:=fun n t N => ∃ (i:Nat),n=P.length - i∧i≤P.length∧nth zA1 t 0=a∧nth zA1 t 1=b∧nth zA1 t 5=I64 i∧Wf N∧ahB P R=ahB (P.drop i) (R.drop i)∧i≤R.length) (n:=P.length) (by omega) ?_ ?_
 ·refine⟨0,rfl,Nat.zero_le _, ?_, ?_, ?_,Wf.mem0,rfl,Nat.zero_le _⟩ <;> simp (disch:=try exact SX) only[RV,seval,zA0,h0,h1]
  all_goals first | rfl | assumption | done
 ·rintro n t N hlt ⟨i,rfl,hi,g0,g1,g5,w,hj,hi2⟩
  simp only[ht] at hlt ⊢
  by_cases hc:i<P.length
  ·have q1:decide ((i:Int)<P.length)=true:=DT
   obtain⟨r1,hiad,⟨rfl,hok1⟩,_⟩:=hP.iad i hc
   by_cases hc2:i=R.length
   ·have q2:decide ((i:Int)=R.length)=true:=DT
    have e:ahB P R=false:=by
     rw[hj,List.drop_eq_getElem_cons hc,List.drop_eq_nil_of_le (show R.length≤i by omega)]
     rfl
    simp (disch:=try exact SX) only[RV,seval,zA0,g0,g1,g5,lp,lr,q1,q2,hP.fz.rows,hP.fz.one,hP.fz.cells,hP.fz.icy,hP.fz.frz,hR.fz.rows,hR.fz.one,hR.fz.cells,hR.fz.icy,hR.fz.frz,e]
   ·have q2:decide ((i:Int)=R.length)=false:=DF
    have hc3:i<R.length:=by omega
    obtain⟨r2,hiad2,⟨rfl,hok2⟩,_⟩:=hR.iad i hc3
    rw[List.drop_eq_getElem_cons hc,List.drop_eq_getElem_cons hc3] at hj
    have hle:=fun M=>zSF (fuel:=fuel) (d:=d) R[i] P[i] hok2 hok1 M
    have w1:IntKind.i64.wrap ((i:Int)+1)=((i+1:Nat):Int):=WI
    cases q3:decide (P[i]=R[i]) with
    | true =>
     rw[zPV,if_pos (of_decide_eq_true q3)] at hj
     simp (disch:=try exact SX) only[RV,seval,zA0,g0,g1,g5,lp,lr,q1,q2,hP.fz.rows,hP.fz.one,hP.fz.cells,hP.fz.icy,hP.fz.frz,hR.fz.rows,hR.fz.one,hR.fz.cells,hR.fz.icy,hR.fz.frz,hiad,hiad2,q3,↓pIdE,zAA,↓pIdN,zA9,↓pHdE,zAB,↓pHdN,zAC,↓pLbE,zA8,↓pLbN,zAD,↓pSpE,zAE,↓pSpN,zAF,ETA,w1]
     exact⟨hlt,P.length - (i+1),by omega,i+1,rfl,by omega,rfl,w,hj,by omega⟩
    | false =>
     rw[zPV,if_neg (of_decide_eq_false q3)] at hj
     simp (disch:=try exact SX) only[RV,seval,zA0,g0,g1,g5,lp,lr,q1,q2,hP.fz.rows,hP.fz.one,hP.fz.cells,hP.fz.icy,hP.fz.frz,hR.fz.rows,hR.fz.one,hR.fz.cells,hR.fz.icy,hR.fz.frz,hiad,hiad2,q3,↓pIdE,zAA,↓pIdN,zA9,↓pHdE,zAB,↓pHdN,zAC,↓pLbE,zA8,↓pLbN,zAD,↓pSpE,zAE,↓pSpN,zAF,ETA,hle,hj]
  ·obtain rfl:i=P.length:=by omega
   have q1:decide ((P.length:Int)<P.length)=false:=DF
   have e:decide ((P.length:Int)<R.length)=ahB P R:=by
    rw[hj,List.drop_length]
    by_cases h:P.length=R.length
    ·rw[h,List.drop_length]
     simp [ahB]
    ·rw[List.drop_eq_getElem_cons (show P.length<R.length by omega)]
     unfold ahB
     exact decide_eq_true (by omega)
   simp (disch:=try exact SX) only[RV,seval,zA0,g0,g1,g5,lp,lr,q1,hP.fz.rows,hP.fz.one,hP.fz.cells,hP.fz.icy,hP.fz.frz,hR.fz.rows,hR.fz.one,hR.fz.cells,hR.fz.icy,hR.fz.frz,e]
theorem zdB {E:List El}{x:Eid}{p:List Eid}(h:Pth E x p):∀ i (hi:i<p.reverse.length),∃ e∈E,e.id=p.reverse[i]∧e.af=p.reverse.getD (i+1) Eid.z:=by
 induction h with
 | @root x m e =>
  intro i hi
  obtain rfl:i=0:=by simpa using hi
  exact⟨x,m,rfl,e⟩
 | @step x p m hp ih =>
  intro i hi
  have er:(p++[x.id]).reverse=x.id::p.reverse:=by simp
  simp only[er] at hi ⊢
  cases i with
  | zero =>
   obtain⟨q,rfl⟩:=hp.last
   exact⟨x,m,rfl,by simp⟩
  | succ i =>
   obtain⟨e,h1,h2,h3⟩:=ih i (by simpa using hi)
   exact⟨e,h1,by simpa using h2,by simpa using h3⟩
theorem wh_at {E:List El}(hn:(E.map (·.id)).Nodup){e:El}(he:e∈E):∃ n,∃ h:n<E.length,whI E e.id=(n:Int)∧E[n]=e:=by
 obtain⟨n,hn',rfl⟩:=List.getElem_of_mem he
 refine⟨n,hn', ?_,rfl⟩
 unfold whI
 refine zJ5 (p:=fun y:El=>decide (y.id=E[n].id)) hn' (decide_eq_true rfl) fun j hj=>decide_eq_false fun heq=>?_
 have h1:j<(E.map (·.id)).length:=by rw[List.length_map];omega
 have h2:n<(E.map (·.id)).length:=by rw[List.length_map];omega
 have:=(List.pairwise_iff_getElem.1 hn) j n h1 h2 hj
 simp only[List.getElem_map] at this
 exact this heq
theorem wh_z {E:List El}(h:∀ x∈E,0<x.id.c):whI E Eid.z = -1:=by
 unfold whI
 refine zJ6 (p:=fun y:El=>decide (y.id=Eid.z)) fun j hj=>decide_eq_false fun e=>?_
 have:=h E[j] (List.getElem_mem hj)
 rw[e] at this
 exact absurd this (by decide)
theorem zPA {a:AV}{E:List El}(hS:Sl 9 isEl a E)(hs:Set1 E){x:El}{p:List Eid}(hp:Pth E x.id p)(hpl:p.length≤1000000)(hl:E.length≤1000000)(hf:E.length+p.length<fuel):∃ r,Sl 4 zF0 r p ∧ ∀ M,zCN fuel (d+2) 89 [a,.agg (elR9 x)] M=some (r,M):=by
 have hw:=fun y M=>zF2 (fuel:=fuel) (d:=d) hS y (by omega) (by omega) M
 have hz:=wh_z fun x hx=>(hs.ct x hx).2
 have hrv:=zdB hp
 have e0:x.id=p.reverse.getD 0 Eid.z:=by
  obtain⟨q,rfl⟩:=hp.last
  simp
 have hpr:p=p.reverse.reverse:=by simp
 have hrl:p.reverse.length=p.length:=List.length_reverse
 generalize p.reverse=R at *
 refine zEP tf89 rfl (fun M=>by simp only[icyL,fun M=>hS.icy M 12 (by omega),zAT (zGY x) (show 1<12 by omega)]) ?_
 refine zAJ tf89 rfl (by simp only[icyL,fun M=>hS.icy M 12 (by omega),zAT (zGY x) (show 1<12 by omega)]) (by simp [a89]) fun b' ht hx=>?_
 obtain⟨h0,h1⟩:=hx2 hx
 clear hx
 simp only[a89,c89] at ht ⊢
 simp (disch:=try exact SX) only[RV,seval,zA0,h0,h1,hS.fz.rows,hS.fz.one,hS.fz.cells,hS.fz.icy,hS.fz.frz,hw]
 rw[e0]
 refine zAZ (I:=fun n t N => ∃ (i:Nat) (o:AV),n=R.length - i∧i≤R.length∧nth zA1 t 0=a∧nth zA1 t 5=o∧nth zA1 t 6=I64 (whI E (R.getD i Eid.z))∧Wf N∧SlM N 4 zF0 o (R.take i).reverse) (n:=R.length) (by omega) ?_ ?_
 ·refine⟨0,NIL,rfl,Nat.zero_le _, ?_, ?_, ?_,Wf.mem0.add _,SlM.nil⟩ <;> simp (disch:=try exact SX) only[RV,seval,zA0,h0,h1]
  all_goals first | rfl | assumption | done
 ·rintro n t N hlt ⟨i,o,rfl,hi,g0,g5,g6,w,sm⟩
  simp only[ht] at hlt ⊢
  have oo:=sm.one
  have co:=sm.cells
  by_cases hc:i<R.length
  ·obtain⟨e,he,h2,h3⟩:=hrv i hc
   obtain⟨n,hn,h4,h5⟩:=wh_at hs.nd he
   have egd:R.getD i Eid.z=e.id:=by rw[List.getD_eq_getElem?_getD,List.getElem?_eq_getElem hc];exact h2.symm
   have hsn:(R.take (i+1)).reverse=[e.id]++(R.take i).reverse:=by rw[zBO R i hc,List.reverse_append,h2];rfl
   rw[egd,h4] at g6
   obtain⟨r9,hiad,⟨hr9,hok1,hok2⟩,_⟩:=hS.iad n hn
   rw[h5] at hr9 hok1 hok2
   subst hr9
   have q1:decide ((0:Int)≤(n:Int))=true:=DT
   simp (disch:=try exact SX) only[RV,seval,zA0,g0,g5,g6,q1,hiad,hS.fz.rows,hS.fz.one,hS.fz.cells,hS.fz.icy,hS.fz.frz,oo,co,w,ge_iff_le]
   have hsm:=sm.keep (N:=N.add (.row false (idR e.id))) fun j hj=>zAK w _ _ (sm.lt j hj)
   obtain⟨rows,hcl,hla,hA,hr⟩:=hsm.cells2
   have hlit:SlM (N.add (.row false (idR e.id))) 4 zF0 (.sl N.size 0 1 (some 1) 4) [e.id]:=zJV (rows:=[idR e.id]) (.cons ⟨rfl,hok1⟩ .nil) (by simp) rfl (.inr rfl) (by rw[zAM w _ _ (Nat.le_refl _) (Nat.lt_succ_self _)];rfl)
   refine⟨zAN sm.rl (by omega), ?_⟩
   refine zH7 (bytes:=24) (w.add _) hlit zGE.cel hcl (by rw[hla,hA.length_eq]) hA hr (by omega) (by rw[List.length_reverse,List.length_take];simp;omega) (by rw[List.length_reverse,List.length_take];simp;omega) fun o' M' m' w' le' sz' kp' nw' wm' rl' on' oc'=>?_
   simp (disch:=try exact SX) only[RV,seval,zA0,g0,g5,g6,hiad,hS.fz.rows,hS.fz.one,hS.fz.cells,hS.fz.icy,hS.fz.frz,hw,w',on',oc']
   exact⟨hlt,R.length - (i+1),by omega,i+1,o',rfl,by omega,rfl,by rw[h3],by rw[hsn];exact m'⟩
  ·obtain rfl:i=R.length:=by omega
   have egd:R.getD R.length Eid.z=Eid.z:=by rw[List.getD_eq_getElem?_getD,List.getElem?_eq_none (Nat.le_refl _)];rfl
   rw[egd,hz] at g6
   have q1:decide ((0:Int) ≤ -1)=false:=by decide
   rw[List.take_length,← hpr] at sm
   obtain⟨r,hzz,hsr⟩:=sm.frz zGE.cel (k:=12) (by omega)
   simp (disch:=try exact SX) only[RV,seval,zA0,g0,g5,g6,q1,hzz,oo,ge_iff_le]
   exact⟨r,hsr,rfl⟩
theorem zNA {E:List El}(h:(E.map (·.id)).Nodup):E.Nodup:=(List.pairwise_map.1 h).imp fun h e=>h (congrArg _ e)
structure Srt (E T:List El) (P:List (List Eid)) (S:List El):Prop where
 pw:T.Pairwise (Ah E)
 mem:∀ x,x∈T↔x∈S
 pth:All2 (fun p (y:El)=>Pth E y.id p) P T
 len:T.length=S.length
theorem All2.app' {α β:Type}{R:α→β→Prop}:∀ {a:List α} {b:List β} {c:List α} {e:List β},All2 R a b→All2 R c e→All2 R (a++c) (b++e)
 | _,_,_,_,.nil,h=>h
 | _,_,_,_,.cons x t,h => .cons x (All2.app' t h)
theorem Srt.put {E T S:List El}{P:List (List Eid)}{x:El}{p:List Eid}{n:Nat}(h:Srt E T P S)(hs:Set1 E)(hS:∀ y∈S,y∈E)(hx:x∈E)(hxS:x ∉ S)(hp:Pth E x.id p)(hn:n≤T.length)(h1:∀ j (hj:j<P.length),j<n→ahB p P[j]=false)(h2:∀ hj:n<P.length,ahB p P[n]=true) :
  Srt E (T.take n++[x]++T.drop n) (P.take n++[p]++P.drop n) (S++[x]):=by
 obtain⟨pw,mem,pth,len⟩:=h
 have hl:=pth.length_eq
 have hT:∀ y∈T,y∈E:=fun y hy=>hS y ((mem y).1 hy)
 have hxT:x ∉ T:=fun h=>hxS ((mem x).1 h)
 have at_:∀ j (hj:j<T.length),Pth E T[j].id (P[j]'(by omega)):=fun j hj=>pth.get (by omega) hj
 have pre:∀ y∈T.take n,Ah E y x:=fun y hy=>by
  obtain⟨j,hj,rfl⟩:=List.getElem_of_mem hy
  rw[List.length_take] at hj
  rw[List.getElem_take] at hy ⊢
  have hjT:j<T.length:=by omega
  have hb:=h1 j (by omega) (by omega)
  have hpj:=at_ j hjT
  refine⟨_,p,hpj,hp, ?_⟩
  have hne:P[j]'(by omega)≠p:=fun e=>by
   obtain⟨q1,e1⟩:=hpj.last
   obtain⟨q2,e2⟩:=hp.last
   rw[e,e2] at e1
   have:=(List.append_inj' e1 rfl).2
   have hid:x.id=T[j].id:=by injection this
   exact hxT (by rw[zN5 hs.nd hx (hT _ (List.getElem_mem hjT)) hid];exact List.getElem_mem hjT)
  rcases zSZ hne with h | h
  ·exact h
  ·rw[zO5.2 h] at hb;cases hb
 have suf:∀ y∈T.drop n,Ah E x y:=fun y hy=>by
  have hlt:n<T.length:=by
   have:=List.length_pos_of_mem hy
   rw[List.length_drop] at this
   omega
  have hA:Ah E x T[n]:=⟨p,_,hp,at_ n hlt,zO5.1 (h2 (by omega))⟩
  rw[List.drop_eq_getElem_cons hlt] at hy
  rcases List.mem_cons.1 hy with rfl | hy
  ·exact hA
  ·have hpw:=pw.sublist (List.drop_sublist n T)
   rw[List.drop_eq_getElem_cons hlt,List.pairwise_cons] at hpw
   exact hA.trans hs (hpw.1 y hy)
 have hpw2:=pw
 rw[← List.take_append_drop n T,List.pairwise_append] at hpw2
 refine⟨?_,fun y=>?_, ?_, ?_⟩
 ·rw[List.pairwise_append,List.pairwise_append]
  refine⟨⟨hpw2.1,List.pairwise_singleton _ _,fun a ha b hb=>?_⟩,hpw2.2.1,fun a ha b hb=>?_⟩
  ·rw[List.mem_singleton] at hb;subst hb;exact pre a ha
  ·rcases List.mem_append.1 ha with ha | ha
   ·exact hpw2.2.2 a ha b hb
   ·rw[List.mem_singleton] at ha;subst ha;exact suf b hb
 ·rw[List.mem_append,List.mem_append,List.mem_append,← mem y]
  have:y∈T↔y∈T.take n∨y∈T.drop n:=by rw[← List.mem_append,List.take_append_drop]
  rw[this]
  constructor
  ·exact zB0Y
  ·exact zB0Y
 ·exact All2.app' (All2.app' (zK3 n pth) (.cons hp .nil)) (zF3 n pth)
 ·rw[List.length_append,List.length_append,List.length_take,List.length_drop,List.length_append,← len]
  simp only[List.length_singleton]
  omega
theorem Srt.txt {E T:List El}{P:List (List Eid)}(h:Srt E T P E)(hs:Set1 E):Txt T:=by
 have hT:∀ y,y∈T↔y∈E:=h.mem
 have hnd:(T.map (·.id)).Nodup:=by
  rw[List.Nodup,List.pairwise_map]
  refine List.Pairwise.imp_of_mem (fun {a b} ha hb hab e=>?_) h.pw
  have:=zN5 hs.nd ((hT a).1 ha) ((hT b).1 hb) e
  subst this
  exact Ah.irr hs _ hab
 have h1:Set1 T:=⟨hnd,fun x hx=>hs.ct x ((hT x).1 hx),fun x hx=>by
  rcases hs.rt x ((hT x).1 hx) with e | ⟨y,hy,e⟩
  ·exact .inl e
  ·exact .inr ⟨y,(hT y).2 hy,e⟩⟩
 exact⟨h1,h.pw.imp fun k=>k.mono fun x hx=>(hT x).2 hx⟩
def isPa (r:List AV)(p:List Eid):Prop:=∃ a,r=[a]∧Sl 4 zF0 a p
theorem zc7:FzT isPa:=fun r p h y hy=>by
 obtain⟨a,rfl,ha⟩:=h
 rw[List.mem_singleton] at hy
 subst hy
 exact ha.fz
theorem zP3 {E:List El}(hs:Set1 E){x:Eid}{p:List Eid}(h:Pth E x p):p.length≤E.length:=by
 have hsub:∀ y∈p,y∈E.map (·.id):=fun y hy=>by
  obtain⟨q,r,rfl⟩:=List.append_of_mem hy
  obtain⟨e,he,h1⟩:=(h.pre rfl).mem
  exact List.mem_map.2 ⟨e,he,h1⟩
 have hnd:p.Nodup:=by
  clear hsub
  induction h with
  | root m e=>exact List.pairwise_singleton _ _
  | @step x p m hp ih =>
   rw[List.nodup_append]
   refine⟨ih,List.pairwise_singleton _ _,fun a ha b hb e=>?_⟩
   rw[List.mem_singleton] at hb
   have:=hp.grow (fun x hx=>(hs.ct x hx).1) a ha
   have:=(hs.ct x m).1
   rw[e,hb] at *
   omega
 have:=zM5 hnd hsub
 rwa [List.length_map] at this
theorem zLT {a:AV}{E:List El}(hS:Sl 9 isEl a E)(hs:Set1 E)(hl:E.length≤100000)(hf:2*E.length+100<fuel):∃ r T,(Sl 9 isEl r T∧Txt T∧(∀ x,x∈T↔x∈E)) ∧ ∀ M,zCN fuel (d+4) 52 [a] M=some (r,M):=by
 suffices h:∃ r,(∃ T,Sl 9 isEl r T∧Txt T ∧ ∀ x,x∈T↔x∈E) ∧ ∀ M,zCN fuel (d+4) 52 [a] M=some (r,M) by
  obtain⟨r,⟨T,h1⟩,h2⟩:=h
  exact⟨r,T,h1,h2⟩
 have ll:=hS.len
 have hnd:=zNA hs.nd
 refine zEP tf52 rfl (fun M=>by simp only[icyL,fun M=>hS.icy M 12 (by omega)]) ?_
 refine zAJ tf52 rfl (by simp only[icyL,fun M=>hS.icy M 12 (by omega)]) (by simp [a52]) fun b' ht hx=>?_
 have h0:=hx 0 _ rfl
 clear hx
 simp only[a52,c52] at ht ⊢
 simp (disch:=try exact SX) only[RV,seval,zA0,h0,hS.fz.rows,hS.fz.one,hS.fz.cells,hS.fz.icy,hS.fz.frz]
 refine zAZ (I:=fun nq tq Nq => ∃ (iq:Nat) (o:AV) (ph:AV) (T:List El) (P:List (List Eid)),nq=E.length - iq∧iq≤E.length∧nth zA1 tq 0=a∧nth zA1 tq 3=o∧nth zA1 tq 4=ph∧nth zA1 tq 5=I64 iq∧Wf Nq∧SlM Nq 9 isEl o T∧SlM Nq 1 isPa ph P∧Srt E T P (E.take iq)∧(∀ j,rowOf o=some j→rowOf ph≠some j)) (n:=E.length) (by omega) ?_ ?_
 ·refine⟨0,NIL,NIL,[],[],rfl,Nat.zero_le _, ?_, ?_, ?_, ?_,Wf.mem0,SlM.nil,SlM.nil,⟨.nil,fun _=>Iff.rfl,.nil,rfl⟩,(fun _ h=>by cases h)⟩ <;> simp (disch:=try exact SX) only[RV,seval,zA0,h0]
  all_goals first | rfl | assumption | done
 ·rintro nq tq Nq hltq ⟨iq,o,ph,T,P,rfl,hiq,gq0,gq3,gq4,gq5,wq,so,sp,hT,ne⟩
  simp only[ht] at hltq ⊢
  by_cases hc:iq<E.length
  ·have c1:decide ((iq:Int)<E.length)=true:=DT
   have w1:IntKind.i64.wrap ((iq:Int)+1)=((iq+1:Nat):Int):=WI
   obtain⟨rr,hiad,⟨rfl,hok⟩,_⟩:=hS.iad iq hc
   have hxE:=List.getElem_mem hc
   have hxn:E[iq] ∉ E.take iq:=fun hm=>by
    obtain⟨j,hj,e⟩:=List.getElem_of_mem hm
    rw[List.length_take] at hj
    rw[List.getElem_take] at e
    exact(List.pairwise_iff_getElem.1 hnd) j iq (by omega) hc (by omega) e
   have hsn:=zBO E iq hc
   have hlen:=hT.len
   rw[List.length_take] at hlen
   have hlp:=hT.pth.length_eq
   generalize E[iq]=x at *
   obtain⟨p,hp⟩:=hs.path hxE
   have hpl:=zP3 hs hp
   obtain⟨rp,hrp,hpa⟩:=zPA (fuel:=fuel) (d:=d+1) hS hs hp (by omega) (by omega) (by omega)
   have lo:=so.len
   have lph:=sp.len
   have oo:=so.one
   have op:=sp.one
   simp (disch:=try exact SX) only[RV,seval,zA0,gq0,gq3,gq4,gq5,ll,c1,hiad,hS.fz.rows,hS.fz.one,hS.fz.cells,hS.fz.icy,hS.fz.frz,hpa,hrp.fz.rows,hrp.fz.one,hrp.fz.cells,hrp.fz.icy,hrp.fz.frz]
   refine zAZ (I:=fun nk tk Nk => ∃ (ik:Nat),nk=T.length - ik∧ik≤T.length∧nth zA1 tk 0=a∧nth zA1 tk 3=o∧nth zA1 tk 4=ph∧nth zA1 tk 5=I64 iq∧nth zA1 tk 6=rp∧nth zA1 tk 7=I64 ik∧Nk=Nq∧(∀ j (hj:j<P.length),j<ik→ahB p P[j]=false)) (n:=T.length) (by omega) ?_ ?_
   ·refine⟨0,rfl,Nat.zero_le _, ?_, ?_, ?_, ?_, ?_, ?_,rfl,(fun _ _ h=>absurd h (by omega))⟩ <;> simp (disch:=try exact SX) only[RV,seval,zA0,gq0,gq3,gq4,gq5]
    all_goals first | rfl | assumption | done
   ·rintro nk tk Nk hltk ⟨ik,rfl,hik,gk0,gk3,gk4,gk5,gk6,gk7,mk,hk⟩
    simp only[hltq] at hltk ⊢
    subst mk
    have w2:IntKind.i64.wrap ((ik:Int)+1)=((ik+1:Nat):Int):=WI
    have hcase:(∃ h:ik<P.length,ahB p P[ik]=false)∨(ik<P.length ∧ ∃ h:ik<P.length,ahB p P[ik]=true)∨ik=T.length:=by
     by_cases h:ik<P.length
     ·cases hb:ahB p P[ik] with
      | false=>exact .inl ⟨h,hb⟩
      | true=>exact .inr (.inl ⟨h,h,hb⟩)
     ·exact .inr (.inr (by omega))
    rcases hcase with⟨h,hb⟩ | hcase
    ·have c2:decide ((ik:Int)<T.length)=true:=DT
     obtain⟨id,cs,r,hrow,lid,hg,hcs,hiad2,⟨ap,hr1,hap⟩,hrl,_,hcell,_⟩:=sp.atS (i:=ik) h
     have hiad2:∀ N,iadO N 1 ph (some ik)=some (.ptr id ik,N):=fun N=>by simpa using hiad2 N
     have p0:cs[ik]? = some ap:=by have:=hcell 0 (by omega);rw[hr1] at this;simpa using this
     have hah:=fun M=>zHL (fuel:=fuel) (d:=d) hrp hap (by omega) (by
      have:=hT.pth.get h (by omega:ik<T.length)
      have:=zP3 hs this
      omega) (by omega) M
     rw[hb] at hah
     simp (disch:=try exact SX) only[RV,seval,zA0,gk0,gk3,gk4,gk5,gk6,gk7,lo,lph,c2,hiad2,hg,p0,hah,hap.fz.rows,hap.fz.one,hap.fz.cells,hap.fz.icy,hap.fz.frz,hrp.fz.rows,hrp.fz.one,hrp.fz.cells,hrp.fz.icy,hrp.fz.frz,w2]
     exact⟨hltk,T.length - (ik+1),by omega,ik+1,rfl,by omega,rfl,fun j hj hji=>by
      rcases Nat.lt_succ_iff_lt_or_eq.1 hji with h' | rfl
      ·exact hk j hj h'
      ·exact hb⟩
    ·have hnT:ik≤T.length:=by rcases hcase with⟨h,_⟩ | h <;> omega
     have hput:=hT.put hs (fun y hy=>List.mem_of_mem_take hy) hxE hxn hp hnT hk (fun hj=>by
      rcases hcase with⟨_,h,hb⟩ | h
      ·exact hb
      ·omega)
     rw[← hsn] at hput
     obtain⟨o1,po1,hso1⟩:=so.pre (by omega:0<9) hnT
     obtain⟨o2,po2,hso2⟩:=so.suf (by omega:0<9) hnT
     obtain⟨p1,pp1,hsp1⟩:=sp.pre (by omega:0<1) (by omega:ik≤P.length)
     obtain⟨p2,pp2,hsp2⟩:=sp.suf (by omega:0<1) (by omega:ik≤P.length)
     have k1:=hso1 Nk (fun _ _=>rfl)
     rcases hcase with⟨_,h,hb⟩ | h
     case' inl =>
      have c2:decide ((ik:Int)<T.length)=true:=DT
      obtain⟨id,cs,r,hrow,lid,hg,hcs,hiad2,⟨ap,hr1,hap⟩,hrl,_,hcell,_⟩:=sp.atS (i:=ik) h
      have hiad2:∀ N,iadO N 1 ph (some ik)=some (.ptr id ik,N):=fun N=>by simpa using hiad2 N
      have p0:cs[ik]? = some ap:=by have:=hcell 0 (by omega);rw[hr1] at this;simpa using this
      have hah:=fun M=>zHL (fuel:=fuel) (d:=d) hrp hap (by omega) (by
       have:=hT.pth.get h (by omega:ik<T.length)
       have:=zP3 hs this
       omega) (by omega) M
      rw[hb] at hah
      simp (disch:=try exact SX) only[RV,seval,zA0,gk0,gk3,gk4,gk5,gk6,gk7,lo,lph,c2,hiad2,hg,p0,hah,hap.fz.rows,hap.fz.one,hap.fz.cells,hap.fz.icy,hap.fz.frz,hrp.fz.rows,hrp.fz.one,hrp.fz.cells,hrp.fz.icy,hrp.fz.frz,k1,hiad,hS.fz.rows,hS.fz.one,hS.fz.cells,hS.fz.icy,hS.fz.frz,po1.one,po1.cells]
     case' inr =>
      have c2:decide ((ik:Int)<T.length)=false:=DF
      simp (disch:=try exact SX) only[RV,seval,zA0,gk0,gk3,gk4,gk5,gk6,gk7,lo,lph,c2,hrp.fz.rows,hrp.fz.one,hrp.fz.cells,hrp.fz.icy,hrp.fz.frz,k1,hiad,hS.fz.rows,hS.fz.one,hS.fz.cells,hS.fz.icy,hS.fz.frz,po1.one,po1.cells]
     all_goals
      refine⟨zAN so.rl (Nat.le_refl _),po1.rws _ (Nat.le_refl _), ?_⟩
      obtain⟨rw1,hc1,hA1,hr1⟩:=po1.rd
      refine zH7 (bytes:=56) (l:=[]) wq SlM.nil zMM.cel (hc1 _ fun _ _=>rfl) po1.ln hA1 hr1 (by omega) (by rw[List.length_take];simp;omega) (by rw[List.length_take];simp;omega) fun a3 M3 m3 w3 le3 sz3 kp3 nw3 wm3 rl3 on3 oc3=>?_
      rw[List.nil_append] at m3
      have nw3:∀ j,rowOf a3=some j→Nk.size≤j:=fun j hj=>by
       rcases nw3 j hj with h | h
       ·cases h
       ·exact h
      have kp3:∀ j,j<Nk.size→M3.get j=Nk.get j:=fun j hj=>kp3 j hj (fun h=>by cases h)
      have k2:∀ N,(∀ j,j<Nk.size→N.get j=Nk.get j)→slcO N 9 o (some (I64 ik)) none none=some (o2,N):=fun N h=>hso2 N fun j hj=>h j (so.lt j hj)
      simp (disch:=try exact SX) only[RV,seval,zA0,gk0,gk3,gk4,gk5,gk6,gk7,hiad,hS.fz.rows,hS.fz.one,hS.fz.cells,hS.fz.icy,hS.fz.frz,w3,on3,oc3,zAP,zDX]
      refine⟨zAN m3.rl (by omega), ?_⟩
      have htk:(T.take ik).length≤100000:=by rw[List.length_take];omega
      have wl:Wf (M3.add (.row false (elR9 x))):=w3.add _
      refine app1 (bytes:=56) w3 m3 zMM (x:=x) ⟨rfl,hok⟩ rfl (by omega) (by omega) (by omega) fun a5 M5 m5 w5 le5 kp5 nw5 wm5 rl5 on5 oc5=>?_
      have k5:∀ j,j<Nk.size→M5.get j=Nk.get j:=fun j hj=>by
       rw[kp5 j (by omega) (fun h=>by have:=nw3 j h;omega)];exact kp3 j hj
      have k5':=k2 M5 k5
      simp (disch:=try exact SX) only[RV,seval,zA0,gk0,gk3,gk4,gk5,gk6,gk7,w5,on5,oc5,k5',po2.one,po2.cells,zAP,zDX]
      have ro:∀ i∈rowsOf o,i<Nk.size:=fun i hi=>so.lt i (so.row_mem hi)
      have r3:∀ i∈rowsOf a3,Nk.size≤i:=fun i hi=>nw3 i (m3.row_mem hi)
      have r5:∀ j,rowOf a5=some j→Nk.size≤j:=fun j hj=>by
       rcases nw5 j hj with h | h
       ·exact nw3 j h
       ·omega
      have ap1:zBC (fpOf (rowsOf o) [] M5.size M5.size) (fpOf (rowsOf o1) [] Nk.size M3.size,Nk.size,M3.size)=true:=zME fun i hi=>⟨by simp,.inl (ro i hi)⟩
      have ap2:zBC (fpOf (rowsOf o) [] M5.size M5.size) (FP.acc [] [],M3.size,M3.size+1)=true:=zG9 fun i hi=>⟨by simp,.inl (by have:=ro i hi;omega)⟩
      have ap3:zBC (fpOf (rowsOf o) [] M5.size M5.size) (FP.acc [M3.size] (rowsOf a3),M3.size+1,M5.size)=true:=zG9 fun i hi=>⟨fun h=>by have:=ro i hi;have:=r3 i h;omega,.inl (by have:=ro i hi;omega)⟩
      refine⟨zAN so.rl (by omega),by rw[ap1,ap2,ap3];rfl,by rw[po2.rws _ (by omega),zAN m5.rl (Nat.le_refl _)];rfl, ?_⟩
      obtain⟨rw2,hc2,hA2,hr2⟩:=po2.rd
      refine zH7 (bytes:=56) w5 m5 zMM.cel (hc2 _ fun j hj=>k5 j (so.lt j hj)) po2.ln hA2 hr2 (by omega) (by rw[List.length_append,List.length_drop];simp;omega) (by rw[List.length_append,List.length_drop];simp;omega) fun a6 M6 m6 w6 le6 sz6 kp6 nw6 wm6 rl6 on6 oc6=>?_
      have k6:∀ j,j<Nk.size→M6.get j=Nk.get j:=fun j hj=>by
       rw[kp6 j (by omega) (fun h=>by have:=r5 j h;omega)];exact k5 j hj
      have r6:∀ j,rowOf a6=some j→Nk.size≤j:=fun j hj=>by
       rcases nw6 j hj with h | h
       ·exact r5 j h
       ·omega
      have kp1:=hsp1 M6 (fun j hj=>k6 j (sp.lt j hj))
      simp (disch:=try exact SX) only[RV,seval,zA0,gk0,gk3,gk4,gk5,gk6,gk7,w6,on6,oc6,kp1,pp1.one,pp1.cells,zAP,zDX]
      refine⟨zAN sp.rl (by omega),pp1.rws _ (by omega), ?_⟩
      obtain⟨rw3,hc3,hA3,hr3⟩:=pp1.rd
      have hpk:(P.take ik).length≤100000:=by rw[List.length_take];omega
      refine zH7 (bytes:=24) (l:=[]) w6 SlM.nil zc7.cel (hc3 _ fun j hj=>k6 j (sp.lt j hj)) pp1.ln hA3 hr3 (by omega) (by simp;omega) (by simp;omega) fun a7 M7 m7 w7 le7 sz7 kp7 nw7 wm7 rl7 on7 oc7=>?_
      rw[List.nil_append] at m7
      have nw7:∀ j,rowOf a7=some j→M6.size≤j:=fun j hj=>by
       rcases nw7 j hj with h | h
       ·cases h
       ·exact h
      have kp7:∀ j,j<M6.size→M7.get j=M6.get j:=fun j hj=>kp7 j hj (fun h=>by cases h)
      have k4:∀ N,(∀ j,j<Nk.size→N.get j=Nk.get j)→slcO N 1 ph (some (I64 ik)) none none=some (p2,N):=fun N h=>hsp2 N fun j hj=>h j (sp.lt j hj)
      simp (disch:=try exact SX) only[RV,seval,zA0,gk0,gk3,gk4,gk5,gk6,gk7,hrp.fz.rows,hrp.fz.one,hrp.fz.cells,hrp.fz.icy,hrp.fz.frz,w7,on7,oc7,zAP,zDX]
      refine⟨zAN m7.rl (by omega), ?_⟩
      refine app1 (bytes:=24) w7 m7 zc7 (x:=p) ⟨rp,rfl,hrp⟩ rfl (by omega) (by omega) (by omega) fun a8 M8 m8 w8 le8 kp8 nw8 wm8 rl8 on8 oc8=>?_
      have k8':∀ j,j<M6.size→M8.get j=M6.get j:=fun j hj=>by
       rw[kp8 j (by omega) (fun h=>by have:=nw7 j h;omega)];exact kp7 j hj
      have k8:∀ j,j<Nk.size→M8.get j=Nk.get j:=fun j hj=>(k8' j (by omega)).trans (k6 j hj)
      have k9:=k4 M8 k8
      have rp':∀ i∈rowsOf ph,i<Nk.size:=fun i hi=>sp.lt i (sp.row_mem hi)
      have r7:∀ i∈rowsOf a7,M6.size≤i:=fun i hi=>nw7 i (m7.row_mem hi)
      have r8:∀ j,rowOf a8=some j→M6.size≤j:=fun j hj=>by
       rcases nw8 j hj with h | h
       ·exact nw7 j h
       ·omega
      have ap4:zBC (fpOf (rowsOf ph) [] M8.size M8.size) (fpOf (rowsOf p1) [] M6.size M7.size,M6.size,M7.size)=true:=zME fun i hi=>⟨by simp,.inl (by have:=rp' i hi;omega)⟩
      have ap5:zBC (fpOf (rowsOf ph) [] M8.size M8.size) (FP.acc [] [],M7.size,M7.size+1)=true:=zG9 fun i hi=>⟨by simp,.inl (by have:=rp' i hi;omega)⟩
      have ap6:zBC (fpOf (rowsOf ph) [] M8.size M8.size) (FP.acc [M7.size] (rowsOf a7),M7.size+1,M8.size)=true:=zG9 fun i hi=>⟨fun h=>by have:=rp' i hi;have:=r7 i h;omega,.inl (by have:=rp' i hi;omega)⟩
      simp (disch:=try exact SX) only[RV,seval,zA0,gk0,gk3,gk4,gk5,gk6,gk7,w8,on8,oc8,k9,pp2.one,pp2.cells,zAP,zDX]
      refine⟨zAN sp.rl (by omega),by rw[ap4,ap5,ap6];rfl,by rw[pp2.rws _ (by omega),zAN m8.rl (Nat.le_refl _)];rfl, ?_⟩
      obtain⟨rw4,hc4,hA4,hr4⟩:=pp2.rd
      refine zH7 (bytes:=24) w8 m8 zc7.cel (hc4 _ fun j hj=>k8 j (sp.lt j hj)) pp2.ln hA4 hr4 (by omega) (by rw[List.length_append,List.length_drop];simp;omega) (by rw[List.length_append,List.length_drop];simp;omega) fun a9 M9 m9 w9 le9 sz9 kp9 nw9 wm9 rl9 on9 oc9=>?_
      have m6':SlM M9 9 isEl a6 (T.take ik++[x]++T.drop ik):=m6.keep fun j hj=>by
       have:=m6.lt j hj
       rw[kp9 j (by omega) (fun h=>by have:=r8 j h;omega),k8' j this]
      simp (disch:=try exact SX) only[RV,seval,zA0,gk0,gk3,gk4,gk5,gk6,gk7,w9,on9,oc9,on6,oc6,w1,zAP,zDX]
      refine⟨hltk,E.length - (iq+1),by omega,iq+1,a6,a9,_,_,rfl,by omega,rfl,rfl,rfl,m6',m9,hput,fun j hj hj'=>?_⟩
      have:=m6.lt j hj
      rcases nw9 j hj' with h | h
      ·have:=nw8 j h
       rcases this with h | h
       ·have:=nw7 j h;omega
       ·omega
      ·omega
  ·obtain rfl:iq=E.length:=by omega
   have c1:decide ((E.length:Int)<E.length)=false:=DF
   rw[List.take_length] at hT
   obtain⟨r,hz,hsr⟩:=so.frz zMM.cel (k:=12) (by omega)
   have oo:=so.one
   simp (disch:=try exact SX) only[RV,seval,zA0,gq0,gq3,gq4,gq5,ll,c1,hz,oo,hS.fz.rows,hS.fz.one,hS.fz.cells,hS.fz.icy,hS.fz.frz]
   exact⟨r,⟨T,hsr,hT.txt hs,hT.mem⟩,rfl⟩
variable {l : List Op} {a ra : AV} {v : Lb} {o : Op}
def zRU (l:List Op)(o:Op):Int:=if zAY [] l=true then (if o.may=true then fitE l o else 8) else 8
theorem zOD (hS:Sl 17 isOp a l)(hl:l.length≤10000)(hf:l.length+400<fuel)(hR:Sl 1 zAS ra o.rs)(ho:o.ok)(M:Mem):zCN fuel (d+14) 17 [a,.agg (opR o ra)] M=some (I64 (zRU l o),M):=by
 have ora:=hR.one
 have hck:=fun M=>@zDJ fuel (d+6) o ra hR ho (by omega) M
 apply zB2
 refine zAJ tf17 rfl (by simp only[icyL,fun M=>hS.icy M 12 (by omega),zDI hR.fz]) (by simp [a17]) fun b' ht hx=>?_
 obtain⟨h0,h1⟩:=hx2 hx
 clear hx
 simp only[a17,c17] at ht ⊢
 unfold zRU
 simp (disch:=try exact SX) only[RV,seval,zA0,h0,h1,hS.fz.rows,hS.fz.one,hS.fz.cells,hS.fz.icy,hS.fz.frz,hR.fz.rows,hR.fz.one,hR.fz.cells,hR.fz.icy,hR.fz.frz]
 refine of_0 (d:=d) hS hl hf (Wf.mem0.add _) (Nat.zero_le _) (fun N w s k hh=>?_) (fun N ops w s wm k hh hH htl=>?_)
 ·rw[if_neg (by rw[hh];decide)]
  simp (disch:=try exact SX) only[RV,seval,zA0,h0,h1]
  all_goals exact⟨_,rfl⟩
 ·rw[if_pos hh]
  have g0:N.get 0=some (.row false (opR o ra)):=by rw[k 0 (by simp (disch:=try exact SX) only[RV,seval,zA0])];simp (disch:=try exact SX) only[RV,seval,zA0]
  have l0:=Mem.get_lt g0
  cases hm:o.may with
  | false =>
   rw[hm] at hck
   simp (disch:=try exact SX) only[RV,seval,zA0,h0,h1,g0,hR.fz.rows,hR.fz.one,hR.fz.cells,hR.fz.icy,hR.fz.frz,hck,zBH,z80,Bool.false_eq_true,if_false]
   all_goals exact⟨_,rfl⟩
  | true =>
   rw[hm] at hck
   simp (disch:=try exact SX) only[RV,seval,zA0,h0,h1,g0,hR.fz.rows,hR.fz.one,hR.fz.cells,hR.fz.icy,hR.fz.frz,hck,zB9,z00,if_true]
   refine zaE (d:=d+1) hH (by omega) (by omega) hR ho hm (by omega) w (by rw[wm];exact Nat.zero_le _) fun N2 hN2=>?_
   simp (disch:=try exact SX) only[RV,seval,zA0,h0,h1]
   all_goals exact⟨_,rfl⟩
variable {x : Eid}
theorem zNN (hS:Sl 17 isOp a l)(hl:l.length≤10000)(hf:64*l.length+2000<fuel)(M:Mem):zCN fuel (d+8) 16 [a] M=some (I64 (err (zAY [] l)),M):=by
 have hmy:=fun M=>zE9 (fuel:=fuel) (d:=d) hS hl hf M
 apply zB2
 refine zAJ tf16 rfl (by simp only[icyL,fun M=>hS.icy M 12 (by omega)]) (by simp [a16]) fun b' ht hx=>?_
 have h0:=hx 0 _ rfl
 clear hx
 simp only[a16,c16] at ht ⊢
 cases hb:zAY [] l <;> rw[hb] at hmy <;> simp (disch:=try exact SX) only[RV,seval,zA0,h0,hS.fz.rows,hS.fz.one,hS.fz.cells,hS.fz.icy,hS.fz.frz,hmy,zB9,zBH]
theorem zPE (hS:Sl 17 isOp a l)(hl:l.length≤10000)(hf:64*l.length+2000<fuel)(M:Mem):zCN fuel (d+8) 10 [a,idA x] M=some (.tup [BL (zAY [] l&&zFJ l x),I64 (err (zAY [] l))],M):=by
 have hmy:=fun M=>zE9 (fuel:=fuel) (d:=d) hS hl hf M
 apply zB2
 refine zAJ tf10 rfl (by simp only[icyL,fun M=>hS.icy M 12 (by omega),zAT (zCH x) (show 1<12 by omega)]) (by simp [a10]) fun b' ht hx=>?_
 obtain⟨h0,h1⟩:=hx2 hx
 clear hx
 simp only[a10,c10] at ht ⊢
 cases hb:zAY [] l with
 | false =>
  rw[hb] at hmy
  simp (disch:=try exact SX) only[RV,seval,zA0,h0,h1,hS.fz.rows,hS.fz.one,hS.fz.cells,hS.fz.icy,hS.fz.frz,hmy,zBH,z80,Bool.false_and]
 | true =>
  rw[hb] at hmy
  have his:=fun M=>zVO (fuel:=fuel) (d:=d+5) (x:=x) hS (zHX hb) (by omega) (by omega) M
  simp (disch:=try exact SX) only[RV,seval,zA0,h0,h1,hS.fz.rows,hS.fz.one,hS.fz.cells,hS.fz.icy,hS.fz.frz,hmy,his,zB9,z00,Bool.true_and]
theorem zPF (hS:Sl 17 isOp a l)(hv:v.ok)(hl:l.length≤10000)(hd:∀ o∈l,o.rs.length≤1000000000)(hf:64*l.length+2000<fuel):∃ r,Sl 17 isOp r (if zFK l v=0 then lowL l v else []) ∧ ∀ M,zCN fuel (d+8) 12 [a,lbA v] M=some (.tup [r,I64 (zFK l v)],M):=by
 have hmy:=fun M=>zE9 (fuel:=fuel) (d:=d) hS hl hf M
 have hmv:=fun M=>zJF (fuel:=fuel) (d:=d+6) v M
 refine zEP tf12 rfl (fun M=>by simp only[icyL,fun M=>hS.icy M 12 (by omega),zAT (zCO v) (show 1<12 by omega)]) ?_
 refine zAJ tf12 rfl (by simp only[icyL,fun M=>hS.icy M 12 (by omega),zAT (zCO v) (show 1<12 by omega)]) (by simp [a12]) fun b' ht hx=>?_
 obtain⟨h0,h1⟩:=hx2 hx
 clear hx
 simp only[a12,c12] at ht ⊢
 unfold zFK
 cases hb:zAY [] l with
 | false =>
  rw[hb] at hmy
  simp (disch:=try exact SX) only[RV,seval,zA0,h0,h1,hS.fz.rows,hS.fz.one,hS.fz.cells,hS.fz.icy,hS.fz.frz,hmy,zBH,z80,Bool.false_and]
  exact⟨NIL,.inl ⟨rfl,rfl⟩,rfl⟩
 | true =>
  rw[hb] at hmy
  cases hc:v.may with
  | false =>
   rw[hc] at hmv
   simp (disch:=try exact SX) only[RV,seval,zA0,h0,h1,hS.fz.rows,hS.fz.one,hS.fz.cells,hS.fz.icy,hS.fz.frz,hmy,hmv,zBH,z80,Bool.true_and]
   exact⟨NIL,.inl ⟨rfl,rfl⟩,rfl⟩
  | true =>
   rw[hc] at hmv
   obtain⟨r,sr,hr⟩:=zPI (fuel:=fuel) (d:=d+4) hS hv (by omega) (by omega)
   have hll:=zLK l v
   obtain⟨r2,sr2,hr2⟩:=zHN (fuel:=fuel) (d:=d+5) sr (by omega) (fun o ho=>hd o (List.mem_filter.1 ho).1) (by omega)
   have orr:=sr.one
   have or2:=sr2.one
   simp (disch:=try exact SX) only[RV,seval,zA0,h0,h1,hS.fz.rows,hS.fz.one,hS.fz.cells,hS.fz.icy,hS.fz.frz,hmy,hmv,hr,hr2,sr.fz.rows,sr.fz.one,sr.fz.cells,sr.fz.icy,sr.fz.frz,sr2.fz.rows,sr2.fz.one,sr2.fz.cells,sr2.fz.icy,sr2.fz.frz,zB9,z00,Bool.true_and]
   exact⟨r2,sr2,rfl⟩
theorem zPD {o:Op}{ra:AV}(hS:Sl 17 isOp a l)(hR:Sl 1 zAS ra o.rs)(ho:o.ok)(hl:l.length≤10000)(hf:64*l.length+2000<fuel)(M:Mem):zCN fuel (d+8) 18 [a,.agg (opR o ra)] M=some (I64 (zRU l o),M):=by
 have ora:=hR.one
 have hmy:=fun M=>zE9 (fuel:=fuel) (d:=d) hS hl hf M
 have hmo:=fun M=>zNO (fuel:=fuel) (d:=d+2) hR ho (by omega) M
 apply zB2
 refine zAJ tf18 rfl (by simp only[icyL,fun M=>hS.icy M 12 (by omega),zDI hR.fz]) (by simp [a18]) fun b' ht hx=>?_
 obtain⟨h0,h1⟩:=hx2 hx
 clear hx
 simp only[a18,c18] at ht ⊢
 unfold zRU
 cases hb:zAY [] l with
 | false =>
  rw[hb] at hmy
  simp (disch:=try exact SX) only[RV,seval,zA0,h0,h1,hS.fz.rows,hS.fz.one,hS.fz.cells,hS.fz.icy,hS.fz.frz,hR.fz.rows,hR.fz.one,hR.fz.cells,hR.fz.icy,hR.fz.frz,hmy]
 | true =>
  rw[hb] at hmy
  cases hc:o.may with
  | false =>
   rw[hc] at hmo
   simp (disch:=try exact SX) only[RV,seval,zA0,h0,h1,hS.fz.rows,hS.fz.one,hS.fz.cells,hS.fz.icy,hS.fz.frz,hR.fz.rows,hR.fz.one,hR.fz.cells,hR.fz.icy,hR.fz.frz,hmy,hmo]
  | true =>
   rw[hc] at hmo
   have her:=fun M=>zHO (fuel:=fuel) (d:=d+1) hS hR ho hb hc hl (by omega) M
   simp (disch:=try exact SX) only[RV,seval,zA0,h0,h1,hS.fz.rows,hS.fz.one,hS.fz.cells,hS.fz.icy,hS.fz.frz,hR.fz.rows,hR.fz.one,hR.fz.cells,hR.fz.icy,hR.fz.frz,hmy,hmo,her]
theorem zPH (hS:Sl 17 isOp a l)(hl:l.length≤1000)(hf:3000*l.length+200000<fuel):∃ r,Sl 10 isRn r (if zAY [] l=true then textOf l else []) ∧ ∀ M,zCN fuel (d+8) 8 [a] M=some (.tup [r,I64 (err (zAY [] l))],M):=by
 have hmy:=fun M=>zE9 (fuel:=fuel) (d:=d) hS (by omega) (by omega) M
 refine zEP tf8 rfl (fun M=>by simp only[icyL,fun M=>hS.icy M 12 (by omega)]) ?_
 refine zAJ tf8 rfl (by simp only[icyL,fun M=>hS.icy M 12 (by omega)]) (by simp [a8]) fun b' ht hx=>?_
 have h0:=hx 0 _ rfl
 clear hx
 simp only[a8,c8] at ht ⊢
 cases hb:zAY [] l with
 | false =>
  rw[hb] at hmy
  simp (disch:=try exact SX) only[RV,seval,zA0,h0,hS.fz.rows,hS.fz.one,hS.fz.cells,hS.fz.icy,hS.fz.frz,hmy,zBH,z80]
  exact⟨NIL,.inl ⟨rfl,rfl⟩,rfl⟩
 | true =>
  rw[hb] at hmy
  simp only[if_true]
  obtain⟨rt,srt,hrt⟩:∃ r,Sl 10 isRn r (textOf l) ∧ ∀ M,zCN fuel (d+7) 23 [a] M=some (r,M):=by
   obtain⟨r1,s1,e1⟩:=zJD (fuel:=fuel) (d:=d+2) hS (zIM hb) (by omega) (by omega)
   have hset:=zYX hb
   have hT:=zE2 hb
   have hlen:(zD0 l).length≤64000:=by
    have:=zLM (zIM hb)
    omega
   obtain⟨r2,T,⟨s2,hT2,hTm⟩,e2⟩:=zLT (fuel:=fuel) (d:=d+2) s1 hset (by omega) (by omega)
   have eT:=zV5 hb hT2 hTm
   have hX:=zFF hT.ok
   have hok:=el_ok s1
   have hTl:=zdU hT2 hTm
   obtain⟨r3,s3,e3⟩:=zPB (fuel:=fuel) (d:=d+3) s2 (fun x hx=>zbX (by rw[eT] at hx;exact zQ3 hT.ok.1 x hx) (hok x ((hTm x).1 hx))) (by omega) (by omega)
   rw[eT,← hX.2] at s3
   have o1:=s1.one
   have o2:=s2.one
   have o3:=s3.one
   refine zEP tf23 rfl (fun M=>by simp only[icyL,fun M=>hS.icy M 12 (by omega)]) ?_
   refine zAJ tf23 rfl (by simp only[icyL,fun M=>hS.icy M 12 (by omega)]) (by simp [a23]) fun b' ht hx=>?_
   have h0:=hx 0 _ rfl
   clear hx
   simp only[a23,c23] at ht ⊢
   simp (disch:=try exact SX) only[RV,seval,zA0,h0,hS.fz.rows,hS.fz.one,hS.fz.cells,hS.fz.icy,hS.fz.frz,e1,e2,e3,s1.fz.rows,s1.fz.one,s1.fz.cells,s1.fz.icy,s1.fz.frz,s2.fz.rows,s2.fz.one,s2.fz.cells,s2.fz.icy,s2.fz.frz,s3.fz.rows,s3.fz.one,s3.fz.cells,s3.fz.icy,s3.fz.frz]
   exact⟨r3,s3,rfl⟩
  have ort:=srt.one
  simp (disch:=try exact SX) only[RV,seval,zA0,h0,hS.fz.rows,hS.fz.one,hS.fz.cells,hS.fz.icy,hS.fz.frz,hmy,hrt,srt.fz.rows,srt.fz.one,srt.fz.cells,srt.fz.icy,srt.fz.frz,zB9,z00]
  exact⟨rt,srt,rfl⟩
theorem zVC {o:AV}{l:List Op}{B B':Nat}(h:opK.ND M B o l)(hb:B'≤B):opK.ND M B' o l:=by
 exact zB0K
theorem zZ4 {o:AV}{l:List Op}{B:Nat}(h:opK.ND M B o l):purA o=true:=by
 obtain⟨lr,_,h2,_⟩:=h
 exact h2.pur
theorem op_sh {M2:Mem}{o:AV}{l:List Op}(h:opK.ND M2 0 o l)(wf:Wf M):opK.ND (M.app M2) M.size (shA M.size o) l :=
 h.sh (fun x=>by show purL (opH x)=true;simp [purL,purA]) zJ8 (zRB wf)
def zfK (l:List Op)(v:Lb)(u:AV)(M:Mem):Prop:=∃ r,u = .tup [r,I64 (zFK l v)]∧opK.ND M 0 r (if zFK l v=0 then lowL l v else [])
theorem zYY (hS:Sl 17 isOp a l)(hl:l.length≤10000)(hf:l.length+400<fuel)(hd:∀ o∈l,o.rs.length≤1000000000):zDC Tryz.prog (fsT tbl) fuel (d+14) 11 [a,lbA v] (zfK l v):=by
 have hpz:∀ e:Int,purA (.tup [NIL,I64 e])=true:=fun e=>by simp [purA,purL]
 have ll:=hS.len
 have hck:=fun M=>zDP (fuel:=fuel) (d:=d) hS hl hf M
 have hlc:=fun M=>@zH1 fuel (d+13) v M
 refine zEG tf11 rfl (by simp [a11]) fun b' ht hx=>?_
 obtain⟨h0,h1⟩:=hx2 hx
 clear hx
 simp only[a11,c11] at ht ⊢
 unfold zfK zFK
 cases q1:zAY [] l with
 | false =>
  rw[q1] at hck
  cases q2:v.may <;> rw[q2] at hlc
  all_goals
   exact zB0q
 | true =>
  rw[q1] at hck
  cases q2:v.may <;> rw[q2] at hlc
  ·exact zB0q
  ·simp (disch:=try exact SX) only[RV,seval,zA0,h0,h1,hS.fz.rows,hS.fz.one,hS.fz.cells,hS.fz.icy,hS.fz.frz,hck,hlc,zB9,zBH,z00,z80,zD1,zD3,zD2,BMM,IMX,ll]
   refine zAZ (I:=fun n t N => ∃ (i:Nat) (out:AV),n=l.length - i∧i≤l.length∧nth zA1 t 3 = .ptr 0 0∧nth zA1 t 4=out∧nth zA1 t 17=a∧nth zA1 t 18=I64 l.length∧nth zA1 t 19=I64 i∧Wf N∧N.get 0=some (.row false (lbR v))∧N.wm=0∧opK.ND N 1 out (lowL (l.take i) v)) (n:=l.length) (by omega) ?_ ?_
   ·refine⟨0,NIL,rfl,Nat.zero_le _, ?_, ?_, ?_, ?_, ?_,Wf.mem0.add _,by simp (disch:=try exact SX) only[RV,seval,zA0],rfl,NK.ND.nil _ _⟩ <;> simp (disch:=try exact SX) only[RV,seval,zA0,h0,ll]
    all_goals first | rfl | assumption | done
   ·rintro n t N hlt ⟨i,out,rfl,hi,g3,g4,g17,g18,g19,w,g,wm,hN⟩
    simp only[ht] at hlt ⊢
    by_cases hc:i<l.length
    ·have q3:decide ((i:Int)<l.length)=true:=DT
     have w1:IntKind.i64.wrap ((i:Int)+1)=((i+1:Nat):Int):=WI
     obtain⟨r,hiad,hr,hrl⟩:=hS.iad i hc
     have hls:=zQL (l.take i) l[i] v
     rw[← take_snoc l i hc] at hls
     have hlo:=hd l[i] (List.getElem_mem hc)
     have hll:=zLK (l.take i) v
     rw[List.length_take] at hll
     generalize l[i]=e at *
     obtain⟨ra,rfl,hra,hok⟩:=hr
     have ora:=hra.one
     have lN:=Mem.get_lt g
     have hle:=fun M=>@zLJ fuel (d+13) e.hd.lb v M
     have kX:=((Kept.refl w).add (.row false (opR ⟨0,Hd.z,0,⟨Eid.z,0⟩,Eid.z,Lb.z,[]⟩ NIL))).upd (by omega) (Nat.le_refl _) (.row false (opR e ra))
     cases q4:e.hd.lb.leq v with
     | false =>
      rw[q4] at hle
      rw[q4,if_neg (by decide),List.append_nil] at hls
      simp (disch:=try exact SX) only[RV,seval,zA0,g3,g4,g17,g18,g19,hS.fz.rows,hS.fz.one,hS.fz.cells,hS.fz.icy,hS.fz.frz,q3,hiad,hra.fz.rows,hra.fz.one,hra.fz.cells,hra.fz.icy,hra.fz.frz,w,g,hle,w1]
      exact⟨hlt,l.length - (i+1),by omega,i+1,out,rfl,by omega,rfl,rfl,wm,by rw[hls];exact hN.keep fun j a b=>kX.get j b⟩
     | true =>
      rw[q4] at hle
      rw[q4,if_pos rfl] at hls
      have oo:=hN.nn.one
      have oc:=hN.nn.cells
      simp (disch:=try exact SX) only[RV,seval,zA0,g3,g4,g17,g18,g19,hS.fz.rows,hS.fz.one,hS.fz.cells,hS.fz.icy,hS.fz.frz,q3,hiad,hra.fz.rows,hra.fz.one,hra.fz.cells,hra.fz.icy,hra.fz.frz,w,g,hle,oo,oc]
      refine zZ5 (d:=d+12) hra hlo kX.wf (by rw[kX.wm];omega) fun a' N2 hN2 sm2 nw2=>?_
      have k2:=kX.trans hN2
      have w2:=k2.wf
      have oa:=sm2.one
      have ca:=sm2.cells
      have rl2:=zAN sm2.rl (Nat.le_refl N2.size)
      have rr2:=hN.nn.rows (show N.size≤N2.size+1 by have:=k2.le;omega)
      simp (disch:=try exact SX) only[RV,seval,zA0,g3,g4,g17,g18,g19,w2,oa,ca,oo,oc,rl2,rr2]
      have hsz:N.size+1≤N2.size:=hN2.le
      have nw2:∀ j,rowOf a'=some j→N.size+1≤j:=nw2
      refine NK.ND.app (K:=opK) (B:=1) (l:=lowL (l.take i) v) (x:=e) (ra:=a') w2 hN (fun j a b=>k2.get j b) (by omega) ⟨rfl,oa,ca⟩ ⟨sm2,fun j hj=>by have:=nw2 j hj;omega,hok⟩ (fun j hj=>by have h2:=nw2 j hj;omega) (by omega) (by omega) (by omega) fun o' M' hN' w' le' kp' nw' wm'=>?_
      simp (disch:=try exact SX) only[RV,seval,zA0,g3,g4,g17,g18,g19,w1]
      refine⟨hlt,l.length - (i+1),by omega,i+1,o',rfl,by omega,rfl,rfl,w', ?_, ?_,by rw[hls];exact hN'⟩
      ·rw[kp' 0 (by omega) (fun h=>by have:=hN.nn.lt 0 h;omega),k2.get 0 lN];exact g
      ·rw[wm',k2.wm];exact wm
    ·obtain rfl:i=l.length:=by omega
     have q3:decide ((l.length:Int)<l.length)=false:=DF
     rw[List.take_length] at hN
     have oo:=hN.nn.one
     have oc:=hN.nn.cells
     simp (disch:=try exact SX) only[RV,seval,zA0,g4,g18,g19,q3,oo,oc]
     exact⟨by simp [purA,purL,zZ4 hN],out,rfl,zVC hN (Nat.zero_le _)⟩
theorem zYZ (hS:Sl 17 isOp a l)(hl:l.length≤10000)(hf:l.length+400<fuel)(hd:∀ o∈l,o.rs.length≤1000000000)(wf:Wf M)(k:∀ r N,Kept M N→opK.ND N M.size r (if zFK l v=0 then lowL l v else [])→Q (.tup [r,I64 (zFK l v)]) N):W3 (zCN fuel (d+15) 11 [a,lbA v] M) Q:=by
 refine zDC.use (zYY (fuel:=fuel) (d:=d) (v:=v) hS hl hf hd) (M0:=M) (by simp only[icyL,hS.icy M 12 (by omega),zAT (zCO v) (show 1<12 by omega)]) wf fun u M2 hu=>?_
 obtain⟨r,rfl,hr⟩:=hu
 have:=k _ _ (zEE wf) (op_sh hr wf)
 simpa [shA,shL] using this
abbrev zRn:Value:=.agg #[.int .u8 0,.int .u32 0,.int .u8 0,.int .i64 0,.int .i64 0,.int .u8 0,.int .u32 0,.int .u8 0,.int .i64 0,.slice none 0 0]
theorem zeX {n:Nat}(wf:Wf M)(hn:0<n)(hb:n≤1000000)(k:Q (.sl M.size 0 0 none 10) (M.add (.row false (zAL zRn n)))) :
  W3 (zCN fuel (d+1) 121 [NIL,I64 n] M) Q:=by
 have hz:=zX4 (X:=M) (st:=10) (bytes:=80) (z:=zRn) wf rfl rfl hn (by omega) (by omega) (by omega)
 have e0:decide ((n:Int)<0)=false:=DF
 have e1:decide ((0:Int)<n)=true:=DT
 have w0:IntKind.i64.wrap 0=0:=by decide
 have w1:IntKind.i64.wrap ((n:Int) - 0)=n:=WI
 refine zBK tf121 rfl (by simp [a121]) fun b' ht hx=>?_
 obtain⟨h0,h1⟩:=hx2 hx
 clear hx
 simp only[a121,c121] at ht ⊢
 have hs:=zdN (M:=M.add (.row false (zAL zRn n))) (st:=10) (n:=n) (zAM wf (.row false (zAL zRn n)) M.size (Nat.le_refl _) (Nat.lt_succ_self _))
 simp (disch:=try exact SX) only[RV,seval,zA0,h0,h1,e0,e1,w0,w1,zh2,x_cap,zbM,zZX,hz,hs]
 exact k
theorem zTL {id:Nat}{a0 a1 a2:AV}{l0 l1 l2:List Rn}(wf:Wf M)(hg:M.get id=some (.row false [a0,a1,a2]))(h0':Sl 10 isRn a0 l0)(h1':SlM M 10 isRn a1 l1)(h2':Sl 10 isRn a2 l2)(hn:0<l1.length)(hb0:l0.length≤10000)(hb1:l1.length≤10000)(hb2:l2.length≤10000)(hf:100<fuel)(hw:M.wm≤M.size)
  (k:∀ o N,SlM N 10 isRn o (l0++l1++l2)→Kept M N→(∀ j,rowOf o=some j→M.size≤j)→oneA o=true→cellsA o=[o]→((rowsOf o).all fun i=>Nat.blt i N.size)=true→Q o N) :
  W3 (zCN fuel (d+2) 81 [.sl id 0 3 (some 3) 1] M) Q:=by
 have x0:=h0'.len
 have x1:=h1'.len
 have x2:=h2'.len
 have o0:=h0'.one
 have o1:=h1'.one
 have o2:=h2'.one
 have li:=Mem.get_lt hg
 have c3:((3:Nat):Int)=3:=rfl
 have t0:zE4 (I64 0)=some 0:=rfl
 have t1:zE4 (I64 1)=some 1:=rfl
 have t2:zE4 (I64 2)=some 2:=rfl
 have q03:decide ((0:Int)<3)=true:=rfl
 have q13:decide ((1:Int)<3)=true:=rfl
 have q23:decide ((2:Int)<3)=true:=rfl
 have q33:decide ((3:Int)<3)=false:=rfl
 have v1:IntKind.i64.wrap 1=1:=by decide
 have v2:IntKind.i64.wrap 2=2:=by decide
 have v3:IntKind.i64.wrap 3=3:=by decide
 have w0:IntKind.i64.wrap (0+(l0.length:Int))=(l0.length:Nat):=WI
 have w1:IntKind.i64.wrap ((l0.length:Int)+(l1.length:Int))=((l0.length+l1.length:Nat):Int):=WI
 have w2:IntKind.i64.wrap (((l0.length+l1.length:Nat):Int)+(l2.length:Int))=((l0.length+l1.length+l2.length:Nat):Int):=WI
 have n0:decide (((l0.length:Nat):Int)<0)=false:=DF
 have n1:decide (((l0.length+l1.length:Nat):Int)<0)=false:=DF
 have n2:decide (((l0.length+l1.length+l2.length:Nat):Int)<0)=false:=DF
 refine zBK tf81 rfl (by simp [a81]) fun b' ht hx=>?_
 have h0:=hx 0 _ rfl
 clear hx
 simp only[a81,c81] at ht ⊢
 simp (disch:=try exact SX) only[RV,seval,zA0,h0]
 refine w_un (by omega) ?_
 simp (disch:=try exact SX) only[RV,seval,zA0,h0,hg,c3,t0,q03,x0,w0,n0,v1,o0,zBW,zCT,zE3]
 refine w_un (by omega) ?_
 simp (disch:=try exact SX) only[RV,seval,zA0,h0,hg,t1,q13,x1,w1,n1,v2,o1,zBW,zCT,zE3]
 refine w_un (by omega) ?_
 simp (disch:=try exact SX) only[RV,seval,zA0,h0,hg,t2,q23,x2,w2,n2,v3,o2,zBW,zCT,zE3]
 refine w_un (by omega) ?_
 simp (disch:=try exact SX) only[RV,seval,zA0,h0,q33,zBW,zCT,zE3]
 refine zeX (d:=d) (n:=l0.length+l1.length+l2.length) wf (by omega) (by omega) ?_
 have sq0:=SlQ.fresh (X:=M) (st:=10) (T:=isRn) (n:=l0.length+l1.length+l2.length) (z:=zRn) wf rfl
 have wX:=wf.add (.row false (zAL zRn (l0.length+l1.length+l2.length)))
 have kX:∀ j,j<M.size→(M.add (.row false (zAL zRn (l0.length+l1.length+l2.length)))).get j=M.get j:=fun j hj=>zAK wf _ _ hj
 have sX:(M.add (.row false (zAL zRn (l0.length+l1.length+l2.length)))).size=M.size+1:=rfl
 have dX:(M.add (.row false (zAL zRn (l0.length+l1.length+l2.length)))).dirty=M.dirty:=rfl
 have vX:(M.add (.row false (zAL zRn (l0.length+l1.length+l2.length)))).wm=M.wm:=rfl
 generalize (M.add (.row false (zAL zRn (l0.length+l1.length+l2.length))))=X at *
 have gX:=(kX id li).trans hg
 simp (disch:=try exact SX) only[RV,seval,zA0,h0,gX,wX,c3]
 refine w_un (by omega) ?_
 simp (disch:=try exact SX) only[RV,seval,zA0,h0,gX,c3,t0,q03,v1,h0'.fz.rows,h0'.fz.one,h0'.fz.cells,h0'.fz.icy,h0'.fz.frz,zBW,zCT,zE3]
 obtain⟨r0,y0,z0,A0,R0⟩:=h0'.cells2 X
 refine SlQ.app (bytes:=80) wX sq0 y0 z0 A0 R0 zFI.cel (by omega) (by simp;omega) (by simp;omega) fun o' Y sq1 wY sY kY rY wmY diY=>?_
 have on1:=sq1.one
 have oc1:=sq1.cells
 have rl1:=sq1.rl (Nat.le_refl _)
 have ro1:∀ j,rowOf o'=some j→j=M.size:=fun j hj=>by rw[rY] at hj;cases hj;rfl
 have gY:Y.get id=some (.row false [a0,a1,a2]):=(kY id (fun e=>by cases e;omega)).trans gX
 have mY:∀ j,j<M.size→Y.get j=M.get j:=fun j hj=>(kY j (fun e=>by cases e;omega)).trans (kX j hj)
 simp (disch:=try exact SX) only[RV,seval,zA0,h0,wY,on1,oc1,rl1,v1,zBW,zCT,zE3]
 refine w_un (by omega) ?_
 have sm1:SlM Y 10 isRn a1 l1:=h1'.keep fun j hj=>mY j (h1'.lt j hj)
 have rla:=zAN sm1.rl (Nat.le_refl _)
 simp (disch:=try exact SX) only[RV,seval,zA0,h0,gY,c3,t1,q13,v2,on1,o1,rl1,rla,zBW,zCT,zE3]
 obtain⟨r1,y1,z1,A1,R1⟩:=sm1.cells2
 refine SlQ.app (bytes:=80) wY sq1 y1 z1 A1 R1 zFI.cel (by omega) (by simp;omega) (by simp;omega) fun o2' Z sq2 wZ sZ kZ rZ wmZ diZ=>?_
 have on2:=sq2.one
 have oc2:=sq2.cells
 have rl2:=sq2.rl (Nat.le_refl _)
 have ro2:∀ j,rowOf o2'=some j→j=M.size:=fun j hj=>ro1 j (rZ ▸ hj)
 have gZ:Z.get id=some (.row false [a0,a1,a2]):=(kZ id (fun e=>by have:=ro1 _ e;omega)).trans gY
 have mZ:∀ j,j<M.size→Z.get j=M.get j:=fun j hj=>(kZ j (fun e=>by have:=ro1 _ e;omega)).trans (mY j hj)
 simp (disch:=try exact SX) only[RV,seval,zA0,h0,wZ,on2,oc2,rl2,v2,zBW,zCT,zE3]
 refine w_un (by omega) ?_
 simp (disch:=try exact SX) only[RV,seval,zA0,h0,gZ,c3,t2,q23,v3,on2,rl2,h2'.fz.rows,h2'.fz.one,h2'.fz.cells,h2'.fz.icy,h2'.fz.frz,zBW,zCT,zE3]
 obtain⟨r2,y2,z2,A2,R2⟩:=h2'.cells2 Z
 refine SlQ.app (bytes:=80) wZ sq2 y2 z2 A2 R2 zFI.cel (by omega) (by simp;omega) (by simp;omega) fun o3' U sq3 wU sU kU rU wmU diU=>?_
 have on3:=sq3.one
 have oc3:=sq3.cells
 have rl3:=sq3.rl (Nat.le_refl _)
 have ro3:∀ j,rowOf o3'=some j→j=M.size:=fun j hj=>ro2 j (rU ▸ hj)
 have mU:∀ j,j<M.size→U.get j=M.get j:=fun j hj=>(kU j (fun e=>by have:=ro2 _ e;omega)).trans (mZ j hj)
 simp (disch:=try exact SX) only[RV,seval,zA0,h0,wU,on3,oc3,rl3,v3,zBW,zCT,zE3]
 refine w_un (by omega) ?_
 simp (disch:=try exact SX) only[RV,seval,zA0,h0,q33,on3,oc3,rl3,zBW,zCT,zE3]
 have e0:l0.length+l1.length+l2.length - l0.length - l1.length - l2.length=0:=by omega
 rw[e0] at sq3
 have d1:=diY (fun j hj=>by cases hj;omega)
 have d2:=diZ (fun j hj=>by have:=ro1 j hj;omega)
 have d3:=diU (fun j hj=>by have:=ro2 j hj;omega)
 exact k o3' U (by have:=sq3.slm;simpa using this) ⟨wU,by omega,mU,by omega,d3.trans (d2.trans (d1.trans dX))⟩ (fun j hj=>by have:=ro3 j hj;omega) on3 oc3 rl3
theorem zNJ {a:AV}{l:List Rn}{x:Eid}(hS:Sl 10 isRn a l)(hm:∀ r∈l,r.may=true)(hx:x=Eid.z∨zBG l x≠none)(hl:l.length≤9000)(hf:l.length+100<fuel) :
  ∃ r,Sl 10 isRn r (zBE l x).1 ∧ ∀ M,zCN fuel (d+8) 46 [a,idA x] M=some (.tup [r,I64 (zBE l x).2],M):=by
 have oa:=hS.one
 have la:=hS.len
 have hw:=fun M=>@zO1 fuel (d+1) a l x hS (by omega) (by omega) M
 refine zEP tf46 rfl (fun M=>by simp only[icyL,fun M=>hS.icy M 12 (by omega),zAT (zCH x) (show 1<12 by omega)]) ?_
 refine zAJ tf46 rfl (by simp only[icyL,fun M=>hS.icy M 12 (by omega),zAT (zCH x) (show 1<12 by omega)]) (by simp [a46]) fun b' ht hx=>?_
 obtain⟨h0,h1⟩:=hx2 hx
 clear hx
 simp only[a46,c46] at ht ⊢
 by_cases hz:x=Eid.z
 ·have q:decide (x=Eid.z)=true:=decide_eq_true hz
  have hpl:zBE l x=(l,0):=by unfold zBE;rw[if_pos hz]
  rw[hpl]
  simp (disch:=try exact SX) only[RV,seval,zA0,h0,h1,hS.fz.rows,hS.fz.one,hS.fz.cells,hS.fz.icy,hS.fz.frz,↓pIdE,zAA,↓pIdN,zA9,↓pHdE,zAB,↓pHdN,zAC,↓pLbE,zA8,↓pLbN,zAD,↓pSpE,zAE,↓pSpN,zAF,ETA,q]
  exact⟨_,hS,rfl⟩
 ·have q:decide (x=Eid.z)=false:=decide_eq_false hz
  rcases hx with hx | hx
  ·exact absurd hx hz
  cases hwl:zBG l x with
  | none=>exact absurd hwl hx
  | some p =>
   obtain⟨n,k⟩:=p
   obtain⟨L1,o,L2,hle,hln,h1',h2',h3',h4'⟩:=zHA hwl
   rw[hwl] at hw
   simp only[wN,wK] at hw
   have hnl:n<l.length:=by rw[hle,List.length_append,List.length_cons];omega
   obtain⟨r,hiad,hr,hrl⟩:=hS.iad n hnl
   have hgo:l.getD n Rn.z=l[n]:=by rw[List.getD_eq_getElem?_getD,List.getElem?_eq_getElem hnl];rfl
   have hpl:zBE l x=if (l.getD n Rn.z).cutE (k+1)=0 then (l.take n++[(l.getD n Rn.z).fst (k+1),(l.getD n Rn.z).snd (k+1)]++l.drop (n+1),n+1) else (l,n+1):=by unfold zBE;rw[if_neg hz];simp only[hwl]
   rw[hpl,hgo]
   clear hpl
   have hom:=hm l[n] (List.getElem_mem hnl)
   have hro:=zdF hS l[n] (List.getElem_mem hnl)
   have hon:o=l[n]:=by simp [hle,← hln]
   have hln':=hon ▸ h3'
   generalize l[n]=e at *
   obtain⟨ra,rfl,hra,_⟩:=hr
   have ora:=hra.one
   have hb:=Spn.may_le (Rn.may_sp hom)
   have w1:IntKind.i64.wrap (k+1)=k+1:=WI
   have w2:IntKind.i64.wrap ((n:Int)+1)=((n+1:Nat):Int):=WI
   obtain⟨v,⟨ca,cb,rfl,hca,hcb⟩,hcut⟩:=zKP (fuel:=fuel) (d:=d) (n:=k+1) hra (by omega)
   have oca:=hca.one
   have ocb:=hcb.one
   by_cases hc:e.cutE (k+1)=0
   ·have q2:decide (e.cutE (k+1)=0)=true:=decide_eq_true hc
    rw[if_pos hc]
    obtain⟨r1,s1,b1⟩:=zZW hS (j:=n) (by omega)
    obtain⟨r2,s2,b2⟩:=zW4 hS (i:=n+1) (by omega)
    have ob1:=b1.one
    have ob2:=b2.one
    have eA:e.cutA (k+1)=e.fst (k+1):=by unfold Rn.cutA;rw[if_pos hc]
    have eB:e.cutB (k+1)=e.snd (k+1):=by unfold Rn.cutB;rw[if_pos hc]
    have okA:=zaG hro hc
    have okB:=zb9 hro hc
    rw[eA] at hca hcut
    rw[eB] at hcb hcut
    generalize e.fst (k+1)=eF at *
    generalize e.snd (k+1)=eS at *
    have oca:=hca.one
    have ocb:=hcb.one
    simp (disch:=try exact SX) only[RV,seval,zA0,h0,h1,hS.fz.rows,hS.fz.one,hS.fz.cells,hS.fz.icy,hS.fz.frz,↓pIdE,zAA,↓pIdN,zA9,↓pHdE,zAB,↓pHdN,zAC,↓pLbE,zA8,↓pLbN,zAD,↓pSpE,zAE,↓pSpN,zAF,ETA,q,hw,hiad,hra.fz.rows,hra.fz.one,hra.fz.cells,hra.fz.icy,hra.fz.frz,w1,w2,hcut,hca.fz.rows,hca.fz.one,hca.fz.cells,hca.fz.icy,hca.fz.frz,hcb.fz.rows,hcb.fz.one,hcb.fz.cells,hcb.fz.icy,hcb.fz.frz,q2,s1,s2,b1.fz.rows,b1.fz.one,b1.fz.cells,b1.fz.icy,b1.fz.frz,b2.fz.rows,b2.fz.one,b2.fz.cells,b2.fz.icy,b2.fz.frz,zAP]
    refine zTL (d:=d+5) (id:=4) (a0:=r1) (a1:=.sl 3 0 2 (some 2) 10) (a2:=r2) (l1:=[eF,eS]) (by simp (disch:=try exact SX) only[RV,seval,zA0]) ?_ b1 (zJV (zQD hca hcb okA okB) (by simp) rfl (.inr rfl) ?_) b2 (by simp) (by rw[List.length_take];omega) (by simp) (by rw[List.length_drop];omega) (by omega) (Nat.le_refl _) fun o' N sm kN nr on oc rl=>?_
    ·exact zB07
    ·simp (disch:=try exact SX) only[RV,seval,zA0]
     rfl
    ·have wN:=kN.wf
     have dN:N.dirty=false:=kN.di
     simp (disch:=try exact SX) only[RV,seval,zA0,wN,dN,on,oc,rl]
     obtain⟨ro,hro2,hfr⟩:=zGS sm zFI.cel 12 (by omega)
     rw[hfr _ (fun id h=>by simp (disch:=try exact SX) only[RV,seval,zA0,wN])]
     exact⟨ro,hro2,by rw[w2] <;> rfl⟩
   ·have q2:decide (e.cutE (k+1)=0)=false:=decide_eq_false hc
    rw[if_neg hc]
    simp (disch:=try exact SX) only[RV,seval,zA0,h0,h1,hS.fz.rows,hS.fz.one,hS.fz.cells,hS.fz.icy,hS.fz.frz,↓pIdE,zAA,↓pIdN,zA9,↓pHdE,zAB,↓pHdN,zAC,↓pLbE,zA8,↓pLbN,zAD,↓pSpE,zAE,↓pSpN,zAF,ETA,q,hw,hiad,hra.fz.rows,hra.fz.one,hra.fz.cells,hra.fz.icy,hra.fz.frz,w1,w2,hcut,hca.fz.rows,hca.fz.one,hca.fz.cells,hca.fz.icy,hca.fz.frz,hcb.fz.rows,hcb.fz.one,hcb.fz.cells,hcb.fz.icy,hcb.fz.frz,q2]
    exact⟨_,hS,rfl⟩
end Go.Proofs.YtlmeadmpldjdaaaGreat
