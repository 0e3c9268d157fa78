/-
  Texts joined: TrG TrH TrI TrJ TrK TrM TwA TwC VqE VqF VqG VqH SwG VtT SwV VtU.
-/
import Derived.Test.YtlknfleegdkolaaGreatEf
import Derived.Test.YtlknfleegdkolaaGreatVtA
import Derived.Test.YtlknfleegdkolaaGreatPb
set_option linter.unusedSimpArgs false
set_option linter.unusedVariables false
set_option maxRecDepth 100000
namespace Go.Proofs.YtlknfleegdkolaaGreat
open Go Go.Ax
variable {fuel : Nat} {M : Mem} {Q : AV → Mem → Prop} {d : Nat}
def cO1 : ACode:=(.seq (.region [⟨some 5,.alloc 38 (.agg #[(.int .u8 0),(.int .u32 0),(.int .u8 0),(.int .i64 0)]),none,[]⟩,⟨none,.store 4 (.tmp 5) (.tmp 12),none,[]⟩] false) (.region [⟨some 6,.alloc 38 (.agg #[(.int .u8 0),(.int .u32 0),(.int .u8 0),(.int .i64 0)]),none,[]⟩,⟨none,.store 4 (.tmp 6) (.tmp 13),none,[]⟩] false))
def cO2 : ACode:=(.block 1 (.scope (.seq (.region [⟨some 7,.alloc 38 (.agg #[(.int .u8 0),(.int .u32 0),(.int .u8 0),(.int .i64 0)]),none,[]⟩] false) (.seq .label (.seq (.block 2 (.loop (.seq (.seq (.region [⟨some 14,.load 1 false (.tmp 3),none,[]⟩,⟨some 15,.len (.tmp 14),none,[]⟩,⟨some 16,.pur (mkO (.binOp .gtr 3 (.tmp 15) (.const (.int .i64 0)) 3) 4),none,[]⟩] false) (.cond (.tmp 16) .skip (.exit 2))) (.block 3 (.seq (.region [⟨some 17,.load 1 false (.tmp 3),none,[1,2,3,6]⟩,⟨some 18,.load 1 false (.tmp 3),none,[0,6]⟩,⟨some 19,.len (.tmp 18),none,[0,6]⟩,⟨some 20,.pur (mkO (.binOp .sub 3 (.tmp 19) (.const (.int .i64 1)) 3) 3),none,[0,6]⟩,⟨some 21,.iad 4 (.tmp 17) (.tmp 20),none,[6]⟩,⟨some 22,.load 4 true (.tmp 21),none,[6]⟩,⟨some 8,.alloc 38 (.agg #[(.int .u8 0),(.int .u32 0),(.int .u8 0),(.int .i64 0)]),none,[0,1,2,3,4,5]⟩,⟨none,.store 4 (.tmp 8) (.tmp 22),none,[]⟩] false) (.seq (.seq (.region [⟨some 23,.load 4 true (.tmp 8),none,[1]⟩,⟨some 24,.load 4 true (.tmp 6),none,[0]⟩,⟨some 25,.pur (mkO (.binOp .eql 38 (.tmp 23) (.tmp 24) 38) 4),none,[]⟩] false) (.cond (.tmp 25) (.exit 2) .skip)) (.region [⟨some 26,.load 4 true (.tmp 8),none,[1,2,3,4,5]⟩,⟨some 27,.load 1 false (.tmp 3),none,[0,2,3,4,6]⟩,⟨some 28,.load 1 false (.tmp 3),none,[0,1,6]⟩,⟨some 29,.len (.tmp 28),none,[0,1,6]⟩,⟨some 30,.pur (mkO (.binOp .sub 3 (.tmp 29) (.const (.int .i64 1)) 3) 3),none,[0,1,6]⟩,⟨some 31,.slc 4 (.tmp 27) none (some (.tmp 30)) none,none,[0,6]⟩,⟨none,.store 4 (.tmp 7) (.tmp 26),none,[1,2,3,4,5]⟩,⟨none,.store 1 (.tmp 3) (.tmp 31),none,[]⟩] true))))))) (.seq (.seq (.region [⟨some 32,.load 1 false (.tmp 3),none,[]⟩,⟨some 33,.len (.tmp 32),none,[]⟩,⟨some 34,.pur (mkO (.binOp .eql 3 (.tmp 33) (.const (.int .i64 0)) 3) 4),none,[]⟩,⟨some 35,.mov (.tmp 34),none,[]⟩,⟨some 36,.load 4 true (.tmp 6),some (35,true),[5]⟩,⟨some 37,.build (.agg #[(.int .u8 0),(.int .u32 0),(.int .u8 0),(.int .i64 0)]) [],some (35,true),[4]⟩,⟨some 38,.pur (mkO (.binOp .neq 38 (.tmp 36) (.tmp 37) 38) 4),some (35,true),[]⟩,⟨some 39,.pick (.tmp 35) (.tmp 38) (.const (.bool false)),none,[]⟩,⟨some 40,.mov (.tmp 39),none,[]⟩,⟨some 41,.load 4 true (.tmp 7),some (40,false),[10]⟩,⟨some 42,.build (.agg #[(.int .u8 0),(.int .u32 0),(.int .u8 0),(.int .i64 0)]) [],some (40,false),[9]⟩,⟨some 43,.pur (mkO (.binOp .neq 38 (.tmp 41) (.tmp 42) 38) 4),some (40,false),[]⟩,⟨some 44,.mov (.tmp 43),some (40,false),[]⟩,⟨some 45,.load 4 true (.tmp 5),some (44,true),[14]⟩,⟨some 46,.load 4 true (.tmp 7),some (44,true),[13]⟩,⟨some 47,.call (.func 49) [(.tmp 45),(.tmp 46)],some (44,true),[]⟩,⟨some 48,.pur (mkO (.unOp .not 4 (.tmp 47)) 4),some (44,true),[]⟩,⟨some 49,.pick (.tmp 44) (.tmp 48) (.const (.bool false)),some (40,false),[]⟩,⟨some 50,.pick (.tmp 40) (.const (.bool true)) (.tmp 49),none,[]⟩,⟨some 51,.mov (.tmp 50),none,[]⟩,⟨some 52,.load 1 false (.tmp 4),some (51,false),[21]⟩,⟨some 53,.load 4 true (.tmp 5),some (51,false),[20]⟩,⟨some 54,.lookup 38 (.int .i64 0) (.tmp 52) (.tmp 53) false,some (51,false),[]⟩,⟨some 55,.pur (mkO (.binOp .gtr 3 (.tmp 54) (.const (.int .i64 0)) 3) 4),some (51,false),[]⟩,⟨some 56,.pick (.tmp 51) (.const (.bool true)) (.tmp 55),none,[]⟩] false) (.cond (.tmp 56) (.seq (.region [⟨none,.store 1 (.tmp 2) (.const (.bool false)),none,[]⟩] false) .ret) .skip)) (.seq (.region [⟨some 57,.load 1 false (.tmp 4),none,[1]⟩,⟨some 58,.load 4 true (.tmp 5),none,[0]⟩,⟨none,.mupd 38 (.tmp 57) (.tmp 58) (.const (.int .i64 1)),none,[]⟩] false) (.region [⟨some 59,.load 1 false (.tmp 3),none,[1,2]⟩,⟨some 60,.load 4 true (.tmp 5),none,[0]⟩,⟨some 61,.bsl 38 4 (.agg #[(.int .u8 0),(.int .u32 0),(.int .u8 0),(.int .i64 0)]) 1 [(0,4,(.tmp 60))],none,[0]⟩,⟨some 62,.app 38 4 24 (.agg #[(.int .u8 0),(.int .u32 0),(.int .u8 0),(.int .i64 0)]) (.tmp 59) (.tmp 61),none,[]⟩,⟨none,.store 1 (.tmp 3) (.tmp 62),none,[]⟩] false))))))))
structure OI (tm : List AV) (pre : List (Eid × Eid)) (O : Nat → Prop) (N : Mem) : Prop where
 wf : Wf N
 sz : 7 ≤ N.size
 g0 : N.get 0 = some (.row false [BL false])
 g1 : ∃ o,N.get 1 = some (.row false [o]) ∧ SlP N 4 zKC o (stk pre).reverse ∧ ∀ j,rowOf o = some j → O j ∧ 7 ≤ j
 g2 : ∃ obj,N.get 2 = some obj ∧ zHE idA (I64 1) obj (pre.map (·.1))
 g3 : N.get 3 = some (.row false [.mp 2])
 g5 : N.get 5 = some (.dfr false)
 g6 : N.get 6 = some (.loop .ready none tm [12,13] cO1 cO2 5)
 o1 : O 1
 o2 : O 2
 o6 : O 6
 ol : ∀ j,O j → j < N.size ∧ (j = 1 ∨ j = 2 ∨ 6 ≤ j)
 od : Ord pre
theorem OI.keep {tm : List AV} {pre : List (Eid × Eid)} {O : Nat → Prop} {N N' : Mem} (h : OI tm pre O N) (wf : Wf N') (hs : N.size ≤ N'.size) (k : ∀ j,j < N.size → N'.get j = N.get j) : OI tm pre O N':=by
 have:=h.sz
 obtain ⟨o,h1,h2,h3⟩:=h.g1
 obtain ⟨obj,h4,h5⟩:=h.g2
 exact ⟨wf,by omega,(k 0 (by omega)).trans h.g0,⟨o,(k 1 (by omega)).trans h1,h2.keep fun j hj=>k j (h2.lt j hj),h3⟩,⟨obj,(k 2 (by omega)).trans h4,h5⟩,(k 3 (by omega)).trans h.g3,(k 5 (by omega)).trans h.g5,(k 6 (by omega)).trans h.g6,h.o1,h.o2,h.o6,fun j hj=>⟨by have:=(h.ol j hj).1; omega,(h.ol j hj).2⟩,h.od⟩
structure OS (tm : List AV) (N : Mem) : Prop where
 wf : Wf N
 sz : 7 ≤ N.size
 g0 : N.get 0 = some (.row false [BL false])
 g5 : N.get 5 = some (.dfr false)
 g6 : N.get 6 = some (.loop .done (some .ret) tm [12,13] cO1 cO2 5)
theorem zHA : FzT zKC:=fun r x h y hy=>by
 obtain ⟨rfl,_⟩:=h
 exact zEA x y hy
theorem zPD (af : Eid) : ∀ (s : List Eid) (el : Eid),(popT af s el).2.length ≤ s.length
 | [],_=>Nat.le_refl _
 | t :: s,el=>by
  rw [popT]
  split
  ·exact Nat.le_refl _
  ·exact Nat.le_trans (zPD af s t) (Nat.le_succ _)
theorem zb6 (l : List (Eid × Eid)) : (stk l).length ≤ l.length:=by
 refine zCL (P:=fun l=>(stk l).length ≤ l.length) (Nat.le_refl _) (fun l x ih=>?_) l
 rw [zE8,List.length_cons,List.length_append]
 have:=zPD x.2 (stk l) Eid.z
 simp only [List.length_singleton]
 omega
set_option maxHeartbeats 16000000 in
theorem zdO {B : Nat} {tm : List AV} {pre : List (Eid × Eid)} {O : Nat → Prop} {x : Eid × Eid} (h : OI tm pre O M) (h2 : nth zA6 tm 2 = .ptr 0 0) (h3' : nth zA6 tm 3 = .ptr 1 0) (h4' : nth zA6 tm 4 = .ptr 3 0) (hlen : tm.length = 63) (hx : x.1.ok) (hn : pre.length ≤ 100000) (hf : pre.length + 10 < fuel) :
  W3 (zAE Tryz.prog (fsT tbl) fuel (d + 7) (.yl 6) [idA x.1,idA x.2] M) (fun v N'=>(v = BL true ∧ Yl (OI tm) (pre ++ [x]) O B M N') ∨ (v = BL false ∧ OS tm N' ∧ ordS x (stk pre) (pre.map (·.1)) = false)):=by
 obtain ⟨o,g1,sp,ro⟩:=h.g1
 obtain ⟨obj,gm2,hset⟩:=h.g2
 have wf:=h.wf
 have sz:=h.sz
 have hsl:=zb6 pre
 have g0:=h.g0
 have g3:=h.g3
 have g6:=h.g6
 have oo:=sp.one
 refine zV3 g6 rfl ?_
 have e1 : zF5 tm [12,13] [idA x.1,idA x.2] = St tm [(13,idA x.2),(12,idA x.1)]:=rfl
 rw [e1]
 unfold cO1 cO2
 simp (maxSteps:=2000000) (disch:=first | omega | assumption | (simp only [DS,Nat.reduceAdd, *]; done) | (simp only [DZ]; omega)) only [RUN,RU,zA2,zA1,lay,reduceIte,Nat.reduceEqDiff,Nat.reduceAdd,wf]
 refine ⟨tm,[12,13],_,_,5,g6, ?_⟩
 generalize hX : ((((((M.add _).upd M.size _).add _).upd (M.size + 1) _).upd 6 _).add _) = X
 have wX : Wf X:=by rw [← hX]; exact ((((((wf.add _).upd _ _).add _).upd _ _).upd _ _).add _)
 have sX : X.size = M.size + 1 + 1 + 1:=by rw [← hX]; rfl
 have gX : ∀ j,j < M.size → j ≠ 6 → X.get j = M.get j:=fun j a b=>by
  rw [← hX,zAF (((((wf.add _).upd _ _).add _).upd _ _).upd _ _) _ _ (by simp only [zA9,zA5]; omega),zA3 ((((wf.add _).upd _ _).add _).upd _ _) _ _ _ (fun e=>b e.symm),zA3 (((wf.add _).upd _ _).add _) _ _ _ (by omega),zAF ((wf.add _).upd _ _) _ _ (by simp only [zA9,zA5]; omega),zA3 (wf.add _) _ _ _ (by omega),zAF wf _ _ a]
 have x6 : X.get 6 = some (.loop .busy none tm [12,13] cO1 cO2 5):=by
  rw [← hX,zAF (((((wf.add _).upd _ _).add _).upd _ _).upd _ _) _ _ (by simp only [zA9,zA5]; omega),zAG ((((wf.add _).upd _ _).add _).upd _ _) _ _ (by simp only [zA9,zA5]; omega)]
 have xa : X.get M.size = some (.row false (idR x.1)):=by
  rw [← hX,zAF (((((wf.add _).upd _ _).add _).upd _ _).upd _ _) _ _ (by simp only [zA9,zA5]; omega),zA3 ((((wf.add _).upd _ _).add _).upd _ _) _ _ _ (by omega),zA3 (((wf.add _).upd _ _).add _) _ _ _ (by omega),zAF ((wf.add _).upd _ _) _ _ (by simp only [zA9,zA5]; omega),zAG (wf.add _) _ _ (by simp only [zA5]; omega)]
 have xb : X.get (M.size + 1) = some (.row false (idR x.2)):=by
  rw [← hX,zAF (((((wf.add _).upd _ _).add _).upd _ _).upd _ _) _ _ (by simp only [zA9,zA5]; omega),zA3 ((((wf.add _).upd _ _).add _).upd _ _) _ _ _ (by omega),zAG (((wf.add _).upd _ _).add _) _ _ (by simp only [zA9,zA5]; omega)]
 have xc : X.get (M.size + 1 + 1) = some (.row false (idR Eid.z)):=by
  rw [← hX]
  exact zAH (((((wf.add _).upd _ _).add _).upd _ _).upd _ _) _ _ (by simp only [zA9,zA5]; omega) (by simp only [zA9,zA5]; omega)
 clear hX
 have spX : SlP X 4 zKC o (stk pre).reverse:=sp.keep fun j hj=>gX j (sp.lt j hj) (by have:=ro j hj; omega)
 refine zBG (I:=fun n t N => ∃ (i : Nat) (o' : AV),n = (stk pre).length - i ∧ i ≤ (stk pre).length ∧ nth zA6 t 2 = .ptr 0 0 ∧ nth zA6 t 3 = .ptr 1 0 ∧ nth zA6 t 4 = .ptr 3 0 ∧ nth zA6 t 5 = .ptr M.size 0 ∧ nth zA6 t 6 = .ptr (M.size + 1) 0 ∧ nth zA6 t 7 = .ptr (M.size + 1 + 1) 0 ∧ Wf N ∧ X.size ≤ N.size ∧ (∀ j,j < M.size → j ≠ 1 → N.get j = X.get j) ∧ N.get 1 = some (.row false [o']) ∧ SlP N 4 zKC o' ((stk pre).drop i).reverse ∧ rowOf o' = rowOf o ∧ N.get M.size = some (.row false (idR x.1)) ∧ N.get (M.size + 1) = some (.row false (idR x.2)) ∧ N.get (M.size + 1 + 1) = some (.row false (idR (((stk pre).take i).getLast?.getD Eid.z))) ∧ (∀ t ∈ (stk pre).take i,t ≠ x.2)) (n:=(stk pre).length) (by omega) ?_ ?_
 ·refine ⟨0,o,rfl,Nat.zero_le _, ?_, ?_, ?_, ?_, ?_, ?_,wX,Nat.le_refl _,(fun _ _ _=>rfl),((gX 1 (by omega) (by omega)).trans g1),(by rw [List.drop_zero]; exact spX),rfl,xa,xb,(by rw [List.take_zero]; exact xc),(fun t ht=>absurd ht (by simp))⟩ <;> simp (maxSteps:=2000000) (disch:=first | omega | assumption | (simp only [DS,Nat.reduceAdd, *]; done) | (simp only [DZ]; omega)) only [RUN,reduceIte,Nat.reduceEqDiff,h2,h3',h4']
  all_goals first | rfl | assumption | done
 ·rintro n t N hlt ⟨i,o',rfl,hi,g2,g3,g4,g5,g6,g7,w,le,kk,c1,spN,ro',ca,cb,cc,hm⟩
  simp only [hlen] at hlt ⊢
  have olen:=spN.len
  have oo':=spN.one
  rw [List.length_reverse,List.length_drop] at olen
  have l1:=Mem.get_lt c1
  have la:=Mem.get_lt ca
  have lb:=Mem.get_lt cb
  have lc:=Mem.get_lt cc
  by_cases hc : i < (stk pre).length
  ·have q1 : decide ((0 : Int) < ((stk pre).length - i : Nat)) = true:=decide_eq_true (by omega)
   have hil : (stk pre).length - i - 1 < ((stk pre).drop i).reverse.length:=by rw [List.length_reverse,List.length_drop]; omega
   obtain ⟨rid,cs,r,hrow,lrid,hgr,hiad,hr,hrl,hpt⟩:=spN.at hil
   have w1 : IntKind.i64.wrap (((stk pre).length - i : Nat) - 1) = ((stk pre).length - i - 1 : Nat):=by rw [wrap_i64] <;> omega
   obtain ⟨oc,hslc,spc,roc⟩:=spN.cut (by omega) (n:=(stk pre).length - i - 1) (by omega)
   have hel : ((stk pre).drop i).reverse[(stk pre).length - i - 1] = (stk pre)[i]:=by
    rw [List.getElem_reverse,List.getElem_drop]
    congr 1
    rw [List.length_drop]; omega
   rw [hel] at hr
   obtain ⟨rfl,hrok⟩:=hr
   simp (maxSteps:=2000000) (disch:=first | omega | assumption | (simp only [DS,Nat.reduceAdd, *]; done) | (simp only [DZ]; omega)) only [RUN,RU,zA2,zA1,slot,lay,reduceIte,Nat.reduceEqDiff,Nat.reduceAdd,g3,g6,olen,q1,w1,c1,hiad,hgr,hpt,cb,↓pIdE,zAW,ETA]
   by_cases hte : (stk pre)[i] = x.2
   ·have q2 : decide ((stk pre)[i] = x.2) = true:=decide_eq_true hte
    have hpop:=zID (el:=Eid.z) (q:=(stk pre).drop i) hm (.inr ⟨(stk pre).drop (i + 1),by rw [List.drop_eq_getElem_cons hc,hte]⟩)
    rw [List.take_append_drop] at hpop
    have hne : decide (((((stk pre).length - i : Nat) : Int)) = 0) = false:=decide_eq_false (by omega)
    have hqz : decide ((stk pre).drop i = []) = false:=decide_eq_false (fun e=>by have:=congrArg List.length e; rw [List.length_drop] at this; simp at this; omega)
    simp (maxSteps:=2000000) (disch:=first | omega | assumption | (simp only [DS,Nat.reduceAdd, *]; done) | (simp only [DZ]; omega)) only [RUN,RU,zA2,zA1,reduceIte,Nat.reduceEqDiff,g3,olen,q2,c1]
    generalize hY : (N.add _).upd N.size _ = Y
    have wY : Wf Y:=by rw [← hY]; exact (w.add _).upd _ _
    have lY : N.size ≤ Y.size:=by rw [← hY,zA9,zA5]; omega
    have kY : ∀ j,j < N.size → Y.get j = N.get j:=fun j hj=>by
     rw [← hY,zA3 (w.add _) _ _ _ (by omega),zAF w _ _ hj]
    clear hY
    have y0 : Y.get 0 = some (.row false [BL false]):=(kY 0 (by omega)).trans ((kk 0 (by omega) (by omega)).trans ((gX 0 (by omega) (by omega)).trans h.g0))
    have y1:=(kY 1 (by omega)).trans c1
    have y2:=(kY 2 (by omega)).trans ((kk 2 (by omega) (by omega)).trans ((gX 2 (by omega) (by omega)).trans gm2))
    have y3:=(kY 3 (by omega)).trans ((kk 3 (by omega) (by omega)).trans ((gX 3 (by omega) (by omega)).trans h.g3))
    have y6:=(kY 6 (by omega)).trans ((kk 6 (by omega) (by omega)).trans x6)
    have ya:=(kY _ (by omega)).trans ca
    have yb:=(kY _ (by omega)).trans cb
    have yc:=(kY _ (by omega)).trans cc
    have yj : ∀ j,j < M.size → j ≠ 1 → j ≠ 6 → Y.get j = M.get j:=fun j a b c=>(kY j (by omega)).trans ((kk j a b).trans (gX j a c))
    have spY : SlP Y 4 zKC o' ((stk pre).drop i).reverse:=spN.keep fun j hj=>kY j (spN.lt j hj)
    clear kY kk w c1 ca cb cc spN l1 la lb lc
    have l1:=Mem.get_lt y1
    have la:=Mem.get_lt ya
    have lb:=Mem.get_lt yb
    have lc:=Mem.get_lt yc
    have l2:=Mem.get_lt y2
    have l3:=Mem.get_lt y3
    have l0:=Mem.get_lt y0
    have hlk:=zP0 zK7 (z:=.int .i64 0) y2 hset x.1
    unfold ordS
    rw [hpop]
    simp only [hqz]
    have hql : ((stk pre).drop i).length ≤ pre.length:=by rw [List.length_drop]; omega
    generalize (stk pre).drop i = q at *
    generalize ((stk pre).take i).getLast?.getD Eid.z = el at *
    have hls:=fun M=>@zET fuel (d + 4) x.1 el M
    have c2 : True:=trivial
    cases c3 : decide (el = Eid.z)
    ·cases c4 : x.1.less el
     ·rw [c4] at hls
      simp (maxSteps:=2000000) (disch:=first | omega | assumption | (simp only [DS,Nat.reduceAdd, *]; done) | (simp only [DZ]; omega)) only [RUN,RU,zA2,zA1,slot,lay,zAI,reduceIte,Nat.reduceEqDiff,g2,g5,g7,hne,y0,ya,yc,wY,↓pIdN,zBC,ETA,c3,hls]
      have os : OS tm ((Y.upd 0 (.row false [BL false])).upd 6 (.loop .done (some .ret) tm [12,13] cO1 cO2 5)):=by
       refine ⟨(wY.upd _ _).upd _ _,by simp only [zA9]; omega, ?_, ?_, ?_⟩
       ·rw [zA3 (wY.upd _ _) _ _ _ (by omega)]
        exact zAG wY _ _ l0
       ·rw [zA3 (wY.upd _ _) _ _ _ (by omega),zA3 wY _ _ _ (by omega)]
        exact (yj 5 (by omega) (by omega) (by omega)).trans h.g5
       ·exact zAG (wY.upd _ _) _ _ (by simp only [zA9]; omega)
      refine ⟨_,_,_,_,_,_,_,y6,.inr (.inr ?_)⟩
      first
      | exact os
      | exact ⟨os,by simp [*]⟩
     ·rw [c4] at hls
      by_cases c5 : x.1 ∈ pre.map (·.1)
      ·simp only [c5,if_true] at hlk
       simp (maxSteps:=2000000) (disch:=first | omega | assumption | (simp only [DS,Nat.reduceAdd, *]; done) | (simp only [DZ]; omega)) only [RUN,RU,zA2,zA1,slot,lay,zAI,reduceIte,Nat.reduceEqDiff,Int.reduceLT,g2,g4,g5,g7,hne,y0,y3,ya,yc,wY,↓pIdN,zBC,ETA,c3,hls,x_lk,hlk]
       have os : OS tm ((Y.upd 0 (.row false [BL false])).upd 6 (.loop .done (some .ret) tm [12,13] cO1 cO2 5)):=by
        refine ⟨(wY.upd _ _).upd _ _,by simp only [zA9]; omega, ?_, ?_, ?_⟩
        ·rw [zA3 (wY.upd _ _) _ _ _ (by omega)]
         exact zAG wY _ _ l0
        ·rw [zA3 (wY.upd _ _) _ _ _ (by omega),zA3 wY _ _ _ (by omega)]
         exact (yj 5 (by omega) (by omega) (by omega)).trans h.g5
        ·exact zAG (wY.upd _ _) _ _ (by simp only [zA9]; omega)
       refine ⟨_,_,_,_,_,_,_,y6,.inr (.inr ?_)⟩
       first
       | exact os
       | exact ⟨os,by simp [*]⟩
      ·simp only [c5,if_false] at hlk
       simp (maxSteps:=2000000) (disch:=first | omega | assumption | (simp only [DS,Nat.reduceAdd, *]; done) | (simp only [DZ]; omega)) only [RUN,RU,zA2,zA1,slot,zAI,reduceIte,Nat.reduceEqDiff,g4,g5,g7,hne,y3,ya,yc,↓pIdN,zBC,ETA,c3,hls,x_lk,hlk,x_mu]
       refine zLT zK7 wY l2 y2 hset x.1 fun obj' hset'=>?_
       simp only [c5,if_false] at hset'
       simp (maxSteps:=2000000) (disch:=first | omega | assumption | (simp only [DS,Nat.reduceAdd, *]; done) | (simp only [DZ]; omega)) only [RUN,RU,zA2,zA1,slot,lay,zAI,zAA,reduceIte,Nat.reduceEqDiff,Nat.reduceBEq,Nat.reduceAdd,g3,g5,y1,ya]
       refine ⟨spY.rows (by omega),SlP.app1 (bytes:=24) (x:=x.1) (wY.upd 2 obj') (spY.keep fun j hj=>zA3 wY _ _ _ (by have:=(ro j (ro' ▸ hj)).2; omega)) zHA ⟨rfl,hx⟩ rfl (by omega) (by rw [List.length_reverse]; omega) (by rw [List.length_reverse]; omega) fun o2 M2 sp2 w2 le2 kp2 nw2 rl2 on2 oc2=>?_⟩
       rw [zA9] at le2 kp2 nw2
       have hS : ordS x (stk pre) (pre.map (·.1)) = true:=by
        unfold ordS
        rw [hpop]
        simp [*]
       have hst : (stk (pre ++ [x])).reverse = q.reverse ++ [x.1]:=by rw [zE8,hpop,List.reverse_cons]
       have ro2 : ∀ j,rowOf o' = some j → O j ∧ 7 ≤ j:=fun j hj=>ro j (ro' ▸ hj)
       have k2 : ∀ j,j < M.size → j ≠ 1 → j ≠ 2 → j ≠ 6 → rowOf o' ≠ some j → M2.get j = M.get j:=fun j a b c e f=>by
        rw [kp2 j (by omega) f,zA3 wY _ _ _ (fun e=>c e.symm)]
        exact yj j a b e
       have m6 : M2.get 6 = some (.loop .busy none tm [12,13] cO1 cO2 5):=by
        rw [kp2 6 (by omega) (fun e=>by have:=(ro2 6 e).2; omega),zA3 wY _ _ _ (by omega)]
        exact y6
       have m2 : M2.get 2 = some obj':=by
        rw [kp2 2 (by omega) (fun e=>by have:=(ro2 2 e).2; omega)]
        exact zAG wY _ _ l2
       have m1 : 1 < M2.size:=by omega
       have n1 : M2.get 1 = some (.row false [o']):=by
        rw [kp2 1 (by omega) (fun e=>by have:=(ro2 1 e).2; omega),zA3 wY _ _ _ (by omega)]
        exact y1
       simp (maxSteps:=2000000) (disch:=first | omega | assumption | (simp only [DS,Nat.reduceAdd, *]; done) | (simp only [DZ]; omega)) only [RUN,RU,zA2,zA1,lay,reduceIte,Nat.reduceEqDiff,g3,oc2,w2,m6,n1]
       have yl : Yl (OI tm) (pre ++ [x]) O B M ((M2.upd 1 (.row false [o2])).upd 6 (.loop .ready none tm [12,13] cO1 cO2 5)):=by
        have wZ:=w2.upd 1 (.row false [o2])
        have zk : ∀ j,j ≠ 1 → j ≠ 6 → ((M2.upd 1 (.row false [o2])).upd 6 (.loop .ready none tm [12,13] cO1 cO2 5)).get j = M2.get j:=fun j a b=>by
         rw [zA3 wZ _ _ _ (fun e=>b e.symm),zA3 w2 _ _ _ (fun e=>a e.symm)]
        have nro : ∀ j,j < 7 → rowOf o' ≠ some j:=fun j hj e=>by have:=(ro2 j e).2; omega
        have no2 : ∀ j,rowOf o2 = some j → 7 ≤ j ∧ (O j ∨ M.size ≤ j):=fun j hj=>by
         rcases nw2 j hj with e | e
         ·exact ⟨(ro2 j e).2,.inl (ro2 j e).1⟩
         ·exact ⟨by omega,.inr (by omega)⟩
        refine ⟨⟨fun j=>O j ∨ rowOf o2 = some j,⟨wZ.upd _ _,by simp only [zA9]; omega, ?_,⟨o2, ?_, ?_,fun j hj=>⟨.inr hj,(no2 j hj).1⟩⟩,⟨obj', ?_, ?_⟩, ?_, ?_, ?_,.inl h.o1,.inl h.o2,.inl h.o6, ?_,h.od.snoc hS⟩, ?_⟩,wZ.upd _ _,by simp only [zA9]; omega, ?_⟩
        ·rw [zk 0 (by omega) (by omega),k2 0 (by omega) (by omega) (by omega) (by omega) (nro 0 (by omega))]; exact h.g0
        ·rw [zA3 wZ _ _ _ (by omega)]; exact zAG w2 _ _ m1
        ·rw [hst]
         exact sp2.keep fun j hj=>zk j (by have:=(no2 j hj).1; omega) (by have:=(no2 j hj).1; omega)
        ·rw [zk 2 (by omega) (by omega)]; exact m2
        ·rw [List.map_append]; exact hset'
        ·rw [zk 3 (by omega) (by omega),k2 3 (by omega) (by omega) (by omega) (by omega) (nro 3 (by omega))]; exact h.g3
        ·rw [zk 5 (by omega) (by omega),k2 5 (by omega) (by omega) (by omega) (by omega) (nro 5 (by omega))]; exact h.g5
        ·exact zAG wZ _ _ (by simp only [zA9]; omega)
        ·intro j hj
         simp only [zA9]
         rcases hj with hj | hj
         ·exact ⟨by have:=(h.ol j hj).1; omega,(h.ol j hj).2⟩
         ·exact ⟨sp2.lt j hj,.inr (.inr (by have:=(no2 j hj).1; omega))⟩
        ·rintro j (hj | hj)
         ·exact .inl hj
         ·exact (no2 j hj).2
        ·intro j hj hO
         have h1 : j ≠ 1:=fun e=>hO (e ▸ h.o1)
         have h2 : j ≠ 2:=fun e=>hO (e ▸ h.o2)
         have h6 : j ≠ 6:=fun e=>hO (e ▸ h.o6)
         rw [zk j h1 h6]
         exact k2 j hj h1 h2 h6 fun e=>hO (ro2 j e).1
       exact ⟨_,_,_,_,_,_,_,rfl,.inl (.inl yl)⟩
    ·skip
     by_cases c5 : x.1 ∈ pre.map (·.1)
     ·simp only [c5,if_true] at hlk
      simp (maxSteps:=2000000) (disch:=first | omega | assumption | (simp only [DS,Nat.reduceAdd, *]; done) | (simp only [DZ]; omega)) only [RUN,RU,zA2,zA1,slot,lay,zAI,reduceIte,Nat.reduceEqDiff,Int.reduceLT,g2,g4,g5,g7,hne,y0,y3,ya,yc,wY,↓pIdN,zBC,ETA,c3,x_lk,hlk]
      have os : OS tm ((Y.upd 0 (.row false [BL false])).upd 6 (.loop .done (some .ret) tm [12,13] cO1 cO2 5)):=by
       refine ⟨(wY.upd _ _).upd _ _,by simp only [zA9]; omega, ?_, ?_, ?_⟩
       ·rw [zA3 (wY.upd _ _) _ _ _ (by omega)]
        exact zAG wY _ _ l0
       ·rw [zA3 (wY.upd _ _) _ _ _ (by omega),zA3 wY _ _ _ (by omega)]
        exact (yj 5 (by omega) (by omega) (by omega)).trans h.g5
       ·exact zAG (wY.upd _ _) _ _ (by simp only [zA9]; omega)
      refine ⟨_,_,_,_,_,_,_,y6,.inr (.inr ?_)⟩
      first
      | exact os
      | exact ⟨os,by simp [*]⟩
     ·simp only [c5,if_false] at hlk
      simp (maxSteps:=2000000) (disch:=first | omega | assumption | (simp only [DS,Nat.reduceAdd, *]; done) | (simp only [DZ]; omega)) only [RUN,RU,zA2,zA1,slot,zAI,reduceIte,Nat.reduceEqDiff,g4,g5,g7,hne,y3,ya,yc,↓pIdN,zBC,ETA,c3,x_lk,hlk,x_mu]
      refine zLT zK7 wY l2 y2 hset x.1 fun obj' hset'=>?_
      simp only [c5,if_false] at hset'
      simp (maxSteps:=2000000) (disch:=first | omega | assumption | (simp only [DS,Nat.reduceAdd, *]; done) | (simp only [DZ]; omega)) only [RUN,RU,zA2,zA1,slot,lay,zAI,zAA,reduceIte,Nat.reduceEqDiff,Nat.reduceBEq,Nat.reduceAdd,g3,g5,y1,ya]
      refine ⟨spY.rows (by omega),SlP.app1 (bytes:=24) (x:=x.1) (wY.upd 2 obj') (spY.keep fun j hj=>zA3 wY _ _ _ (by have:=(ro j (ro' ▸ hj)).2; omega)) zHA ⟨rfl,hx⟩ rfl (by omega) (by rw [List.length_reverse]; omega) (by rw [List.length_reverse]; omega) fun o2 M2 sp2 w2 le2 kp2 nw2 rl2 on2 oc2=>?_⟩
      rw [zA9] at le2 kp2 nw2
      have hS : ordS x (stk pre) (pre.map (·.1)) = true:=by
       unfold ordS
       rw [hpop]
       simp [*]
      have hst : (stk (pre ++ [x])).reverse = q.reverse ++ [x.1]:=by rw [zE8,hpop,List.reverse_cons]
      have ro2 : ∀ j,rowOf o' = some j → O j ∧ 7 ≤ j:=fun j hj=>ro j (ro' ▸ hj)
      have k2 : ∀ j,j < M.size → j ≠ 1 → j ≠ 2 → j ≠ 6 → rowOf o' ≠ some j → M2.get j = M.get j:=fun j a b c e f=>by
       rw [kp2 j (by omega) f,zA3 wY _ _ _ (fun e=>c e.symm)]
       exact yj j a b e
      have m6 : M2.get 6 = some (.loop .busy none tm [12,13] cO1 cO2 5):=by
       rw [kp2 6 (by omega) (fun e=>by have:=(ro2 6 e).2; omega),zA3 wY _ _ _ (by omega)]
       exact y6
      have m2 : M2.get 2 = some obj':=by
       rw [kp2 2 (by omega) (fun e=>by have:=(ro2 2 e).2; omega)]
       exact zAG wY _ _ l2
      have m1 : 1 < M2.size:=by omega
      have n1 : M2.get 1 = some (.row false [o']):=by
       rw [kp2 1 (by omega) (fun e=>by have:=(ro2 1 e).2; omega),zA3 wY _ _ _ (by omega)]
       exact y1
      simp (maxSteps:=2000000) (disch:=first | omega | assumption | (simp only [DS,Nat.reduceAdd, *]; done) | (simp only [DZ]; omega)) only [RUN,RU,zA2,zA1,lay,reduceIte,Nat.reduceEqDiff,g3,oc2,w2,m6,n1]
      have yl : Yl (OI tm) (pre ++ [x]) O B M ((M2.upd 1 (.row false [o2])).upd 6 (.loop .ready none tm [12,13] cO1 cO2 5)):=by
       have wZ:=w2.upd 1 (.row false [o2])
       have zk : ∀ j,j ≠ 1 → j ≠ 6 → ((M2.upd 1 (.row false [o2])).upd 6 (.loop .ready none tm [12,13] cO1 cO2 5)).get j = M2.get j:=fun j a b=>by
        rw [zA3 wZ _ _ _ (fun e=>b e.symm),zA3 w2 _ _ _ (fun e=>a e.symm)]
       have nro : ∀ j,j < 7 → rowOf o' ≠ some j:=fun j hj e=>by have:=(ro2 j e).2; omega
       have no2 : ∀ j,rowOf o2 = some j → 7 ≤ j ∧ (O j ∨ M.size ≤ j):=fun j hj=>by
        rcases nw2 j hj with e | e
        ·exact ⟨(ro2 j e).2,.inl (ro2 j e).1⟩
        ·exact ⟨by omega,.inr (by omega)⟩
       refine ⟨⟨fun j=>O j ∨ rowOf o2 = some j,⟨wZ.upd _ _,by simp only [zA9]; omega, ?_,⟨o2, ?_, ?_,fun j hj=>⟨.inr hj,(no2 j hj).1⟩⟩,⟨obj', ?_, ?_⟩, ?_, ?_, ?_,.inl h.o1,.inl h.o2,.inl h.o6, ?_,h.od.snoc hS⟩, ?_⟩,wZ.upd _ _,by simp only [zA9]; omega, ?_⟩
       ·rw [zk 0 (by omega) (by omega),k2 0 (by omega) (by omega) (by omega) (by omega) (nro 0 (by omega))]; exact h.g0
       ·rw [zA3 wZ _ _ _ (by omega)]; exact zAG w2 _ _ m1
       ·rw [hst]
        exact sp2.keep fun j hj=>zk j (by have:=(no2 j hj).1; omega) (by have:=(no2 j hj).1; omega)
       ·rw [zk 2 (by omega) (by omega)]; exact m2
       ·rw [List.map_append]; exact hset'
       ·rw [zk 3 (by omega) (by omega),k2 3 (by omega) (by omega) (by omega) (by omega) (nro 3 (by omega))]; exact h.g3
       ·rw [zk 5 (by omega) (by omega),k2 5 (by omega) (by omega) (by omega) (by omega) (nro 5 (by omega))]; exact h.g5
       ·exact zAG wZ _ _ (by simp only [zA9]; omega)
       ·intro j hj
        simp only [zA9]
        rcases hj with hj | hj
        ·exact ⟨by have:=(h.ol j hj).1; omega,(h.ol j hj).2⟩
        ·exact ⟨sp2.lt j hj,.inr (.inr (by have:=(no2 j hj).1; omega))⟩
       ·rintro j (hj | hj)
        ·exact .inl hj
        ·exact (no2 j hj).2
       ·intro j hj hO
        have h1 : j ≠ 1:=fun e=>hO (e ▸ h.o1)
        have h2 : j ≠ 2:=fun e=>hO (e ▸ h.o2)
        have h6 : j ≠ 6:=fun e=>hO (e ▸ h.o6)
        rw [zk j h1 h6]
        exact k2 j hj h1 h2 h6 fun e=>hO (ro2 j e).1
      exact ⟨_,_,_,_,_,_,_,rfl,.inl (.inl yl)⟩
   ·have q2 : decide ((stk pre)[i] = x.2) = false:=decide_eq_false hte
    simp (maxSteps:=2000000) (disch:=first | omega | assumption | (simp only [DS,Nat.reduceAdd, *]; done) | (simp only [DZ]; omega)) only [RUN,RU,zA2,slot,reduceIte,Nat.reduceEqDiff,Nat.reduceBEq,Nat.reduceAdd,g3,olen,q2,w1,c1]
    refine ⟨spN.rows (by omega), ?_⟩
    rw [hslc _ (fun id hid=>by
     have:=spN.lt id hid
     rw [zA3 (w.add _) _ _ _ (by omega),zAF w _ _ this])]
    have oco:=spc.one
    have occ:=spc.cells
    have ocr:=fun m hm=>spc.rows (m:=m) hm
    simp (maxSteps:=2000000) (disch:=first | omega | assumption | (simp only [DS,Nat.reduceAdd, *]; done) | (simp only [DZ]; omega)) only [RUN,RU,zA2,lay,reduceIte,Nat.reduceEqDiff,Nat.reduceBEq,Nat.reduceAdd,g2,g3,g4,g5,g6,g7,occ,c1,ca,cb,cc,w]
    have ror:=spN.row1 hrow
    have rid7 : 7 ≤ rid ∧ rid < M.size:=by
     have e : rowOf o = some rid:=ro' ▸ hrow
     exact ⟨(ro rid e).2,sp.lt rid e⟩
    refine ⟨?_,hlt,(stk pre).length - (i + 1),by omega,i + 1,oc,rfl,by omega,by omega,fun j a b=>?_,rfl, ?_,roc.trans ro', ?_, ?_⟩
    ·have e1 : ¬(M.size + 1 + 1 = 1):=by omega
     have e2 : ¬(M.size + 1 + 1 = rid):=by omega
     rw [ror]
     simp [FP.apart,disj,FP.reads,FP.writes,fpOf,e2]
    ·rw [zA3 (((w.add _).upd _ _).upd _ _) _ _ _ (by omega),zA3 ((w.add _).upd _ _) _ _ _ (by omega),zA3 (w.add _) _ _ _ (by omega),zAF w _ _ (by omega)]
     exact kk j a b
    ·have e : ((stk pre).drop i).reverse.take ((stk pre).length - i - 1) = ((stk pre).drop (i + 1)).reverse:=by
      rw [List.take_reverse,List.drop_drop,List.length_drop]
      congr 2
      omega
     rw [← e]
     refine spc.keep fun j hj=>?_
     rw [roc,hrow] at hj
     injection hj with hj
     subst hj
     rw [zA3 (((w.add _).upd _ _).upd _ _) _ _ _ (by omega),zA3 ((w.add _).upd _ _) _ _ _ (by omega),zA3 (w.add _) _ _ _ (by omega),zAF w _ _ (by omega)]
    ·have e : ((stk pre).take (i + 1)).getLast?.getD Eid.z = (stk pre)[i]:=by
      rw [zBL _ _ hc,List.getLast?_concat]; rfl
     rw [e]
    ·intro t ht
     rw [zBL _ _ hc] at ht
     rcases List.mem_append.1 ht with ht | ht
     ·exact hm t ht
     ·rw [List.mem_singleton] at ht; subst ht; exact hte
  ·obtain rfl : i = (stk pre).length:=by omega
   have q1 : decide ((0 : Int) < ((stk pre).length - (stk pre).length : Nat)) = false:=decide_eq_false (by omega)
   have hne : decide (((((stk pre).length - (stk pre).length : Nat) : Int)) = 0) = true:=decide_eq_true (by omega)
   have hqz : decide ((stk pre).drop (stk pre).length = []) = true:=decide_eq_true (List.drop_length)
   have hpop:=zID (el:=Eid.z) (q:=(stk pre).drop (stk pre).length) hm (.inl List.drop_length)
   rw [List.take_append_drop] at hpop
   simp (maxSteps:=2000000) (disch:=first | omega | assumption | (simp only [DS,Nat.reduceAdd, *]; done) | (simp only [DZ]; omega)) only [RUN,RU,zA2,zA1,reduceIte,Nat.reduceEqDiff,g3,olen,q1,c1]
   obtain ⟨Y,hY⟩ : ∃ Y,Y = N:=⟨N,rfl⟩
   rw [← hY]
   have wY : Wf Y:=by rw [hY]; exact w
   have lY : N.size ≤ Y.size:=by rw [hY]; omega
   have kY : ∀ j,j < N.size → Y.get j = N.get j:=fun j hj=>by rw [hY]
   clear hY
   have y0 : Y.get 0 = some (.row false [BL false]):=(kY 0 (by omega)).trans ((kk 0 (by omega) (by omega)).trans ((gX 0 (by omega) (by omega)).trans h.g0))
   have y1:=(kY 1 (by omega)).trans c1
   have y2:=(kY 2 (by omega)).trans ((kk 2 (by omega) (by omega)).trans ((gX 2 (by omega) (by omega)).trans gm2))
   have y3:=(kY 3 (by omega)).trans ((kk 3 (by omega) (by omega)).trans ((gX 3 (by omega) (by omega)).trans h.g3))
   have y6:=(kY 6 (by omega)).trans ((kk 6 (by omega) (by omega)).trans x6)
   have ya:=(kY _ (by omega)).trans ca
   have yb:=(kY _ (by omega)).trans cb
   have yc:=(kY _ (by omega)).trans cc
   have yj : ∀ j,j < M.size → j ≠ 1 → j ≠ 6 → Y.get j = M.get j:=fun j a b c=>(kY j (by omega)).trans ((kk j a b).trans (gX j a c))
   have spY : SlP Y 4 zKC o' ((stk pre).drop (stk pre).length).reverse:=spN.keep fun j hj=>kY j (spN.lt j hj)
   clear kY kk w c1 ca cb cc spN l1 la lb lc
   have l1:=Mem.get_lt y1
   have la:=Mem.get_lt ya
   have lb:=Mem.get_lt yb
   have lc:=Mem.get_lt yc
   have l2:=Mem.get_lt y2
   have l3:=Mem.get_lt y3
   have l0:=Mem.get_lt y0
   have hlk:=zP0 zK7 (z:=.int .i64 0) y2 hset x.1
   unfold ordS
   rw [hpop]
   simp only [hqz]
   have hql : ((stk pre).drop (stk pre).length).length ≤ pre.length:=by rw [List.length_drop]; omega
   generalize (stk pre).drop (stk pre).length = q at *
   generalize ((stk pre).take (stk pre).length).getLast?.getD Eid.z = el at *
   have hls:=fun M=>@zET fuel (d + 4) x.1 el M
   cases c2 : decide (x.2 = Eid.z)
   ·simp (maxSteps:=2000000) (disch:=first | omega | assumption | (simp only [DS,Nat.reduceAdd, *]; done) | (simp only [DZ]; omega)) only [RUN,RU,zA2,zA1,slot,lay,zAI,reduceIte,Nat.reduceEqDiff,g2,g6,hne,y0,yb,wY,↓pIdN,zBC,ETA,c2]
    have os : OS tm ((Y.upd 0 (.row false [BL false])).upd 6 (.loop .done (some .ret) tm [12,13] cO1 cO2 5)):=by
     refine ⟨(wY.upd _ _).upd _ _,by simp only [zA9]; omega, ?_, ?_, ?_⟩
     ·rw [zA3 (wY.upd _ _) _ _ _ (by omega)]
      exact zAG wY _ _ l0
     ·rw [zA3 (wY.upd _ _) _ _ _ (by omega),zA3 wY _ _ _ (by omega)]
      exact (yj 5 (by omega) (by omega) (by omega)).trans h.g5
     ·exact zAG (wY.upd _ _) _ _ (by simp only [zA9]; omega)
    refine ⟨_,_,_,_,_,_,_,y6,.inr (.inr ?_)⟩
    first
    | exact os
    | exact ⟨os,by simp [*]⟩
   ·skip
    cases c3 : decide (el = Eid.z)
    ·cases c4 : x.1.less el
     ·rw [c4] at hls
      simp (maxSteps:=2000000) (disch:=first | omega | assumption | (simp only [DS,Nat.reduceAdd, *]; done) | (simp only [DZ]; omega)) only [RUN,RU,zA2,zA1,slot,lay,zAI,reduceIte,Nat.reduceEqDiff,g2,g5,g6,g7,hne,y0,ya,yb,yc,wY,↓pIdN,zBC,ETA,c2,c3,hls]
      have os : OS tm ((Y.upd 0 (.row false [BL false])).upd 6 (.loop .done (some .ret) tm [12,13] cO1 cO2 5)):=by
       refine ⟨(wY.upd _ _).upd _ _,by simp only [zA9]; omega, ?_, ?_, ?_⟩
       ·rw [zA3 (wY.upd _ _) _ _ _ (by omega)]
        exact zAG wY _ _ l0
       ·rw [zA3 (wY.upd _ _) _ _ _ (by omega),zA3 wY _ _ _ (by omega)]
        exact (yj 5 (by omega) (by omega) (by omega)).trans h.g5
       ·exact zAG (wY.upd _ _) _ _ (by simp only [zA9]; omega)
      refine ⟨_,_,_,_,_,_,_,y6,.inr (.inr ?_)⟩
      first
      | exact os
      | exact ⟨os,by simp [*]⟩
     ·rw [c4] at hls
      by_cases c5 : x.1 ∈ pre.map (·.1)
      ·simp only [c5,if_true] at hlk
       simp (maxSteps:=2000000) (disch:=first | omega | assumption | (simp only [DS,Nat.reduceAdd, *]; done) | (simp only [DZ]; omega)) only [RUN,RU,zA2,zA1,slot,lay,zAI,reduceIte,Nat.reduceEqDiff,Int.reduceLT,g2,g4,g5,g6,g7,hne,y0,y3,ya,yb,yc,wY,↓pIdN,zBC,ETA,c2,c3,hls,x_lk,hlk]
       have os : OS tm ((Y.upd 0 (.row false [BL false])).upd 6 (.loop .done (some .ret) tm [12,13] cO1 cO2 5)):=by
        refine ⟨(wY.upd _ _).upd _ _,by simp only [zA9]; omega, ?_, ?_, ?_⟩
        ·rw [zA3 (wY.upd _ _) _ _ _ (by omega)]
         exact zAG wY _ _ l0
        ·rw [zA3 (wY.upd _ _) _ _ _ (by omega),zA3 wY _ _ _ (by omega)]
         exact (yj 5 (by omega) (by omega) (by omega)).trans h.g5
        ·exact zAG (wY.upd _ _) _ _ (by simp only [zA9]; omega)
       refine ⟨_,_,_,_,_,_,_,y6,.inr (.inr ?_)⟩
       first
       | exact os
       | exact ⟨os,by simp [*]⟩
      ·simp only [c5,if_false] at hlk
       simp (maxSteps:=2000000) (disch:=first | omega | assumption | (simp only [DS,Nat.reduceAdd, *]; done) | (simp only [DZ]; omega)) only [RUN,RU,zA2,zA1,slot,zAI,reduceIte,Nat.reduceEqDiff,g4,g5,g6,g7,hne,y3,ya,yb,yc,↓pIdN,zBC,ETA,c2,c3,hls,x_lk,hlk,x_mu]
       refine zLT zK7 wY l2 y2 hset x.1 fun obj' hset'=>?_
       simp only [c5,if_false] at hset'
       simp (maxSteps:=2000000) (disch:=first | omega | assumption | (simp only [DS,Nat.reduceAdd, *]; done) | (simp only [DZ]; omega)) only [RUN,RU,zA2,zA1,slot,lay,zAI,zAA,reduceIte,Nat.reduceEqDiff,Nat.reduceBEq,Nat.reduceAdd,g3,g5,y1,ya]
       refine ⟨spY.rows (by omega),SlP.app1 (bytes:=24) (x:=x.1) (wY.upd 2 obj') (spY.keep fun j hj=>zA3 wY _ _ _ (by have:=(ro j (ro' ▸ hj)).2; omega)) zHA ⟨rfl,hx⟩ rfl (by omega) (by rw [List.length_reverse]; omega) (by rw [List.length_reverse]; omega) fun o2 M2 sp2 w2 le2 kp2 nw2 rl2 on2 oc2=>?_⟩
       rw [zA9] at le2 kp2 nw2
       have hS : ordS x (stk pre) (pre.map (·.1)) = true:=by
        unfold ordS
        rw [hpop]
        simp [*]
       have hst : (stk (pre ++ [x])).reverse = q.reverse ++ [x.1]:=by rw [zE8,hpop,List.reverse_cons]
       have ro2 : ∀ j,rowOf o' = some j → O j ∧ 7 ≤ j:=fun j hj=>ro j (ro' ▸ hj)
       have k2 : ∀ j,j < M.size → j ≠ 1 → j ≠ 2 → j ≠ 6 → rowOf o' ≠ some j → M2.get j = M.get j:=fun j a b c e f=>by
        rw [kp2 j (by omega) f,zA3 wY _ _ _ (fun e=>c e.symm)]
        exact yj j a b e
       have m6 : M2.get 6 = some (.loop .busy none tm [12,13] cO1 cO2 5):=by
        rw [kp2 6 (by omega) (fun e=>by have:=(ro2 6 e).2; omega),zA3 wY _ _ _ (by omega)]
        exact y6
       have m2 : M2.get 2 = some obj':=by
        rw [kp2 2 (by omega) (fun e=>by have:=(ro2 2 e).2; omega)]
        exact zAG wY _ _ l2
       have m1 : 1 < M2.size:=by omega
       have n1 : M2.get 1 = some (.row false [o']):=by
        rw [kp2 1 (by omega) (fun e=>by have:=(ro2 1 e).2; omega),zA3 wY _ _ _ (by omega)]
        exact y1
       simp (maxSteps:=2000000) (disch:=first | omega | assumption | (simp only [DS,Nat.reduceAdd, *]; done) | (simp only [DZ]; omega)) only [RUN,RU,zA2,zA1,lay,reduceIte,Nat.reduceEqDiff,g3,oc2,w2,m6,n1]
       have yl : Yl (OI tm) (pre ++ [x]) O B M ((M2.upd 1 (.row false [o2])).upd 6 (.loop .ready none tm [12,13] cO1 cO2 5)):=by
        have wZ:=w2.upd 1 (.row false [o2])
        have zk : ∀ j,j ≠ 1 → j ≠ 6 → ((M2.upd 1 (.row false [o2])).upd 6 (.loop .ready none tm [12,13] cO1 cO2 5)).get j = M2.get j:=fun j a b=>by
         rw [zA3 wZ _ _ _ (fun e=>b e.symm),zA3 w2 _ _ _ (fun e=>a e.symm)]
        have nro : ∀ j,j < 7 → rowOf o' ≠ some j:=fun j hj e=>by have:=(ro2 j e).2; omega
        have no2 : ∀ j,rowOf o2 = some j → 7 ≤ j ∧ (O j ∨ M.size ≤ j):=fun j hj=>by
         rcases nw2 j hj with e | e
         ·exact ⟨(ro2 j e).2,.inl (ro2 j e).1⟩
         ·exact ⟨by omega,.inr (by omega)⟩
        refine ⟨⟨fun j=>O j ∨ rowOf o2 = some j,⟨wZ.upd _ _,by simp only [zA9]; omega, ?_,⟨o2, ?_, ?_,fun j hj=>⟨.inr hj,(no2 j hj).1⟩⟩,⟨obj', ?_, ?_⟩, ?_, ?_, ?_,.inl h.o1,.inl h.o2,.inl h.o6, ?_,h.od.snoc hS⟩, ?_⟩,wZ.upd _ _,by simp only [zA9]; omega, ?_⟩
        ·rw [zk 0 (by omega) (by omega),k2 0 (by omega) (by omega) (by omega) (by omega) (nro 0 (by omega))]; exact h.g0
        ·rw [zA3 wZ _ _ _ (by omega)]; exact zAG w2 _ _ m1
        ·rw [hst]
         exact sp2.keep fun j hj=>zk j (by have:=(no2 j hj).1; omega) (by have:=(no2 j hj).1; omega)
        ·rw [zk 2 (by omega) (by omega)]; exact m2
        ·rw [List.map_append]; exact hset'
        ·rw [zk 3 (by omega) (by omega),k2 3 (by omega) (by omega) (by omega) (by omega) (nro 3 (by omega))]; exact h.g3
        ·rw [zk 5 (by omega) (by omega),k2 5 (by omega) (by omega) (by omega) (by omega) (nro 5 (by omega))]; exact h.g5
        ·exact zAG wZ _ _ (by simp only [zA9]; omega)
        ·intro j hj
         simp only [zA9]
         rcases hj with hj | hj
         ·exact ⟨by have:=(h.ol j hj).1; omega,(h.ol j hj).2⟩
         ·exact ⟨sp2.lt j hj,.inr (.inr (by have:=(no2 j hj).1; omega))⟩
        ·rintro j (hj | hj)
         ·exact .inl hj
         ·exact (no2 j hj).2
        ·intro j hj hO
         have h1 : j ≠ 1:=fun e=>hO (e ▸ h.o1)
         have h2 : j ≠ 2:=fun e=>hO (e ▸ h.o2)
         have h6 : j ≠ 6:=fun e=>hO (e ▸ h.o6)
         rw [zk j h1 h6]
         exact k2 j hj h1 h2 h6 fun e=>hO (ro2 j e).1
       exact ⟨_,_,_,_,_,_,_,rfl,.inl (.inl yl)⟩
    ·skip
     by_cases c5 : x.1 ∈ pre.map (·.1)
     ·simp only [c5,if_true] at hlk
      simp (maxSteps:=2000000) (disch:=first | omega | assumption | (simp only [DS,Nat.reduceAdd, *]; done) | (simp only [DZ]; omega)) only [RUN,RU,zA2,zA1,slot,lay,zAI,reduceIte,Nat.reduceEqDiff,Int.reduceLT,g2,g4,g5,g6,g7,hne,y0,y3,ya,yb,yc,wY,↓pIdN,zBC,ETA,c2,c3,x_lk,hlk]
      have os : OS tm ((Y.upd 0 (.row false [BL false])).upd 6 (.loop .done (some .ret) tm [12,13] cO1 cO2 5)):=by
       refine ⟨(wY.upd _ _).upd _ _,by simp only [zA9]; omega, ?_, ?_, ?_⟩
       ·rw [zA3 (wY.upd _ _) _ _ _ (by omega)]
        exact zAG wY _ _ l0
       ·rw [zA3 (wY.upd _ _) _ _ _ (by omega),zA3 wY _ _ _ (by omega)]
        exact (yj 5 (by omega) (by omega) (by omega)).trans h.g5
       ·exact zAG (wY.upd _ _) _ _ (by simp only [zA9]; omega)
      refine ⟨_,_,_,_,_,_,_,y6,.inr (.inr ?_)⟩
      first
      | exact os
      | exact ⟨os,by simp [*]⟩
     ·simp only [c5,if_false] at hlk
      simp (maxSteps:=2000000) (disch:=first | omega | assumption | (simp only [DS,Nat.reduceAdd, *]; done) | (simp only [DZ]; omega)) only [RUN,RU,zA2,zA1,slot,zAI,reduceIte,Nat.reduceEqDiff,g4,g5,g6,g7,hne,y3,ya,yb,yc,↓pIdN,zBC,ETA,c2,c3,x_lk,hlk,x_mu]
      refine zLT zK7 wY l2 y2 hset x.1 fun obj' hset'=>?_
      simp only [c5,if_false] at hset'
      simp (maxSteps:=2000000) (disch:=first | omega | assumption | (simp only [DS,Nat.reduceAdd, *]; done) | (simp only [DZ]; omega)) only [RUN,RU,zA2,zA1,slot,lay,zAI,zAA,reduceIte,Nat.reduceEqDiff,Nat.reduceBEq,Nat.reduceAdd,g3,g5,y1,ya]
      refine ⟨spY.rows (by omega),SlP.app1 (bytes:=24) (x:=x.1) (wY.upd 2 obj') (spY.keep fun j hj=>zA3 wY _ _ _ (by have:=(ro j (ro' ▸ hj)).2; omega)) zHA ⟨rfl,hx⟩ rfl (by omega) (by rw [List.length_reverse]; omega) (by rw [List.length_reverse]; omega) fun o2 M2 sp2 w2 le2 kp2 nw2 rl2 on2 oc2=>?_⟩
      rw [zA9] at le2 kp2 nw2
      have hS : ordS x (stk pre) (pre.map (·.1)) = true:=by
       unfold ordS
       rw [hpop]
       simp [*]
      have hst : (stk (pre ++ [x])).reverse = q.reverse ++ [x.1]:=by rw [zE8,hpop,List.reverse_cons]
      have ro2 : ∀ j,rowOf o' = some j → O j ∧ 7 ≤ j:=fun j hj=>ro j (ro' ▸ hj)
      have k2 : ∀ j,j < M.size → j ≠ 1 → j ≠ 2 → j ≠ 6 → rowOf o' ≠ some j → M2.get j = M.get j:=fun j a b c e f=>by
       rw [kp2 j (by omega) f,zA3 wY _ _ _ (fun e=>c e.symm)]
       exact yj j a b e
      have m6 : M2.get 6 = some (.loop .busy none tm [12,13] cO1 cO2 5):=by
       rw [kp2 6 (by omega) (fun e=>by have:=(ro2 6 e).2; omega),zA3 wY _ _ _ (by omega)]
       exact y6
      have m2 : M2.get 2 = some obj':=by
       rw [kp2 2 (by omega) (fun e=>by have:=(ro2 2 e).2; omega)]
       exact zAG wY _ _ l2
      have m1 : 1 < M2.size:=by omega
      have n1 : M2.get 1 = some (.row false [o']):=by
       rw [kp2 1 (by omega) (fun e=>by have:=(ro2 1 e).2; omega),zA3 wY _ _ _ (by omega)]
       exact y1
      simp (maxSteps:=2000000) (disch:=first | omega | assumption | (simp only [DS,Nat.reduceAdd, *]; done) | (simp only [DZ]; omega)) only [RUN,RU,zA2,zA1,lay,reduceIte,Nat.reduceEqDiff,g3,oc2,w2,m6,n1]
      have yl : Yl (OI tm) (pre ++ [x]) O B M ((M2.upd 1 (.row false [o2])).upd 6 (.loop .ready none tm [12,13] cO1 cO2 5)):=by
       have wZ:=w2.upd 1 (.row false [o2])
       have zk : ∀ j,j ≠ 1 → j ≠ 6 → ((M2.upd 1 (.row false [o2])).upd 6 (.loop .ready none tm [12,13] cO1 cO2 5)).get j = M2.get j:=fun j a b=>by
        rw [zA3 wZ _ _ _ (fun e=>b e.symm),zA3 w2 _ _ _ (fun e=>a e.symm)]
       have nro : ∀ j,j < 7 → rowOf o' ≠ some j:=fun j hj e=>by have:=(ro2 j e).2; omega
       have no2 : ∀ j,rowOf o2 = some j → 7 ≤ j ∧ (O j ∨ M.size ≤ j):=fun j hj=>by
        rcases nw2 j hj with e | e
        ·exact ⟨(ro2 j e).2,.inl (ro2 j e).1⟩
        ·exact ⟨by omega,.inr (by omega)⟩
       refine ⟨⟨fun j=>O j ∨ rowOf o2 = some j,⟨wZ.upd _ _,by simp only [zA9]; omega, ?_,⟨o2, ?_, ?_,fun j hj=>⟨.inr hj,(no2 j hj).1⟩⟩,⟨obj', ?_, ?_⟩, ?_, ?_, ?_,.inl h.o1,.inl h.o2,.inl h.o6, ?_,h.od.snoc hS⟩, ?_⟩,wZ.upd _ _,by simp only [zA9]; omega, ?_⟩
       ·rw [zk 0 (by omega) (by omega),k2 0 (by omega) (by omega) (by omega) (by omega) (nro 0 (by omega))]; exact h.g0
       ·rw [zA3 wZ _ _ _ (by omega)]; exact zAG w2 _ _ m1
       ·rw [hst]
        exact sp2.keep fun j hj=>zk j (by have:=(no2 j hj).1; omega) (by have:=(no2 j hj).1; omega)
       ·rw [zk 2 (by omega) (by omega)]; exact m2
       ·rw [List.map_append]; exact hset'
       ·rw [zk 3 (by omega) (by omega),k2 3 (by omega) (by omega) (by omega) (by omega) (nro 3 (by omega))]; exact h.g3
       ·rw [zk 5 (by omega) (by omega),k2 5 (by omega) (by omega) (by omega) (by omega) (nro 5 (by omega))]; exact h.g5
       ·exact zAG wZ _ _ (by simp only [zA9]; omega)
       ·intro j hj
        simp only [zA9]
        rcases hj with hj | hj
        ·exact ⟨by have:=(h.ol j hj).1; omega,(h.ol j hj).2⟩
        ·exact ⟨sp2.lt j hj,.inr (.inr (by have:=(no2 j hj).1; omega))⟩
       ·rintro j (hj | hj)
        ·exact .inl hj
        ·exact (no2 j hj).2
       ·intro j hj hO
        have h1 : j ≠ 1:=fun e=>hO (e ▸ h.o1)
        have h2 : j ≠ 2:=fun e=>hO (e ▸ h.o2)
        have h6 : j ≠ 6:=fun e=>hO (e ▸ h.o6)
        rw [zk j h1 h6]
        exact k2 j hj h1 h2 h6 fun e=>hO (ro2 j e).1
      exact ⟨_,_,_,_,_,_,_,rfl,.inl (.inl yl)⟩
end Go.Proofs.YtlknfleegdkolaaGreat
namespace Go.Proofs.YtlknfleegdkolaaGreat
open Go Go.Ax
variable {fuel : Nat} {M : Mem} {Q : AV → Mem → Prop} {d : Nat}
theorem zQ3 {a : AV} {l : List Rn} (hS : Sl 10 isRn a l) (wf : Wf M) (k : Q (.fn 107 [] [.ptr M.size 0]) (M.add (.row false [a]))) :
  W3 (zAE Tryz.prog (fsT tbl) fuel (d + 1) (.fn 93) [a] M) Q:=by
 have oa:=hS.one
 refine zB1 tf93 rfl (by simp [a93]) fun b' ht hx=>?_
 have h0:=hx 0 _ rfl
 clear hx
 simp only [a93,c93] at ht ⊢
 simp (maxSteps:=2000000) (disch:=first | omega | assumption | (simp only [DS,Nat.reduceAdd, *]; done) | (simp only [DZ]; omega)) only [RUN,RU,zA2,zA1,zA0,zAC,reduceIte,Nat.reduceEqDiff,h0,hS.fz.cells]
 exact k
theorem zaV {a : AV} {l : List Rn} (hS : Sl 10 isRn a l) : ∀ r ∈ l,r.ok:=by
 intro r hr
 obtain ⟨i,hi,rfl⟩:=List.getElem_of_mem hr
 obtain ⟨_,_,⟨_,_,_,hok⟩,_⟩:=hS.iad i hi
 exact hok
theorem zY0 {l : List Rn} (h : ∀ r ∈ l,r.ok) (hm : ∀ r ∈ l,r.may = true) : ∀ x ∈ elsL l,x.1.ok:=by
 intro x hx
 obtain ⟨r,hr,hx⟩:=List.mem_flatMap.1 hx
 obtain ⟨i,hi,rfl⟩:=List.mem_map.1 hx
 rw [List.mem_range] at hi
 have hb:=Spn.may_le (Rn.may_sp (hm r hr))
 have hk:=h r hr
 refine ⟨hk.1.1.1, ?_⟩
 simp only [Spn.at,i64R]
 omega
theorem zIZ {l : List Rn} (hm : ∀ r ∈ l,r.may = true) : (elsL l).length ≤ 64 * l.length:=by
 have:=zEE hm
 have e:=zDQ hm
 rw [← zKL]
 unfold prs
 rw [List.length_map]
 omega
theorem zZE {X : Mem} {tm : List AV} {a : AV} {l : List Rn} (hS : Sl 10 isRn a l) (hl : l.length ≤ 1000) (hm : ∀ r ∈ l,r.may = true) (hf : 64 * l.length + 1000 < fuel) (w : Wf X) (h2 : nth zA6 tm 2 = .ptr 0 0) (h3 : nth zA6 tm 3 = .ptr 1 0) (h4 : nth zA6 tm 4 = .ptr 3 0) (hlen : tm.length = 63) (hX : X.size = 5) (g0 : X.get 0 = some (.row false [BL false])) (g1 : X.get 1 = some (.row false [NIL])) (g2 : X.get 2 = some (.map [] 0)) (g3 : X.get 3 = some (.row false [.mp 2])) (g4 : X.get 4 = some (.row false [a]))
  (kt : Ord (elsL l) → ∀ u O N,OI tm (elsL l) O N → Q u N) (ks : ¬Ord (elsL l) → ∀ u N,OS tm N → Q u N) :
  W3 (zAE Tryz.prog (fsT tbl) fuel (d + 8) (.fn 107) ([] ++ [.yl (X.size + 1)] ++ [.ptr 4 0]) ((X.add (.dfr false)).add (.loop .ready none tm [12,13] cO1 cO2 X.size))) Q:=by
 have w1:=w.add (.dfr false)
 have hel:=zIZ hm
 have heo:=zY0 (zaV hS) hm
 have e : X.size + 1 = 6:=by omega
 have u : ∀ j,j < 5 → ((X.add (.dfr false)).add (.loop .ready none tm [12,13] cO1 cO2 X.size)).get j = X.get j:=fun j hj=>by
  rw [zAF w1 _ _ (by rw [zA5]; omega),zAF w _ _ (by omega)]
 have hJ0 : OI tm [] (fun j=>j = 1 ∨ j = 2 ∨ j = 6) ((X.add (.dfr false)).add (.loop .ready none tm [12,13] cO1 cO2 X.size)):=by
  refine ⟨w1.add _,by simp only [zA5]; omega,(u 0 (by omega)).trans g0,⟨NIL,(u 1 (by omega)).trans g1,SlP.nil,fun j hj=>by cases hj⟩,⟨_,(u 2 (by omega)).trans g2,zHE.nil _ _⟩,(u 3 (by omega)).trans g3, ?_, ?_,.inl rfl,.inr (.inl rfl),.inr (.inr rfl), ?_,Ord.nil⟩
  ·rw [zAF w1 _ _ (by rw [zA5]; omega),← hX]
   exact zAH w _ _ (Nat.le_refl _) (Nat.lt_succ_self _)
  ·have:=zAH w1 (.loop .ready none tm [12,13] cO1 cO2 X.size) 6 (by rw [zA5]; omega) (by rw [zA5]; omega)
   rw [hX] at this ⊢
   exact this
  ·intro j hj
   simp only [zA5]
   rcases hj with rfl | rfl | rfl <;> omega
 have key:=zVF (d:=d) (fuel:=fuel) (Q:=Q) (J:=OI tm) (S:=fun N=>OS tm N ∧ ¬Ord (elsL l)) (id:=6) (p:=4) hS (by omega) hm (by omega) (w1.add _) ((u 4 (by omega)).trans g4) hJ0 (fun pre O N N' h wf le k=>h.keep wf le k) (fun pre O N h j hj=>(h.ol j hj).1) (fun pre x post O N he h wf le=>?_) (fun u N O h _ _=>kt h.od u O N h) (fun u N h=>ks h.2 u N h.1)
 ·rw [← e] at key
  exact key
 ·have hxm : x ∈ elsL l:=by rw [he]; simp
  have hpl : pre.length ≤ (elsL l).length:=by rw [he]; simp
  obtain ⟨v,N',hc,hv⟩:=zdO (fuel:=fuel) (d:=d) (B:=((X.add (.dfr false)).add (.loop .ready none tm [12,13] cO1 cO2 X.size)).size) h h2 h3 h4 hlen (heo x hxm) (by omega) (by omega)
  refine ⟨v,N',hc, ?_⟩
  rcases hv with ⟨rfl,hv⟩ | ⟨rfl,hv,ho⟩
  ·exact .inl ⟨rfl,hv⟩
  ·refine .inr ⟨rfl,hv,fun k=>?_⟩
   rw [k pre x post he] at ho
   cases ho
open Classical in
set_option maxHeartbeats 4000000 in
theorem zNM {a : AV} {l : List Rn} (hS : Sl 10 isRn a l) (hl : l.length ≤ 1000) (hm : ∀ r ∈ l,r.may = true) (hf : 64 * l.length + 1000 < fuel) (M : Mem) : zAE Tryz.prog (fsT tbl) fuel (d + 9) (.fn 67) [a] M = some (BL (decide (Ord (elsL l))),M):=by
 have oa:=hS.one
 have hel:=zIZ hm
 have heo:=zY0 (zaV hS) hm
 apply zBN
 refine zAJ tf67 rfl (by simp only [icyL,fun M=>hS.icy M 12 (by omega)]) (by simp [a67]) fun b' ht hx=>?_
 have h0:=hx 0 _ rfl
 clear hx
 simp only [a67,c67] at ht ⊢
 have cm : cellsA (.mp 2) = [.mp 2]:=rfl
 have om : oneA (.mp 2) = true:=rfl
 have sm : scs (.map none) = [.sc (.map none)]:=rfl
 simp (maxSteps:=2000000) (disch:=first | omega | assumption | (simp only [DS,Nat.reduceAdd, *]; done) | (simp only [DZ]; omega)) only [RUN,RU,zA2,zA1,lay,reduceIte,Nat.reduceEqDiff,Nat.reduceAdd,h0,zUG,cm,sm]
 refine zQ3 hS (by simp (maxSteps:=2000000) (disch:=first | omega | assumption | (simp only [DS,Nat.reduceAdd, *]; done) | (simp only [DZ]; omega)) only [RUN]) ?_
 simp (maxSteps:=2000000) (disch:=first | omega | assumption | (simp only [DS,Nat.reduceAdd, *]; done) | (simp only [DZ]; omega)) only [RUN,RU,Nat.reduceAdd]
 refine zXP (g:=107) (first:=[]) (cap:=[.ptr 4 0]) (by simp (maxSteps:=2000000) (disch:=first | omega | assumption | (simp only [DS,Nat.reduceAdd, *]; done) | (simp only [DZ]; omega)) only [RUN]) (by simp (maxSteps:=2000000) (disch:=first | omega | assumption | (simp only [DS,Nat.reduceAdd, *]; done) | (simp only [DZ]; omega)) only [RUN,reduceIte,Nat.reduceEqDiff]) ?_
 refine zZE (d:=d) hS hl hm hf ?_ ?_ ?_ ?_ ?_ ?_ ?_ ?_ ?_ ?_ ?_ (fun ho u O N h=>?_) (fun ho u N h=>?_)
 ·simp (maxSteps:=2000000) (disch:=first | omega | assumption | (simp only [DS,Nat.reduceAdd, *]; done) | (simp only [DZ]; omega)) only [RUN]
 ·simp (maxSteps:=2000000) (disch:=first | omega | assumption | (simp only [DS,Nat.reduceAdd, *]; done) | (simp only [DZ]; omega)) only [RUN,reduceIte,Nat.reduceEqDiff]
 ·simp (maxSteps:=2000000) (disch:=first | omega | assumption | (simp only [DS,Nat.reduceAdd, *]; done) | (simp only [DZ]; omega)) only [RUN,reduceIte,Nat.reduceEqDiff]
 ·simp (maxSteps:=2000000) (disch:=first | omega | assumption | (simp only [DS,Nat.reduceAdd, *]; done) | (simp only [DZ]; omega)) only [RUN,reduceIte,Nat.reduceEqDiff]
 ·rw [zL4]; exact ht
 ·simp (maxSteps:=2000000) (disch:=first | omega | assumption | (simp only [DS,Nat.reduceAdd, *]; done) | (simp only [DZ]; omega)) only [RUN,RU,Nat.reduceAdd]
 ·simp (maxSteps:=2000000) (disch:=first | omega | assumption | (simp only [DS,Nat.reduceAdd, *]; done) | (simp only [DZ]; omega)) only [RUN]
 ·simp (maxSteps:=2000000) (disch:=first | omega | assumption | (simp only [DS,Nat.reduceAdd, *]; done) | (simp only [DZ]; omega)) only [RUN]
 ·simp (maxSteps:=2000000) (disch:=first | omega | assumption | (simp only [DS,Nat.reduceAdd, *]; done) | (simp only [DZ]; omega)) only [RUN]
 ·simp (maxSteps:=2000000) (disch:=first | omega | assumption | (simp only [DS,Nat.reduceAdd, *]; done) | (simp only [DZ]; omega)) only [RUN]
 ·simp (maxSteps:=2000000) (disch:=first | omega | assumption | (simp only [DS,Nat.reduceAdd, *]; done) | (simp only [DZ]; omega)) only [RUN]
 ·have wf:=h.wf
  have sz:=h.sz
  have l0:=Mem.get_lt h.g0
  have l5:=Mem.get_lt h.g5
  have e6 : (mem0.add (.row false [BL false])).size = 1:=rfl
  refine ⟨wf,by simp only [zA5,zA9,zBF]; omega,_,_,_,_,_,_,_,.inl rfl,h.g6, ?_⟩
  generalize hX : N.upd _ _ = X
  have wX : Wf X:=by rw [← hX]; exact wf.upd _ _
  have sX : X.size = N.size:=by rw [← hX]; rfl
  have gX : ∀ j,j ≠ 6 → X.get j = N.get j:=fun j hj=>by rw [← hX]; exact zA3 wf _ _ _ (fun e=>hj e.symm)
  have x0:=(gX 0 (by omega)).trans h.g0
  have x5:=(gX 5 (by omega)).trans h.g5
  have hd : decide (Ord (elsL l)) = true:=decide_eq_true ho
  rw [hd]
  simp (maxSteps:=2000000) (disch:=first | omega | assumption | (simp only [DS,Nat.reduceAdd, *]; done) | (simp only [DZ]; omega)) only [RUN,RU,zA2,zA1,lay,reduceIte,Nat.reduceEqDiff,Nat.reduceAdd,x0,Option.getD_none]
  refine zJZ (by simp (maxSteps:=2000000) (disch:=first | omega | assumption | (simp only [DS,Nat.reduceAdd, *]; done) | (simp only [DZ]; omega)) only [RUN,wX]) (by simp (maxSteps:=2000000) (disch:=first | omega | assumption | (simp only [DS,Nat.reduceAdd, *]; done) | (simp only [DZ]; omega)) only [RUN,x5]) ?_
  simp (maxSteps:=2000000) (disch:=first | omega | assumption | (simp only [DS,Nat.reduceAdd, *]; done) | (simp only [DZ]; omega)) only [RUN,RU,zA0,zAC,frzL,reduceIte,Nat.reduceEqDiff]
 ·have wf:=h.wf
  have sz:=h.sz
  have l0:=Mem.get_lt h.g0
  have l5:=Mem.get_lt h.g5
  refine ⟨wf,by simp only [zA5,zA9,zBF]; omega,_,_,_,_,_,_,_,.inr rfl,h.g6, ?_⟩
  generalize hX : N.upd _ _ = X
  have wX : Wf X:=by rw [← hX]; exact wf.upd _ _
  have sX : X.size = N.size:=by rw [← hX]; rfl
  have gX : ∀ j,j ≠ 6 → X.get j = N.get j:=fun j hj=>by rw [← hX]; exact zA3 wf _ _ _ (fun e=>hj e.symm)
  have x0:=(gX 0 (by omega)).trans h.g0
  have x5:=(gX 5 (by omega)).trans h.g5
  have hd : decide (Ord (elsL l)) = false:=decide_eq_false ho
  rw [hd]
  simp (maxSteps:=2000000) (disch:=first | omega | assumption | (simp only [DS,Nat.reduceAdd, *]; done) | (simp only [DZ]; omega)) only [RUN,RU,Nat.reduceAdd,Option.getD_some]
  refine zJZ (by simp (maxSteps:=2000000) (disch:=first | omega | assumption | (simp only [DS,Nat.reduceAdd, *]; done) | (simp only [DZ]; omega)) only [wX]) (by simp (maxSteps:=2000000) (disch:=first | omega | assumption | (simp only [DS,Nat.reduceAdd, *]; done) | (simp only [DZ]; omega)) only [x5]) ?_
  simp (maxSteps:=2000000) (disch:=first | omega | assumption | (simp only [DS,Nat.reduceAdd, *]; done) | (simp only [DZ]; omega)) only [RUN,RU,zA0,zAC,frzL,reduceIte,Nat.reduceEqDiff,x0]
end Go.Proofs.YtlknfleegdkolaaGreat
namespace Go.Proofs.YtlknfleegdkolaaGreat
open Go Go.Ax
variable {fuel : Nat} {M : Mem} {Q : AV → Mem → Prop} {d : Nat}
theorem zQ0 {o : Rn} {ra : AV} (hR : Sl 1 zB7 ra o.rs) (hf : 100 < fuel) (M : Mem) : zAE Tryz.prog (fsT tbl) fuel (d + 7) (.fn 66) [.agg (rnR o ra)] M = some (BL (!o.may),M):=by
 have ora:=hR.one
 have hck:=fun M=>@zC0 fuel d o ra hR hf M
 apply zBN
 refine zAJ tf66 rfl (by simp only [icyL,zCG hR.fz]) (by simp [a66]) fun b' ht hx=>?_
 have h0:=hx 0 _ rfl
 clear hx
 simp only [a66,c66] at ht ⊢
 cases hm : o.may <;> rw [hm] at hck <;> simp (maxSteps:=2000000) (disch:=first | omega | assumption | (simp only [DS,Nat.reduceAdd, *]; done) | (simp only [DZ]; omega)) only [RUN,RU,zA2,zA1,zA0,zAC,frzL,slot,reduceIte,Nat.reduceEqDiff,Int.reduceEq,h0,hck,zB2,zBI]
open Classical in
noncomputable def zEZ (l : List Rn) : Bool:=decide (zDF l)
open Classical in
theorem zb8 {l : List Rn} (h : zDF l) : zEZ l = true:=by unfold zEZ; exact decide_eq_true h
open Classical in
theorem zKW {l : List Rn} (h : ¬zDF l) : zEZ l = false:=by unfold zEZ; exact decide_eq_false h
open Classical in
theorem zMO {l : List Rn} : zEZ l = true ↔ zDF l:=by unfold zEZ; exact ⟨of_decide_eq_true,fun h=>decide_eq_true h⟩
theorem zF0 {l : List Rn} (h : ∀ r ∈ l,r.may = true) : ∀ r ∈ l,r.rs.length ≤ 64:=fun r hr=>((Rn.may_iff.1 (h r hr)).2.2.2.1)
set_option maxHeartbeats 4000000 in
theorem zRO {a : AV} {l : List Rn} (hS : Sl 10 isRn a l) (hl : l.length ≤ 1000) (hf : 64 * l.length + 3001000 < fuel) (M : Mem) : zAE Tryz.prog (fsT tbl) fuel (d + 10) (.fn 44) [a] M = some (I64 (err (zEZ l)),M):=by
 have oa:=hS.one
 have hh:=fun M=>zZW (P:=Tryz.prog) (fs:=fsT tbl) (fuel:=fuel) (l:=l) (ag:=true) (n:=d + 7) tf65 tf92 (fun h=>by cases h) zCV hS (by omega) (by omega) (zY4 66) (p:=fun x => !x.may) (fun r x hr _ M=>by
  obtain ⟨ra,rfl,hra,_⟩:=hr
  exact @zQ0 fuel d x ra hra (by omega) M) M
 rw [zR8] at hh
 apply zBN
 refine zAJ tf44 rfl (by simp only [icyL,fun M=>hS.icy M 12 (by omega)]) (by simp [a44]) fun b' ht hx=>?_
 have h0:=hx 0 _ rfl
 clear hx
 simp only [a44,c44] at ht ⊢
 cases hb : l.all Rn.may with
 | false =>
  rw [hb] at hh
  have hno : zEZ l = false:=zKW fun k=>by
   rw [List.all_eq_true.2 k.1] at hb; cases hb
  rw [hno]
  simp (maxSteps:=2000000) (disch:=first | omega | assumption | (simp only [DS,Nat.reduceAdd, *]; done) | (simp only [DZ]; omega)) only [RUN,RU,zA2,zA1,zA0,zAC,frzL,reduceIte,Nat.reduceEqDiff,h0,hh,zBI]
 | true =>
  rw [hb] at hh
  have hm : ∀ r ∈ l,r.may = true:=List.all_eq_true.1 hb
  have hrs:=zF0 hm
  have hct:=fun M=>@zHT fuel (d + 8) a l hS hm (by omega) (by omega) M
  have hord:=fun M=>@zNM fuel d a l hS hl hm (by omega) M
  obtain ⟨r,hr,hlong⟩:=zFW (fuel:=fuel) (d:=d) hS (by omega) (fun r hr=>by have:=hrs r hr; omega) (by omega)
  have hmL:=(zC7 hm).2
  have hrsL:=zF0 hmL
  have hlenL : (zBO l).length ≤ 64000:=by
   have e1:=zDQ hmL
   have e2:=zEE hm
   have e3:=zDQ hm
   rw [(zC7 hm).1,(zD2 _).1] at e1
   have : (zBO l).length ≤ (zB0 (zBO l)):=by
    rw [(zC7 hm).1]
    have hh:=(zD2 (elsR l)).2
    generalize zCU (elsR l) = C at *
    clear e1
    induction C with
    | nil=>simp [zB0]
    | cons q C ih =>
     have:=ih (fun q hq=>hh q (List.mem_cons_of_mem _ hq))
     have:=(hh q List.mem_cons_self).1
     simp only [zB0,List.length_cons]
     omega
   rw [(zC7 hm).1] at this ⊢
   omega
  have hsame:=fun M=>@zU7 fuel (d + 5) r a (zBO l) l hr hS (by omega) (fun e he=>⟨by have:=hrsL e he; omega,by have:=hrsL e he; omega⟩) (by omega) M
  have or:=hr.one
  by_cases h1 : zB0 l ≤ 8192
  ·have q1 : decide (8192 < zB0 l) = false:=decide_eq_false (by omega)
   by_cases h2 : Ord (elsL l)
   ·have ho:=@decide_eq_true _ (Classical.propDecidable (Ord (elsL l))) h2
    rw [ho] at hord
    by_cases h3 : zBO l = l
    ·have hyes : zEZ l = true:=zb8 ⟨hm,h1,h2,h3⟩
     have hs : zKP (zBO l) l = true:=zMH.2 h3
     rw [hs] at hsame
     rw [hyes]
     simp (maxSteps:=2000000) (disch:=first | omega | assumption | (simp only [DS,Nat.reduceAdd, *]; done) | (simp only [DZ]; omega)) only [RUN,RU,zA2,zA1,zA0,zAC,frzL,reduceIte,Nat.reduceEqDiff,h0,hh,hct,q1,hord,hlong,hsame,zB2]
    ·have hno : zEZ l = false:=zKW fun k=>h3 k.2.2.2
     have hs : zKP (zBO l) l = false:=by
      cases hq : zKP (zBO l) l with
      | false=>rfl
      | true=>exact absurd (zMH.1 hq) h3
     rw [hs] at hsame
     rw [hno]
     simp (maxSteps:=2000000) (disch:=first | omega | assumption | (simp only [DS,Nat.reduceAdd, *]; done) | (simp only [DZ]; omega)) only [RUN,RU,zA2,zA1,zA0,zAC,frzL,reduceIte,Nat.reduceEqDiff,h0,hh,hct,q1,hord,hlong,hsame,zBI]
   ·have ho:=@decide_eq_false _ (Classical.propDecidable (Ord (elsL l))) h2
    rw [ho] at hord
    have hno : zEZ l = false:=zKW fun k=>h2 k.2.2.1
    rw [hno]
    simp (maxSteps:=2000000) (disch:=first | omega | assumption | (simp only [DS,Nat.reduceAdd, *]; done) | (simp only [DZ]; omega)) only [RUN,RU,zA2,zA1,zA0,zAC,frzL,reduceIte,Nat.reduceEqDiff,h0,hh,hct,q1,hord,zBI]
  ·have q1 : decide (8192 < zB0 l) = true:=decide_eq_true (by omega)
   have hno : zEZ l = false:=zKW fun k=>h1 k.2.1
   rw [hno]
   simp (maxSteps:=2000000) (disch:=first | omega | assumption | (simp only [DS,Nat.reduceAdd, *]; done) | (simp only [DZ]; omega)) only [RUN,RU,zA2,zA1,zA0,zAC,frzL,reduceIte,Nat.reduceEqDiff,h0,hh,hct,q1,zBI]
end Go.Proofs.YtlknfleegdkolaaGreat
namespace Go.Proofs.YtlknfleegdkolaaGreat
open Go Go.Ax
variable {fuel : Nat} {M : Mem} {Q : AV → Mem → Prop} {d : Nat}
abbrev zRn : Value:=.agg #[.int .u8 0,.int .u32 0,.int .u8 0,.int .i64 0,.int .i64 0,.int .u8 0,.int .u32 0,.int .u8 0,.int .i64 0,.slice none 0 0]
theorem zcE {n : Nat} (wf : Wf M) (hn : 0 < n) (hb : n ≤ 1000000) (k : Q (.sl M.size 0 0 none 10) (M.add (.row false (zAA zRn n)))) :
  W3 (zAE Tryz.prog (fsT tbl) fuel (d + 1) (.fn 98) [NIL,I64 n] M) Q:=by
 have hz:=zUY (X:=M) (st:=10) (bytes:=80) (z:=zRn) wf rfl rfl hn (by omega) (by omega) (by omega)
 have e0 : decide ((n : Int) < 0) = false:=decide_eq_false (by omega)
 have e1 : decide ((0 : Int) < n) = true:=decide_eq_true (by omega)
 have w0 : IntKind.i64.wrap 0 = 0:=by decide
 have w1 : IntKind.i64.wrap ((n : Int) - 0) = n:=by rw [wrap_i64] <;> omega
 refine zB1 tf98 rfl (by simp [a98]) fun b' ht hx=>?_
 have h0:=hx 0 _ rfl
 have h1:=hx 1 _ rfl
 clear hx
 simp only [a98,c98] at ht ⊢
 have hs:=zb3 (M:=M.add (.row false (zAA zRn n))) (st:=10) (n:=n) (zAH wf (.row false (zAA zRn n)) M.size (Nat.le_refl _) (Nat.lt_succ_self _))
 simp (maxSteps:=2000000) (disch:=first | omega | assumption | (simp only [DS,Nat.reduceAdd, *]; done) | (simp only [DZ]; omega)) only [RUN,RU,zA2,zA1,zA0,zAC,reduceIte,Nat.reduceEqDiff,Int.reduceSub,h0,h1,e0,e1,w0,w1,zeE,x_cap,zZ7,zXH,hz,hs]
 exact k
set_option maxHeartbeats 8000000 in
/-- One list of three. -/
theorem zRR {id : Nat} {a0 a1 a2 : AV} {l0 l1 l2 : List Rn} (wf : Wf M) (hg : M.get id = some (.row false [a0,a1,a2])) (h0' : Sl 10 isRn a0 l0) (h1' : SlM M 10 isRn a1 l1) (h2' : Sl 10 isRn a2 l2) (hn : 0 < l1.length) (hb0 : l0.length ≤ 10000) (hb1 : l1.length ≤ 10000) (hb2 : l2.length ≤ 10000) (hf : 100 < fuel) (hw : M.wm ≤ M.size)
  (k : ∀ o N,SlM N 10 isRn o (l0 ++ l1 ++ l2) → Kept M N → (∀ j,rowOf o = some j → M.size ≤ j) → oneA o = true → cellsA o = [o] → ((rowsOf o).all fun i=>Nat.blt i N.size) = true → Q o N) :
  W3 (zAE Tryz.prog (fsT tbl) fuel (d + 2) (.fn 70) [.sl id 0 3 (some 3) 1] M) Q:=by
 have x0:=h0'.len
 have x1:=h1'.len
 have x2:=h2'.len
 have o0:=h0'.one
 have o1:=h1'.one
 have o2:=h2'.one
 have li:=Mem.get_lt hg
 have c3 : ((3 : Nat) : Int) = 3:=rfl
 have t0 : zD7 (I64 0) = some 0:=rfl
 have t1 : zD7 (I64 1) = some 1:=rfl
 have t2 : zD7 (I64 2) = some 2:=rfl
 have q03 : decide ((0 : Int) < 3) = true:=rfl
 have q13 : decide ((1 : Int) < 3) = true:=rfl
 have q23 : decide ((2 : Int) < 3) = true:=rfl
 have q33 : decide ((3 : Int) < 3) = false:=rfl
 have v1 : IntKind.i64.wrap 1 = 1:=by decide
 have v2 : IntKind.i64.wrap 2 = 2:=by decide
 have v3 : IntKind.i64.wrap 3 = 3:=by decide
 have w0 : IntKind.i64.wrap (0 + (l0.length : Int)) = (l0.length : Nat):=by rw [wrap_i64] <;> omega
 have w1 : IntKind.i64.wrap ((l0.length : Int) + (l1.length : Int)) = ((l0.length + l1.length : Nat) : Int):=by rw [wrap_i64] <;> omega
 have w2 : IntKind.i64.wrap (((l0.length + l1.length : Nat) : Int) + (l2.length : Int)) = ((l0.length + l1.length + l2.length : Nat) : Int):=by rw [wrap_i64] <;> omega
 have n0 : decide (((l0.length : Nat) : Int) < 0) = false:=decide_eq_false (by omega)
 have n1 : decide (((l0.length + l1.length : Nat) : Int) < 0) = false:=decide_eq_false (by omega)
 have n2 : decide (((l0.length + l1.length + l2.length : Nat) : Int) < 0) = false:=decide_eq_false (by omega)
 refine zB1 tf70 rfl (by simp [a70]) fun b' ht hx=>?_
 have h0:=hx 0 _ rfl
 clear hx
 simp only [a70,c70] at ht ⊢
 simp (maxSteps:=2000000) (disch:=first | omega | assumption | (simp only [DS,Nat.reduceAdd, *]; done) | (simp only [DZ]; omega)) only [RUN,RU,zA2,zA1,reduceIte,Nat.reduceEqDiff,h0]
 refine w_un (by omega) ?_
 simp (maxSteps:=2000000) (disch:=first | omega | assumption | (simp only [DS,Nat.reduceAdd, *]; done) | (simp only [DZ]; omega)) only [RUN,RU,zA2,zA1,reduceIte,Nat.reduceEqDiff,Nat.reduceMul,Int.reduceLT,Int.reduceAdd,hg,c3,t0,x0,w0,n0,v1,zDU]
 refine w_un (by omega) ?_
 simp (maxSteps:=2000000) (disch:=first | omega | assumption | (simp only [DS,Nat.reduceAdd, *]; done) | (simp only [DZ]; omega)) only [RUN,RU,zA2,zA1,reduceIte,Nat.reduceEqDiff,Nat.reduceMul,Int.reduceLT,Int.reduceAdd,hg,t1,x1,w1,n1,v2,zDU]
 refine w_un (by omega) ?_
 simp (maxSteps:=2000000) (disch:=first | omega | assumption | (simp only [DS,Nat.reduceAdd, *]; done) | (simp only [DZ]; omega)) only [RUN,RU,zA2,zA1,reduceIte,Nat.reduceEqDiff,Nat.reduceMul,Int.reduceLT,Int.reduceAdd,hg,t2,x2,w2,n2,v3,zDU]
 refine w_un (by omega) ?_
 simp (maxSteps:=2000000) (disch:=first | omega | assumption | (simp only [DS,Nat.reduceAdd, *]; done) | (simp only [DZ]; omega)) only [RUN,RU,zA2,zA1,reduceIte,Nat.reduceEqDiff,zT0]
 refine zcE (d:=d) (n:=l0.length + l1.length + l2.length) wf (by omega) (by omega) ?_
 have sq0:=SlQ.fresh (X:=M) (st:=10) (T:=isRn) (n:=l0.length + l1.length + l2.length) (z:=zRn) wf rfl
 have wX:=wf.add (.row false (zAA zRn (l0.length + l1.length + l2.length)))
 have kX : ∀ j,j < M.size → (M.add (.row false (zAA zRn (l0.length + l1.length + l2.length)))).get j = M.get j:=fun j hj=>zAF wf _ _ hj
 have sX : (M.add (.row false (zAA zRn (l0.length + l1.length + l2.length)))).size = M.size + 1:=rfl
 have dX : (M.add (.row false (zAA zRn (l0.length + l1.length + l2.length)))).dirty = M.dirty:=rfl
 have vX : (M.add (.row false (zAA zRn (l0.length + l1.length + l2.length)))).wm = M.wm:=rfl
 generalize (M.add (.row false (zAA zRn (l0.length + l1.length + l2.length)))) = X at *
 have gX:=(kX id li).trans hg
 simp (maxSteps:=2000000) (disch:=first | omega | assumption | (simp only [DS,Nat.reduceAdd, *]; done) | (simp only [DZ]; omega)) only [RUN,RU,zA2,zA1,reduceIte,Nat.reduceEqDiff,h0,c3]
 refine w_un (by omega) ?_
 simp (maxSteps:=2000000) (disch:=first | omega | assumption | (simp only [DS,Nat.reduceAdd, *]; done) | (simp only [DZ]; omega)) only [RUN,RU,zA2,zA1,reduceIte,Nat.reduceEqDiff,Nat.reduceMul,Int.reduceLT,gX,t0,h0'.fz.rows]
 obtain ⟨r0,y0,z0,A0,R0⟩:=h0'.cells2 X
 refine SlQ.app (bytes:=80) wX sq0 y0 z0 A0 R0 zCV.cel (by omega) (by simp; omega) (by simp; omega) fun o' Y sq1 wY sY kY rY wmY diY=>?_
 have on1:=sq1.one
 have oc1:=sq1.cells
 have rl1:=sq1.rl (Nat.le_refl _)
 have ro1 : ∀ j,rowOf o' = some j → j = M.size:=fun j hj=>by rw [rY] at hj; cases hj; rfl
 have gY : Y.get id = some (.row false [a0,a1,a2]):=(kY id (fun e=>by cases e; omega)).trans gX
 have mY : ∀ j,j < M.size → Y.get j = M.get j:=fun j hj=>(kY j (fun e=>by cases e; omega)).trans (kX j hj)
 simp (maxSteps:=2000000) (disch:=first | omega | assumption | (simp only [DS,Nat.reduceAdd, *]; done) | (simp only [DZ]; omega)) only [RUN,RU,zA2,zA1,reduceIte,Nat.reduceEqDiff,Int.reduceAdd,v1,zDU]
 refine w_un (by omega) ?_
 have sm1 : SlM Y 10 isRn a1 l1:=h1'.keep fun j hj=>mY j (h1'.lt j hj)
 have rla:=zAU sm1.rl (Nat.le_refl _)
 simp (maxSteps:=2000000) (disch:=first | omega | assumption | (simp only [DS,Nat.reduceAdd, *]; done) | (simp only [DZ]; omega)) only [RUN,RU,zA2,zA1,reduceIte,Nat.reduceEqDiff,Nat.reduceMul,Int.reduceLT,gY,t1,rl1,rla]
 obtain ⟨r1,y1,z1,A1,R1⟩:=sm1.cells2
 refine SlQ.app (bytes:=80) wY sq1 y1 z1 A1 R1 zCV.cel (by omega) (by simp; omega) (by simp; omega) fun o2' Z sq2 wZ sZ kZ rZ wmZ diZ=>?_
 have on2:=sq2.one
 have oc2:=sq2.cells
 have rl2:=sq2.rl (Nat.le_refl _)
 have ro2 : ∀ j,rowOf o2' = some j → j = M.size:=fun j hj=>ro1 j (rZ ▸ hj)
 have gZ : Z.get id = some (.row false [a0,a1,a2]):=(kZ id (fun e=>by have:=ro1 _ e; omega)).trans gY
 have mZ : ∀ j,j < M.size → Z.get j = M.get j:=fun j hj=>(kZ j (fun e=>by have:=ro1 _ e; omega)).trans (mY j hj)
 simp (maxSteps:=2000000) (disch:=first | omega | assumption | (simp only [DS,Nat.reduceAdd, *]; done) | (simp only [DZ]; omega)) only [RUN,RU,zA2,zA1,reduceIte,Nat.reduceEqDiff,Int.reduceAdd,v2,zDU]
 refine w_un (by omega) ?_
 simp (maxSteps:=2000000) (disch:=first | omega | assumption | (simp only [DS,Nat.reduceAdd, *]; done) | (simp only [DZ]; omega)) only [RUN,RU,zA2,zA1,reduceIte,Nat.reduceEqDiff,Nat.reduceMul,Int.reduceLT,gZ,t2,rl2,h2'.fz.rows]
 obtain ⟨r2,y2,z2,A2,R2⟩:=h2'.cells2 Z
 refine SlQ.app (bytes:=80) wZ sq2 y2 z2 A2 R2 zCV.cel (by omega) (by simp; omega) (by simp; omega) fun o3' U sq3 wU sU kU rU wmU diU=>?_
 have on3:=sq3.one
 have oc3:=sq3.cells
 have rl3:=sq3.rl (Nat.le_refl _)
 have ro3 : ∀ j,rowOf o3' = some j → j = M.size:=fun j hj=>ro2 j (rU ▸ hj)
 have mU : ∀ j,j < M.size → U.get j = M.get j:=fun j hj=>(kU j (fun e=>by have:=ro2 _ e; omega)).trans (mZ j hj)
 simp (maxSteps:=2000000) (disch:=first | omega | assumption | (simp only [DS,Nat.reduceAdd, *]; done) | (simp only [DZ]; omega)) only [RUN,RU,zA2,zA1,reduceIte,Nat.reduceEqDiff,Int.reduceAdd,v3,zDU]
 refine w_un (by omega) ?_
 simp (maxSteps:=2000000) (disch:=first | omega | assumption | (simp only [DS,Nat.reduceAdd, *]; done) | (simp only [DZ]; omega)) only [RUN,RU,zA2,zA1,zA0,zAC,reduceIte,Nat.reduceEqDiff,zT0]
 have e0 : l0.length + l1.length + l2.length - l0.length - l1.length - l2.length = 0:=by omega
 rw [e0] at sq3
 have d1:=diY (fun j hj=>by cases hj; omega)
 have d2:=diZ (fun j hj=>by have:=ro1 j hj; omega)
 have d3:=diU (fun j hj=>by have:=ro2 j hj; omega)
 exact k o3' U (by have:=sq3.slm; simpa using this) ⟨wU,by omega,mU,by omega,d3.trans (d2.trans (d1.trans dX))⟩ (fun j hj=>by have:=ro3 j hj; omega) on3 oc3 rl3
end Go.Proofs.YtlknfleegdkolaaGreat
namespace Go.Proofs.YtlknfleegdkolaaGreat
open Go Go.Ax
variable {fuel : Nat} {M : Mem} {Q : AV → Mem → Prop} {d : Nat}
set_option maxHeartbeats 16000000 in
theorem zM6 {a : AV} {l : List Rn} {x : Eid} (hS : Sl 10 isRn a l) (hm : ∀ r ∈ l,r.may = true) (hx : x = Eid.z ∨ zBA l x ≠ none) (hl : l.length ≤ 9000) (hf : l.length + 100 < fuel) :
  ∃ r,Sl 10 isRn r (zB4 l x).1 ∧ ∀ M,zAE Tryz.prog (fsT tbl) fuel (d + 8) (.fn 48) [a,idA x] M = some (.tup [r,I64 (zB4 l x).2],M):=by
 have oa:=hS.one
 have la:=hS.len
 have hw:=fun M=>@zMT fuel (d + 1) a l x hS (by omega) (by omega) M
 refine zFS tf48 rfl (fun M=>by simp only [icyL,fun M=>hS.icy M 12 (by omega),zB3 (zEA x) (show 1 < 12 by omega)]) ?_
 refine zAJ tf48 rfl (by simp only [icyL,fun M=>hS.icy M 12 (by omega),zB3 (zEA x) (show 1 < 12 by omega)]) (by simp [a48]) fun b' ht hx=>?_
 have h0:=hx 0 _ rfl
 have h1:=hx 1 _ rfl
 clear hx
 simp only [a48,c48] at ht ⊢
 by_cases hz : x = Eid.z
 ·have q : decide (x = Eid.z) = true:=decide_eq_true hz
  have hpl : zB4 l x = (l,0):=by unfold zB4; rw [if_pos hz]
  rw [hpl]
  simp (maxSteps:=2000000) (disch:=first | omega | assumption | (simp only [DS,Nat.reduceAdd, *]; done) | (simp only [DZ]; omega)) only [RUN,RU,zA2,zA1,zA0,zAC,frzL,slot,zAI,reduceIte,Nat.reduceEqDiff,h0,h1,hS.fz.frz,↓pIdE,zAW,ETA,q]
  exact ⟨_,hS,rfl⟩
 ·have q : decide (x = Eid.z) = false:=decide_eq_false hz
  rcases hx with hx | hx
  ·exact absurd hx hz
  cases hwl : zBA l x with
  | none=>exact absurd hwl hx
  | some p =>
   obtain ⟨n,k⟩:=p
   obtain ⟨L1,o,L2,hle,hln,h1',h2',h3',h4'⟩:=zGP hwl
   rw [hwl] at hw
   simp only [wN,wK] at hw
   have hnl : n < l.length:=by rw [hle,List.length_append,List.length_cons]; omega
   obtain ⟨r,hiad,hr,hrl⟩:=hS.iad n hnl
   have hgo : l.getD n Rn.z = l[n]:=by rw [List.getD_eq_getElem?_getD,List.getElem?_eq_getElem hnl]; rfl
   have hpl : zB4 l x = if (l.getD n Rn.z).cutE (k + 1) = 0 then (l.take n ++ [(l.getD n Rn.z).fst (k + 1),(l.getD n Rn.z).snd (k + 1)] ++ l.drop (n + 1),n + 1) else (l,n + 1):=by unfold zB4; rw [if_neg hz]; simp only [hwl]
   rw [hpl,hgo]
   clear hpl
   have hom:=hm l[n] (List.getElem_mem hnl)
   have hro:=zaV hS l[n] (List.getElem_mem hnl)
   have hon : o = l[n]:=by simp [hle,← hln]
   have hln':=hon ▸ h3'
   generalize l[n] = e at *
   obtain ⟨ra,rfl,hra,_⟩:=hr
   have ora:=hra.one
   have hb:=Spn.may_le (Rn.may_sp hom)
   have w1 : IntKind.i64.wrap (k + 1) = k + 1:=by rw [wrap_i64] <;> omega
   have w2 : IntKind.i64.wrap ((n : Int) + 1) = ((n + 1 : Nat) : Int):=by rw [wrap_i64] <;> omega
   obtain ⟨v,⟨ca,cb,rfl,hca,hcb⟩,hcut⟩:=zGL (fuel:=fuel) (d:=d) (n:=k + 1) hra (by omega)
   have oca:=hca.one
   have ocb:=hcb.one
   by_cases hc : e.cutE (k + 1) = 0
   ·have q2 : decide (e.cutE (k + 1) = 0) = true:=decide_eq_true hc
    rw [if_pos hc]
    obtain ⟨r1,s1,b1⟩:=zb2 hS (j:=n) (by omega)
    obtain ⟨r2,s2,b2⟩:=zU0 hS (i:=n + 1) (by omega)
    have ob1:=b1.one
    have ob2:=b2.one
    have eA : e.cutA (k + 1) = e.fst (k + 1):=by unfold Rn.cutA; rw [if_pos hc]
    have eB : e.cutB (k + 1) = e.snd (k + 1):=by unfold Rn.cutB; rw [if_pos hc]
    have okA:=zY3 hro hc
    have okB:=zYU hro hc
    rw [eA] at hca hcut
    rw [eB] at hcb hcut
    generalize e.fst (k + 1) = eF at *
    generalize e.snd (k + 1) = eS at *
    have oca:=hca.one
    have ocb:=hcb.one
    simp (maxSteps:=2000000) (disch:=first | omega | assumption | (simp only [DS,Nat.reduceAdd, *]; done) | (simp only [DZ]; omega)) only [RUN,RU,zA2,zA1,slot,lay,zAI,zAA,reduceIte,Nat.reduceEqDiff,Nat.reduceBEq,Nat.reduceAdd,h0,h1,hS.fz.rows,↓pIdE,zAW,ETA,q,hw,hiad,w1,w2,hcut,q2,s1,s2,b1.fz.cells,b2.fz.cells,zCB]
    refine zRR (d:=d + 5) (id:=4) (a0:=r1) (a1:=.sl 3 0 2 (some 2) 10) (a2:=r2) (l1:=[eF,eS]) (by simp (maxSteps:=2000000) (disch:=first | omega | assumption | (simp only [DS,Nat.reduceAdd, *]; done) | (simp only [DZ]; omega)) only [RUN]) ?_ b1 (zU2 (zOV hca hcb okA okB) (by simp) rfl (.inr rfl) ?_) b2 (by simp) (by rw [List.length_take]; omega) (by simp) (by rw [List.length_drop]; omega) (by omega) (Nat.le_refl _) fun o' N sm kN nr on oc rl=>?_
    ·simp (maxSteps:=2000000) (disch:=first | omega | assumption | (simp only [DS,Nat.reduceAdd, *]; done) | (simp only [DZ]; omega)) only [RUN]
    ·simp (maxSteps:=2000000) (disch:=first | omega | assumption | (simp only [DS,Nat.reduceAdd, *]; done) | (simp only [DZ]; omega)) only [RUN]
     rfl
    ·have wN:=kN.wf
     have dN : N.dirty = false:=kN.di
     simp (maxSteps:=2000000) (disch:=first | omega | assumption | (simp only [DS,Nat.reduceAdd, *]; done) | (simp only [DZ]; omega)) only [RUN,RU,zA2,zA1,zA0,zAC,frzL,reduceIte,Nat.reduceEqDiff,Nat.reduceAdd,dN]
     obtain ⟨ro,hro2,hfr⟩:=zG6 sm zCV.cel 12 (by omega)
     rw [hfr _ (fun id h=>by simp (maxSteps:=2000000) (disch:=first | omega | assumption | (simp only [DS,Nat.reduceAdd, *]; done) | (simp only [DZ]; omega)) only [RUN])]
     exact ⟨ro,hro2,by rw [w2]⟩
   ·have q2 : decide (e.cutE (k + 1) = 0) = false:=decide_eq_false hc
    rw [if_neg hc]
    simp (maxSteps:=2000000) (disch:=first | omega | assumption | (simp only [DS,Nat.reduceAdd, *]; done) | (simp only [DZ]; omega)) only [RUN,RU,zA2,zA1,zA0,zAC,frzL,slot,lay,zAI,reduceIte,Nat.reduceEqDiff,Nat.reduceAdd,h0,h1,hS.fz.frz,↓pIdE,zAW,ETA,q,hw,hiad,w1,w2,hcut,q2]
    exact ⟨_,hS,rfl⟩
end Go.Proofs.YtlknfleegdkolaaGreat
namespace Go.Proofs.YtlknfleegdkolaaGreat
open Go Go.Ax
variable {fuel : Nat} {M : Mem} {Q : AV → Mem → Prop} {d : Nat}
theorem zOU {X : Mem} {o : AV} {r : List AV} {x : Rn} (wf : Wf X) (h : SlN X 10 isRn o []) (hx : isRn r x) (hr : r.length = 10)
  (k : ∀ o' M',SlM M' 10 isRn o' [x] → Wf M' → X.size ≤ M'.size → (∀ j,j < X.size → rowOf o ≠ some j → M'.get j = X.get j) → (∀ id,rowOf o' = some id → rowOf o = some id ∨ X.size ≤ id) → M'.wm = X.wm → Q o' M') :
  W3 (zAE Tryz.prog (fsT tbl) fuel (d + 1) (.fn 51) [o,I64 0,.sl X.size 0 1 (some 1) 10] (X.add (.row false r))) Q:=by
 have sm:=h.slm
 have oo:=sm.one
 have ol:=sm.len
 have z10 : decide ((1 : Int) = 0) = false:=rfl
 have ge : ∀ N,lenO N (.sl X.size 0 1 (some 1) 10) = some (I64 1,N):=fun _=>rfl
 have hs : ∀ N,(∀ j,rowOf o = some j → N.get j = X.get j) → ∃ v,slcO N 10 o (some (I64 0)) none none = some (v,N) ∧ oneA v = true:=fun N hN=>by
  rcases h with ⟨_,rfl | ⟨id,rfl,hg⟩⟩ | ⟨hn,_⟩
  ·exact ⟨_,rfl,rfl⟩
  ·exact ⟨_,rfl,rfl⟩
  ·exact absurd rfl hn
 obtain ⟨v,hsv,ov⟩:=hs (X.add (.row false r)) (fun j hj=>zAF wf _ _ (sm.lt j hj))
 refine zB1 tf51 rfl (by simp [a51]) fun b' ht hx=>?_
 have h0:=hx 0 _ rfl
 have h1:=hx 1 _ rfl
 have h2:=hx 2 _ rfl
 clear hx
 simp only [a51,c51] at ht ⊢
 have ol0 : ∀ N,lenO N o = some (I64 0,N):=ol
 have rlo:=zAU sm.rl (show X.size ≤ X.size + 1 by omega)
 simp (maxSteps:=2000000) (disch:=first | omega | assumption | (simp only [DS,Nat.reduceAdd, *]; done) | (simp only [DZ]; omega)) only [RUN,RU,zA2,zA1,reduceIte,Nat.reduceEqDiff,Int.reduceEq,h0,h1,h2,ol0,hsv,ge,rlo]
 refine app1 wf sm zCV (x:=x) hx hr (by omega) (by simp) (by simp) fun o' M' sm' w' le' kp nw wm' rl on oc=>?_
 simp (maxSteps:=2000000) (disch:=first | omega | assumption | (simp only [DS,Nat.reduceAdd, *]; done) | (simp only [DZ]; omega)) only [RUN,RU,zA2,zA1,zA0,zAC,reduceIte,Nat.reduceEqDiff]
 exact k o' M' sm' w' le' kp nw wm'
theorem zP4 {l : List Rn} {r : Rn} {n : Nat} (D : List Rn) (h : D = (l.drop n).takeWhile fun q=>r.sp.f.less q.sp.f) {i : Nat} (hi : i < D.length) (hn : n + i < l.length) : r.sp.f.less l[n + i].sp.f = true ∧ D[i] = l[n + i]:=by
 have h1 : D[i] ∈ (l.drop n).takeWhile fun q=>r.sp.f.less q.sp.f:=by rw [← h]; exact List.getElem_mem hi
 have h2:=List.all_eq_true.1 (List.all_takeWhile (l:=l.drop n) (p:=fun q=>r.sp.f.less q.sp.f)) _ h1
 have h3 : D[i] = l[n + i]:=by
  have hp : D <+: l.drop n:=by rw [h]; exact List.takeWhile_prefix _
  rw [hp.getElem hi,List.getElem_drop]
 rw [← h3]
 exact ⟨h2,rfl⟩
theorem zMM {l : List Rn} {x : Eid} {n : Nat} (h : zEY l x n < l.length) : x.less l[zEY l x n].sp.f = false:=by
 have hd : ((l.drop n).dropWhile fun q=>x.less q.sp.f) = l.drop (zEY l x n):=by
  have e:=List.takeWhile_append_dropWhile (p:=fun q : Rn=>x.less q.sp.f) (l:=l.drop n)
  have e2:=congrArg (List.drop ((l.drop n).takeWhile fun q=>x.less q.sp.f).length) e
  rw [List.drop_left,List.drop_drop] at e2
  exact e2
 have:=List.head?_dropWhile_not (fun q : Rn=>x.less q.sp.f) (l.drop n)
 rw [hd,List.drop_eq_getElem_cons h] at this
 exact this
theorem zTZ {l : List Rn} {x : Eid} {n : Nat} (hn : n ≤ l.length) : zEY l x n ≤ l.length:=by
 unfold zEY
 have:=(List.takeWhile_sublist (l:=l.drop n) (fun q : Rn=>x.less q.sp.f)).length_le
 rw [List.length_drop] at this
 omega
theorem zKJ (l : List Rn) (x : Eid) : (zB4 l x).1.length ≤ l.length + 2:=by
 unfold zB4
 split
 ·simp
 ·split
  ·simp
  ·split
   ·simp; omega
   ·simp
theorem zSY (l : List Rn) : (zBO l).length ≤ l.length:=by
 refine zCL (P:=fun l=>(zBO l).length ≤ l.length) (Nat.le_refl _) (fun l r ih=>?_) l
 rw [zLP]
 have:=zO9 (zBO l) r
 simp only [List.length_append,List.length_singleton]
 omega
theorem zW1 (l : List Rn) (r : Rn) : (insL l r).length ≤ l.length + 3:=by
 unfold insL
 refine Nat.le_trans (zSY _) ?_
 have:=zKJ l r.af
 simp only [List.length_append,List.length_take,List.length_drop,List.length_singleton]
 omega
noncomputable def insR (l : List Rn) (r : Rn) : List Rn:=if putE l r = 0 then insL l r else []
open Classical in
set_option maxHeartbeats 16000000 in
theorem zQG {a ra : AV} {l : List Rn} {x : Rn} (hS : Sl 10 isRn a l) (hR : Sl 1 zB7 ra x.rs) (hx : x.ok) (hl : l.length ≤ 900) (hf : 64 * l.length + 3011000 < fuel) : ∃ r,Sl 10 isRn r (insR l x) ∧ ∀ M,zAE Tryz.prog (fsT tbl) fuel (d + 11) (.fn 30) [a,.agg (rnR x ra)] M = some (.tup [r,I64 (putE l x)],M):=by
 have oa:=hS.one
 have ora:=hR.one
 have hck:=fun M=>@zRO fuel d a l hS (by omega) (by omega) M
 have hcx:=fun M=>@zC0 fuel (d + 4) x ra hR (by omega) M
 refine zFS tf30 rfl (fun M=>by simp only [icyL,fun M=>hS.icy M 12 (by omega),zCG hR.fz]) ?_
 refine zAJ tf30 rfl (by simp only [icyL,fun M=>hS.icy M 12 (by omega),zCG hR.fz]) (by simp [a30]) fun b' ht hx=>?_
 have h0:=hx 0 _ rfl
 have h1:=hx 1 _ rfl
 clear hx
 simp only [a30,c30] at ht ⊢
 have hiE : putE l x = if zEZ l = true ∧ x.may = true then (if x.af ≠ Eid.z ∧ zBA l x.af = none then 6 else if ∃ i : Nat,(i : Int) < x.sp.n ∧ zBA l (x.sp.at i) ≠ none then 2 else if 8192 < zB0 l + x.sp.n then 4 else 0) else 8:=by
  unfold putE
  simp only [zMO]
 by_cases h8 : zEZ l = true ∧ x.may = true
 ·rw [if_pos h8] at hiE
  obtain ⟨htb,hxm⟩:=h8
  have hok:=zMO.1 htb
  rw [htb] at hck
  rw [hxm] at hcx
  have hwh:=fun y M=>@zMT fuel (d + 4) a l y hS (by omega) (by omega) M
  have hwa:=fun M=>hwh x.af M
  have hb:=Spn.may_le (Rn.may_sp hxm)
  obtain ⟨m,hmn⟩ : ∃ m : Nat,x.sp.n = m:=⟨x.sp.n.toNat,by omega⟩
  have ia : ∀ i : Nat,i < m → ∀ M,zAE Tryz.prog (fsT tbl) fuel (d + 10) (.fn 46) [spA x.sp,I64 i] M = some (.tup [idA (x.sp.at i),I64 0],M):=fun i hi M=>by
   have:=@zHX fuel (d + 5) x.sp i M
   rw [if_pos (Rn.may_sp hxm),if_neg (by omega)] at this
   exact this
  have qn1 : decide ((-1 : Int) < 0) = true:=rfl
  have qg1 : decide ((0 : Int) ≤ -1) = false:=rfl
  by_cases h6 : x.af ≠ Eid.z ∧ zBA l x.af = none
  ·have e6 : putE l x = 6:=by rw [hiE,if_pos h6]
   have er : insR l x = []:=by unfold insR; rw [e6]; rfl
   rw [e6,er]
   have q : decide (x.af = Eid.z) = false:=decide_eq_false h6.1
   rw [h6.2] at hwa
   simp (maxSteps:=2000000) (disch:=first | omega | assumption | (simp only [DS,Nat.reduceAdd, *]; done) | (simp only [DZ]; omega)) only [RUN,RU,zA2,zA1,zA0,zAC,frzL,slot,zAI,reduceIte,Nat.reduceEqDiff,Nat.reduceBEq,Nat.reduceAdd,Int.reduceLT,h0,h1,hck,hcx,IMX,zB2,zD9,BMM,hwa,wN,wK,↓pIdN,zBC,ETA,q]
   exact ⟨NIL,.inl ⟨rfl,rfl⟩,rfl⟩
  ·rw [if_neg h6] at hiE
   have hx6 : x.af = Eid.z ∨ zBA l x.af ≠ none:=by
    by_cases h : x.af = Eid.z
    ·exact .inl h
    ·exact .inr fun k=>h6 ⟨h,k⟩
   have step : ∃ b : Bool,(decide ((wN (zBA l x.af)) < 0) = b) ∧ (b = true → decide (x.af = Eid.z) = true):=by
    refine ⟨_,rfl,fun hb=>?_⟩
    rcases hx6 with h | h
    ·exact decide_eq_true h
    ·cases hw : zBA l x.af with
     | none=>exact absurd hw h
     | some p =>
      have hb:=of_decide_eq_true hb
      rw [hw] at hb
      simp only [wN] at hb
      omega
   obtain ⟨b6,hb6,hb6'⟩:=step
   have main : ∀ (b6 : Bool),decide ((wN (zBA l x.af)) < 0) = b6 → (b6 = true → decide (x.af = Eid.z) = true) → True:=fun _ _ _=>trivial
   clear main
   cases b6 with
   | true =>
    have q:=hb6' rfl
    simp (maxSteps:=2000000) (disch:=first | omega | assumption | (simp only [DS,Nat.reduceAdd, *]; done) | (simp only [DZ]; omega)) only [RUN,RU,zA2,zA1,slot,zAI,reduceIte,Nat.reduceEqDiff,Nat.reduceBEq,Nat.reduceAdd,h0,h1,hck,hcx,IMX,zB2,zD9,BMM,hwa,hb6,↓pIdN,zBC,ETA,q]
    refine zBG (I:=fun n t N => ∃ (i : Nat),n = m - i ∧ i ≤ m ∧ nth zA6 t 0 = a ∧ nth zA6 t 3 = .ptr 0 0 ∧ nth zA6 t 40 = I64 m ∧ nth zA6 t 41 = I64 i ∧ Wf N ∧ N.get 0 = some (.row false (rnR x ra)) ∧ (∀ j,j < i → zBA l (x.sp.at (j : Nat)) = none) ∧ N.size ≤ i + 1) (n:=m) (by omega) ?_ ?_
    ·refine ⟨0,rfl,Nat.zero_le _, ?_, ?_, ?_, ?_,Wf.mem0.add _,by simp (maxSteps:=2000000) (disch:=first | omega | assumption | (simp only [DS,Nat.reduceAdd, *]; done) | (simp only [DZ]; omega)) only [RUN],(fun _ h=>absurd h (by omega)),Nat.le_refl _⟩ <;> simp (maxSteps:=2000000) (disch:=first | omega | assumption | (simp only [DS,Nat.reduceAdd, *]; done) | (simp only [DZ]; omega)) only [RUN,reduceIte,Nat.reduceEqDiff,h0,hmn]
     all_goals first | rfl | assumption | done
    ·rintro n t N hlt ⟨i,rfl,hi,g0,g3,g40,g41,w,g,hj,sz⟩
     simp only [ht] at hlt ⊢
     have lg:=Mem.get_lt g
     by_cases hc : i < m
     ·have q1 : decide ((i : Int) < m) = true:=decide_eq_true (by omega)
      have w1 : IntKind.i64.wrap ((i : Int) + 1) = ((i + 1 : Nat) : Int):=by rw [wrap_i64] <;> omega
      have iai:=ia i hc
      have hwi:=hwh (x.sp.at (i : Nat))
      cases hwl : zBA l (x.sp.at (i : Nat)) with
      | some p =>
       have e2 : putE l x = 2:=by rw [hiE,if_pos ⟨i,by omega,by rw [hwl]; simp⟩]
       have er : insR l x = []:=by unfold insR; rw [e2]; rfl
       rw [hwl] at hwi
       have qp : decide ((0 : Int) ≤ ((p.1 : Nat) : Int)) = true:=decide_eq_true (by omega)
       rw [e2,er]
       simp (maxSteps:=2000000) (disch:=first | omega | assumption | (simp only [DS,Nat.reduceAdd, *]; done) | (simp only [DZ]; omega)) only [RUN,RU,zA2,zA1,zA0,zAC,frzL,slot,lay,reduceIte,Nat.reduceEqDiff,Nat.reduceAdd,g0,g3,g40,g41,q1,iai,g,hwi,wN,wK,qp]
       exact ⟨NIL,.inl ⟨rfl,rfl⟩,rfl⟩
      | none =>
       rw [hwl] at hwi
       simp (maxSteps:=2000000) (disch:=first | omega | assumption | (simp only [DS,Nat.reduceAdd, *]; done) | (simp only [DZ]; omega)) only [RUN,RU,zA2,zA1,slot,lay,reduceIte,Nat.reduceEqDiff,Nat.reduceAdd,Nat.reduceLeDiff,Int.reduceLE,g0,g3,g40,g41,q1,iai,g,w,hwi,wN,wK,w1]
       refine ⟨hlt,m - (i + 1),by omega,i + 1,rfl,by omega,rfl,fun j hj'=>?_,by omega⟩
       rcases Nat.lt_succ_iff_lt_or_eq.1 hj' with h | rfl
       ·exact hj j h
       ·exact hwl
     ·obtain rfl : i = m:=by omega
      have q1 : decide ((i : Int) < i) = false:=decide_eq_false (by omega)
      have hno : ¬∃ j : Nat,(j : Int) < x.sp.n ∧ zBA l (x.sp.at j) ≠ none:=fun ⟨j,h1,h2⟩=>h2 (hj j (by omega))
      rw [if_neg hno] at hiE
      have hct:=fun M=>@zHT fuel (d + 9) a l hS hok.1 (by omega) (by omega) M
      have hcl:=zEE hok.1
      have w2 : IntKind.i64.wrap (zB0 l + x.sp.n) = zB0 l + x.sp.n:=by rw [wrap_i64] <;> omega
      by_cases h4 : 8192 < zB0 l + x.sp.n
      ·have e4 : putE l x = 4:=by rw [hiE,if_pos h4]
       have er : insR l x = []:=by unfold insR; rw [e4]; rfl
       have q4 : decide (8192 < zB0 l + x.sp.n) = true:=decide_eq_true h4
       rw [e4,er]
       simp (maxSteps:=2000000) (disch:=first | omega | assumption | (simp only [DS,Nat.reduceAdd, *]; done) | (simp only [DZ]; omega)) only [RUN,RU,zA2,zA1,zA0,zAC,frzL,reduceIte,Nat.reduceEqDiff,Nat.reduceBEq,Nat.reduceAdd,g0,g3,g40,g41,g,hct,w2,q4]
       exact ⟨NIL,.inl ⟨rfl,rfl⟩,rfl⟩
      ·have e0 : putE l x = 0:=by rw [hiE,if_neg h4]
       have er : insR l x = insL l x:=by unfold insR; rw [if_pos e0]
       have q4 : decide (8192 < zB0 l + x.sp.n) = false:=decide_eq_false h4
       obtain ⟨r',hr',hpart⟩:=zM6 (fuel:=fuel) (d:=d + 2) hS hok.1 hx6 (by omega) (by omega)
       obtain ⟨p1,p2,p3,p4⟩:=zNN hok.1 hx6
       have hpl:=zKJ l x.af
       have hsk:=zTZ (x:=x.sp.f) p1
       have hss:=fun h=>@zMM (zB4 l x.af).1 x.sp.f (zB4 l x.af).2 h
       have hmt:=fun D hD i=>@zP4 (zB4 l x.af).1 x (zB4 l x.af).2 D hD i
       have eL : insL l x = zBO ((zB4 l x.af).1.take (zEY (zB4 l x.af).1 x.sp.f (zB4 l x.af).2) ++ [x] ++ (zB4 l x.af).1.drop (zEY (zB4 l x.af).1 x.sp.f (zB4 l x.af).2)):=rfl
       unfold zEY at hsk hss eL
       rw [e0,er,eL]
       generalize hD : ((zB4 l x.af).1.drop (zB4 l x.af).2).takeWhile (fun q=>x.sp.f.less q.sp.f) = D at *
       have hmt:=fun i=>hmt D rfl (i:=i)
       generalize (zB4 l x.af).1 = l' at *
       generalize (zB4 l x.af).2 = n0 at *
       have or':=hr'.one
       have lr':=hr'.len
       simp (maxSteps:=2000000) (disch:=first | omega | assumption | (simp only [DS,Nat.reduceAdd, *]; done) | (simp only [DZ]; omega)) only [RUN,RU,zA2,zA1,slot,reduceIte,Nat.reduceEqDiff,Nat.reduceBEq,Nat.reduceAdd,g0,g3,g40,g41,g,hct,w2,q4,hpart]
       refine zBG (I:=fun n2 t2 N2 => ∃ (i2 : Nat),n2 = l'.length - n0 - i2 ∧ i2 ≤ l'.length - n0 ∧ nth zA6 t2 0 = r' ∧ nth zA6 t2 3 = .ptr 0 0 ∧ nth zA6 t2 14 = I64 ((n0 + i2 : Nat) : Int) ∧ Wf N2 ∧ N2.size ≤ 70 ∧ N2.get 0 = some (.row false (rnR x ra)) ∧ i2 ≤ D.length) (n:=l'.length - n0) (by omega) ?_ ?_
       ·refine ⟨0,rfl,Nat.zero_le _, ?_, ?_, ?_,w,by omega,g,Nat.zero_le _⟩ <;> simp (maxSteps:=2000000) (disch:=first | omega | assumption | (simp only [DS,Nat.reduceAdd, *]; done) | (simp only [DZ]; omega)) only [RUN,RU,reduceIte,Nat.reduceEqDiff,g0,g3]
        all_goals first | rfl | assumption | done
       ·rintro n2 t2 N2 hlt2 ⟨i2,rfl,hi2,g20,g23,g214,wf2,sz2,gg,hi2⟩
        simp only [hlt] at hlt2 ⊢
        have lgg:=Mem.get_lt gg
        by_cases hc2 : n0 + i2 < l'.length
        ·have q2 : decide (((n0 + i2 : Nat) : Int) < l'.length) = true:=decide_eq_true (by omega)
         have w3 : IntKind.i64.wrap (((n0 + i2 : Nat) : Int) + 1) = ((n0 + (i2 + 1) : Nat) : Int):=by rw [wrap_i64] <;> omega
         obtain ⟨r2,hiad2,hre,hrl2⟩:=hr'.iad (n0 + i2) hc2
         by_cases hd2 : i2 < D.length
         ·have hlt3:=(hmt i2 hd2 hc2).1
          generalize l'[n0 + i2] = e2 at *
          obtain ⟨rb,rfl,hrb,_⟩:=hre
          have orb:=hrb.one
          have hls:=fun M=>@zET fuel (d + 8) x.sp.f e2.sp.f M
          rw [hlt3] at hls
          simp (maxSteps:=2000000) (disch:=first | omega | assumption | (simp only [DS,Nat.reduceAdd, *]; done) | (simp only [DZ]; omega)) only [RUN,RU,zA2,zA1,slot,reduceIte,Nat.reduceEqDiff,Nat.reduceBEq,Nat.reduceAdd,g20,g23,g214,q2,lr',hiad2,gg,wf2,hls,w3]
          exact ⟨hlt2,l'.length - n0 - (i2 + 1),by omega,i2 + 1,rfl,by omega,rfl,by omega⟩
         ·obtain rfl : i2 = D.length:=by omega
          have hlt3:=hss hc2
          generalize l'[n0 + D.length] = e2 at *
          obtain ⟨rb,rfl,hrb,_⟩:=hre
          have orb:=hrb.one
          have hls:=fun M=>@zET fuel (d + 8) x.sp.f e2.sp.f M
          rw [hlt3] at hls
          simp (maxSteps:=2000000) (disch:=first | omega | assumption | (simp only [DS,Nat.reduceAdd, *]; done) | (simp only [DZ]; omega)) only [RUN,RU,zA2,slot,reduceIte,Nat.reduceEqDiff,Nat.reduceBEq,Nat.reduceAdd,g20,g23,g214,q2,lr',hiad2,gg,hls]
          refine zJS zCV.cel tf52 Tryz.underlying55 hr' (by omega) (by omega) (by simp (maxSteps:=2000000) (disch:=first | omega | assumption | (simp only [DS,Nat.reduceAdd, *]; done) | (simp only [DZ]; omega)) only [RUN,wf2]) fun o3 M3 wf3 le3 kp3 sn3 nr3 wm3 di3 sz3=>?_
          have hd3 : M3.dirty = false:=di3
          have z0 : M3.get 0 = some (.row false (rnR x ra)):=(kp3 0 lgg).trans gg
          have lz0:=Mem.get_lt z0
          have sm3:=sn3.slm
          have on3:=sm3.one
          have oc3:=sm3.cells
          have rl3:=zAU sm3.rl (Nat.le_refl M3.size)
          have rl3':=zAU sm3.rl (Nat.le_succ M3.size)
          simp (maxSteps:=2000000) (disch:=first | omega | assumption | (simp only [DS,Nat.reduceAdd, *]; done) | (simp only [DZ]; omega)) only [RUN,RU,zA2,slot,lay,zAI,zAA,reduceIte,Nat.reduceEqDiff,Nat.reduceBEq,Nat.reduceAdd,g23,g214,hd3,z0,zXS,zCB]
          have sz3' : M3.size ≤ N2.size + 2:=sz3
          have hb0 : Nat.ble N2.size 0 = false:=by
           cases hb : Nat.ble N2.size 0 with
           | false=>rfl
           | true=>have:=Nat.le_of_ble_eq_true hb; omega
          refine ⟨by simp [zBW,FP.apart,FP.reads,FP.writes,hb0],by simp [zBW,FP.apart,FP.reads,FP.writes], ?_⟩
          have eX : ((N2.bk M3).add (.row false (rnR x ra))).lo = (⟨M3.t,M3.size,M3.size + 1,false⟩ : Mem).add (.row false (rnR x ra)):=rfl
          show W3 (insO _ (((N2.bk M3).add (.row false (rnR x ra))).lo) 51 10 80 o3 (I64 ((n0 + D.length : Nat) : Int)) (.sl M3.size 0 1 (some 1) 10)) _
          rw [eX]
          have wX : Wf (⟨M3.t,M3.size,M3.size + 1,false⟩ : Mem):=wf3
          have sX : (⟨M3.t,M3.size,M3.size + 1,false⟩ : Mem).size = M3.size:=rfl
          have snX : SlN (⟨M3.t,M3.size,M3.size + 1,false⟩ : Mem) 10 isRn o3 l':=sn3
          generalize (⟨M3.t,M3.size,M3.size + 1,false⟩ : Mem) = X3 at *
          have key : W3 (insO (zAE Tryz.prog (fsT tbl) fuel (d + 10)) (X3.add (.row false (rnR x ra))) 51 10 80 o3 (I64 ((n0 + D.length : Nat) : Int)) (.sl M3.size 0 1 (some 1) 10)) (fun o4 M4=>SlM M4 10 isRn o4 (l'.take (n0 + D.length) ++ [x] ++ l'.drop (n0 + D.length)) ∧ Wf M4):=by
           rw [← sX]
           by_cases hz : l' = []
           ·subst hz
            have e0 : n0 + D.length = 0:=by simp only [List.length_nil] at hsk; omega
            rw [e0]
            have hc0 : ((0 : Nat) : Int) = 0:=rfl
            rw [hc0]
            have h0' : W3 (zAE Tryz.prog (fsT tbl) fuel (d + 10) (.fn 51) [o3,I64 0,.sl X3.size 0 1 (some 1) 10] (X3.add (.row false (rnR x ra)))) (fun o4 M4=>SlM M4 10 isRn o4 [x] ∧ Wf M4):=zOU (d:=d + 9) wX snX ⟨ra,rfl,hR,hx⟩ rfl (fun o' M' a b _ _ _ _=>⟨a,b⟩)
            have e1 : insO (zAE Tryz.prog (fsT tbl) fuel (d + 10)) (X3.add (.row false (rnR x ra))) 51 10 80 o3 (I64 0) (.sl X3.size 0 1 (some 1) 10) = zAE Tryz.prog (fsT tbl) fuel (d + 10) (.fn 51) [o3,I64 0,.sl X3.size 0 1 (some 1) 10] (X3.add (.row false (rnR x ra))):=by
             rcases snX with ⟨_,rfl | ⟨id,rfl,_⟩⟩ | ⟨hn,_⟩
             ·exact zKB ..
             ·exact zKA ..
             ·exact absurd rfl hn
            rw [e1]
            exact h0'
           ·exact snX.ins (bytes:=80) (g:=51) wX hz zCV.cel ⟨ra,rfl,hR,hx⟩ rfl (by omega) (by omega) (by omega) (by omega) (by omega) fun o' M' a b _ _ _=>⟨a,b⟩
          obtain ⟨o4,M4,he4,sm4,wf4⟩:=key
          rw [he4]
          clear he4 eX hmt hss snX sn3 sm3 kp3 hno hwh hwa hck hcx hcl ia hj hpart hct
          have on4:=sm4.one
          have oc4:=sm4.cells
          have rl4:=zAU sm4.rl (Nat.le_refl M4.size)
          simp (maxSteps:=2000000) (disch:=first | omega | assumption | (simp only [DS,Nat.reduceAdd, *]; done) | (simp only [DZ]; omega)) only [RUN,RU,zA2,reduceIte,Nat.reduceEqDiff,Nat.reduceAdd]
          refine zL1 (n:=d + 9) (R:=fun r=>Sl 10 isRn r (zBO (l'.take (n0 + D.length) ++ [x] ++ l'.drop (n0 + D.length)))) tf50 rfl (sm4.keep fun _ _=>rfl) (show Wf _ from wf4) zCV (fun a' ha'=>?_) fun r X' hr wX' sX' kX'=>?_
          ·refine zFW (d:=d + 1) ha' (by simp only [List.length_append,List.length_take,List.length_drop,List.length_singleton]; omega) (fun q hq=>?_) (by simp only [List.length_append,List.length_take,List.length_drop,List.length_singleton]; omega)
           have hq64 : q.rs.length ≤ 64:=by
            rcases List.mem_append.1 hq with hq | hq
            ·rcases List.mem_append.1 hq with hq | hq
             ·exact zF0 p2 q (List.mem_of_mem_take hq)
             ·rw [List.mem_singleton] at hq; subst hq
              exact (Rn.may_iff.1 hxm).2.2.2.1
            ·exact zF0 p2 q (List.mem_of_mem_drop hq)
           omega
          ·have orr:=hr.one
           simp (maxSteps:=2000000) (disch:=first | omega | assumption | (simp only [DS,Nat.reduceAdd, *]; done) | (simp only [DZ]; omega)) only [RUN,RU,zA2,zA0,zAC,frzL,reduceIte,Nat.reduceEqDiff,Nat.reduceAdd,hr.fz.frz,zCB]
           exact ⟨r,hr,rfl⟩
        ·obtain rfl : i2 = D.length:=by omega
         have q2 : decide (((n0 + D.length : Nat) : Int) < l'.length) = false:=decide_eq_false (by omega)
         simp (maxSteps:=2000000) (disch:=first | omega | assumption | (simp only [DS,Nat.reduceAdd, *]; done) | (simp only [DZ]; omega)) only [RUN,RU,zA2,reduceIte,Nat.reduceEqDiff,Nat.reduceBEq,Nat.reduceAdd,g20,g214,q2,lr']
         refine zJS zCV.cel tf52 Tryz.underlying55 hr' (by omega) (by omega) (by simp (maxSteps:=2000000) (disch:=first | omega | assumption | (simp only [DS,Nat.reduceAdd, *]; done) | (simp only [DZ]; omega)) only [RUN,wf2]) fun o3 M3 wf3 le3 kp3 sn3 nr3 wm3 di3 sz3=>?_
         have hd3 : M3.dirty = false:=di3
         have z0 : M3.get 0 = some (.row false (rnR x ra)):=(kp3 0 lgg).trans gg
         have lz0:=Mem.get_lt z0
         have sm3:=sn3.slm
         have on3:=sm3.one
         have oc3:=sm3.cells
         have rl3:=zAU sm3.rl (Nat.le_refl M3.size)
         have rl3':=zAU sm3.rl (Nat.le_succ M3.size)
         simp (maxSteps:=2000000) (disch:=first | omega | assumption | (simp only [DS,Nat.reduceAdd, *]; done) | (simp only [DZ]; omega)) only [RUN,RU,zA2,slot,lay,zAI,zAA,reduceIte,Nat.reduceEqDiff,Nat.reduceBEq,Nat.reduceAdd,g23,g214,hd3,z0,zXS,zCB]
         have sz3' : M3.size ≤ N2.size + 2:=sz3
         have hb0 : Nat.ble N2.size 0 = false:=by
          cases hb : Nat.ble N2.size 0 with
          | false=>rfl
          | true=>have:=Nat.le_of_ble_eq_true hb; omega
         refine ⟨by simp [zBW,FP.apart,FP.reads,FP.writes,hb0],by simp [zBW,FP.apart,FP.reads,FP.writes], ?_⟩
         have eX : ((N2.bk M3).add (.row false (rnR x ra))).lo = (⟨M3.t,M3.size,M3.size + 1,false⟩ : Mem).add (.row false (rnR x ra)):=rfl
         show W3 (insO _ (((N2.bk M3).add (.row false (rnR x ra))).lo) 51 10 80 o3 (I64 ((n0 + D.length : Nat) : Int)) (.sl M3.size 0 1 (some 1) 10)) _
         rw [eX]
         have wX : Wf (⟨M3.t,M3.size,M3.size + 1,false⟩ : Mem):=wf3
         have sX : (⟨M3.t,M3.size,M3.size + 1,false⟩ : Mem).size = M3.size:=rfl
         have snX : SlN (⟨M3.t,M3.size,M3.size + 1,false⟩ : Mem) 10 isRn o3 l':=sn3
         generalize (⟨M3.t,M3.size,M3.size + 1,false⟩ : Mem) = X3 at *
         have key : W3 (insO (zAE Tryz.prog (fsT tbl) fuel (d + 10)) (X3.add (.row false (rnR x ra))) 51 10 80 o3 (I64 ((n0 + D.length : Nat) : Int)) (.sl M3.size 0 1 (some 1) 10)) (fun o4 M4=>SlM M4 10 isRn o4 (l'.take (n0 + D.length) ++ [x] ++ l'.drop (n0 + D.length)) ∧ Wf M4):=by
          rw [← sX]
          by_cases hz : l' = []
          ·subst hz
           have e0 : n0 + D.length = 0:=by simp only [List.length_nil] at hsk; omega
           rw [e0]
           have hc0 : ((0 : Nat) : Int) = 0:=rfl
           rw [hc0]
           have h0' : W3 (zAE Tryz.prog (fsT tbl) fuel (d + 10) (.fn 51) [o3,I64 0,.sl X3.size 0 1 (some 1) 10] (X3.add (.row false (rnR x ra)))) (fun o4 M4=>SlM M4 10 isRn o4 [x] ∧ Wf M4):=zOU (d:=d + 9) wX snX ⟨ra,rfl,hR,hx⟩ rfl (fun o' M' a b _ _ _ _=>⟨a,b⟩)
           have e1 : insO (zAE Tryz.prog (fsT tbl) fuel (d + 10)) (X3.add (.row false (rnR x ra))) 51 10 80 o3 (I64 0) (.sl X3.size 0 1 (some 1) 10) = zAE Tryz.prog (fsT tbl) fuel (d + 10) (.fn 51) [o3,I64 0,.sl X3.size 0 1 (some 1) 10] (X3.add (.row false (rnR x ra))):=by
            rcases snX with ⟨_,rfl | ⟨id,rfl,_⟩⟩ | ⟨hn,_⟩
            ·exact zKB ..
            ·exact zKA ..
            ·exact absurd rfl hn
           rw [e1]
           exact h0'
          ·exact snX.ins (bytes:=80) (g:=51) wX hz zCV.cel ⟨ra,rfl,hR,hx⟩ rfl (by omega) (by omega) (by omega) (by omega) (by omega) fun o' M' a b _ _ _=>⟨a,b⟩
         obtain ⟨o4,M4,he4,sm4,wf4⟩:=key
         rw [he4]
         clear he4 eX hmt hss snX sn3 sm3 kp3 hno hwh hwa hck hcx hcl ia hj hpart hct
         have on4:=sm4.one
         have oc4:=sm4.cells
         have rl4:=zAU sm4.rl (Nat.le_refl M4.size)
         simp (maxSteps:=2000000) (disch:=first | omega | assumption | (simp only [DS,Nat.reduceAdd, *]; done) | (simp only [DZ]; omega)) only [RUN,RU,zA2,reduceIte,Nat.reduceEqDiff,Nat.reduceAdd]
         refine zL1 (n:=d + 9) (R:=fun r=>Sl 10 isRn r (zBO (l'.take (n0 + D.length) ++ [x] ++ l'.drop (n0 + D.length)))) tf50 rfl (sm4.keep fun _ _=>rfl) (show Wf _ from wf4) zCV (fun a' ha'=>?_) fun r X' hr wX' sX' kX'=>?_
         ·refine zFW (d:=d + 1) ha' (by simp only [List.length_append,List.length_take,List.length_drop,List.length_singleton]; omega) (fun q hq=>?_) (by simp only [List.length_append,List.length_take,List.length_drop,List.length_singleton]; omega)
          have hq64 : q.rs.length ≤ 64:=by
           rcases List.mem_append.1 hq with hq | hq
           ·rcases List.mem_append.1 hq with hq | hq
            ·exact zF0 p2 q (List.mem_of_mem_take hq)
            ·rw [List.mem_singleton] at hq; subst hq
             exact (Rn.may_iff.1 hxm).2.2.2.1
           ·exact zF0 p2 q (List.mem_of_mem_drop hq)
          omega
         ·have orr:=hr.one
          simp (maxSteps:=2000000) (disch:=first | omega | assumption | (simp only [DS,Nat.reduceAdd, *]; done) | (simp only [DZ]; omega)) only [RUN,RU,zA2,zA0,zAC,frzL,reduceIte,Nat.reduceEqDiff,Nat.reduceAdd,hr.fz.frz,zCB]
          exact ⟨r,hr,rfl⟩
   | false =>
    simp (maxSteps:=2000000) (disch:=first | omega | assumption | (simp only [DS,Nat.reduceAdd, *]; done) | (simp only [DZ]; omega)) only [RUN,RU,zA2,zA1,slot,reduceIte,Nat.reduceEqDiff,Nat.reduceBEq,Nat.reduceAdd,h0,h1,hck,hcx,IMX,zB2,zD9,BMM,hwa,hb6]
    refine zBG (I:=fun n t N => ∃ (i : Nat),n = m - i ∧ i ≤ m ∧ nth zA6 t 0 = a ∧ nth zA6 t 3 = .ptr 0 0 ∧ nth zA6 t 40 = I64 m ∧ nth zA6 t 41 = I64 i ∧ Wf N ∧ N.get 0 = some (.row false (rnR x ra)) ∧ (∀ j,j < i → zBA l (x.sp.at (j : Nat)) = none) ∧ N.size ≤ i + 1) (n:=m) (by omega) ?_ ?_
    ·refine ⟨0,rfl,Nat.zero_le _, ?_, ?_, ?_, ?_,Wf.mem0.add _,by simp (maxSteps:=2000000) (disch:=first | omega | assumption | (simp only [DS,Nat.reduceAdd, *]; done) | (simp only [DZ]; omega)) only [RUN],(fun _ h=>absurd h (by omega)),Nat.le_refl _⟩ <;> simp (maxSteps:=2000000) (disch:=first | omega | assumption | (simp only [DS,Nat.reduceAdd, *]; done) | (simp only [DZ]; omega)) only [RUN,reduceIte,Nat.reduceEqDiff,h0,hmn]
     all_goals first | rfl | assumption | done
    ·rintro n t N hlt ⟨i,rfl,hi,g0,g3,g40,g41,w,g,hj,sz⟩
     simp only [ht] at hlt ⊢
     have lg:=Mem.get_lt g
     by_cases hc : i < m
     ·have q1 : decide ((i : Int) < m) = true:=decide_eq_true (by omega)
      have w1 : IntKind.i64.wrap ((i : Int) + 1) = ((i + 1 : Nat) : Int):=by rw [wrap_i64] <;> omega
      have iai:=ia i hc
      have hwi:=hwh (x.sp.at (i : Nat))
      cases hwl : zBA l (x.sp.at (i : Nat)) with
      | some p =>
       have e2 : putE l x = 2:=by rw [hiE,if_pos ⟨i,by omega,by rw [hwl]; simp⟩]
       have er : insR l x = []:=by unfold insR; rw [e2]; rfl
       rw [hwl] at hwi
       have qp : decide ((0 : Int) ≤ ((p.1 : Nat) : Int)) = true:=decide_eq_true (by omega)
       rw [e2,er]
       simp (maxSteps:=2000000) (disch:=first | omega | assumption | (simp only [DS,Nat.reduceAdd, *]; done) | (simp only [DZ]; omega)) only [RUN,RU,zA2,zA1,zA0,zAC,frzL,slot,lay,reduceIte,Nat.reduceEqDiff,Nat.reduceAdd,g0,g3,g40,g41,q1,iai,g,hwi,wN,wK,qp]
       exact ⟨NIL,.inl ⟨rfl,rfl⟩,rfl⟩
      | none =>
       rw [hwl] at hwi
       simp (maxSteps:=2000000) (disch:=first | omega | assumption | (simp only [DS,Nat.reduceAdd, *]; done) | (simp only [DZ]; omega)) only [RUN,RU,zA2,zA1,slot,lay,reduceIte,Nat.reduceEqDiff,Nat.reduceAdd,Nat.reduceLeDiff,Int.reduceLE,g0,g3,g40,g41,q1,iai,g,w,hwi,wN,wK,w1]
       refine ⟨hlt,m - (i + 1),by omega,i + 1,rfl,by omega,rfl,fun j hj'=>?_,by omega⟩
       rcases Nat.lt_succ_iff_lt_or_eq.1 hj' with h | rfl
       ·exact hj j h
       ·exact hwl
     ·obtain rfl : i = m:=by omega
      have q1 : decide ((i : Int) < i) = false:=decide_eq_false (by omega)
      have hno : ¬∃ j : Nat,(j : Int) < x.sp.n ∧ zBA l (x.sp.at j) ≠ none:=fun ⟨j,h1,h2⟩=>h2 (hj j (by omega))
      rw [if_neg hno] at hiE
      have hct:=fun M=>@zHT fuel (d + 9) a l hS hok.1 (by omega) (by omega) M
      have hcl:=zEE hok.1
      have w2 : IntKind.i64.wrap (zB0 l + x.sp.n) = zB0 l + x.sp.n:=by rw [wrap_i64] <;> omega
      by_cases h4 : 8192 < zB0 l + x.sp.n
      ·have e4 : putE l x = 4:=by rw [hiE,if_pos h4]
       have er : insR l x = []:=by unfold insR; rw [e4]; rfl
       have q4 : decide (8192 < zB0 l + x.sp.n) = true:=decide_eq_true h4
       rw [e4,er]
       simp (maxSteps:=2000000) (disch:=first | omega | assumption | (simp only [DS,Nat.reduceAdd, *]; done) | (simp only [DZ]; omega)) only [RUN,RU,zA2,zA1,zA0,zAC,frzL,reduceIte,Nat.reduceEqDiff,Nat.reduceBEq,Nat.reduceAdd,g0,g3,g40,g41,g,hct,w2,q4]
       exact ⟨NIL,.inl ⟨rfl,rfl⟩,rfl⟩
      ·have e0 : putE l x = 0:=by rw [hiE,if_neg h4]
       have er : insR l x = insL l x:=by unfold insR; rw [if_pos e0]
       have q4 : decide (8192 < zB0 l + x.sp.n) = false:=decide_eq_false h4
       obtain ⟨r',hr',hpart⟩:=zM6 (fuel:=fuel) (d:=d + 2) hS hok.1 hx6 (by omega) (by omega)
       obtain ⟨p1,p2,p3,p4⟩:=zNN hok.1 hx6
       have hpl:=zKJ l x.af
       have hsk:=zTZ (x:=x.sp.f) p1
       have hss:=fun h=>@zMM (zB4 l x.af).1 x.sp.f (zB4 l x.af).2 h
       have hmt:=fun D hD i=>@zP4 (zB4 l x.af).1 x (zB4 l x.af).2 D hD i
       have eL : insL l x = zBO ((zB4 l x.af).1.take (zEY (zB4 l x.af).1 x.sp.f (zB4 l x.af).2) ++ [x] ++ (zB4 l x.af).1.drop (zEY (zB4 l x.af).1 x.sp.f (zB4 l x.af).2)):=rfl
       unfold zEY at hsk hss eL
       rw [e0,er,eL]
       generalize hD : ((zB4 l x.af).1.drop (zB4 l x.af).2).takeWhile (fun q=>x.sp.f.less q.sp.f) = D at *
       have hmt:=fun i=>hmt D rfl (i:=i)
       generalize (zB4 l x.af).1 = l' at *
       generalize (zB4 l x.af).2 = n0 at *
       have or':=hr'.one
       have lr':=hr'.len
       simp (maxSteps:=2000000) (disch:=first | omega | assumption | (simp only [DS,Nat.reduceAdd, *]; done) | (simp only [DZ]; omega)) only [RUN,RU,zA2,zA1,slot,reduceIte,Nat.reduceEqDiff,Nat.reduceBEq,Nat.reduceAdd,g0,g3,g40,g41,g,hct,w2,q4,hpart]
       refine zBG (I:=fun n2 t2 N2 => ∃ (i2 : Nat),n2 = l'.length - n0 - i2 ∧ i2 ≤ l'.length - n0 ∧ nth zA6 t2 0 = r' ∧ nth zA6 t2 3 = .ptr 0 0 ∧ nth zA6 t2 14 = I64 ((n0 + i2 : Nat) : Int) ∧ Wf N2 ∧ N2.size ≤ 70 ∧ N2.get 0 = some (.row false (rnR x ra)) ∧ i2 ≤ D.length) (n:=l'.length - n0) (by omega) ?_ ?_
       ·refine ⟨0,rfl,Nat.zero_le _, ?_, ?_, ?_,w,by omega,g,Nat.zero_le _⟩ <;> simp (maxSteps:=2000000) (disch:=first | omega | assumption | (simp only [DS,Nat.reduceAdd, *]; done) | (simp only [DZ]; omega)) only [RUN,RU,reduceIte,Nat.reduceEqDiff,g0,g3]
        all_goals first | rfl | assumption | done
       ·rintro n2 t2 N2 hlt2 ⟨i2,rfl,hi2,g20,g23,g214,wf2,sz2,gg,hi2⟩
        simp only [hlt] at hlt2 ⊢
        have lgg:=Mem.get_lt gg
        by_cases hc2 : n0 + i2 < l'.length
        ·have q2 : decide (((n0 + i2 : Nat) : Int) < l'.length) = true:=decide_eq_true (by omega)
         have w3 : IntKind.i64.wrap (((n0 + i2 : Nat) : Int) + 1) = ((n0 + (i2 + 1) : Nat) : Int):=by rw [wrap_i64] <;> omega
         obtain ⟨r2,hiad2,hre,hrl2⟩:=hr'.iad (n0 + i2) hc2
         by_cases hd2 : i2 < D.length
         ·have hlt3:=(hmt i2 hd2 hc2).1
          generalize l'[n0 + i2] = e2 at *
          obtain ⟨rb,rfl,hrb,_⟩:=hre
          have orb:=hrb.one
          have hls:=fun M=>@zET fuel (d + 8) x.sp.f e2.sp.f M
          rw [hlt3] at hls
          simp (maxSteps:=2000000) (disch:=first | omega | assumption | (simp only [DS,Nat.reduceAdd, *]; done) | (simp only [DZ]; omega)) only [RUN,RU,zA2,zA1,slot,reduceIte,Nat.reduceEqDiff,Nat.reduceBEq,Nat.reduceAdd,g20,g23,g214,q2,lr',hiad2,gg,wf2,hls,w3]
          exact ⟨hlt2,l'.length - n0 - (i2 + 1),by omega,i2 + 1,rfl,by omega,rfl,by omega⟩
         ·obtain rfl : i2 = D.length:=by omega
          have hlt3:=hss hc2
          generalize l'[n0 + D.length] = e2 at *
          obtain ⟨rb,rfl,hrb,_⟩:=hre
          have orb:=hrb.one
          have hls:=fun M=>@zET fuel (d + 8) x.sp.f e2.sp.f M
          rw [hlt3] at hls
          simp (maxSteps:=2000000) (disch:=first | omega | assumption | (simp only [DS,Nat.reduceAdd, *]; done) | (simp only [DZ]; omega)) only [RUN,RU,zA2,slot,reduceIte,Nat.reduceEqDiff,Nat.reduceBEq,Nat.reduceAdd,g20,g23,g214,q2,lr',hiad2,gg,hls]
          refine zJS zCV.cel tf52 Tryz.underlying55 hr' (by omega) (by omega) (by simp (maxSteps:=2000000) (disch:=first | omega | assumption | (simp only [DS,Nat.reduceAdd, *]; done) | (simp only [DZ]; omega)) only [RUN,wf2]) fun o3 M3 wf3 le3 kp3 sn3 nr3 wm3 di3 sz3=>?_
          have hd3 : M3.dirty = false:=di3
          have z0 : M3.get 0 = some (.row false (rnR x ra)):=(kp3 0 lgg).trans gg
          have lz0:=Mem.get_lt z0
          have sm3:=sn3.slm
          have on3:=sm3.one
          have oc3:=sm3.cells
          have rl3:=zAU sm3.rl (Nat.le_refl M3.size)
          have rl3':=zAU sm3.rl (Nat.le_succ M3.size)
          simp (maxSteps:=2000000) (disch:=first | omega | assumption | (simp only [DS,Nat.reduceAdd, *]; done) | (simp only [DZ]; omega)) only [RUN,RU,zA2,slot,lay,zAI,zAA,reduceIte,Nat.reduceEqDiff,Nat.reduceBEq,Nat.reduceAdd,g23,g214,hd3,z0,zXS,zCB]
          have sz3' : M3.size ≤ N2.size + 2:=sz3
          have hb0 : Nat.ble N2.size 0 = false:=by
           cases hb : Nat.ble N2.size 0 with
           | false=>rfl
           | true=>have:=Nat.le_of_ble_eq_true hb; omega
          refine ⟨by simp [zBW,FP.apart,FP.reads,FP.writes,hb0],by simp [zBW,FP.apart,FP.reads,FP.writes], ?_⟩
          have eX : ((N2.bk M3).add (.row false (rnR x ra))).lo = (⟨M3.t,M3.size,M3.size + 1,false⟩ : Mem).add (.row false (rnR x ra)):=rfl
          show W3 (insO _ (((N2.bk M3).add (.row false (rnR x ra))).lo) 51 10 80 o3 (I64 ((n0 + D.length : Nat) : Int)) (.sl M3.size 0 1 (some 1) 10)) _
          rw [eX]
          have wX : Wf (⟨M3.t,M3.size,M3.size + 1,false⟩ : Mem):=wf3
          have sX : (⟨M3.t,M3.size,M3.size + 1,false⟩ : Mem).size = M3.size:=rfl
          have snX : SlN (⟨M3.t,M3.size,M3.size + 1,false⟩ : Mem) 10 isRn o3 l':=sn3
          generalize (⟨M3.t,M3.size,M3.size + 1,false⟩ : Mem) = X3 at *
          have key : W3 (insO (zAE Tryz.prog (fsT tbl) fuel (d + 10)) (X3.add (.row false (rnR x ra))) 51 10 80 o3 (I64 ((n0 + D.length : Nat) : Int)) (.sl M3.size 0 1 (some 1) 10)) (fun o4 M4=>SlM M4 10 isRn o4 (l'.take (n0 + D.length) ++ [x] ++ l'.drop (n0 + D.length)) ∧ Wf M4):=by
           rw [← sX]
           by_cases hz : l' = []
           ·subst hz
            have e0 : n0 + D.length = 0:=by simp only [List.length_nil] at hsk; omega
            rw [e0]
            have hc0 : ((0 : Nat) : Int) = 0:=rfl
            rw [hc0]
            have h0' : W3 (zAE Tryz.prog (fsT tbl) fuel (d + 10) (.fn 51) [o3,I64 0,.sl X3.size 0 1 (some 1) 10] (X3.add (.row false (rnR x ra)))) (fun o4 M4=>SlM M4 10 isRn o4 [x] ∧ Wf M4):=zOU (d:=d + 9) wX snX ⟨ra,rfl,hR,hx⟩ rfl (fun o' M' a b _ _ _ _=>⟨a,b⟩)
            have e1 : insO (zAE Tryz.prog (fsT tbl) fuel (d + 10)) (X3.add (.row false (rnR x ra))) 51 10 80 o3 (I64 0) (.sl X3.size 0 1 (some 1) 10) = zAE Tryz.prog (fsT tbl) fuel (d + 10) (.fn 51) [o3,I64 0,.sl X3.size 0 1 (some 1) 10] (X3.add (.row false (rnR x ra))):=by
             rcases snX with ⟨_,rfl | ⟨id,rfl,_⟩⟩ | ⟨hn,_⟩
             ·exact zKB ..
             ·exact zKA ..
             ·exact absurd rfl hn
            rw [e1]
            exact h0'
           ·exact snX.ins (bytes:=80) (g:=51) wX hz zCV.cel ⟨ra,rfl,hR,hx⟩ rfl (by omega) (by omega) (by omega) (by omega) (by omega) fun o' M' a b _ _ _=>⟨a,b⟩
          obtain ⟨o4,M4,he4,sm4,wf4⟩:=key
          rw [he4]
          clear he4 eX hmt hss snX sn3 sm3 kp3 hno hwh hwa hck hcx hcl ia hj hpart hct
          have on4:=sm4.one
          have oc4:=sm4.cells
          have rl4:=zAU sm4.rl (Nat.le_refl M4.size)
          simp (maxSteps:=2000000) (disch:=first | omega | assumption | (simp only [DS,Nat.reduceAdd, *]; done) | (simp only [DZ]; omega)) only [RUN,RU,zA2,reduceIte,Nat.reduceEqDiff,Nat.reduceAdd]
          refine zL1 (n:=d + 9) (R:=fun r=>Sl 10 isRn r (zBO (l'.take (n0 + D.length) ++ [x] ++ l'.drop (n0 + D.length)))) tf50 rfl (sm4.keep fun _ _=>rfl) (show Wf _ from wf4) zCV (fun a' ha'=>?_) fun r X' hr wX' sX' kX'=>?_
          ·refine zFW (d:=d + 1) ha' (by simp only [List.length_append,List.length_take,List.length_drop,List.length_singleton]; omega) (fun q hq=>?_) (by simp only [List.length_append,List.length_take,List.length_drop,List.length_singleton]; omega)
           have hq64 : q.rs.length ≤ 64:=by
            rcases List.mem_append.1 hq with hq | hq
            ·rcases List.mem_append.1 hq with hq | hq
             ·exact zF0 p2 q (List.mem_of_mem_take hq)
             ·rw [List.mem_singleton] at hq; subst hq
              exact (Rn.may_iff.1 hxm).2.2.2.1
            ·exact zF0 p2 q (List.mem_of_mem_drop hq)
           omega
          ·have orr:=hr.one
           simp (maxSteps:=2000000) (disch:=first | omega | assumption | (simp only [DS,Nat.reduceAdd, *]; done) | (simp only [DZ]; omega)) only [RUN,RU,zA2,zA0,zAC,frzL,reduceIte,Nat.reduceEqDiff,Nat.reduceAdd,hr.fz.frz,zCB]
           exact ⟨r,hr,rfl⟩
        ·obtain rfl : i2 = D.length:=by omega
         have q2 : decide (((n0 + D.length : Nat) : Int) < l'.length) = false:=decide_eq_false (by omega)
         simp (maxSteps:=2000000) (disch:=first | omega | assumption | (simp only [DS,Nat.reduceAdd, *]; done) | (simp only [DZ]; omega)) only [RUN,RU,zA2,reduceIte,Nat.reduceEqDiff,Nat.reduceBEq,Nat.reduceAdd,g20,g214,q2,lr']
         refine zJS zCV.cel tf52 Tryz.underlying55 hr' (by omega) (by omega) (by simp (maxSteps:=2000000) (disch:=first | omega | assumption | (simp only [DS,Nat.reduceAdd, *]; done) | (simp only [DZ]; omega)) only [RUN,wf2]) fun o3 M3 wf3 le3 kp3 sn3 nr3 wm3 di3 sz3=>?_
         have hd3 : M3.dirty = false:=di3
         have z0 : M3.get 0 = some (.row false (rnR x ra)):=(kp3 0 lgg).trans gg
         have lz0:=Mem.get_lt z0
         have sm3:=sn3.slm
         have on3:=sm3.one
         have oc3:=sm3.cells
         have rl3:=zAU sm3.rl (Nat.le_refl M3.size)
         have rl3':=zAU sm3.rl (Nat.le_succ M3.size)
         simp (maxSteps:=2000000) (disch:=first | omega | assumption | (simp only [DS,Nat.reduceAdd, *]; done) | (simp only [DZ]; omega)) only [RUN,RU,zA2,slot,lay,zAI,zAA,reduceIte,Nat.reduceEqDiff,Nat.reduceBEq,Nat.reduceAdd,g23,g214,hd3,z0,zXS,zCB]
         have sz3' : M3.size ≤ N2.size + 2:=sz3
         have hb0 : Nat.ble N2.size 0 = false:=by
          cases hb : Nat.ble N2.size 0 with
          | false=>rfl
          | true=>have:=Nat.le_of_ble_eq_true hb; omega
         refine ⟨by simp [zBW,FP.apart,FP.reads,FP.writes,hb0],by simp [zBW,FP.apart,FP.reads,FP.writes], ?_⟩
         have eX : ((N2.bk M3).add (.row false (rnR x ra))).lo = (⟨M3.t,M3.size,M3.size + 1,false⟩ : Mem).add (.row false (rnR x ra)):=rfl
         show W3 (insO _ (((N2.bk M3).add (.row false (rnR x ra))).lo) 51 10 80 o3 (I64 ((n0 + D.length : Nat) : Int)) (.sl M3.size 0 1 (some 1) 10)) _
         rw [eX]
         have wX : Wf (⟨M3.t,M3.size,M3.size + 1,false⟩ : Mem):=wf3
         have sX : (⟨M3.t,M3.size,M3.size + 1,false⟩ : Mem).size = M3.size:=rfl
         have snX : SlN (⟨M3.t,M3.size,M3.size + 1,false⟩ : Mem) 10 isRn o3 l':=sn3
         generalize (⟨M3.t,M3.size,M3.size + 1,false⟩ : Mem) = X3 at *
         have key : W3 (insO (zAE Tryz.prog (fsT tbl) fuel (d + 10)) (X3.add (.row false (rnR x ra))) 51 10 80 o3 (I64 ((n0 + D.length : Nat) : Int)) (.sl M3.size 0 1 (some 1) 10)) (fun o4 M4=>SlM M4 10 isRn o4 (l'.take (n0 + D.length) ++ [x] ++ l'.drop (n0 + D.length)) ∧ Wf M4):=by
          rw [← sX]
          by_cases hz : l' = []
          ·subst hz
           have e0 : n0 + D.length = 0:=by simp only [List.length_nil] at hsk; omega
           rw [e0]
           have hc0 : ((0 : Nat) : Int) = 0:=rfl
           rw [hc0]
           have h0' : W3 (zAE Tryz.prog (fsT tbl) fuel (d + 10) (.fn 51) [o3,I64 0,.sl X3.size 0 1 (some 1) 10] (X3.add (.row false (rnR x ra)))) (fun o4 M4=>SlM M4 10 isRn o4 [x] ∧ Wf M4):=zOU (d:=d + 9) wX snX ⟨ra,rfl,hR,hx⟩ rfl (fun o' M' a b _ _ _ _=>⟨a,b⟩)
           have e1 : insO (zAE Tryz.prog (fsT tbl) fuel (d + 10)) (X3.add (.row false (rnR x ra))) 51 10 80 o3 (I64 0) (.sl X3.size 0 1 (some 1) 10) = zAE Tryz.prog (fsT tbl) fuel (d + 10) (.fn 51) [o3,I64 0,.sl X3.size 0 1 (some 1) 10] (X3.add (.row false (rnR x ra))):=by
            rcases snX with ⟨_,rfl | ⟨id,rfl,_⟩⟩ | ⟨hn,_⟩
            ·exact zKB ..
            ·exact zKA ..
            ·exact absurd rfl hn
           rw [e1]
           exact h0'
          ·exact snX.ins (bytes:=80) (g:=51) wX hz zCV.cel ⟨ra,rfl,hR,hx⟩ rfl (by omega) (by omega) (by omega) (by omega) (by omega) fun o' M' a b _ _ _=>⟨a,b⟩
         obtain ⟨o4,M4,he4,sm4,wf4⟩:=key
         rw [he4]
         clear he4 eX hmt hss snX sn3 sm3 kp3 hno hwh hwa hck hcx hcl ia hj hpart hct
         have on4:=sm4.one
         have oc4:=sm4.cells
         have rl4:=zAU sm4.rl (Nat.le_refl M4.size)
         simp (maxSteps:=2000000) (disch:=first | omega | assumption | (simp only [DS,Nat.reduceAdd, *]; done) | (simp only [DZ]; omega)) only [RUN,RU,zA2,reduceIte,Nat.reduceEqDiff,Nat.reduceAdd]
         refine zL1 (n:=d + 9) (R:=fun r=>Sl 10 isRn r (zBO (l'.take (n0 + D.length) ++ [x] ++ l'.drop (n0 + D.length)))) tf50 rfl (sm4.keep fun _ _=>rfl) (show Wf _ from wf4) zCV (fun a' ha'=>?_) fun r X' hr wX' sX' kX'=>?_
         ·refine zFW (d:=d + 1) ha' (by simp only [List.length_append,List.length_take,List.length_drop,List.length_singleton]; omega) (fun q hq=>?_) (by simp only [List.length_append,List.length_take,List.length_drop,List.length_singleton]; omega)
          have hq64 : q.rs.length ≤ 64:=by
           rcases List.mem_append.1 hq with hq | hq
           ·rcases List.mem_append.1 hq with hq | hq
            ·exact zF0 p2 q (List.mem_of_mem_take hq)
            ·rw [List.mem_singleton] at hq; subst hq
             exact (Rn.may_iff.1 hxm).2.2.2.1
           ·exact zF0 p2 q (List.mem_of_mem_drop hq)
          omega
         ·have orr:=hr.one
          simp (maxSteps:=2000000) (disch:=first | omega | assumption | (simp only [DS,Nat.reduceAdd, *]; done) | (simp only [DZ]; omega)) only [RUN,RU,zA2,zA0,zAC,frzL,reduceIte,Nat.reduceEqDiff,Nat.reduceAdd,hr.fz.frz,zCB]
          exact ⟨r,hr,rfl⟩
 ·have e8 : putE l x = 8:=by rw [hiE,if_neg h8]
  have er : insR l x = []:=by unfold insR; rw [e8]; rfl
  have hz : imax (err (zEZ l)) (err x.may) = 8:=by
   cases ma : zEZ l <;> cases mb : x.may <;> first | rfl | exact absurd ⟨ma,mb⟩ h8
  rw [e8,er]
  simp (maxSteps:=2000000) (disch:=first | omega | assumption | (simp only [DS,Nat.reduceAdd, *]; done) | (simp only [DZ]; omega)) only [RUN,RU,zA2,zA1,zA0,zAC,frzL,slot,reduceIte,Nat.reduceEqDiff,Nat.reduceBEq,Nat.reduceAdd,Int.reduceEq,h0,h1,hck,hcx,hz,zD9,BMM]
  exact ⟨NIL,.inl ⟨rfl,rfl⟩,rfl⟩
end Go.Proofs.YtlknfleegdkolaaGreat
namespace Go.Proofs.YtlknfleegdkolaaGreat
open Go Go.Ax
variable {fuel : Nat} {M : Mem} {Q : AV → Mem → Prop} {d : Nat} {l : List Op} {a : AV}
theorem zKX (l : List Op) : (textOf l).length ≤ 3 * l.length:=by
 refine zCL (P:=fun l=>(textOf l).length ≤ 3 * l.length) (Nat.le_refl _) (fun l o ih=>?_) l
 rw [zFK]
 unfold stepT
 split
 ·have:=zW1 (textOf l) o.rn
  simp only [List.length_append,List.length_singleton]
  omega
 ·simp only [List.length_append,List.length_singleton]
  omega
def ze3 (l : List Op) (r : AV) : Prop:=∃ r1,r = .tup [r1,I64 (err (zAS [] l))] ∧ Sl 10 isRn r1 (if zAS [] l = true then textOf l else [])
theorem zdX {o : Op} (h : o.ok) : o.rn.ok:=⟨h.2.2.2.1,h.2.2.2.2.1,h.2.2.2.2.2.2⟩
set_option maxHeartbeats 8000000 in
theorem zXN (hS : Sl 17 isOp a l) (hl : l.length ≤ 200) (hf : 3080000 < fuel) : ∃ r,ze3 l r ∧ ∀ M,zAE Tryz.prog (fsT tbl) fuel (d + 15) (.fn 15) [a] M = some (r,M):=by
 have ll:=hS.len
 have hck:=fun M=>zEF (fuel:=fuel) (d:=d) hS (by omega) (by omega) M
 refine zFS tf15 rfl (fun M=>by simp only [icyL,fun M=>hS.icy M 12 (by omega)]) ?_
 refine zAJ tf15 rfl (by simp only [icyL,fun M=>hS.icy M 12 (by omega)]) (by simp [a15]) fun b' ht hx=>?_
 have h0:=hx 0 _ rfl
 clear hx
 simp only [a15,c15] at ht ⊢
 unfold ze3
 cases q1 : zAS [] l with
 | false =>
  rw [q1] at hck
  simp (maxSteps:=2000000) (disch:=first | omega | assumption | (simp only [DS,Nat.reduceAdd, *]; done) | (simp only [DZ]; omega)) only [RUN,RU,zA2,zA1,zA0,zAC,frzL,reduceIte,Nat.reduceEqDiff,Int.reduceEq,h0,hck,zBI]
  exact ⟨_,⟨NIL,rfl,.inl ⟨rfl,rfl⟩⟩,rfl⟩
 | true =>
  rw [q1] at hck
  simp only [if_true]
  simp (maxSteps:=2000000) (disch:=first | omega | assumption | (simp only [DS,Nat.reduceAdd, *]; done) | (simp only [DZ]; omega)) only [RUN,RU,zA2,zA1,reduceIte,Nat.reduceEqDiff,h0,hck,zB2,ll]
  refine zBG (I:=fun n t N => ∃ (i : Nat) (r : AV),n = l.length - i ∧ i ≤ l.length ∧ nth zA6 t 2 = r ∧ nth zA6 t 14 = a ∧ nth zA6 t 15 = I64 l.length ∧ nth zA6 t 16 = I64 i ∧ Wf N ∧ Sl 10 isRn r (textOf (l.take i))) (n:=l.length) (by omega) ?_ ?_
  ·refine ⟨0,NIL,rfl,Nat.zero_le _, ?_, ?_, ?_, ?_,Wf.mem0,.inl ⟨rfl,rfl⟩⟩ <;> simp (maxSteps:=2000000) (disch:=first | omega | assumption | (simp only [DS,Nat.reduceAdd, *]; done) | (simp only [DZ]; omega)) only [RUN,reduceIte,Nat.reduceEqDiff]
   all_goals first | rfl | assumption | done
  ·rintro n t N hlt ⟨i,r,rfl,hi,g2,g14,g15,g16,w,hA⟩
   simp only [ht] at hlt ⊢
   have or':=hA.one
   by_cases hc : i < l.length
   ·have q3 : decide ((i : Int) < l.length) = true:=decide_eq_true (by omega)
    have w1 : IntKind.i64.wrap ((i : Int) + 1) = ((i + 1 : Nat) : Int):=by rw [wrap_i64] <;> omega
    obtain ⟨r0,hiad,hr,hrl⟩:=hS.iad i hc
    have hts:=zFK (l.take i) l[i]
    rw [← take_snoc l i hc] at hts
    have htl:=zKX (l.take i)
    rw [List.length_take] at htl
    have hsp : l.take i ++ l[i] :: l.drop (i + 1) = l:=by rw [← List.drop_eq_getElem_cons hc,List.take_append_drop]
    have hput : rofE l[i] = 0 → putE (textOf (l.take i)) l[i].rn = 0:=zVY (m:=l.drop (i + 1)) (by rw [hsp]; exact q1)
    clear hsp
    generalize l[i] = e at *
    obtain ⟨ra,rfl,hra,hok⟩:=hr
    have ora:=hra.one
    obtain ⟨rr,hk,hof⟩:=zMG (fuel:=fuel) (d:=d + 6) hra hok (by omega)
    by_cases q4 : rofE e = 0
    ·have q4' : decide (rofE e = 0) = true:=decide_eq_true q4
     unfold rofK at hk
     rw [if_pos q4] at hk
     obtain ⟨rb,rfl,hrb⟩:=hk
     have orb:=hrb.one
     obtain ⟨r2,hr2,hins⟩:=zQG (fuel:=fuel) (d:=d + 3) (x:=e.rn) hA hrb (zdX hok) (by omega) (by omega)
     have or2:=hr2.one
     rw [hput q4] at hins
     unfold insR at hr2
     rw [if_pos (hput q4)] at hr2
     unfold stepT at hts
     rw [if_pos q4] at hts
     simp (maxSteps:=2000000) (disch:=first | omega | assumption | (simp only [DS,Nat.reduceAdd, *]; done) | (simp only [DZ]; omega)) only [RUN,RU,zA2,zA1,slot,lay,reduceIte,Nat.reduceEqDiff,Nat.reduceAdd,g2,g14,g15,g16,q3,hiad,hof,hins,w,w1]
     exact ⟨hlt,l.length - (i + 1),by omega,i + 1,r2,rfl,by omega,rfl,rfl,by rw [hts]; exact hr2⟩
    ·have q4' : decide (rofE e = 0) = false:=decide_eq_false q4
     unfold rofK at hk
     rw [if_neg q4] at hk
     subst hk
     unfold stepT at hts
     rw [if_neg q4] at hts
     unfold rnZ at hof
     simp (maxSteps:=2000000) (disch:=first | omega | assumption | (simp only [DS,Nat.reduceAdd, *]; done) | (simp only [DZ]; omega)) only [RUN,RU,zA2,zA1,slot,lay,reduceIte,Nat.reduceEqDiff,Nat.reduceAdd,g2,g14,g15,g16,q3,hiad,hof,q4',w,w1]
     exact ⟨hlt,l.length - (i + 1),by omega,i + 1,r,rfl,by omega,rfl,rfl,by rw [hts]; exact hA⟩
   ·obtain rfl : i = l.length:=by omega
    have q3 : decide ((l.length : Int) < l.length) = false:=decide_eq_false (by omega)
    rw [List.take_length] at hA
    simp (maxSteps:=2000000) (disch:=first | omega | assumption | (simp only [DS,Nat.reduceAdd, *]; done) | (simp only [DZ]; omega)) only [RUN,RU,zA2,zA1,zA0,zAC,frzL,reduceIte,Nat.reduceEqDiff,g2,g15,g16,hA.fz.frz]
    exact ⟨_,⟨r,rfl,hA⟩,rfl⟩
theorem zdI (hS : Sl 17 isOp a l) : ∀ p ∈ l,p.ok:=by
 rcases hS with ⟨_,rfl⟩ | ⟨rows,cap,_,hA,_⟩
 ·intro p hp; cases hp
 ·intro p hp
  obtain ⟨i,hi,rfl⟩:=List.getElem_of_mem hp
  have hr : i < rows.length:=by rw [hA.length_eq]; exact hi
  obtain ⟨_,_,_,h⟩:=hA.get hr hi
  exact h
end Go.Proofs.YtlknfleegdkolaaGreat
namespace Go.Ax
open Go
variable {α : Type} {M N : Mem} {st : Nat} {T : List AV → α → Prop} {v o : AV} {l : List α}
def SlR (M : Mem) (st : Nat) (T : List AV → α → Prop) (v : AV) (l : List α) : Prop :=
 (v = NIL ∧ l = []) ∨ ∃ (id : Nat) (rows : List (List AV)) (cap : Option Nat),v = .sl id 0 rows.length cap st ∧ M.rd id = some rows.flatten ∧ All2 T rows l ∧ ∀ r ∈ rows,r.length = st
theorem SlR.of (h : SlM M st T v l) : SlR M st T v l:=by
 rcases h with h | ⟨id,rows,cap,rfl,_,hg,hA,hr⟩
 ·exact .inl h
 ·exact .inr ⟨id,rows,cap,rfl,zBP hg,hA,hr⟩
theorem SlR.keep (h : SlR M st T v l) (k : ∀ j,N.rd j = M.rd j) : SlR N st T v l:=by
 rcases h with h | ⟨id,rows,cap,h1,h2,h3,h4⟩
 ·exact .inl h
 ·exact .inr ⟨id,rows,cap,h1,(k id).trans h2,h3,h4⟩
theorem SlR.icyk (h : SlR M st T v l) (wf : Wf M) (hT : FzT T) {k : Nat} (hk : 1 < k) : ∃ v' M',Go.Ax.icy k M v = some (v',M') ∧ Sl st T v' l ∧ Wf M' ∧ M'.size = M.size ∧ (∀ j,M'.rd j = M.rd j) ∧ ∀ j,rowOf v ≠ some j → M'.get j = M.get j:=by
 obtain ⟨k,rfl⟩ : ∃ j,k = j + 1:=⟨k - 1,by omega⟩
 rcases h with ⟨rfl,rfl⟩ | ⟨id,rows,cap,rfl,hg,hA,hr⟩
 ·exact ⟨NIL,M,rfl,.inl ⟨rfl,rfl⟩,wf,rfl,fun _=>rfl,fun _ _=>rfl⟩
 ·have hfl:=zAL hr
  have hcs : ∀ N,icyL (Go.Ax.icy k) N rows.flatten = some (rows.flatten,N):=zCP (by omega) fun x hx N=>hT.celI.flat hA x hx N k (by omega)
  have hble : Nat.ble (0 + rows.length * st) rows.flatten.length = true:=zBH (by omega)
  have hsl : slot rows.flatten 0 (rows.length * st) = rows.flatten:=zBU _ _ hfl.symm
  have hrd:=hg
  rw [zDY] at hrd
  cases ho : M.get id with
  | none=>rw [ho] at hrd; cases hrd
  | some x =>
   rw [ho] at hrd
   cases x with
   | row b ds =>
    have e : ds = rows.flatten:=by simpa [rd1] using hrd
    subst e
    exact ⟨_,M.upd id (.fro rows.flatten),by simp only [Go.Ax.icy,hg,hble,hcs,ho,zB8 wf (Mem.get_lt ho),hsl],.inr ⟨rows,cap,rfl,hA,hr⟩,wf.upd _ _,rfl,NK.rd_fro wf ho,fun j hj=>zA3 wf _ _ _ (fun e=>hj (by rw [e]; rfl))⟩
   | fro ds=>exact ⟨_,M,by simp only [Go.Ax.icy,hg,hble,hcs,ho,hsl],.inr ⟨rows,cap,rfl,hA,hr⟩,wf,rfl,fun _=>rfl,fun _ _=>rfl⟩
   | _=>simp [rd1] at hrd
theorem SlR.hand {P : Program} {fs : Nat → Option AFunc} {fuel f n : Nat} {af : AFunc} {rest : List AV} {R : AV → Prop} {Q : AV → Mem → Prop} (h : fs f = some af) (hg : af.gc = 1) (hN : SlR M st T o l) (wf : Wf M) (hT : FzT T) (hr : ∀ M,icyL (Go.Ax.icy 12) M rest = some (rest,M)) (hc : ∀ o',Sl st T o' l → ∃ r,R r ∧ ∀ M,zAE P fs fuel (n + 1) (.fn f) (o' :: rest) M = some (r,M))
  (k : ∀ r M',R r → Wf M' → M'.size = M.size → SlR M' st T o l → (∀ j,rowOf o ≠ some j → M'.get j = M.get j) → Q r M') : W3 (zAE P fs fuel (n + 1) (.fn f) (o :: rest) M) Q:=by
 obtain ⟨o',M',i1,s1,w1,z1,r1,g1⟩:=hN.icyk wf hT (k:=12) (by omega)
 obtain ⟨r,hR,hcall⟩:=hc o' s1
 refine ⟨r,M',zDH (bs:=o' :: rest) h hg (hcall mem0) (M3:=mem0) ?_ ?_,k r M' hR w1 z1 (hN.keep r1) g1⟩
 ·simp only [icyL,s1.icy mem0 12 (by omega),hr]
 ·simp only [icyL,i1,hr]
end Go.Ax
namespace Go.Proofs.YtlknfleegdkolaaGreat
open Go Go.Ax
variable {fuel : Nat} {M : Mem} {Q : AV → Mem → Prop} {d : Nat} {l : List Op} {a : AV} {v : Lb}
theorem zSS (l : List Op) (v : Lb) : zI0 (lowL l v) v (zD0 (elsR (textOf (lowL l v)))) = zBE l v:=by
 unfold zI0 zD0 zBE
 rw [List.filter_map,List.map_map]
 rfl
theorem zKZ {l : List Op} (h : zAS [] l = true) (v : Lb) : (zBE l v).length ≤ 192 * l.length:=by
 have hT:=zD4 (zDT v h)
 have h1:=zJW hT.ok.1
 have h2:=zKX (lowL l v)
 have h3:=zKG l v
 unfold zBE
 rw [List.length_map]
 exact Nat.le_trans (List.length_filter_le _ _) (by omega)
def zXX (l : List Op) (v : Lb) (r : AV) : Prop:=∃ r1,r = .tup [r1,I64 (zGH l v)] ∧ Sl 5 zCQ r1 (if zGH l v = 0 then zBE l v else [])
theorem zTA (h : zGH l v = 0) : zAS [] l = true ∧ v.may = true:=by
 unfold zGH err at h
 cases h1 : zAS [] l <;> cases h2 : v.may <;> rw [h1,h2] at h <;> first | exact ⟨rfl,rfl⟩ | cases h
set_option maxHeartbeats 8000000 in
theorem zHQ (hS : Sl 17 isOp a l) (hl : l.length ≤ 200) (hf : 3200000 < fuel) (hd : ∀ o ∈ l,o.rs.length ≤ 1000000000) : ∃ r,zXX l v r ∧ ∀ M,zAE Tryz.prog (fsT tbl) fuel (d + 18) (.fn 7) [a,lbA v] M = some (r,M):=by
 obtain ⟨ro,⟨r2,rfl,hr2⟩,hon⟩:=zWP (fuel:=fuel) (d:=d + 2) (v:=v) hS (by omega) (by omega) hd
 have or2:=hr2.one
 refine zFS tf7 rfl (fun M=>by simp only [icyL,fun M=>hS.icy M 12 (by omega),zB3 (zDI v) (show 1 < 12 by omega)]) ?_
 refine zAJ tf7 rfl (by simp only [icyL,fun M=>hS.icy M 12 (by omega),zB3 (zDI v) (show 1 < 12 by omega)]) (by simp [a7]) fun b' ht hx=>?_
 have h0:=hx 0 _ rfl
 have h1:=hx 1 _ rfl
 clear hx
 simp only [a7,c7] at ht ⊢
 unfold zXX
 by_cases q1 : zGH l v = 0
 ·rw [if_pos q1] at hr2
  obtain ⟨q2,q3⟩:=zTA q1
  have q4:=zDT v q2
  have hlow:=zKG l v
  obtain ⟨rt,⟨r3,rfl,hr3⟩,htx⟩:=zXN (fuel:=fuel) (d:=d + 2) hr2 (by omega) (by omega)
  rw [q4] at htx hr3
  simp only [if_true] at hr3
  have hT:=zD4 q4
  have htl:=zKX (lowL l v)
  obtain ⟨r4,hr4,hal⟩:=zYY (fuel:=fuel) (d:=d + 9) hr3 hT.ok.1 (by omega) (by omega)
  have hel:=zJW hT.ok.1
  rw [q1]
  rw [q1] at hon
  simp (maxSteps:=2000000) (disch:=first | omega | assumption | (simp only [DS,Nat.reduceAdd, *]; done) | (simp only [DZ]; omega)) only [RUN,RU,zA2,zA1,slot,lay,reduceIte,Nat.reduceEqDiff,Nat.reduceAdd,h0,h1,hon,htx,hal,zB2,hr2.fz.cells]
  refine zb1 (d:=d) (low:=lowL l v) (v:=v) hr4 (by rw [zEL]; omega) hr2 q4 (by omega) (by rw [zEL]; omega) ?_ ?_ ?_ ?_ fun o N wN leN kpN smN nwN wmN=>?_
  ·simp (maxSteps:=2000000) (disch:=first | omega | assumption | (simp only [DS,Nat.reduceAdd, *]; done) | (simp only [DZ]; omega)) only [RUN]
  ·exact Nat.zero_le _
  ·simp (maxSteps:=2000000) (disch:=first | omega | assumption | (simp only [DS,Nat.reduceAdd, *]; done) | (simp only [DZ]; omega)) only [RUN]
  ·simp (maxSteps:=2000000) (disch:=first | omega | assumption | (simp only [DS,Nat.reduceAdd, *]; done) | (simp only [DZ]; omega)) only [RUN]
  ·rw [zSS] at smN
   obtain ⟨ro,hz,hs⟩:=smN.frz zFB.cel (k:=12) (by omega)
   have oo:=smN.one
   simp (maxSteps:=2000000) (disch:=first | omega | assumption | (simp only [DS,Nat.reduceAdd, *]; done) | (simp only [DZ]; omega)) only [RUN,RU,zA2,zA1,zA0,zAC,frzL,reduceIte,Nat.reduceEqDiff,hz]
   exact ⟨_,⟨ro,rfl,by simpa using hs⟩,rfl⟩
 ·have q1':=decide_eq_false q1
  simp (maxSteps:=2000000) (disch:=first | omega | assumption | (simp only [DS,Nat.reduceAdd, *]; done) | (simp only [DZ]; omega)) only [RUN,RU,zA2,zA1,zA0,zAC,frzL,slot,lay,reduceIte,Nat.reduceEqDiff,Nat.reduceAdd,h0,h1,hon,q1',hr2.fz.cells]
  exact ⟨_,⟨NIL,rfl,by rw [if_neg q1]; exact .inl ⟨rfl,rfl⟩⟩,rfl⟩
end Go.Proofs.YtlknfleegdkolaaGreat
namespace Go.Proofs.YtlknfleegdkolaaGreat
open Go Go.Ax
variable {fuel : Nat} {M : Mem} {Q : AV → Mem → Prop} {d : Nat} {l : List Op} {a : AV} {v : Lb}
def zE9 (c : List CellV) : Nat:=(c.filter fun x=>decide (x.ch = -1)).length
theorem zO0 (c : List CellV) (x : CellV) : zC3 (c ++ [x]) = zC3 c + (if x.ch = -1 then 0 else 1):=by
 unfold zC3
 rw [List.filter_append,List.length_append]
 by_cases h : x.ch = -1 <;> simp [h]
theorem zMY (c : List CellV) (x : CellV) : zE9 (c ++ [x]) = zE9 c + (if x.ch = -1 then 1 else 0):=by
 unfold zE9
 rw [List.filter_append,List.length_append]
 by_cases h : x.ch = -1 <;> simp [h]
theorem zF9 (c : List CellV) : zC3 c + zE9 c = c.length:=by
 induction c with
 | nil=>rfl
 | cons x c ih =>
  unfold zC3 zE9 at *
  rw [List.filter_cons,List.filter_cons]
  by_cases h : x.ch = -1 <;> simp [h] <;> simp at ih <;> omega
set_option maxHeartbeats 4000000 in
theorem zRS {bb bs : Nat} {c : CellV} {n m : Int} (wf : Wf M) (g1 : M.get bb = some (.row false [I64 n])) (g2 : M.get bs = some (.row false [I64 m])) (hn : 0 ≤ n ∧ n ≤ 1000000000) (hm : 0 ≤ m ∧ m ≤ 1000000000)
  (k : ∀ z N,N = (if c.ch = -1 then (M.add z).upd bb (.row false [I64 (n + 1)]) else (M.add z).upd bs (.row false [I64 (m + 1)])) → Q (.tup [I64 0,BL false]) N) : W3 (zAE Tryz.prog (fsT tbl) fuel (d + 1) (.fn 25) [zZ8 c,.ptr bb 0,.ptr bs 0] M) Q:=by
 have l1:=Mem.get_lt g1
 have l2:=Mem.get_lt g2
 have w1 : IntKind.i64.wrap (n + 1) = n + 1:=wrap_i64 (by omega) (by omega)
 have w2 : IntKind.i64.wrap (m + 1) = m + 1:=wrap_i64 (by omega) (by omega)
 refine zB1 tf25 rfl (by simp [a25]) fun b' ht hx=>?_
 have h0:=hx 0 _ rfl
 have h1:=hx 1 _ rfl
 have h2:=hx 2 _ rfl
 clear hx
 simp only [a25,c25] at ht ⊢
 by_cases q : c.ch = -1
 ·have q':=decide_eq_true q
  simp (maxSteps:=2000000) (disch:=first | omega | assumption | (simp only [DS,Nat.reduceAdd, *]; done) | (simp only [DZ]; omega)) only [RUN,RU,zA2,zA1,zA0,zAC,lay,reduceIte,Nat.reduceEqDiff,h0,h1,g1,w1,q']
  exact k _ _ (by rw [if_pos q])
 ·have q':=decide_eq_false q
  simp (maxSteps:=2000000) (disch:=first | omega | assumption | (simp only [DS,Nat.reduceAdd, *]; done) | (simp only [DZ]; omega)) only [RUN,RU,zA2,zA1,zA0,zAC,lay,reduceIte,Nat.reduceEqDiff,h0,h2,g2,w2,q']
  exact k _ _ (by rw [if_neg q])
set_option maxHeartbeats 8000000 in
theorem zXG {cs : List CellV} {bb bs : Nat} (hA : Sl 5 zCQ a cs) (hcl : cs.length ≤ 1000000) (hf : cs.length < fuel) (wf : Wf M) (hne : bb ≠ bs) (g1 : M.get bb = some (.row false [I64 0])) (g2 : M.get bs = some (.row false [I64 0]))
  (k : ∀ N,Wf N → M.size ≤ N.size → (∀ j,j < M.size → j ≠ bb → j ≠ bs → N.get j = M.get j) → N.get bb = some (.row false [I64 (zE9 cs)]) → N.get bs = some (.row false [I64 (zC3 cs)]) → Q NIL N) :
  W3 (zAE Tryz.prog (fsT tbl) fuel (d + 2) (.fn 24) [a,.fn 25 [] [.ptr bb 0,.ptr bs 0]] M) Q:=by
 have la:=hA.len
 have l1:=Mem.get_lt g1
 have l2:=Mem.get_lt g2
 refine zB1 tf24 rfl (by simp [a24]) fun b' ht hx=>?_
 have h0:=hx 0 _ rfl
 have h1:=hx 1 _ rfl
 clear hx
 simp only [a24,c24] at ht ⊢
 simp (maxSteps:=2000000) (disch:=first | omega | assumption | (simp only [DS,Nat.reduceAdd, *]; done) | (simp only [DZ]; omega)) only [RUN,RU,zA2,zA1,reduceIte,Nat.reduceEqDiff,h0,la]
 refine zBG (I:=fun n t N => ∃ (i : Nat),n = cs.length - i ∧ i ≤ cs.length ∧ nth zA6 t 1 = .fn 25 [] [.ptr bb 0,.ptr bs 0] ∧ nth zA6 t 4 = NIL ∧ nth zA6 t 9 = a ∧ nth zA6 t 10 = I64 cs.length ∧ nth zA6 t 11 = I64 i ∧ Wf N ∧ M.size ≤ N.size ∧ (∀ j,j < M.size → j ≠ bb → j ≠ bs → N.get j = M.get j) ∧ N.get bb = some (.row false [I64 (zE9 (cs.take i))]) ∧ N.get bs = some (.row false [I64 (zC3 (cs.take i))])) (n:=cs.length) (by omega) ?_ ?_
 ·refine ⟨0,rfl,Nat.zero_le _, ?_, ?_, ?_, ?_, ?_,wf,Nat.le_refl _,(fun _ _ _ _=>rfl),g1,g2⟩ <;> simp (maxSteps:=2000000) (disch:=first | omega | assumption | (simp only [DS,Nat.reduceAdd, *]; done) | (simp only [DZ]; omega)) only [RUN,reduceIte,Nat.reduceEqDiff,h1]
  all_goals first | rfl | assumption | done
 ·rintro n t N hlt ⟨i,rfl,hi,g1,g4,g9,g10,g11,w,le,kp,b1,b2⟩
  simp only [ht] at hlt ⊢
  by_cases hc : i < cs.length
  ·have q1 : decide ((i : Int) < cs.length) = true:=decide_eq_true (by omega)
   have w1 : IntKind.i64.wrap ((i : Int) + 1) = ((i + 1 : Nat) : Int):=by rw [wrap_i64] <;> omega
   obtain ⟨r,hiad,hr,hrl⟩:=hA.iad i hc
   have hb:=zMY (cs.take i) cs[i]
   have hs:=zO0 (cs.take i) cs[i]
   rw [← take_snoc cs i hc] at hb hs
   have hcc:=zF9 (cs.take i)
   rw [List.length_take] at hcc
   generalize cs[i] = c at *
   obtain ⟨rfl,hok⟩:=hr
   have l1' : bb < N.size:=by omega
   have l2' : bs < N.size:=by omega
   have wY:=(w.add (.row false (zDP ⟨Eid.z,0⟩))).upd N.size (.row false (zDP c))
   have gY : ∀ j,j < N.size → ((N.add (.row false (zDP ⟨Eid.z,0⟩))).upd N.size (.row false (zDP c))).get j = N.get j:=fun j hj=>by
    rw [zA3 (w.add _) _ _ _ (by omega),zAF w _ _ hj]
   have sY : ((N.add (.row false (zDP ⟨Eid.z,0⟩))).upd N.size (.row false (zDP c))).size = N.size + 1:=rfl
   simp (maxSteps:=2000000) (disch:=first | omega | assumption | (simp only [DS,Nat.reduceAdd, *]; done) | (simp only [DZ]; omega)) only [RUN,RU,zA2,zA1,slot,lay,reduceIte,Nat.reduceEqDiff,Nat.reduceAdd,g1,g9,g10,g11,q1,hiad]
   revert wY gY sY
   generalize ((N.add _).upd N.size _) = Y
   intro wY gY sY
   refine zRS (d:=d) (c:=c) (n:=zE9 (cs.take i)) (m:=zC3 (cs.take i)) wY ((gY _ l1').trans b1) ((gY _ l2').trans b2) (by omega) (by omega) fun z N2 hN2=>?_
   have hw2 : Wf N2:=by rw [hN2]; split <;> exact (wY.add _).upd _ _
   have hs2 : N2.size = N.size + 2:=by rw [hN2]; split <;> simp only [zA9,zA5] <;> omega
   have hg2 : ∀ j,j < N.size → j ≠ bb → j ≠ bs → N2.get j = N.get j:=fun j hj e1 e2=>by
    rw [hN2]
    split
    ·rw [zA3 (wY.add _) _ _ _ (fun e=>e1 e.symm),zAF wY _ _ (by omega)]; exact gY j hj
    ·rw [zA3 (wY.add _) _ _ _ (fun e=>e2 e.symm),zAF wY _ _ (by omega)]; exact gY j hj
   have hb2 : N2.get bb = some (.row false [I64 (zE9 (cs.take (i + 1)))]):=by
    rw [hN2,hb]
    split
    ·rw [zAG (wY.add _) _ _ (by simp only [zA5]; omega)]; rfl
    ·rw [zA3 (wY.add _) _ _ _ (fun e=>hne e.symm),zAF wY _ _ (by omega)]; exact (gY _ l1').trans b1
   have hs3 : N2.get bs = some (.row false [I64 (zC3 (cs.take (i + 1)))]):=by
    rw [hN2,hs]
    split
    ·rw [zA3 (wY.add _) _ _ _ hne,zAF wY _ _ (by omega)]; exact (gY _ l2').trans b2
    ·rw [zAG (wY.add _) _ _ (by simp only [zA5]; omega)]; rfl
   clear hN2
   simp (maxSteps:=2000000) (disch:=first | omega | assumption | (simp only [DS,Nat.reduceAdd, *]; done) | (simp only [DZ]; omega)) only [RUN,RU,zA2,zA1,reduceIte,Nat.reduceEqDiff,g1,g4,g9,g10,g11,w1,hw2]
   refine ⟨hlt,cs.length - (i + 1),by omega,i + 1,rfl,by omega,rfl,by omega,fun j hj e1 e2=>(hg2 j (by omega) e1 e2).trans (kp j hj e1 e2),hb2,hs3⟩
  ·obtain rfl : i = cs.length:=by omega
   have q1 : decide ((cs.length : Int) < cs.length) = false:=decide_eq_false (by omega)
   rw [List.take_length] at b1 b2
   simp (maxSteps:=2000000) (disch:=first | omega | assumption | (simp only [DS,Nat.reduceAdd, *]; done) | (simp only [DZ]; omega)) only [RUN,RU,zA2,zA1,zA0,zAC,reduceIte,Nat.reduceEqDiff,g4,g10,g11]
   exact k N w le kp b1 b2
set_option maxHeartbeats 8000000 in
theorem zIY (hS : Sl 17 isOp a l) (hl : l.length ≤ 200) (hf : 3200000 < fuel) (hd : ∀ o ∈ l,o.rs.length ≤ 1000000000) (h0z : zGH l v = 0) (M : Mem) : zAE Tryz.prog (fsT tbl) fuel (d + 19) (.fn 9) [a,lbA v] M = some (.tup [I64 (zC3 (zBE l v)),I64 (zE9 (zBE l v)),I64 0],M):=by
 obtain ⟨rc,⟨r2,rfl,hr2⟩,hce⟩:=zHQ (fuel:=fuel) (d:=d) (v:=v) hS hl hf hd
 rw [h0z] at hr2 hce
 simp only [if_true] at hr2
 have hvl:=zKZ (zTA h0z).1 v
 apply zBN
 refine zAJ tf9 rfl (by simp only [icyL,fun M=>hS.icy M 12 (by omega),zB3 (zDI v) (show 1 < 12 by omega)]) (by simp [a9]) fun b' ht hx=>?_
 have h0:=hx 0 _ rfl
 have h1:=hx 1 _ rfl
 clear hx
 simp only [a9,c9] at ht ⊢
 simp (maxSteps:=2000000) (disch:=first | omega | assumption | (simp only [DS,Nat.reduceAdd, *]; done) | (simp only [DZ]; omega)) only [RUN,RU,zA2,zA1,slot,reduceIte,Nat.reduceEqDiff,Nat.reduceAdd,h0,h1,hce]
 refine zXG (d:=d + 16) hr2 (by omega) (by omega) ?_ (by decide) ?_ ?_ fun N w le kp b1 b2=>?_
 ·simp (maxSteps:=2000000) (disch:=first | omega | assumption | (simp only [DS,Nat.reduceAdd, *]; done) | (simp only [DZ]; omega)) only [RUN]
 ·simp (maxSteps:=2000000) (disch:=first | omega | assumption | (simp only [DS,Nat.reduceAdd, *]; done) | (simp only [DZ]; omega)) only [RUN]
 ·simp (maxSteps:=2000000) (disch:=first | omega | assumption | (simp only [DS,Nat.reduceAdd, *]; done) | (simp only [DZ]; omega)) only [RUN]
 ·have l1:=Mem.get_lt b1
  have l2:=Mem.get_lt b2
  simp (maxSteps:=2000000) (disch:=first | omega | assumption | (simp only [DS,Nat.reduceAdd, *]; done) | (simp only [DZ]; omega)) only [RUN,RU,zA2,zA0,zAC,frzL,lay,reduceIte,Nat.reduceEqDiff,Nat.reduceBEq,Nat.reduceAdd,b1,b2]
  rfl
end Go.Proofs.YtlknfleegdkolaaGreat
namespace Go.Proofs.YtlknfleegdkolaaGreat
open Go Go.Ax
variable {fuel : Nat} {M : Mem} {Q : AV → Mem → Prop} {d : Nat}
set_option maxHeartbeats 4000000 in
theorem zKQ {a b : AV} {l m : List CellV} (ha : Sl 5 zCQ a l) (hb : Sl 5 zCQ b m) (hf : l.length < fuel) (hl : l.length ≤ 1000000000) (M : Mem) :
  zAE Tryz.prog (fsT tbl) fuel (d + 1) (.fn 10) [a,b] M = some (BL (decide (l = m)),M):=by
 have hla:=ha.len
 have hlb:=hb.len
 apply zBN
 refine zAJ tf10 rfl (by simp only [icyL,fun M=>ha.icy M 12 (by omega),fun M=>hb.icy M 12 (by omega)]) (by simp [a10]) fun b' ht hx=>?_
 have h0:=hx 0 _ rfl
 have h1:=hx 1 _ rfl
 clear hx
 simp only [a10,c10] at ht ⊢
 by_cases hll : l.length = m.length
 ·have q1 : decide ((l.length : Int) = m.length) = true:=by simp; omega
  simp (maxSteps:=2000000) (disch:=first | omega | assumption | (simp only [DS,Nat.reduceAdd, *]; done) | (simp only [DZ]; omega)) only [RUN,RU,zA2,zA1,reduceIte,Nat.reduceEqDiff,h0,h1,hla,hlb,q1]
  refine zBG (I:=fun n t N => ∃ (i : Nat),n = l.length - i ∧ i ≤ l.length ∧ nth zA6 t 0 = a ∧ nth zA6 t 1 = b ∧ nth zA6 t 5 = I64 i ∧ l.take i = m.take i) (n:=l.length) (by omega) ?_ ?_
  ·refine ⟨0,rfl,Nat.zero_le _, ?_, ?_, ?_,rfl⟩ <;> simp (maxSteps:=2000000) (disch:=first | omega | assumption | (simp only [DS,Nat.reduceAdd, *]; done) | (simp only [DZ]; omega)) only [RUN,reduceIte,Nat.reduceEqDiff,h0,h1]
   all_goals first | rfl | assumption | done
  ·rintro n t N hlt ⟨i,rfl,hi,g0,g1,g5,tk⟩
   simp only [ht] at hlt ⊢
   by_cases hlt' : i < l.length
   ·have hc' : decide ((i : Int) < l.length) = true:=by simp; omega
    have hmt : i < m.length:=by omega
    have w1 : IntKind.i64.wrap ((i : Int) + 1) = ((i + 1 : Nat) : Int):=by rw [wrap_i64] <;> omega
    obtain ⟨r,hr,⟨rfl,_⟩,_⟩:=ha.iad i hlt'
    obtain ⟨r2,hr2,⟨rfl,_⟩,_⟩:=hb.iad i hmt
    by_cases he : l[i] = m[i]
    ·have q2 : decide (l[i] = m[i]) = true:=by simp [he]
     simp (maxSteps:=2000000) (disch:=first | omega | assumption | (simp only [DS,Nat.reduceAdd, *]; done) | (simp only [DZ]; omega)) only [RUN,RU,zA2,zA1,slot,reduceIte,Nat.reduceEqDiff,Nat.reduceBEq,Nat.reduceAdd,g0,g1,g5,hla,hc',hr,hr2,w1,↓pCeN,zM8,ETA,CellV.eta,q2]
     refine ⟨hlt,l.length - (i + 1),by omega,i + 1,rfl,by omega,rfl, ?_⟩
     rw [List.take_add_one,List.take_add_one,tk,List.getElem?_eq_getElem hlt',List.getElem?_eq_getElem hmt,he]
    ·have q2 : decide (l[i] = m[i]) = false:=by simp [he]
     simp (maxSteps:=2000000) (disch:=first | omega | assumption | (simp only [DS,Nat.reduceAdd, *]; done) | (simp only [DZ]; omega)) only [RUN,RU,zA2,zA1,zA0,zAC,frzL,slot,reduceIte,Nat.reduceEqDiff,Nat.reduceBEq,Nat.reduceAdd,g0,g1,g5,hla,hc',hr,hr2,↓pCeN,zM8,ETA,CellV.eta,q2]
     have : decide (l = m) = false:=by
      simp only [decide_eq_false_iff_not]
      rintro rfl; exact he rfl
     rw [this]
   ·have hc' : decide ((i : Int) < l.length) = false:=by simp; omega
    simp (maxSteps:=2000000) (disch:=first | omega | assumption | (simp only [DS,Nat.reduceAdd, *]; done) | (simp only [DZ]; omega)) only [RUN,RU,zA2,zA1,zA0,zAC,frzL,reduceIte,Nat.reduceEqDiff,g0,g5,hla,hc']
    have : decide (l = m) = true:=by
     simp only [decide_eq_true_eq]
     rw [show i = l.length by omega,List.take_length] at tk
     rw [tk,show l.length = m.length from hll,List.take_length]
    rw [this]
 ·have q1 : decide ((l.length : Int) = m.length) = false:=by simp; omega
  have q3 : decide (l = m) = false:=by
   simp only [decide_eq_false_iff_not]
   rintro rfl; exact hll rfl
  simp (maxSteps:=2000000) (disch:=first | omega | assumption | (simp only [DS,Nat.reduceAdd, *]; done) | (simp only [DZ]; omega)) only [RUN,RU,zA2,zA1,zA0,zAC,frzL,reduceIte,Nat.reduceEqDiff,h0,h1,hla,hlb,q1,q3]
end Go.Proofs.YtlknfleegdkolaaGreat
namespace Go.Ax
open Go
variable {α : Type} {M N : Mem} {st : Nat} {T : List AV → α → Prop} {v o : AV} {l : List α}
theorem SlR.hand2 {P : Program} {fs : Nat → Option AFunc} {fuel f n : Nat} {af : AFunc} {y : AV} {R : AV → Prop} {Q : AV → Mem → Prop} (h : fs f = some af) (hg : af.gc = 1) (hN : SlR M st T o l) (wf : Wf M) (hT : FzT T) (hy : ∀ M,Go.Ax.icy 12 M y = some (y,M)) (hc : ∀ o',Sl st T o' l → ∃ r,R r ∧ ∀ M,zAE P fs fuel (n + 1) (.fn f) [y,o'] M = some (r,M))
  (k : ∀ r M',R r → Wf M' → M'.size = M.size → SlR M' st T o l → (∀ j,rowOf o ≠ some j → M'.get j = M.get j) → Q r M') : W3 (zAE P fs fuel (n + 1) (.fn f) [y,o] M) Q:=by
 obtain ⟨o',M',i1,s1,w1,z1,r1,g1⟩:=hN.icyk wf hT (k:=12) (by omega)
 obtain ⟨r,hR,hcall⟩:=hc o' s1
 refine ⟨r,M',zDH (bs:=[y,o']) h hg (hcall mem0) (M3:=mem0) ?_ ?_,k r M' hR w1 z1 (hN.keep r1) g1⟩
 ·simp only [icyL,hy,s1.icy mem0 12 (by omega)]
 ·simp only [icyL,hy,i1]
end Go.Ax
namespace Go.Proofs.YtlknfleegdkolaaGreat
open Go Go.Ax
variable {fuel : Nat} {M : Mem} {Q : AV → Mem → Prop} {d : Nat} {l : List Op} {a : AV}
def wO (o : Op) : Int:=imax (imin (imax o.sp.n 0) 100) (imin (o.rs.length : Int) 1000)
def sumW (l : List Op) : Int:=(l.map wO).sum
def zLH (l : List Op) (many : Int) : Bool:=decide (many < l.length) || decide (300 < sumW (l.take 300))
theorem zPR (o : Op) : 0 ≤ wO o ∧ wO o ≤ 1000 ∧ ((o.rs.length : Int) ≤ wO o ∨ 1000 ≤ wO o):=by
 unfold wO imax imin
 repeat' split
 all_goals omega
theorem sumW_snoc (l : List Op) (o : Op) : sumW (l ++ [o]) = sumW l + wO o:=by unfold sumW; simp
theorem zKV : ∀ (l : List Op),0 ≤ sumW l ∧ sumW l ≤ 1000 * l.length
 | []=>by simp [sumW]
 | o :: l=>by
  have h1:=zKV l
  have h2:=zPR o
  unfold sumW at *
  simp only [List.map_cons,List.sum_cons,List.length_cons]
  omega
theorem zPP : ∀ (l : List Op) (o : Op),o ∈ l → wO o ≤ sumW l
 | [],_,h=>by cases h
 | p :: l,o,h=>by
  have h1:=zKV l
  have h2:=zPR p
  rcases List.mem_cons.1 h with rfl | h
  ·unfold sumW at *; simp only [List.map_cons,List.sum_cons]; omega
  ·have:=zPP l o h
   unfold sumW at *; simp only [List.map_cons,List.sum_cons]; omega
theorem zNF {many : Int} (hm : many ≤ 300) (h : zLH l many = false) : (l.length : Int) ≤ many ∧ ∀ o ∈ l,o.rs.length ≤ 300:=by
 unfold zLH at h
 simp only [Bool.or_eq_false_iff,decide_eq_false_iff_not] at h
 refine ⟨by omega,fun o ho=>?_⟩
 have ht : l.take 300 = l:=List.take_of_length_le (by omega)
 rw [ht] at h
 have:=zPP l o ho
 have:=zPR o
 omega
set_option maxHeartbeats 4000000 in
theorem zSD {many : Int} (hS : Sl 17 isOp a l) (hf : 400 < fuel) (M : Mem) : zAE Tryz.prog (fsT tbl) fuel (d + 1) (.fn 5) [a,I64 many] M = some (BL (zLH l many),M):=by
 have ll:=hS.len
 apply zBN
 refine zAJ tf5 rfl (by simp only [icyL,fun M=>hS.icy M 12 (by omega),zSJ]) (by simp [a5]) fun b' ht hx=>?_
 have h0:=hx 0 _ rfl
 have h1:=hx 1 _ rfl
 clear hx
 simp only [a5,c5] at ht ⊢
 unfold zLH
 simp (maxSteps:=2000000) (disch:=first | omega | assumption | (simp only [DS,Nat.reduceAdd, *]; done) | (simp only [DZ]; omega)) only [RUN,RU,zA2,zA1]
 refine zBG (I:=fun n t N => ∃ (i : Nat),n = 300 - i ∧ i ≤ 300 ∧ nth zA6 t 0 = a ∧ nth zA6 t 1 = I64 many ∧ nth zA6 t 5 = I64 (sumW (l.take i)) ∧ nth zA6 t 6 = I64 i ∧ N = mem0 ∧ i ≤ l.length) (n:=300) (by omega) ?_ ?_
 ·refine ⟨0,rfl,Nat.zero_le _, ?_, ?_, ?_, ?_,rfl,Nat.zero_le _⟩ <;> simp (maxSteps:=2000000) (disch:=first | omega | assumption | (simp only [DS,Nat.reduceAdd, *]; done) | (simp only [DZ]; omega)) only [RUN,RU,reduceIte,Nat.reduceEqDiff,h0,h1]
  all_goals first | rfl | assumption | done
 ·rintro n t N hlt ⟨i,rfl,hi,g0,g1,g5,g6,hm,hil⟩
  simp only [ht] at hlt ⊢
  subst hm
  by_cases hc : i < l.length
  ·have q1 : decide ((i : Int) < l.length) = true:=decide_eq_true (by omega)
   by_cases hc3 : i < 300
   ·have q2 : decide ((i : Int) < 300) = true:=decide_eq_true (by omega)
    have w1 : IntKind.i64.wrap ((i : Int) + 1) = ((i + 1 : Nat) : Int):=by rw [wrap_i64] <;> omega
    obtain ⟨r,hiad,hr,hrl⟩:=hS.iad i hc
    have hsn:=sumW_snoc (l.take i) l[i]
    rw [← take_snoc l i hc] at hsn
    have hps:=zKV (l.take i)
    rw [List.length_take] at hps
    have hwo:=zPR l[i]
    generalize l[i] = e at *
    obtain ⟨ra,rfl,hra,hok⟩:=hr
    have lra:=hra.len
    have w2 : IntKind.i64.wrap (sumW (l.take i) + wO e) = sumW (l.take (i + 1)):=by rw [hsn]; exact wrap_i64 (by omega) (by omega)
    simp (maxSteps:=2000000) (disch:=first | omega | assumption | (simp only [DS,Nat.reduceAdd, *]; done) | (simp only [DZ]; omega)) only [RUN,RU,zA2,zA1,reduceIte,Nat.reduceEqDiff,Nat.reduceBEq,Nat.reduceAdd,g0,g1,g5,g6,ll,q1,q2,w1,hiad,lra,zD9,BMM]
    refine ⟨hlt,300 - (i + 1),by omega,i + 1,rfl,by omega, ?_,rfl,by omega⟩
    show AV.sc (.int .i64 (IntKind.i64.wrap (sumW (l.take i) + wO e))) = I64 _
    rw [w2]
   ·have q2 : decide ((i : Int) < 300) = false:=decide_eq_false (by omega)
    obtain rfl : i = 300:=by omega
    cases q3 : decide (many < (l.length : Int))
    all_goals simp (maxSteps:=2000000) (disch:=first | omega | assumption | (simp only [DS,Nat.reduceAdd, *]; done) | (simp only [DZ]; omega)) only [RUN,RU,zA2,zA1,zA0,zAC,frzL,reduceIte,Nat.reduceEqDiff,Nat.reduceSub,g0,g1,g5,g6,ll,q1,q2,q3]
  ·have q1 : decide ((i : Int) < l.length) = false:=decide_eq_false (by omega)
   obtain rfl : i = l.length:=by omega
   have et : l.take 300 = l.take l.length:=by rw [List.take_of_length_le (Nat.le_refl _),List.take_of_length_le (by omega)]
   rw [et]
   cases q3 : decide (many < (l.length : Int))
   all_goals simp (maxSteps:=2000000) (disch:=first | omega | assumption | (simp only [DS,Nat.reduceAdd, *]; done) | (simp only [DZ]; omega)) only [RUN,RU,zA2,zA1,zA0,zAC,frzL,reduceIte,Nat.reduceEqDiff,g0,g1,g5,g6,ll,q3]
end Go.Proofs.YtlknfleegdkolaaGreat
namespace Go.Proofs.YtlknfleegdkolaaGreat
open Go Go.Ax
variable {fuel : Nat} {M : Mem} {Q : AV → Mem → Prop} {d : Nat} {l : List Op} {a : AV} {v u : Lb}
def zL2 (l : List Op) (v : Lb) (c : List CellV) : List CellV:=(c.map (zDG l v)).filter fun c=>c.id.hd.lb.leq v
theorem zQV (l : List Op) (v : Lb) (c : List CellV) (x : CellV) : zL2 l v (c ++ [x]) = zL2 l v c ++ (if x.id.hd.lb.leq v = true then [zDG l v x] else []):=by
 unfold zL2
 rw [List.map_append,List.filter_append]
 have e : (zDG l v x).id = x.id:=zOD l v x
 cases h : x.id.hd.lb.leq v <;> simp [e,h]
theorem zUC (l : List Op) (v : Lb) (c : List CellV) : (zL2 l v c).length ≤ c.length:=by
 unfold zL2
 exact Nat.le_trans (List.length_filter_le _ _) (by rw [List.length_map]; exact Nat.le_refl _)
theorem zXO (h : zAS [] l = true) : ∀ c ∈ zBE l v,c.id.may = true:=by
 intro c hc
 unfold zBE at hc
 obtain ⟨x,hx,rfl⟩:=List.mem_map.1 hc
 have hT:=(zD4 (zDT v h)).ok
 have:=zOH hT.1 x (List.mem_filter.1 hx).1
 exact (El.may_iff.1 this).1
theorem za5 (h : v.leq u = true) (hu : u.may = true) : v.may = true:=by
 unfold Lb.leq at h
 unfold Lb.may at *
 simp at *
 omega
set_option maxHeartbeats 16000000 in
theorem zU6 (hS : Sl 17 isOp a l) (hok : ∀ o ∈ l,o.ok) (M : Mem) : zAE Tryz.prog (fsT tbl) 4000000 61 (.fn 3) [a,lbA v,lbA u] M = some (BL true,M):=by
 have ll:=hS.len
 have hal:=zR5
 have hgr:=fun M=>zSD (fuel:=4000000) (d:=59) (many:=25) hS (by omega) M
 have hle:=fun M=>zFD (fuel:=4000000) (d:=59) v u M
 apply zBN
 refine zAJ tf3 rfl (by simp only [icyL,fun M=>hS.icy M 12 (by omega),zB3 (zDI v) (show 1 < 12 by omega),zB3 (zDI u) (show 1 < 12 by omega)]) (by simp [a3]) fun b' ht hx=>?_
 have h0:=hx 0 _ rfl
 have h1:=hx 1 _ rfl
 have h2:=hx 2 _ rfl
 clear hx
 simp only [a3,c3] at ht ⊢
 cases q1 : zLH l 25 with
 | true =>
  rw [q1] at hgr
  simp (maxSteps:=2000000) (disch:=first | omega | assumption | (simp only [DS,Nat.reduceAdd, *]; done) | (simp only [DZ]; omega)) only [RUN,RU,zA2,zA1,zA0,zAC,frzL,reduceIte,Nat.reduceEqDiff,Nat.reduceAdd,h0,h1,h2,hal,hgr]
 | false =>
  rw [q1] at hgr
  obtain ⟨hl25,hrs⟩:=zNF (by omega) q1
  have hrs2 : ∀ o ∈ l,o.rs.length ≤ 1000000000:=fun o ho=>by have:=hrs o ho; omega
  cases q2 : v.leq u with
  | false =>
   rw [q2] at hle
   simp (maxSteps:=2000000) (disch:=first | omega | assumption | (simp only [DS,Nat.reduceAdd, *]; done) | (simp only [DZ]; omega)) only [RUN,RU,zA2,zA1,zA0,zAC,frzL,slot,reduceIte,Nat.reduceEqDiff,Nat.reduceAdd,h0,h1,h2,hal,hgr,hle]
  | true =>
   rw [q2] at hle
   obtain ⟨ra,⟨r1,rfl,hr1⟩,hc1⟩:=zHQ (fuel:=4000000) (d:=42) (v:=v) hS (by omega) (by omega) hrs2
   obtain ⟨rb,⟨r2,rfl,hr2⟩,hc2⟩:=zHQ (fuel:=4000000) (d:=42) (v:=u) hS (by omega) (by omega) hrs2
   by_cases q3 : zGH l u = 0
   ·obtain ⟨q4,q5⟩:=zTA q3
    have q6:=za5 q2 q5
    have q7 : zGH l v = 0:=by unfold zGH; rw [q4,q6]; rfl
    rw [q3] at hc2 hr2
    rw [q7] at hc1 hr1
    simp only [if_true] at hr1 hr2
    have lr1:=hr1.len
    have lr2:=hr2.len
    have hvl:=zKZ q4 u
    have hvl1:=zKZ q4 v
    simp (maxSteps:=2000000) (disch:=first | omega | assumption | (simp only [DS,Nat.reduceAdd, *]; done) | (simp only [DZ]; omega)) only [RUN,RU,zA2,zA1,slot,reduceIte,Nat.reduceEqDiff,Nat.reduceAdd,h0,h1,h2,hal,hgr,hle,hc1,hc2]
    have hcm:=zXO (v:=u) q4
    have haz : ∀ x : Eid,x.may = true → askE l x v = 0:=fun x hx=>by
     unfold askE
     rw [zCX q4,if_pos rfl,hx,q6]
     rfl
    refine zBG (I:=fun n t N => ∃ (i : Nat) (p : AV),n = (zBE l u).length - i ∧ i ≤ (zBE l u).length ∧ nth zA6 t 0 = a ∧ nth zA6 t 4 = .ptr 0 0 ∧ nth zA6 t 5 = .ptr 1 0 ∧ nth zA6 t 7 = BL true ∧ nth zA6 t 8 = r1 ∧ nth zA6 t 10 = r2 ∧ nth zA6 t 12 = p ∧ nth zA6 t 13 = I64 i ∧ Wf N ∧ 2 ≤ N.size ∧ N.get 0 = some (.row false (lbR v)) ∧ N.get 1 = some (.row false (lbR u)) ∧ SlM N 5 zCQ p (zL2 l v ((zBE l u).take i)) ∧ (∀ j,rowOf p = some j → 2 ≤ j)) (n:=(zBE l u).length) (by omega) ?_ ?_
    ·refine ⟨0,NIL,rfl,Nat.zero_le _, ?_, ?_, ?_, ?_, ?_, ?_, ?_, ?_,(Wf.mem0.add _).add _,Nat.le_refl 2,by simp (maxSteps:=2000000) (disch:=first | omega | assumption | (simp only [DS,Nat.reduceAdd, *]; done) | (simp only [DZ]; omega)) only [RUN],by simp (maxSteps:=2000000) (disch:=first | omega | assumption | (simp only [DS,Nat.reduceAdd, *]; done) | (simp only [DZ]; omega)) only [RUN],SlM.nil,(fun _ h=>by cases h)⟩ <;> simp (maxSteps:=2000000) (disch:=first | omega | assumption | (simp only [DS,Nat.reduceAdd, *]; done) | (simp only [DZ]; omega)) only [RUN,reduceIte,Nat.reduceEqDiff,h0]
     all_goals first | rfl | assumption | done
    ·rintro n t N hlt ⟨i,p,rfl,hi,g0,g4,g5,g7,g8,g10,g12,g13,w,le,m0,m1,sm,nr⟩
     simp only [ht] at hlt ⊢
     have oo:=sm.one
     have oc:=sm.cells
     have l0 : 0 < N.size:=by omega
     have l1 : 1 < N.size:=by omega
     by_cases hc : i < (zBE l u).length
     ·have q8 : decide ((i : Int) < (zBE l u).length) = true:=decide_eq_true (by omega)
      have w1 : IntKind.i64.wrap ((i : Int) + 1) = ((i + 1 : Nat) : Int):=by rw [wrap_i64] <;> omega
      obtain ⟨r,hiad,hr,hrl⟩:=hr2.iad i hc
      have hts:=zQV l v ((zBE l u).take i) (zBE l u)[i]
      rw [← take_snoc _ i hc] at hts
      have hwl:=zUC l v ((zBE l u).take i)
      rw [List.length_take] at hwl
      have hcmi:=hcm _ (List.getElem_mem hc)
      generalize (zBE l u)[i] = c at *
      obtain ⟨rfl,hcok⟩:=hr
      have hsh:=fun M=>zML (fuel:=4000000) (d:=49) (x:=c.id) (v:=v) hS (by omega) (by omega) hcok M
      simp only [haz _ hcmi] at hsh
      have hlc:=fun M=>zFD (fuel:=4000000) (d:=59) c.id.hd.lb v M
      unfold zDG at hts
      have wY : ∀ z r,Wf ((N.add z).upd N.size r):=fun z r=>(w.add z).upd _ _
      have gY : ∀ z r j,j < N.size → ((N.add z).upd N.size r).get j = N.get j:=fun z r j hj=>by
       rw [zA3 (w.add _) _ _ _ (by omega),zAF w _ _ hj]
      have gZ : ∀ z r r' j,j < N.size → (((N.add z).upd N.size r).upd N.size r').get j = N.get j:=fun z r r' j hj=>by
       rw [zA3 (wY _ _) _ _ _ (by omega)]; exact gY _ _ j hj
      have smY : ∀ z r,SlM ((N.add z).upd N.size r) 5 zCQ p (zL2 l v ((zBE l u).take i)):=fun z r=>sm.keep fun j hj=>gY z r j (sm.lt j hj)
      have smZ : ∀ z r r',SlM (((N.add z).upd N.size r).upd N.size r') 5 zCQ p (zL2 l v ((zBE l u).take i)):=fun z r r'=>sm.keep fun j hj=>gZ z r r' j (sm.lt j hj)
      cases q9 : zDE l c.id v with
      | true =>
       simp only [q9] at hsh
       simp only [q9,if_true] at hts
       cases qa : c.id.hd.lb.leq v with
       | true =>
        simp only [qa] at hlc
        simp only [qa,if_true] at hts
        simp (maxSteps:=2000000) (disch:=first | omega | assumption | (simp only [DS,Nat.reduceAdd, *]; done) | (simp only [DZ]; omega)) only [RUN,RU,zA2,zA1,slot,lay,zAI,zAA,reduceIte,Nat.reduceEqDiff,Nat.reduceBEq,Nat.reduceAdd,g0,g4,g10,g12,g13,lr2,q8,hiad,m0,hsh,hlc]
        refine ⟨zAU sm.rl (by omega), ?_⟩
        refine app1 (bytes:=32) (x:=c) (wY _ _) (smY _ _) zFB ⟨rfl,hcok⟩ rfl (by omega) (by omega) (by omega) fun p2 M2 m2 wf2 le2 kp2 nw2 wm2 rl2 on2 oc2=>?_
        simp only [zA9,zA5] at le2
        simp (maxSteps:=2000000) (disch:=first | omega | assumption | (simp only [DS,Nat.reduceAdd, *]; done) | (simp only [DZ]; omega)) only [RUN,RU,zA2,zA1,reduceIte,Nat.reduceEqDiff,g0,g4,g5,g7,g8,g10,g12,g13,wf2,w1]
        refine ⟨hlt,(zBE l u).length - (i + 1),by omega,i + 1,p2,rfl,by omega,rfl,rfl,by omega, ?_, ?_,by rw [hts]; exact m2,fun j hj=>?_⟩
        ·rw [kp2 0 (by simp only [zA9,zA5]; omega) (fun h=>by have:=nr _ h; omega),gY _ _ 0 l0]; exact m0
        ·rw [kp2 1 (by simp only [zA9,zA5]; omega) (fun h=>by have:=nr _ h; omega),gY _ _ 1 l1]; exact m1
        ·rcases nw2 j hj with h | h
         ·exact nr j h
         ·simp only [zA9,zA5] at h; omega
       | false =>
        simp only [qa] at hlc
        simp only [qa,Bool.false_eq_true,if_false,List.append_nil] at hts
        simp (maxSteps:=2000000) (disch:=first | omega | assumption | (simp only [DS,Nat.reduceAdd, *]; done) | (simp only [DZ]; omega)) only [RUN,RU,zA2,zA1,slot,lay,reduceIte,Nat.reduceEqDiff,Nat.reduceBEq,Nat.reduceAdd,Nat.reduceLeDiff,g0,g4,g5,g7,g8,g10,g12,g13,lr2,q8,hiad,m0,m1,hsh,hlc,w,w1]
        exact ⟨hlt,(zBE l u).length - (i + 1),by omega,i + 1,p,rfl,by omega,rfl,rfl,by omega,by rw [hts]; exact smY _ _,nr⟩
      | false =>
       simp only [q9] at hsh
       simp only [q9,Bool.false_eq_true,if_false] at hts
       cases qa : c.id.hd.lb.leq v with
       | true =>
        simp only [qa] at hlc
        simp only [qa,if_true] at hts
        simp (maxSteps:=2000000) (disch:=first | omega | assumption | (simp only [DS,Nat.reduceAdd, *]; done) | (simp only [DZ]; omega)) only [RUN,RU,zA2,zA1,slot,lay,zAI,zAA,reduceIte,Nat.reduceEqDiff,Nat.reduceBEq,Nat.reduceAdd,g0,g4,g10,g12,g13,lr2,q8,hiad,m0,hsh,hlc]
        refine ⟨zAU sm.rl (by omega), ?_⟩
        refine app1 (bytes:=32) (x:=⟨c.id, -1⟩) ((wY _ _).upd _ _) (smZ _ _ _) zFB ⟨rfl,hcok⟩ rfl (by omega) (by omega) (by omega) fun p2 M2 m2 wf2 le2 kp2 nw2 wm2 rl2 on2 oc2=>?_
        simp only [zA9,zA5] at le2
        simp (maxSteps:=2000000) (disch:=first | omega | assumption | (simp only [DS,Nat.reduceAdd, *]; done) | (simp only [DZ]; omega)) only [RUN,RU,zA2,zA1,reduceIte,Nat.reduceEqDiff,g0,g4,g5,g7,g8,g10,g12,g13,wf2,w1]
        refine ⟨hlt,(zBE l u).length - (i + 1),by omega,i + 1,p2,rfl,by omega,rfl,rfl,by omega, ?_, ?_,by rw [hts]; exact m2,fun j hj=>?_⟩
        ·rw [kp2 0 (by simp only [zA9,zA5]; omega) (fun h=>by have:=nr _ h; omega),gZ _ _ _ 0 l0]; exact m0
        ·rw [kp2 1 (by simp only [zA9,zA5]; omega) (fun h=>by have:=nr _ h; omega),gZ _ _ _ 1 l1]; exact m1
        ·rcases nw2 j hj with h | h
         ·exact nr j h
         ·simp only [zA9,zA5] at h; omega
       | false =>
        simp only [qa] at hlc
        simp only [qa,Bool.false_eq_true,if_false,List.append_nil] at hts
        simp (maxSteps:=2000000) (disch:=first | omega | assumption | (simp only [DS,Nat.reduceAdd, *]; done) | (simp only [DZ]; omega)) only [RUN,RU,zA2,zA1,slot,lay,reduceIte,Nat.reduceEqDiff,Nat.reduceBEq,Nat.reduceAdd,Nat.reduceLeDiff,g0,g4,g5,g7,g8,g10,g12,g13,lr2,q8,hiad,m0,m1,hsh,hlc,w,w1]
        exact ⟨hlt,(zBE l u).length - (i + 1),by omega,i + 1,p,rfl,by omega,rfl,rfl,by omega,by rw [hts]; exact smZ _ _ _,nr⟩
     ·obtain rfl : i = (zBE l u).length:=by omega
      have q8 : decide (((zBE l u).length : Int) < (zBE l u).length) = false:=decide_eq_false (by omega)
      rw [List.take_length] at sm
      have hct:=fun M=>zIY (fuel:=4000000) (d:=41) (v:=v) hS (by omega) (by omega) hrs2 q7 M
      have hcu:=fun M=>zIY (fuel:=4000000) (d:=41) (v:=u) hS (by omega) (by omega) hrs2 q3 M
      simp (maxSteps:=2000000) (disch:=first | omega | assumption | (simp only [DS,Nat.reduceAdd, *]; done) | (simp only [DZ]; omega)) only [RUN,RU,zA2,zA1,slot,reduceIte,Nat.reduceEqDiff,g0,g4,g5,g7,g8,g10,g12,g13,lr2,m0,m1,hct,hcu]
      have hvt : zBE l v = zL2 l v (zBE l u):=zJH q4 hok q2 q5
      refine SlR.hand2 (n:=59) (R:=fun r=>r = BL true) tf10 rfl (SlR.of sm) w zFB (fun M=>hr1.icy M 12 (by omega)) (fun o' ho'=>⟨_,rfl,fun M=>by
       have:=zKQ (fuel:=4000000) (d:=59) hr1 ho' (by omega) (by omega) M
       rw [decide_eq_true hvt] at this
       exact this⟩) fun r M1 hr wf1 s1 n1 k1=>?_
      subst hr
      have e1:=zF9 (zBE l v)
      have e2:=zF9 (zBE l u)
      have e3:=zO2 q4 hok q2 q5
      have e4 : IntKind.i64.wrap ((zC3 (zBE l v) : Int) + zE9 (zBE l v)) = ((zBE l v).length : Int):=by rw [wrap_i64] <;> omega
      have e5 : IntKind.i64.wrap ((zC3 (zBE l u) : Int) + zE9 (zBE l u)) = ((zBE l u).length : Int):=by rw [wrap_i64] <;> omega
      have e6 : decide (((zBE l v).length : Int) = (zBE l v).length) = true:=decide_eq_true rfl
      have e7 : decide (((zBE l u).length : Int) = (zBE l u).length) = true:=decide_eq_true rfl
      have e8 : decide ((zC3 (zBE l v) : Int) ≤ zC3 (zBE l u)) = true:=decide_eq_true (by omega)
      simp (maxSteps:=2000000) (disch:=first | omega | assumption | (simp only [DS,Nat.reduceAdd, *]; done) | (simp only [DZ]; omega)) only [RUN,RU,zA2,zA1,zA0,zAC,frzL,reduceIte,Nat.reduceEqDiff,g8,g10,lr1,lr2,e4,e5,e8]
   ·have q3':=decide_eq_false q3
    by_cases q7 : zGH l v = 0
    ·have q7':=decide_eq_true q7
     simp (maxSteps:=2000000) (disch:=first | omega | assumption | (simp only [DS,Nat.reduceAdd, *]; done) | (simp only [DZ]; omega)) only [RUN,RU,zA2,zA1,zA0,zAC,frzL,slot,reduceIte,Nat.reduceEqDiff,Nat.reduceAdd,h0,h1,h2,hal,hgr,hle,hc1,hc2,q3',q7']
    ·have q7':=decide_eq_false q7
     simp (maxSteps:=2000000) (disch:=first | omega | assumption | (simp only [DS,Nat.reduceAdd, *]; done) | (simp only [DZ]; omega)) only [RUN,RU,zA2,zA1,zA0,zAC,frzL,slot,reduceIte,Nat.reduceEqDiff,Nat.reduceAdd,h0,h1,h2,hal,hgr,hle,hc1,hc2,q3',q7']
end Go.Proofs.YtlknfleegdkolaaGreat
namespace Go.Proofs.YtlknfleegdkolaaGreat
open Go Go.Ax
abbrev gLb : GT:=.ag [.int .u8,.int .u32]
abbrev gHd : GT:=.ag [gLb,.int .u8]
abbrev gId : GT:=.ag [gHd,.int .i64]
abbrev gSp : GT:=.ag [gId,.int .i64]
abbrev gOp : GT:=.ag [.int .u8,gHd,.int .i64,gSp,gId,gLb,.sl (.int .i32)]
theorem zF3 {n : Int} (h : (Lit.int .u8 n).wf = true) : 0 ≤ n ∧ n ≤ 255:=by
 simp [Lit.wf,IntKind.min,IntKind.max,IntKind.signed,IntKind.bits] at h
 omega
theorem zGK {n : Int} (h : (Lit.int .u32 n).wf = true) : 0 ≤ n ∧ n < 4294967296:=by
 simp [Lit.wf,IntKind.min,IntKind.max,IntKind.signed,IntKind.bits] at h
 omega
theorem zKN {n : Int} (h : (Lit.int .i64 n).wf = true) : i64R n:=by
 simp [Lit.wf,IntKind.min,IntKind.max,IntKind.signed,IntKind.bits] at h
 unfold i64R
 omega
def zSN (r : List AV) (x : Int) : Prop:=zB7 r x ∧ (-2147483648 ≤ x ∧ x ≤ 2147483647)
theorem zcY (r : List AV) (h : Is (.int .i32) r) : ∃ x,zSN r x:=by
 simp only [Is] at h
 obtain ⟨n,rfl,hw⟩:=h
 refine ⟨n,rfl, ?_⟩
 simp [Lit.wf,IntKind.min,IntKind.max,IntKind.signed,IntKind.bits] at hw
 omega
theorem zOA : ∀ {rows : List (List AV)} {l : List Int},All2 zSN rows l → All2 zB7 rows l ∧ i32s l
 | _,_,.nil=>⟨.nil,fun x h=>by cases h⟩
 | _,_,.cons a t=>by
  obtain ⟨h1,h2⟩:=zOA t
  refine ⟨.cons a.1 h1,fun x h=>?_⟩
  rcases List.mem_cons.1 h with rfl | h
  ·exact a.2
  ·exact h2 x h
theorem ze1 {a : AV} {l : List Int} (h : Sl 1 zSN a l) : Sl 1 zB7 a l ∧ i32s l:=by
 rcases h with ⟨rfl,rfl⟩ | ⟨rows,cap,rfl,hA,hr⟩
 ·exact ⟨.inl ⟨rfl,rfl⟩,fun x h=>by cases h⟩
 ·obtain ⟨h1,h2⟩:=zOA hA
  exact ⟨.inr ⟨rows,cap,rfl,h1,hr⟩,h2⟩
theorem zWM {r : List AV} (h : Is (.sl (.int .i32)) r) : ∃ a l,r = [a] ∧ Sl 1 zB7 a l ∧ i32s l:=by
 obtain ⟨a,l,e,hs⟩:=Is.slice zcY h
 obtain ⟨h1,h2⟩:=ze1 hs
 exact ⟨a,l,e,h1,h2⟩
theorem zcZ (r : List AV) (h : Is gLb r) : ∃ x,isLb r x:=by
 simp only [Is,IsL] at h
 obtain ⟨_,_,rfl,⟨n1,rfl,w1⟩,_,_,rfl,⟨n2,rfl,w2⟩,rfl⟩:=h
 exact ⟨⟨n1,n2⟩,rfl,(zF3 w1).1,(zF3 w1).2,(zGK w2).1,(zGK w2).2⟩
theorem of_op (r : List AV) (h : Is gOp r) : ∃ x,isOp r x:=by
 simp only [Is,IsL] at h
 obtain ⟨_,_,rfl,⟨n1,rfl,w1⟩,_,_,rfl,⟨_,_,rfl,⟨_,_,rfl,⟨n2,rfl,w2⟩,_,_,rfl,⟨n3,rfl,w3⟩,rfl⟩,_,_,rfl,⟨n4,rfl,w4⟩,rfl⟩,_,_,rfl,⟨n5,rfl,w5⟩,_,_,rfl,⟨_,_,rfl,⟨_,_,rfl,⟨_,_,rfl,⟨_,_,rfl,⟨n6,rfl,w6⟩,_,_,rfl,⟨n7,rfl,w7⟩,rfl⟩,_,_,rfl,⟨n8,rfl,w8⟩,rfl⟩,_,_,rfl,⟨n9,rfl,w9⟩,rfl⟩,_,_,rfl,⟨n10,rfl,w10⟩,rfl⟩,_,_,rfl,⟨_,_,rfl,⟨_,_,rfl,⟨_,_,rfl,⟨n11,rfl,w11⟩,_,_,rfl,⟨n12,rfl,w12⟩,rfl⟩,_,_,rfl,⟨n13,rfl,w13⟩,rfl⟩,_,_,rfl,⟨n14,rfl,w14⟩,rfl⟩,_,_,rfl,⟨_,_,rfl,⟨n15,rfl,w15⟩,_,_,rfl,⟨n16,rfl,w16⟩,rfl⟩,_,_,rfl,hr,rfl⟩:=h
 have r1 : 0 ≤ n1 ∧ n1 ≤ 255:=by exact zF3 w1
 have r2 : 0 ≤ n2 ∧ n2 ≤ 255:=by exact zF3 w2
 have r3 : 0 ≤ n3 ∧ n3 < 4294967296:=by exact zGK w3
 have r4 : 0 ≤ n4 ∧ n4 ≤ 255:=by exact zF3 w4
 have r5 : i64R n5:=by exact zKN w5
 have r6 : 0 ≤ n6 ∧ n6 ≤ 255:=by exact zF3 w6
 have r7 : 0 ≤ n7 ∧ n7 < 4294967296:=by exact zGK w7
 have r8 : 0 ≤ n8 ∧ n8 ≤ 255:=by exact zF3 w8
 have r9 : i64R n9:=by exact zKN w9
 have r10 : i64R n10:=by exact zKN w10
 have r11 : 0 ≤ n11 ∧ n11 ≤ 255:=by exact zF3 w11
 have r12 : 0 ≤ n12 ∧ n12 < 4294967296:=by exact zGK w12
 have r13 : 0 ≤ n13 ∧ n13 ≤ 255:=by exact zF3 w13
 have r14 : i64R n14:=by exact zKN w14
 have r15 : 0 ≤ n15 ∧ n15 ≤ 255:=by exact zF3 w15
 have r16 : 0 ≤ n16 ∧ n16 < 4294967296:=by exact zGK w16
 obtain ⟨ra,l,e,hs,hi⟩:=zWM (r:=_) (by simp only [Is]; exact hr)
 subst e
 exact ⟨⟨n1,⟨⟨n2,n3⟩,n4⟩,n5,⟨⟨⟨⟨n6,n7⟩,n8⟩,n9⟩,n10⟩,⟨⟨⟨n11,n12⟩,n13⟩,n14⟩,⟨n15,n16⟩,l⟩,ra,rfl,hs,r1,⟨⟨r2.1,r2.2,r3.1,r3.2⟩,r4⟩,r5,⟨⟨⟨⟨r6.1,r6.2,r7.1,r7.2⟩,r8⟩,r9⟩,r10⟩,⟨⟨⟨r11.1,r11.2,r12.1,r12.2⟩,r13⟩,r14⟩,⟨r15.1,r15.2,r16.1,r16.2⟩,hi⟩
end Go.Proofs.YtlknfleegdkolaaGreat
namespace Go.Proofs.YtlknfleegdkolaaGreat.viewTower
open Go Go.Ax
theorem run_args (a0 a1 a2 : AV) (h0 : IsA (.sl gOp) a0) (h1 : IsA gLb a1) (h2 : IsA gLb a2) : zAE Tryz.prog (fsT tbl) 4000000 61 (.fn 3) [a0,a1,a2] mem0 = some (BL true,mem0):=by
 obtain ⟨a,l,ha,hl⟩:=Is.slice of_op h0
 obtain rfl : a0 = a:=by simpa using ha
 obtain ⟨c1,rfl,h1⟩:=h1
 obtain ⟨v,rfl,_⟩:=zcZ c1 h1
 obtain ⟨c2,rfl,h2⟩:=h2
 obtain ⟨u,rfl,_⟩:=zcZ c2 h2
 exact zU6 hl (zdI hl) mem0
end Go.Proofs.YtlknfleegdkolaaGreat.viewTower
