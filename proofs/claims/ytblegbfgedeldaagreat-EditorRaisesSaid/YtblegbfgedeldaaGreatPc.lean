/-
  Texts joined: TrG TrH TrI TrJ TrK TrM TwA TwC VqE VpE VpF VpG EdK EdB EdC EdE VpH SwG.
-/
import Derived.Test.YtblegbfgedeldaaGreatEf
import Derived.Test.YtblegbfgedeldaaGreatPb
set_option linter.unusedSimpArgs false
set_option linter.unusedVariables false
set_option maxRecDepth 100000
namespace Go.Proofs.YtblegbfgedeldaaGreat
open Go Go.Ax
variable {fuel : Nat} {M : Mem} {Q : AV → Mem → Prop} {d : Nat}
def cO1 : ACode:=(.seq (.region [⟨some 5,.alloc 31 (.agg #[(.int .u8 0),(.int .u32 0),(.int .u8 0),(.int .i64 0)]),none,[]⟩,⟨none,.store 4 (.tmp 5) (.tmp 12),none,[]⟩] false) (.region [⟨some 6,.alloc 31 (.agg #[(.int .u8 0),(.int .u32 0),(.int .u8 0),(.int .i64 0)]),none,[]⟩,⟨none,.store 4 (.tmp 6) (.tmp 13),none,[]⟩] false))
def cO2 : ACode:=(.block 1 (.scope (.seq (.region [⟨some 7,.alloc 31 (.agg #[(.int .u8 0),(.int .u32 0),(.int .u8 0),(.int .i64 0)]),none,[]⟩] false) (.seq .label (.seq (.block 2 (.loop (.seq (.seq (.region [⟨some 14,.load 1 false (.tmp 3),none,[]⟩,⟨some 15,.len (.tmp 14),none,[]⟩,⟨some 16,.pur (mkO (.binOp .gtr 3 (.tmp 15) (.const (.int .i64 0)) 3) 4),none,[]⟩] false) (.cond (.tmp 16) .skip (.exit 2))) (.block 3 (.seq (.region [⟨some 17,.load 1 false (.tmp 3),none,[1,2,3,6]⟩,⟨some 18,.load 1 false (.tmp 3),none,[0,6]⟩,⟨some 19,.len (.tmp 18),none,[0,6]⟩,⟨some 20,.pur (mkO (.binOp .sub 3 (.tmp 19) (.const (.int .i64 1)) 3) 3),none,[0,6]⟩,⟨some 21,.iad 4 (.tmp 17) (.tmp 20),none,[6]⟩,⟨some 22,.load 4 true (.tmp 21),none,[6]⟩,⟨some 8,.alloc 31 (.agg #[(.int .u8 0),(.int .u32 0),(.int .u8 0),(.int .i64 0)]),none,[0,1,2,3,4,5]⟩,⟨none,.store 4 (.tmp 8) (.tmp 22),none,[]⟩] false) (.seq (.seq (.region [⟨some 23,.load 4 true (.tmp 8),none,[1]⟩,⟨some 24,.load 4 true (.tmp 6),none,[0]⟩,⟨some 25,.pur (mkO (.binOp .eql 31 (.tmp 23) (.tmp 24) 31) 4),none,[]⟩] false) (.cond (.tmp 25) (.exit 2) .skip)) (.region [⟨some 26,.load 4 true (.tmp 8),none,[1,2,3,4,5]⟩,⟨some 27,.load 1 false (.tmp 3),none,[0,2,3,4,6]⟩,⟨some 28,.load 1 false (.tmp 3),none,[0,1,6]⟩,⟨some 29,.len (.tmp 28),none,[0,1,6]⟩,⟨some 30,.pur (mkO (.binOp .sub 3 (.tmp 29) (.const (.int .i64 1)) 3) 3),none,[0,1,6]⟩,⟨some 31,.slc 4 (.tmp 27) none (some (.tmp 30)) none,none,[0,6]⟩,⟨none,.store 4 (.tmp 7) (.tmp 26),none,[1,2,3,4,5]⟩,⟨none,.store 1 (.tmp 3) (.tmp 31),none,[]⟩] true))))))) (.seq (.seq (.region [⟨some 32,.load 1 false (.tmp 3),none,[]⟩,⟨some 33,.len (.tmp 32),none,[]⟩,⟨some 34,.pur (mkO (.binOp .eql 3 (.tmp 33) (.const (.int .i64 0)) 3) 4),none,[]⟩,⟨some 35,.mov (.tmp 34),none,[]⟩,⟨some 36,.load 4 true (.tmp 6),some (35,true),[5]⟩,⟨some 37,.build (.agg #[(.int .u8 0),(.int .u32 0),(.int .u8 0),(.int .i64 0)]) [],some (35,true),[4]⟩,⟨some 38,.pur (mkO (.binOp .neq 31 (.tmp 36) (.tmp 37) 31) 4),some (35,true),[]⟩,⟨some 39,.pick (.tmp 35) (.tmp 38) (.const (.bool false)),none,[]⟩,⟨some 40,.mov (.tmp 39),none,[]⟩,⟨some 41,.load 4 true (.tmp 7),some (40,false),[10]⟩,⟨some 42,.build (.agg #[(.int .u8 0),(.int .u32 0),(.int .u8 0),(.int .i64 0)]) [],some (40,false),[9]⟩,⟨some 43,.pur (mkO (.binOp .neq 31 (.tmp 41) (.tmp 42) 31) 4),some (40,false),[]⟩,⟨some 44,.mov (.tmp 43),some (40,false),[]⟩,⟨some 45,.load 4 true (.tmp 5),some (44,true),[14]⟩,⟨some 46,.load 4 true (.tmp 7),some (44,true),[13]⟩,⟨some 47,.call (.func 67) [(.tmp 45),(.tmp 46)],some (44,true),[]⟩,⟨some 48,.pur (mkO (.unOp .not 4 (.tmp 47)) 4),some (44,true),[]⟩,⟨some 49,.pick (.tmp 44) (.tmp 48) (.const (.bool false)),some (40,false),[]⟩,⟨some 50,.pick (.tmp 40) (.const (.bool true)) (.tmp 49),none,[]⟩,⟨some 51,.mov (.tmp 50),none,[]⟩,⟨some 52,.load 1 false (.tmp 4),some (51,false),[21]⟩,⟨some 53,.load 4 true (.tmp 5),some (51,false),[20]⟩,⟨some 54,.lookup 31 (.int .i64 0) (.tmp 52) (.tmp 53) false,some (51,false),[]⟩,⟨some 55,.pur (mkO (.binOp .gtr 3 (.tmp 54) (.const (.int .i64 0)) 3) 4),some (51,false),[]⟩,⟨some 56,.pick (.tmp 51) (.const (.bool true)) (.tmp 55),none,[]⟩] false) (.cond (.tmp 56) (.seq (.region [⟨none,.store 1 (.tmp 2) (.const (.bool false)),none,[]⟩] false) .ret) .skip)) (.seq (.region [⟨some 57,.load 1 false (.tmp 4),none,[1]⟩,⟨some 58,.load 4 true (.tmp 5),none,[0]⟩,⟨none,.mupd 31 (.tmp 57) (.tmp 58) (.const (.int .i64 1)),none,[]⟩] false) (.region [⟨some 59,.load 1 false (.tmp 3),none,[1,2]⟩,⟨some 60,.load 4 true (.tmp 5),none,[0]⟩,⟨some 61,.bsl 31 4 (.agg #[(.int .u8 0),(.int .u32 0),(.int .u8 0),(.int .i64 0)]) 1 [(0,4,(.tmp 60))],none,[0]⟩,⟨some 62,.app 31 4 24 (.agg #[(.int .u8 0),(.int .u32 0),(.int .u8 0),(.int .i64 0)]) (.tmp 59) (.tmp 61),none,[]⟩,⟨none,.store 1 (.tmp 3) (.tmp 62),none,[]⟩] false))))))))
structure OI (tm : List AV) (pre : List (Eid × Eid)) (O : Nat → Prop) (N : Mem) : Prop where
 wf : Wf N
 sz : 7 ≤ N.size
 g0 : N.get 0 = some (.row false [BL false])
 g1 : ∃ o,N.get 1 = some (.row false [o]) ∧ SlP N 4 zKJ o (stk pre).reverse ∧ ∀ j,rowOf o = some j → O j ∧ 7 ≤ j
 g2 : ∃ obj,N.get 2 = some obj ∧ zHI idA (I64 1) obj (pre.map (·.1))
 g3 : N.get 3 = some (.row false [.mp 2])
 g5 : N.get 5 = some (.dfr false)
 g6 : N.get 6 = some (.loop .ready none tm [12,13] cO1 cO2 5)
 o1 : O 1
 o2 : O 2
 o6 : O 6
 ol : ∀ j,O j → j < N.size ∧ (j = 1 ∨ j = 2 ∨ 6 ≤ j)
 od : Ord pre
theorem OI.keep {tm : List AV} {pre : List (Eid × Eid)} {O : Nat → Prop} {N N' : Mem} (h : OI tm pre O N) (wf : Wf N') (hs : N.size ≤ N'.size) (k : ∀ j,j < N.size → N'.get j = N.get j) : OI tm pre O N':=by
 have:=h.sz
 obtain ⟨o,h1,h2,h3⟩:=h.g1
 obtain ⟨obj,h4,h5⟩:=h.g2
 exact ⟨wf,by omega,(k 0 (by omega)).trans h.g0,⟨o,(k 1 (by omega)).trans h1,h2.keep fun j hj=>k j (h2.lt j hj),h3⟩,⟨obj,(k 2 (by omega)).trans h4,h5⟩,(k 3 (by omega)).trans h.g3,(k 5 (by omega)).trans h.g5,(k 6 (by omega)).trans h.g6,h.o1,h.o2,h.o6,fun j hj=>⟨by have:=(h.ol j hj).1; omega,(h.ol j hj).2⟩,h.od⟩
structure OS (tm : List AV) (N : Mem) : Prop where
 wf : Wf N
 sz : 7 ≤ N.size
 g0 : N.get 0 = some (.row false [BL false])
 g5 : N.get 5 = some (.dfr false)
 g6 : N.get 6 = some (.loop .done (some .ret) tm [12,13] cO1 cO2 5)
theorem zHF : FzT zKJ:=fun r x h y hy=>by
 obtain ⟨rfl,_⟩:=h
 exact zE8 x y hy
theorem zPA (af : Eid) : ∀ (s : List Eid) (el : Eid),(popT af s el).2.length ≤ s.length
 | [],_=>Nat.le_refl _
 | t :: s,el=>by
  rw [popT]
  split
  ·exact Nat.le_refl _
  ·exact Nat.le_trans (zPA af s t) (Nat.le_succ _)
theorem zbN (l : List (Eid × Eid)) : (stk l).length ≤ l.length:=by
 refine zC7 (P:=fun l=>(stk l).length ≤ l.length) (Nat.le_refl _) (fun l x ih=>?_) l
 rw [zE6,List.length_cons,List.length_append]
 have:=zPA x.2 (stk l) Eid.z
 simp only [List.length_singleton]
 omega
set_option maxHeartbeats 16000000 in
theorem ze6 {B : Nat} {tm : List AV} {pre : List (Eid × Eid)} {O : Nat → Prop} {x : Eid × Eid} (h : OI tm pre O M) (h2 : nth zA5 tm 2 = .ptr 0 0) (h3' : nth zA5 tm 3 = .ptr 1 0) (h4' : nth zA5 tm 4 = .ptr 3 0) (hlen : tm.length = 63) (hx : x.1.ok) (hn : pre.length ≤ 100000) (hf : pre.length + 10 < fuel) :
  W3 (zAE Tryz.prog (fsT tbl) fuel (d + 7) (.yl 6) [idA x.1,idA x.2] M) (fun v N'=>(v = BL true ∧ Yl (OI tm) (pre ++ [x]) O B M N') ∨ (v = BL false ∧ OS tm N' ∧ ordS x (stk pre) (pre.map (·.1)) = false)):=by
 obtain ⟨o,g1,sp,ro⟩:=h.g1
 obtain ⟨obj,gm2,hset⟩:=h.g2
 have wf:=h.wf
 have sz:=h.sz
 have hsl:=zbN pre
 have g0:=h.g0
 have g3:=h.g3
 have g6:=h.g6
 have oo:=sp.one
 refine zVE g6 rfl ?_
 have e1 : zF9 tm [12,13] [idA x.1,idA x.2] = St tm [(13,idA x.2),(12,idA x.1)]:=rfl
 rw [e1]
 unfold cO1 cO2
 simp (maxSteps:=2000000) (disch:=first | omega | assumption | (simp only [DS,Nat.reduceAdd, *]; done) | (simp only [DZ]; omega)) only [RUN,RU,zA2,zA1,lay,reduceIte,Nat.reduceEqDiff,Nat.reduceAdd,wf]
 refine ⟨tm,[12,13],_,_,5,g6, ?_⟩
 generalize hX : ((((((M.add _).upd M.size _).add _).upd (M.size + 1) _).upd 6 _).add _) = X
 have wX : Wf X:=by rw [← hX]; exact ((((((wf.add _).upd _ _).add _).upd _ _).upd _ _).add _)
 have sX : X.size = M.size + 1 + 1 + 1:=by rw [← hX]; rfl
 have gX : ∀ j,j < M.size → j ≠ 6 → X.get j = M.get j:=fun j a b=>by
  rw [← hX,zAF (((((wf.add _).upd _ _).add _).upd _ _).upd _ _) _ _ (by simp only [zAB,zA6]; omega),zA4 ((((wf.add _).upd _ _).add _).upd _ _) _ _ _ (fun e=>b e.symm),zA4 (((wf.add _).upd _ _).add _) _ _ _ (by omega),zAF ((wf.add _).upd _ _) _ _ (by simp only [zAB,zA6]; omega),zA4 (wf.add _) _ _ _ (by omega),zAF wf _ _ a]
 have x6 : X.get 6 = some (.loop .busy none tm [12,13] cO1 cO2 5):=by
  rw [← hX,zAF (((((wf.add _).upd _ _).add _).upd _ _).upd _ _) _ _ (by simp only [zAB,zA6]; omega),zAG ((((wf.add _).upd _ _).add _).upd _ _) _ _ (by simp only [zAB,zA6]; omega)]
 have xa : X.get M.size = some (.row false (idR x.1)):=by
  rw [← hX,zAF (((((wf.add _).upd _ _).add _).upd _ _).upd _ _) _ _ (by simp only [zAB,zA6]; omega),zA4 ((((wf.add _).upd _ _).add _).upd _ _) _ _ _ (by omega),zA4 (((wf.add _).upd _ _).add _) _ _ _ (by omega),zAF ((wf.add _).upd _ _) _ _ (by simp only [zAB,zA6]; omega),zAG (wf.add _) _ _ (by simp only [zA6]; omega)]
 have xb : X.get (M.size + 1) = some (.row false (idR x.2)):=by
  rw [← hX,zAF (((((wf.add _).upd _ _).add _).upd _ _).upd _ _) _ _ (by simp only [zAB,zA6]; omega),zA4 ((((wf.add _).upd _ _).add _).upd _ _) _ _ _ (by omega),zAG (((wf.add _).upd _ _).add _) _ _ (by simp only [zAB,zA6]; omega)]
 have xc : X.get (M.size + 1 + 1) = some (.row false (idR Eid.z)):=by
  rw [← hX]
  exact zAH (((((wf.add _).upd _ _).add _).upd _ _).upd _ _) _ _ (by simp only [zAB,zA6]; omega) (by simp only [zAB,zA6]; omega)
 clear hX
 have spX : SlP X 4 zKJ o (stk pre).reverse:=sp.keep fun j hj=>gX j (sp.lt j hj) (by have:=ro j hj; omega)
 refine zBF (I:=fun n t N => ∃ (i : Nat) (o' : AV),n = (stk pre).length - i ∧ i ≤ (stk pre).length ∧ nth zA5 t 2 = .ptr 0 0 ∧ nth zA5 t 3 = .ptr 1 0 ∧ nth zA5 t 4 = .ptr 3 0 ∧ nth zA5 t 5 = .ptr M.size 0 ∧ nth zA5 t 6 = .ptr (M.size + 1) 0 ∧ nth zA5 t 7 = .ptr (M.size + 1 + 1) 0 ∧ Wf N ∧ X.size ≤ N.size ∧ (∀ j,j < M.size → j ≠ 1 → N.get j = X.get j) ∧ N.get 1 = some (.row false [o']) ∧ SlP N 4 zKJ o' ((stk pre).drop i).reverse ∧ rowOf o' = rowOf o ∧ N.get M.size = some (.row false (idR x.1)) ∧ N.get (M.size + 1) = some (.row false (idR x.2)) ∧ N.get (M.size + 1 + 1) = some (.row false (idR (((stk pre).take i).getLast?.getD Eid.z))) ∧ (∀ t ∈ (stk pre).take i,t ≠ x.2)) (n:=(stk pre).length) (by omega) ?_ ?_
 ·refine ⟨0,o,rfl,Nat.zero_le _, ?_, ?_, ?_, ?_, ?_, ?_,wX,Nat.le_refl _,(fun _ _ _=>rfl),((gX 1 (by omega) (by omega)).trans g1),(by rw [List.drop_zero]; exact spX),rfl,xa,xb,(by rw [List.take_zero]; exact xc),(fun t ht=>absurd ht (by simp))⟩ <;> simp (maxSteps:=2000000) (disch:=first | omega | assumption | (simp only [DS,Nat.reduceAdd, *]; done) | (simp only [DZ]; omega)) only [RUN,reduceIte,Nat.reduceEqDiff,h2,h3',h4']
  all_goals first | rfl | assumption | done
 ·rintro n t N hlt ⟨i,o',rfl,hi,g2,g3,g4,g5,g6,g7,w,le,kk,c1,spN,ro',ca,cb,cc,hm⟩
  simp only [hlen] at hlt ⊢
  have olen:=spN.len
  have oo':=spN.one
  rw [List.length_reverse,List.length_drop] at olen
  have l1:=Mem.get_lt c1
  have la:=Mem.get_lt ca
  have lb:=Mem.get_lt cb
  have lc:=Mem.get_lt cc
  by_cases hc : i < (stk pre).length
  ·have q1 : decide ((0 : Int) < ((stk pre).length - i : Nat)) = true:=decide_eq_true (by omega)
   have hil : (stk pre).length - i - 1 < ((stk pre).drop i).reverse.length:=by rw [List.length_reverse,List.length_drop]; omega
   obtain ⟨rid,cs,r,hrow,lrid,hgr,hiad,hr,hrl,hpt⟩:=spN.at hil
   have w1 : IntKind.i64.wrap (((stk pre).length - i : Nat) - 1) = ((stk pre).length - i - 1 : Nat):=by rw [wrap_i64] <;> omega
   obtain ⟨oc,hslc,spc,roc⟩:=spN.cut (by omega) (n:=(stk pre).length - i - 1) (by omega)
   have hel : ((stk pre).drop i).reverse[(stk pre).length - i - 1] = (stk pre)[i]:=by
    rw [List.getElem_reverse,List.getElem_drop]
    congr 1
    rw [List.length_drop]; omega
   rw [hel] at hr
   obtain ⟨rfl,hrok⟩:=hr
   simp (maxSteps:=2000000) (disch:=first | omega | assumption | (simp only [DS,Nat.reduceAdd, *]; done) | (simp only [DZ]; omega)) only [RUN,RU,zA2,zA1,slot,lay,reduceIte,Nat.reduceEqDiff,Nat.reduceAdd,g3,g6,olen,q1,w1,c1,hiad,hgr,hpt,cb,↓pIdE,zAY,ETA]
   by_cases hte : (stk pre)[i] = x.2
   ·have q2 : decide ((stk pre)[i] = x.2) = true:=decide_eq_true hte
    have hpop:=zII (el:=Eid.z) (q:=(stk pre).drop i) hm (.inr ⟨(stk pre).drop (i + 1),by rw [List.drop_eq_getElem_cons hc,hte]⟩)
    rw [List.take_append_drop] at hpop
    have hne : decide (((((stk pre).length - i : Nat) : Int)) = 0) = false:=decide_eq_false (by omega)
    have hqz : decide ((stk pre).drop i = []) = false:=decide_eq_false (fun e=>by have:=congrArg List.length e; rw [List.length_drop] at this; simp at this; omega)
    simp (maxSteps:=2000000) (disch:=first | omega | assumption | (simp only [DS,Nat.reduceAdd, *]; done) | (simp only [DZ]; omega)) only [RUN,RU,zA2,zA1,reduceIte,Nat.reduceEqDiff,g3,olen,q2,c1]
    generalize hY : (N.add _).upd N.size _ = Y
    have wY : Wf Y:=by rw [← hY]; exact (w.add _).upd _ _
    have lY : N.size ≤ Y.size:=by rw [← hY,zAB,zA6]; omega
    have kY : ∀ j,j < N.size → Y.get j = N.get j:=fun j hj=>by
     rw [← hY,zA4 (w.add _) _ _ _ (by omega),zAF w _ _ hj]
    clear hY
    have y0 : Y.get 0 = some (.row false [BL false]):=(kY 0 (by omega)).trans ((kk 0 (by omega) (by omega)).trans ((gX 0 (by omega) (by omega)).trans h.g0))
    have y1:=(kY 1 (by omega)).trans c1
    have y2:=(kY 2 (by omega)).trans ((kk 2 (by omega) (by omega)).trans ((gX 2 (by omega) (by omega)).trans gm2))
    have y3:=(kY 3 (by omega)).trans ((kk 3 (by omega) (by omega)).trans ((gX 3 (by omega) (by omega)).trans h.g3))
    have y6:=(kY 6 (by omega)).trans ((kk 6 (by omega) (by omega)).trans x6)
    have ya:=(kY _ (by omega)).trans ca
    have yb:=(kY _ (by omega)).trans cb
    have yc:=(kY _ (by omega)).trans cc
    have yj : ∀ j,j < M.size → j ≠ 1 → j ≠ 6 → Y.get j = M.get j:=fun j a b c=>(kY j (by omega)).trans ((kk j a b).trans (gX j a c))
    have spY : SlP Y 4 zKJ o' ((stk pre).drop i).reverse:=spN.keep fun j hj=>kY j (spN.lt j hj)
    clear kY kk w c1 ca cb cc spN l1 la lb lc
    have l1:=Mem.get_lt y1
    have la:=Mem.get_lt ya
    have lb:=Mem.get_lt yb
    have lc:=Mem.get_lt yc
    have l2:=Mem.get_lt y2
    have l3:=Mem.get_lt y3
    have l0:=Mem.get_lt y0
    have hlk:=zOX zKD (z:=.int .i64 0) y2 hset x.1
    unfold ordS
    rw [hpop]
    simp only [hqz]
    have hql : ((stk pre).drop i).length ≤ pre.length:=by rw [List.length_drop]; omega
    generalize (stk pre).drop i = q at *
    generalize ((stk pre).take i).getLast?.getD Eid.z = el at *
    have hls:=fun M=>@zEZ fuel (d + 4) x.1 el M
    have c2 : True:=trivial
    cases c3 : decide (el = Eid.z)
    ·cases c4 : x.1.less el
     ·rw [c4] at hls
      simp (maxSteps:=2000000) (disch:=first | omega | assumption | (simp only [DS,Nat.reduceAdd, *]; done) | (simp only [DZ]; omega)) only [RUN,RU,zA2,zA1,slot,lay,zAI,reduceIte,Nat.reduceEqDiff,g2,g5,g7,hne,y0,ya,yc,wY,↓pIdN,zBB,ETA,c3,hls]
      have os : OS tm ((Y.upd 0 (.row false [BL false])).upd 6 (.loop .done (some .ret) tm [12,13] cO1 cO2 5)):=by
       refine ⟨(wY.upd _ _).upd _ _,by simp only [zAB]; omega, ?_, ?_, ?_⟩
       ·rw [zA4 (wY.upd _ _) _ _ _ (by omega)]
        exact zAG wY _ _ l0
       ·rw [zA4 (wY.upd _ _) _ _ _ (by omega),zA4 wY _ _ _ (by omega)]
        exact (yj 5 (by omega) (by omega) (by omega)).trans h.g5
       ·exact zAG (wY.upd _ _) _ _ (by simp only [zAB]; omega)
      refine ⟨_,_,_,_,_,_,_,y6,.inr (.inr ?_)⟩
      first
      | exact os
      | exact ⟨os,by simp [*]⟩
     ·rw [c4] at hls
      by_cases c5 : x.1 ∈ pre.map (·.1)
      ·simp only [c5,if_true] at hlk
       simp (maxSteps:=2000000) (disch:=first | omega | assumption | (simp only [DS,Nat.reduceAdd, *]; done) | (simp only [DZ]; omega)) only [RUN,RU,zA2,zA1,slot,lay,zAI,reduceIte,Nat.reduceEqDiff,Int.reduceLT,g2,g4,g5,g7,hne,y0,y3,ya,yc,wY,↓pIdN,zBB,ETA,c3,hls,x_lk,hlk]
       have os : OS tm ((Y.upd 0 (.row false [BL false])).upd 6 (.loop .done (some .ret) tm [12,13] cO1 cO2 5)):=by
        refine ⟨(wY.upd _ _).upd _ _,by simp only [zAB]; omega, ?_, ?_, ?_⟩
        ·rw [zA4 (wY.upd _ _) _ _ _ (by omega)]
         exact zAG wY _ _ l0
        ·rw [zA4 (wY.upd _ _) _ _ _ (by omega),zA4 wY _ _ _ (by omega)]
         exact (yj 5 (by omega) (by omega) (by omega)).trans h.g5
        ·exact zAG (wY.upd _ _) _ _ (by simp only [zAB]; omega)
       refine ⟨_,_,_,_,_,_,_,y6,.inr (.inr ?_)⟩
       first
       | exact os
       | exact ⟨os,by simp [*]⟩
      ·simp only [c5,if_false] at hlk
       simp (maxSteps:=2000000) (disch:=first | omega | assumption | (simp only [DS,Nat.reduceAdd, *]; done) | (simp only [DZ]; omega)) only [RUN,RU,zA2,zA1,slot,zAI,reduceIte,Nat.reduceEqDiff,g4,g5,g7,hne,y3,ya,yc,↓pIdN,zBB,ETA,c3,hls,x_lk,hlk,x_mu]
       refine zLZ zKD wY l2 y2 hset x.1 fun obj' hset'=>?_
       simp only [c5,if_false] at hset'
       simp (maxSteps:=2000000) (disch:=first | omega | assumption | (simp only [DS,Nat.reduceAdd, *]; done) | (simp only [DZ]; omega)) only [RUN,RU,zA2,zA1,slot,lay,zAI,zA9,reduceIte,Nat.reduceEqDiff,Nat.reduceBEq,Nat.reduceAdd,g3,g5,y1,ya]
       refine ⟨spY.rows (by omega),SlP.app1 (bytes:=24) (x:=x.1) (wY.upd 2 obj') (spY.keep fun j hj=>zA4 wY _ _ _ (by have:=(ro j (ro' ▸ hj)).2; omega)) zHF ⟨rfl,hx⟩ rfl (by omega) (by rw [List.length_reverse]; omega) (by rw [List.length_reverse]; omega) fun o2 M2 sp2 w2 le2 kp2 nw2 rl2 on2 oc2=>?_⟩
       rw [zAB] at le2 kp2 nw2
       have hS : ordS x (stk pre) (pre.map (·.1)) = true:=by
        unfold ordS
        rw [hpop]
        simp [*]
       have hst : (stk (pre ++ [x])).reverse = q.reverse ++ [x.1]:=by rw [zE6,hpop,List.reverse_cons]
       have ro2 : ∀ j,rowOf o' = some j → O j ∧ 7 ≤ j:=fun j hj=>ro j (ro' ▸ hj)
       have k2 : ∀ j,j < M.size → j ≠ 1 → j ≠ 2 → j ≠ 6 → rowOf o' ≠ some j → M2.get j = M.get j:=fun j a b c e f=>by
        rw [kp2 j (by omega) f,zA4 wY _ _ _ (fun e=>c e.symm)]
        exact yj j a b e
       have m6 : M2.get 6 = some (.loop .busy none tm [12,13] cO1 cO2 5):=by
        rw [kp2 6 (by omega) (fun e=>by have:=(ro2 6 e).2; omega),zA4 wY _ _ _ (by omega)]
        exact y6
       have m2 : M2.get 2 = some obj':=by
        rw [kp2 2 (by omega) (fun e=>by have:=(ro2 2 e).2; omega)]
        exact zAG wY _ _ l2
       have m1 : 1 < M2.size:=by omega
       have n1 : M2.get 1 = some (.row false [o']):=by
        rw [kp2 1 (by omega) (fun e=>by have:=(ro2 1 e).2; omega),zA4 wY _ _ _ (by omega)]
        exact y1
       simp (maxSteps:=2000000) (disch:=first | omega | assumption | (simp only [DS,Nat.reduceAdd, *]; done) | (simp only [DZ]; omega)) only [RUN,RU,zA2,zA1,lay,reduceIte,Nat.reduceEqDiff,g3,oc2,w2,m6,n1]
       have yl : Yl (OI tm) (pre ++ [x]) O B M ((M2.upd 1 (.row false [o2])).upd 6 (.loop .ready none tm [12,13] cO1 cO2 5)):=by
        have wZ:=w2.upd 1 (.row false [o2])
        have zk : ∀ j,j ≠ 1 → j ≠ 6 → ((M2.upd 1 (.row false [o2])).upd 6 (.loop .ready none tm [12,13] cO1 cO2 5)).get j = M2.get j:=fun j a b=>by
         rw [zA4 wZ _ _ _ (fun e=>b e.symm),zA4 w2 _ _ _ (fun e=>a e.symm)]
        have nro : ∀ j,j < 7 → rowOf o' ≠ some j:=fun j hj e=>by have:=(ro2 j e).2; omega
        have no2 : ∀ j,rowOf o2 = some j → 7 ≤ j ∧ (O j ∨ M.size ≤ j):=fun j hj=>by
         rcases nw2 j hj with e | e
         ·exact ⟨(ro2 j e).2,.inl (ro2 j e).1⟩
         ·exact ⟨by omega,.inr (by omega)⟩
        refine ⟨⟨fun j=>O j ∨ rowOf o2 = some j,⟨wZ.upd _ _,by simp only [zAB]; omega, ?_,⟨o2, ?_, ?_,fun j hj=>⟨.inr hj,(no2 j hj).1⟩⟩,⟨obj', ?_, ?_⟩, ?_, ?_, ?_,.inl h.o1,.inl h.o2,.inl h.o6, ?_,h.od.snoc hS⟩, ?_⟩,wZ.upd _ _,by simp only [zAB]; omega, ?_⟩
        ·rw [zk 0 (by omega) (by omega),k2 0 (by omega) (by omega) (by omega) (by omega) (nro 0 (by omega))]; exact h.g0
        ·rw [zA4 wZ _ _ _ (by omega)]; exact zAG w2 _ _ m1
        ·rw [hst]
         exact sp2.keep fun j hj=>zk j (by have:=(no2 j hj).1; omega) (by have:=(no2 j hj).1; omega)
        ·rw [zk 2 (by omega) (by omega)]; exact m2
        ·rw [List.map_append]; exact hset'
        ·rw [zk 3 (by omega) (by omega),k2 3 (by omega) (by omega) (by omega) (by omega) (nro 3 (by omega))]; exact h.g3
        ·rw [zk 5 (by omega) (by omega),k2 5 (by omega) (by omega) (by omega) (by omega) (nro 5 (by omega))]; exact h.g5
        ·exact zAG wZ _ _ (by simp only [zAB]; omega)
        ·intro j hj
         simp only [zAB]
         rcases hj with hj | hj
         ·exact ⟨by have:=(h.ol j hj).1; omega,(h.ol j hj).2⟩
         ·exact ⟨sp2.lt j hj,.inr (.inr (by have:=(no2 j hj).1; omega))⟩
        ·rintro j (hj | hj)
         ·exact .inl hj
         ·exact (no2 j hj).2
        ·intro j hj hO
         have h1 : j ≠ 1:=fun e=>hO (e ▸ h.o1)
         have h2 : j ≠ 2:=fun e=>hO (e ▸ h.o2)
         have h6 : j ≠ 6:=fun e=>hO (e ▸ h.o6)
         rw [zk j h1 h6]
         exact k2 j hj h1 h2 h6 fun e=>hO (ro2 j e).1
       exact ⟨_,_,_,_,_,_,_,rfl,.inl (.inl yl)⟩
    ·skip
     by_cases c5 : x.1 ∈ pre.map (·.1)
     ·simp only [c5,if_true] at hlk
      simp (maxSteps:=2000000) (disch:=first | omega | assumption | (simp only [DS,Nat.reduceAdd, *]; done) | (simp only [DZ]; omega)) only [RUN,RU,zA2,zA1,slot,lay,zAI,reduceIte,Nat.reduceEqDiff,Int.reduceLT,g2,g4,g5,g7,hne,y0,y3,ya,yc,wY,↓pIdN,zBB,ETA,c3,x_lk,hlk]
      have os : OS tm ((Y.upd 0 (.row false [BL false])).upd 6 (.loop .done (some .ret) tm [12,13] cO1 cO2 5)):=by
       refine ⟨(wY.upd _ _).upd _ _,by simp only [zAB]; omega, ?_, ?_, ?_⟩
       ·rw [zA4 (wY.upd _ _) _ _ _ (by omega)]
        exact zAG wY _ _ l0
       ·rw [zA4 (wY.upd _ _) _ _ _ (by omega),zA4 wY _ _ _ (by omega)]
        exact (yj 5 (by omega) (by omega) (by omega)).trans h.g5
       ·exact zAG (wY.upd _ _) _ _ (by simp only [zAB]; omega)
      refine ⟨_,_,_,_,_,_,_,y6,.inr (.inr ?_)⟩
      first
      | exact os
      | exact ⟨os,by simp [*]⟩
     ·simp only [c5,if_false] at hlk
      simp (maxSteps:=2000000) (disch:=first | omega | assumption | (simp only [DS,Nat.reduceAdd, *]; done) | (simp only [DZ]; omega)) only [RUN,RU,zA2,zA1,slot,zAI,reduceIte,Nat.reduceEqDiff,g4,g5,g7,hne,y3,ya,yc,↓pIdN,zBB,ETA,c3,x_lk,hlk,x_mu]
      refine zLZ zKD wY l2 y2 hset x.1 fun obj' hset'=>?_
      simp only [c5,if_false] at hset'
      simp (maxSteps:=2000000) (disch:=first | omega | assumption | (simp only [DS,Nat.reduceAdd, *]; done) | (simp only [DZ]; omega)) only [RUN,RU,zA2,zA1,slot,lay,zAI,zA9,reduceIte,Nat.reduceEqDiff,Nat.reduceBEq,Nat.reduceAdd,g3,g5,y1,ya]
      refine ⟨spY.rows (by omega),SlP.app1 (bytes:=24) (x:=x.1) (wY.upd 2 obj') (spY.keep fun j hj=>zA4 wY _ _ _ (by have:=(ro j (ro' ▸ hj)).2; omega)) zHF ⟨rfl,hx⟩ rfl (by omega) (by rw [List.length_reverse]; omega) (by rw [List.length_reverse]; omega) fun o2 M2 sp2 w2 le2 kp2 nw2 rl2 on2 oc2=>?_⟩
      rw [zAB] at le2 kp2 nw2
      have hS : ordS x (stk pre) (pre.map (·.1)) = true:=by
       unfold ordS
       rw [hpop]
       simp [*]
      have hst : (stk (pre ++ [x])).reverse = q.reverse ++ [x.1]:=by rw [zE6,hpop,List.reverse_cons]
      have ro2 : ∀ j,rowOf o' = some j → O j ∧ 7 ≤ j:=fun j hj=>ro j (ro' ▸ hj)
      have k2 : ∀ j,j < M.size → j ≠ 1 → j ≠ 2 → j ≠ 6 → rowOf o' ≠ some j → M2.get j = M.get j:=fun j a b c e f=>by
       rw [kp2 j (by omega) f,zA4 wY _ _ _ (fun e=>c e.symm)]
       exact yj j a b e
      have m6 : M2.get 6 = some (.loop .busy none tm [12,13] cO1 cO2 5):=by
       rw [kp2 6 (by omega) (fun e=>by have:=(ro2 6 e).2; omega),zA4 wY _ _ _ (by omega)]
       exact y6
      have m2 : M2.get 2 = some obj':=by
       rw [kp2 2 (by omega) (fun e=>by have:=(ro2 2 e).2; omega)]
       exact zAG wY _ _ l2
      have m1 : 1 < M2.size:=by omega
      have n1 : M2.get 1 = some (.row false [o']):=by
       rw [kp2 1 (by omega) (fun e=>by have:=(ro2 1 e).2; omega),zA4 wY _ _ _ (by omega)]
       exact y1
      simp (maxSteps:=2000000) (disch:=first | omega | assumption | (simp only [DS,Nat.reduceAdd, *]; done) | (simp only [DZ]; omega)) only [RUN,RU,zA2,zA1,lay,reduceIte,Nat.reduceEqDiff,g3,oc2,w2,m6,n1]
      have yl : Yl (OI tm) (pre ++ [x]) O B M ((M2.upd 1 (.row false [o2])).upd 6 (.loop .ready none tm [12,13] cO1 cO2 5)):=by
       have wZ:=w2.upd 1 (.row false [o2])
       have zk : ∀ j,j ≠ 1 → j ≠ 6 → ((M2.upd 1 (.row false [o2])).upd 6 (.loop .ready none tm [12,13] cO1 cO2 5)).get j = M2.get j:=fun j a b=>by
        rw [zA4 wZ _ _ _ (fun e=>b e.symm),zA4 w2 _ _ _ (fun e=>a e.symm)]
       have nro : ∀ j,j < 7 → rowOf o' ≠ some j:=fun j hj e=>by have:=(ro2 j e).2; omega
       have no2 : ∀ j,rowOf o2 = some j → 7 ≤ j ∧ (O j ∨ M.size ≤ j):=fun j hj=>by
        rcases nw2 j hj with e | e
        ·exact ⟨(ro2 j e).2,.inl (ro2 j e).1⟩
        ·exact ⟨by omega,.inr (by omega)⟩
       refine ⟨⟨fun j=>O j ∨ rowOf o2 = some j,⟨wZ.upd _ _,by simp only [zAB]; omega, ?_,⟨o2, ?_, ?_,fun j hj=>⟨.inr hj,(no2 j hj).1⟩⟩,⟨obj', ?_, ?_⟩, ?_, ?_, ?_,.inl h.o1,.inl h.o2,.inl h.o6, ?_,h.od.snoc hS⟩, ?_⟩,wZ.upd _ _,by simp only [zAB]; omega, ?_⟩
       ·rw [zk 0 (by omega) (by omega),k2 0 (by omega) (by omega) (by omega) (by omega) (nro 0 (by omega))]; exact h.g0
       ·rw [zA4 wZ _ _ _ (by omega)]; exact zAG w2 _ _ m1
       ·rw [hst]
        exact sp2.keep fun j hj=>zk j (by have:=(no2 j hj).1; omega) (by have:=(no2 j hj).1; omega)
       ·rw [zk 2 (by omega) (by omega)]; exact m2
       ·rw [List.map_append]; exact hset'
       ·rw [zk 3 (by omega) (by omega),k2 3 (by omega) (by omega) (by omega) (by omega) (nro 3 (by omega))]; exact h.g3
       ·rw [zk 5 (by omega) (by omega),k2 5 (by omega) (by omega) (by omega) (by omega) (nro 5 (by omega))]; exact h.g5
       ·exact zAG wZ _ _ (by simp only [zAB]; omega)
       ·intro j hj
        simp only [zAB]
        rcases hj with hj | hj
        ·exact ⟨by have:=(h.ol j hj).1; omega,(h.ol j hj).2⟩
        ·exact ⟨sp2.lt j hj,.inr (.inr (by have:=(no2 j hj).1; omega))⟩
       ·rintro j (hj | hj)
        ·exact .inl hj
        ·exact (no2 j hj).2
       ·intro j hj hO
        have h1 : j ≠ 1:=fun e=>hO (e ▸ h.o1)
        have h2 : j ≠ 2:=fun e=>hO (e ▸ h.o2)
        have h6 : j ≠ 6:=fun e=>hO (e ▸ h.o6)
        rw [zk j h1 h6]
        exact k2 j hj h1 h2 h6 fun e=>hO (ro2 j e).1
      exact ⟨_,_,_,_,_,_,_,rfl,.inl (.inl yl)⟩
   ·have q2 : decide ((stk pre)[i] = x.2) = false:=decide_eq_false hte
    simp (maxSteps:=2000000) (disch:=first | omega | assumption | (simp only [DS,Nat.reduceAdd, *]; done) | (simp only [DZ]; omega)) only [RUN,RU,zA2,slot,reduceIte,Nat.reduceEqDiff,Nat.reduceBEq,Nat.reduceAdd,g3,olen,q2,w1,c1]
    refine ⟨spN.rows (by omega), ?_⟩
    rw [hslc _ (fun id hid=>by
     have:=spN.lt id hid
     rw [zA4 (w.add _) _ _ _ (by omega),zAF w _ _ this])]
    have oco:=spc.one
    have occ:=spc.cells
    have ocr:=fun m hm=>spc.rows (m:=m) hm
    simp (maxSteps:=2000000) (disch:=first | omega | assumption | (simp only [DS,Nat.reduceAdd, *]; done) | (simp only [DZ]; omega)) only [RUN,RU,zA2,lay,reduceIte,Nat.reduceEqDiff,Nat.reduceBEq,Nat.reduceAdd,g2,g3,g4,g5,g6,g7,occ,c1,ca,cb,cc,w]
    have ror:=spN.row1 hrow
    have rid7 : 7 ≤ rid ∧ rid < M.size:=by
     have e : rowOf o = some rid:=ro' ▸ hrow
     exact ⟨(ro rid e).2,sp.lt rid e⟩
    refine ⟨?_,hlt,(stk pre).length - (i + 1),by omega,i + 1,oc,rfl,by omega,by omega,fun j a b=>?_,rfl, ?_,roc.trans ro', ?_, ?_⟩
    ·have e1 : ¬(M.size + 1 + 1 = 1):=by omega
     have e2 : ¬(M.size + 1 + 1 = rid):=by omega
     rw [ror]
     simp [FP.apart,disj,FP.reads,FP.writes,fpOf,e2]
    ·rw [zA4 (((w.add _).upd _ _).upd _ _) _ _ _ (by omega),zA4 ((w.add _).upd _ _) _ _ _ (by omega),zA4 (w.add _) _ _ _ (by omega),zAF w _ _ (by omega)]
     exact kk j a b
    ·have e : ((stk pre).drop i).reverse.take ((stk pre).length - i - 1) = ((stk pre).drop (i + 1)).reverse:=by
      rw [List.take_reverse,List.drop_drop,List.length_drop]
      congr 2
      omega
     rw [← e]
     refine spc.keep fun j hj=>?_
     rw [roc,hrow] at hj
     injection hj with hj
     subst hj
     rw [zA4 (((w.add _).upd _ _).upd _ _) _ _ _ (by omega),zA4 ((w.add _).upd _ _) _ _ _ (by omega),zA4 (w.add _) _ _ _ (by omega),zAF w _ _ (by omega)]
    ·have e : ((stk pre).take (i + 1)).getLast?.getD Eid.z = (stk pre)[i]:=by
      rw [zBK _ _ hc,List.getLast?_concat]; rfl
     rw [e]
    ·intro t ht
     rw [zBK _ _ hc] at ht
     rcases List.mem_append.1 ht with ht | ht
     ·exact hm t ht
     ·rw [List.mem_singleton] at ht; subst ht; exact hte
  ·obtain rfl : i = (stk pre).length:=by omega
   have q1 : decide ((0 : Int) < ((stk pre).length - (stk pre).length : Nat)) = false:=decide_eq_false (by omega)
   have hne : decide (((((stk pre).length - (stk pre).length : Nat) : Int)) = 0) = true:=decide_eq_true (by omega)
   have hqz : decide ((stk pre).drop (stk pre).length = []) = true:=decide_eq_true (List.drop_length)
   have hpop:=zII (el:=Eid.z) (q:=(stk pre).drop (stk pre).length) hm (.inl List.drop_length)
   rw [List.take_append_drop] at hpop
   simp (maxSteps:=2000000) (disch:=first | omega | assumption | (simp only [DS,Nat.reduceAdd, *]; done) | (simp only [DZ]; omega)) only [RUN,RU,zA2,zA1,reduceIte,Nat.reduceEqDiff,g3,olen,q1,c1]
   obtain ⟨Y,hY⟩ : ∃ Y,Y = N:=⟨N,rfl⟩
   rw [← hY]
   have wY : Wf Y:=by rw [hY]; exact w
   have lY : N.size ≤ Y.size:=by rw [hY]; omega
   have kY : ∀ j,j < N.size → Y.get j = N.get j:=fun j hj=>by rw [hY]
   clear hY
   have y0 : Y.get 0 = some (.row false [BL false]):=(kY 0 (by omega)).trans ((kk 0 (by omega) (by omega)).trans ((gX 0 (by omega) (by omega)).trans h.g0))
   have y1:=(kY 1 (by omega)).trans c1
   have y2:=(kY 2 (by omega)).trans ((kk 2 (by omega) (by omega)).trans ((gX 2 (by omega) (by omega)).trans gm2))
   have y3:=(kY 3 (by omega)).trans ((kk 3 (by omega) (by omega)).trans ((gX 3 (by omega) (by omega)).trans h.g3))
   have y6:=(kY 6 (by omega)).trans ((kk 6 (by omega) (by omega)).trans x6)
   have ya:=(kY _ (by omega)).trans ca
   have yb:=(kY _ (by omega)).trans cb
   have yc:=(kY _ (by omega)).trans cc
   have yj : ∀ j,j < M.size → j ≠ 1 → j ≠ 6 → Y.get j = M.get j:=fun j a b c=>(kY j (by omega)).trans ((kk j a b).trans (gX j a c))
   have spY : SlP Y 4 zKJ o' ((stk pre).drop (stk pre).length).reverse:=spN.keep fun j hj=>kY j (spN.lt j hj)
   clear kY kk w c1 ca cb cc spN l1 la lb lc
   have l1:=Mem.get_lt y1
   have la:=Mem.get_lt ya
   have lb:=Mem.get_lt yb
   have lc:=Mem.get_lt yc
   have l2:=Mem.get_lt y2
   have l3:=Mem.get_lt y3
   have l0:=Mem.get_lt y0
   have hlk:=zOX zKD (z:=.int .i64 0) y2 hset x.1
   unfold ordS
   rw [hpop]
   simp only [hqz]
   have hql : ((stk pre).drop (stk pre).length).length ≤ pre.length:=by rw [List.length_drop]; omega
   generalize (stk pre).drop (stk pre).length = q at *
   generalize ((stk pre).take (stk pre).length).getLast?.getD Eid.z = el at *
   have hls:=fun M=>@zEZ fuel (d + 4) x.1 el M
   cases c2 : decide (x.2 = Eid.z)
   ·simp (maxSteps:=2000000) (disch:=first | omega | assumption | (simp only [DS,Nat.reduceAdd, *]; done) | (simp only [DZ]; omega)) only [RUN,RU,zA2,zA1,slot,lay,zAI,reduceIte,Nat.reduceEqDiff,g2,g6,hne,y0,yb,wY,↓pIdN,zBB,ETA,c2]
    have os : OS tm ((Y.upd 0 (.row false [BL false])).upd 6 (.loop .done (some .ret) tm [12,13] cO1 cO2 5)):=by
     refine ⟨(wY.upd _ _).upd _ _,by simp only [zAB]; omega, ?_, ?_, ?_⟩
     ·rw [zA4 (wY.upd _ _) _ _ _ (by omega)]
      exact zAG wY _ _ l0
     ·rw [zA4 (wY.upd _ _) _ _ _ (by omega),zA4 wY _ _ _ (by omega)]
      exact (yj 5 (by omega) (by omega) (by omega)).trans h.g5
     ·exact zAG (wY.upd _ _) _ _ (by simp only [zAB]; omega)
    refine ⟨_,_,_,_,_,_,_,y6,.inr (.inr ?_)⟩
    first
    | exact os
    | exact ⟨os,by simp [*]⟩
   ·skip
    cases c3 : decide (el = Eid.z)
    ·cases c4 : x.1.less el
     ·rw [c4] at hls
      simp (maxSteps:=2000000) (disch:=first | omega | assumption | (simp only [DS,Nat.reduceAdd, *]; done) | (simp only [DZ]; omega)) only [RUN,RU,zA2,zA1,slot,lay,zAI,reduceIte,Nat.reduceEqDiff,g2,g5,g6,g7,hne,y0,ya,yb,yc,wY,↓pIdN,zBB,ETA,c2,c3,hls]
      have os : OS tm ((Y.upd 0 (.row false [BL false])).upd 6 (.loop .done (some .ret) tm [12,13] cO1 cO2 5)):=by
       refine ⟨(wY.upd _ _).upd _ _,by simp only [zAB]; omega, ?_, ?_, ?_⟩
       ·rw [zA4 (wY.upd _ _) _ _ _ (by omega)]
        exact zAG wY _ _ l0
       ·rw [zA4 (wY.upd _ _) _ _ _ (by omega),zA4 wY _ _ _ (by omega)]
        exact (yj 5 (by omega) (by omega) (by omega)).trans h.g5
       ·exact zAG (wY.upd _ _) _ _ (by simp only [zAB]; omega)
      refine ⟨_,_,_,_,_,_,_,y6,.inr (.inr ?_)⟩
      first
      | exact os
      | exact ⟨os,by simp [*]⟩
     ·rw [c4] at hls
      by_cases c5 : x.1 ∈ pre.map (·.1)
      ·simp only [c5,if_true] at hlk
       simp (maxSteps:=2000000) (disch:=first | omega | assumption | (simp only [DS,Nat.reduceAdd, *]; done) | (simp only [DZ]; omega)) only [RUN,RU,zA2,zA1,slot,lay,zAI,reduceIte,Nat.reduceEqDiff,Int.reduceLT,g2,g4,g5,g6,g7,hne,y0,y3,ya,yb,yc,wY,↓pIdN,zBB,ETA,c2,c3,hls,x_lk,hlk]
       have os : OS tm ((Y.upd 0 (.row false [BL false])).upd 6 (.loop .done (some .ret) tm [12,13] cO1 cO2 5)):=by
        refine ⟨(wY.upd _ _).upd _ _,by simp only [zAB]; omega, ?_, ?_, ?_⟩
        ·rw [zA4 (wY.upd _ _) _ _ _ (by omega)]
         exact zAG wY _ _ l0
        ·rw [zA4 (wY.upd _ _) _ _ _ (by omega),zA4 wY _ _ _ (by omega)]
         exact (yj 5 (by omega) (by omega) (by omega)).trans h.g5
        ·exact zAG (wY.upd _ _) _ _ (by simp only [zAB]; omega)
       refine ⟨_,_,_,_,_,_,_,y6,.inr (.inr ?_)⟩
       first
       | exact os
       | exact ⟨os,by simp [*]⟩
      ·simp only [c5,if_false] at hlk
       simp (maxSteps:=2000000) (disch:=first | omega | assumption | (simp only [DS,Nat.reduceAdd, *]; done) | (simp only [DZ]; omega)) only [RUN,RU,zA2,zA1,slot,zAI,reduceIte,Nat.reduceEqDiff,g4,g5,g6,g7,hne,y3,ya,yb,yc,↓pIdN,zBB,ETA,c2,c3,hls,x_lk,hlk,x_mu]
       refine zLZ zKD wY l2 y2 hset x.1 fun obj' hset'=>?_
       simp only [c5,if_false] at hset'
       simp (maxSteps:=2000000) (disch:=first | omega | assumption | (simp only [DS,Nat.reduceAdd, *]; done) | (simp only [DZ]; omega)) only [RUN,RU,zA2,zA1,slot,lay,zAI,zA9,reduceIte,Nat.reduceEqDiff,Nat.reduceBEq,Nat.reduceAdd,g3,g5,y1,ya]
       refine ⟨spY.rows (by omega),SlP.app1 (bytes:=24) (x:=x.1) (wY.upd 2 obj') (spY.keep fun j hj=>zA4 wY _ _ _ (by have:=(ro j (ro' ▸ hj)).2; omega)) zHF ⟨rfl,hx⟩ rfl (by omega) (by rw [List.length_reverse]; omega) (by rw [List.length_reverse]; omega) fun o2 M2 sp2 w2 le2 kp2 nw2 rl2 on2 oc2=>?_⟩
       rw [zAB] at le2 kp2 nw2
       have hS : ordS x (stk pre) (pre.map (·.1)) = true:=by
        unfold ordS
        rw [hpop]
        simp [*]
       have hst : (stk (pre ++ [x])).reverse = q.reverse ++ [x.1]:=by rw [zE6,hpop,List.reverse_cons]
       have ro2 : ∀ j,rowOf o' = some j → O j ∧ 7 ≤ j:=fun j hj=>ro j (ro' ▸ hj)
       have k2 : ∀ j,j < M.size → j ≠ 1 → j ≠ 2 → j ≠ 6 → rowOf o' ≠ some j → M2.get j = M.get j:=fun j a b c e f=>by
        rw [kp2 j (by omega) f,zA4 wY _ _ _ (fun e=>c e.symm)]
        exact yj j a b e
       have m6 : M2.get 6 = some (.loop .busy none tm [12,13] cO1 cO2 5):=by
        rw [kp2 6 (by omega) (fun e=>by have:=(ro2 6 e).2; omega),zA4 wY _ _ _ (by omega)]
        exact y6
       have m2 : M2.get 2 = some obj':=by
        rw [kp2 2 (by omega) (fun e=>by have:=(ro2 2 e).2; omega)]
        exact zAG wY _ _ l2
       have m1 : 1 < M2.size:=by omega
       have n1 : M2.get 1 = some (.row false [o']):=by
        rw [kp2 1 (by omega) (fun e=>by have:=(ro2 1 e).2; omega),zA4 wY _ _ _ (by omega)]
        exact y1
       simp (maxSteps:=2000000) (disch:=first | omega | assumption | (simp only [DS,Nat.reduceAdd, *]; done) | (simp only [DZ]; omega)) only [RUN,RU,zA2,zA1,lay,reduceIte,Nat.reduceEqDiff,g3,oc2,w2,m6,n1]
       have yl : Yl (OI tm) (pre ++ [x]) O B M ((M2.upd 1 (.row false [o2])).upd 6 (.loop .ready none tm [12,13] cO1 cO2 5)):=by
        have wZ:=w2.upd 1 (.row false [o2])
        have zk : ∀ j,j ≠ 1 → j ≠ 6 → ((M2.upd 1 (.row false [o2])).upd 6 (.loop .ready none tm [12,13] cO1 cO2 5)).get j = M2.get j:=fun j a b=>by
         rw [zA4 wZ _ _ _ (fun e=>b e.symm),zA4 w2 _ _ _ (fun e=>a e.symm)]
        have nro : ∀ j,j < 7 → rowOf o' ≠ some j:=fun j hj e=>by have:=(ro2 j e).2; omega
        have no2 : ∀ j,rowOf o2 = some j → 7 ≤ j ∧ (O j ∨ M.size ≤ j):=fun j hj=>by
         rcases nw2 j hj with e | e
         ·exact ⟨(ro2 j e).2,.inl (ro2 j e).1⟩
         ·exact ⟨by omega,.inr (by omega)⟩
        refine ⟨⟨fun j=>O j ∨ rowOf o2 = some j,⟨wZ.upd _ _,by simp only [zAB]; omega, ?_,⟨o2, ?_, ?_,fun j hj=>⟨.inr hj,(no2 j hj).1⟩⟩,⟨obj', ?_, ?_⟩, ?_, ?_, ?_,.inl h.o1,.inl h.o2,.inl h.o6, ?_,h.od.snoc hS⟩, ?_⟩,wZ.upd _ _,by simp only [zAB]; omega, ?_⟩
        ·rw [zk 0 (by omega) (by omega),k2 0 (by omega) (by omega) (by omega) (by omega) (nro 0 (by omega))]; exact h.g0
        ·rw [zA4 wZ _ _ _ (by omega)]; exact zAG w2 _ _ m1
        ·rw [hst]
         exact sp2.keep fun j hj=>zk j (by have:=(no2 j hj).1; omega) (by have:=(no2 j hj).1; omega)
        ·rw [zk 2 (by omega) (by omega)]; exact m2
        ·rw [List.map_append]; exact hset'
        ·rw [zk 3 (by omega) (by omega),k2 3 (by omega) (by omega) (by omega) (by omega) (nro 3 (by omega))]; exact h.g3
        ·rw [zk 5 (by omega) (by omega),k2 5 (by omega) (by omega) (by omega) (by omega) (nro 5 (by omega))]; exact h.g5
        ·exact zAG wZ _ _ (by simp only [zAB]; omega)
        ·intro j hj
         simp only [zAB]
         rcases hj with hj | hj
         ·exact ⟨by have:=(h.ol j hj).1; omega,(h.ol j hj).2⟩
         ·exact ⟨sp2.lt j hj,.inr (.inr (by have:=(no2 j hj).1; omega))⟩
        ·rintro j (hj | hj)
         ·exact .inl hj
         ·exact (no2 j hj).2
        ·intro j hj hO
         have h1 : j ≠ 1:=fun e=>hO (e ▸ h.o1)
         have h2 : j ≠ 2:=fun e=>hO (e ▸ h.o2)
         have h6 : j ≠ 6:=fun e=>hO (e ▸ h.o6)
         rw [zk j h1 h6]
         exact k2 j hj h1 h2 h6 fun e=>hO (ro2 j e).1
       exact ⟨_,_,_,_,_,_,_,rfl,.inl (.inl yl)⟩
    ·skip
     by_cases c5 : x.1 ∈ pre.map (·.1)
     ·simp only [c5,if_true] at hlk
      simp (maxSteps:=2000000) (disch:=first | omega | assumption | (simp only [DS,Nat.reduceAdd, *]; done) | (simp only [DZ]; omega)) only [RUN,RU,zA2,zA1,slot,lay,zAI,reduceIte,Nat.reduceEqDiff,Int.reduceLT,g2,g4,g5,g6,g7,hne,y0,y3,ya,yb,yc,wY,↓pIdN,zBB,ETA,c2,c3,x_lk,hlk]
      have os : OS tm ((Y.upd 0 (.row false [BL false])).upd 6 (.loop .done (some .ret) tm [12,13] cO1 cO2 5)):=by
       refine ⟨(wY.upd _ _).upd _ _,by simp only [zAB]; omega, ?_, ?_, ?_⟩
       ·rw [zA4 (wY.upd _ _) _ _ _ (by omega)]
        exact zAG wY _ _ l0
       ·rw [zA4 (wY.upd _ _) _ _ _ (by omega),zA4 wY _ _ _ (by omega)]
        exact (yj 5 (by omega) (by omega) (by omega)).trans h.g5
       ·exact zAG (wY.upd _ _) _ _ (by simp only [zAB]; omega)
      refine ⟨_,_,_,_,_,_,_,y6,.inr (.inr ?_)⟩
      first
      | exact os
      | exact ⟨os,by simp [*]⟩
     ·simp only [c5,if_false] at hlk
      simp (maxSteps:=2000000) (disch:=first | omega | assumption | (simp only [DS,Nat.reduceAdd, *]; done) | (simp only [DZ]; omega)) only [RUN,RU,zA2,zA1,slot,zAI,reduceIte,Nat.reduceEqDiff,g4,g5,g6,g7,hne,y3,ya,yb,yc,↓pIdN,zBB,ETA,c2,c3,x_lk,hlk,x_mu]
      refine zLZ zKD wY l2 y2 hset x.1 fun obj' hset'=>?_
      simp only [c5,if_false] at hset'
      simp (maxSteps:=2000000) (disch:=first | omega | assumption | (simp only [DS,Nat.reduceAdd, *]; done) | (simp only [DZ]; omega)) only [RUN,RU,zA2,zA1,slot,lay,zAI,zA9,reduceIte,Nat.reduceEqDiff,Nat.reduceBEq,Nat.reduceAdd,g3,g5,y1,ya]
      refine ⟨spY.rows (by omega),SlP.app1 (bytes:=24) (x:=x.1) (wY.upd 2 obj') (spY.keep fun j hj=>zA4 wY _ _ _ (by have:=(ro j (ro' ▸ hj)).2; omega)) zHF ⟨rfl,hx⟩ rfl (by omega) (by rw [List.length_reverse]; omega) (by rw [List.length_reverse]; omega) fun o2 M2 sp2 w2 le2 kp2 nw2 rl2 on2 oc2=>?_⟩
      rw [zAB] at le2 kp2 nw2
      have hS : ordS x (stk pre) (pre.map (·.1)) = true:=by
       unfold ordS
       rw [hpop]
       simp [*]
      have hst : (stk (pre ++ [x])).reverse = q.reverse ++ [x.1]:=by rw [zE6,hpop,List.reverse_cons]
      have ro2 : ∀ j,rowOf o' = some j → O j ∧ 7 ≤ j:=fun j hj=>ro j (ro' ▸ hj)
      have k2 : ∀ j,j < M.size → j ≠ 1 → j ≠ 2 → j ≠ 6 → rowOf o' ≠ some j → M2.get j = M.get j:=fun j a b c e f=>by
       rw [kp2 j (by omega) f,zA4 wY _ _ _ (fun e=>c e.symm)]
       exact yj j a b e
      have m6 : M2.get 6 = some (.loop .busy none tm [12,13] cO1 cO2 5):=by
       rw [kp2 6 (by omega) (fun e=>by have:=(ro2 6 e).2; omega),zA4 wY _ _ _ (by omega)]
       exact y6
      have m2 : M2.get 2 = some obj':=by
       rw [kp2 2 (by omega) (fun e=>by have:=(ro2 2 e).2; omega)]
       exact zAG wY _ _ l2
      have m1 : 1 < M2.size:=by omega
      have n1 : M2.get 1 = some (.row false [o']):=by
       rw [kp2 1 (by omega) (fun e=>by have:=(ro2 1 e).2; omega),zA4 wY _ _ _ (by omega)]
       exact y1
      simp (maxSteps:=2000000) (disch:=first | omega | assumption | (simp only [DS,Nat.reduceAdd, *]; done) | (simp only [DZ]; omega)) only [RUN,RU,zA2,zA1,lay,reduceIte,Nat.reduceEqDiff,g3,oc2,w2,m6,n1]
      have yl : Yl (OI tm) (pre ++ [x]) O B M ((M2.upd 1 (.row false [o2])).upd 6 (.loop .ready none tm [12,13] cO1 cO2 5)):=by
       have wZ:=w2.upd 1 (.row false [o2])
       have zk : ∀ j,j ≠ 1 → j ≠ 6 → ((M2.upd 1 (.row false [o2])).upd 6 (.loop .ready none tm [12,13] cO1 cO2 5)).get j = M2.get j:=fun j a b=>by
        rw [zA4 wZ _ _ _ (fun e=>b e.symm),zA4 w2 _ _ _ (fun e=>a e.symm)]
       have nro : ∀ j,j < 7 → rowOf o' ≠ some j:=fun j hj e=>by have:=(ro2 j e).2; omega
       have no2 : ∀ j,rowOf o2 = some j → 7 ≤ j ∧ (O j ∨ M.size ≤ j):=fun j hj=>by
        rcases nw2 j hj with e | e
        ·exact ⟨(ro2 j e).2,.inl (ro2 j e).1⟩
        ·exact ⟨by omega,.inr (by omega)⟩
       refine ⟨⟨fun j=>O j ∨ rowOf o2 = some j,⟨wZ.upd _ _,by simp only [zAB]; omega, ?_,⟨o2, ?_, ?_,fun j hj=>⟨.inr hj,(no2 j hj).1⟩⟩,⟨obj', ?_, ?_⟩, ?_, ?_, ?_,.inl h.o1,.inl h.o2,.inl h.o6, ?_,h.od.snoc hS⟩, ?_⟩,wZ.upd _ _,by simp only [zAB]; omega, ?_⟩
       ·rw [zk 0 (by omega) (by omega),k2 0 (by omega) (by omega) (by omega) (by omega) (nro 0 (by omega))]; exact h.g0
       ·rw [zA4 wZ _ _ _ (by omega)]; exact zAG w2 _ _ m1
       ·rw [hst]
        exact sp2.keep fun j hj=>zk j (by have:=(no2 j hj).1; omega) (by have:=(no2 j hj).1; omega)
       ·rw [zk 2 (by omega) (by omega)]; exact m2
       ·rw [List.map_append]; exact hset'
       ·rw [zk 3 (by omega) (by omega),k2 3 (by omega) (by omega) (by omega) (by omega) (nro 3 (by omega))]; exact h.g3
       ·rw [zk 5 (by omega) (by omega),k2 5 (by omega) (by omega) (by omega) (by omega) (nro 5 (by omega))]; exact h.g5
       ·exact zAG wZ _ _ (by simp only [zAB]; omega)
       ·intro j hj
        simp only [zAB]
        rcases hj with hj | hj
        ·exact ⟨by have:=(h.ol j hj).1; omega,(h.ol j hj).2⟩
        ·exact ⟨sp2.lt j hj,.inr (.inr (by have:=(no2 j hj).1; omega))⟩
       ·rintro j (hj | hj)
        ·exact .inl hj
        ·exact (no2 j hj).2
       ·intro j hj hO
        have h1 : j ≠ 1:=fun e=>hO (e ▸ h.o1)
        have h2 : j ≠ 2:=fun e=>hO (e ▸ h.o2)
        have h6 : j ≠ 6:=fun e=>hO (e ▸ h.o6)
        rw [zk j h1 h6]
        exact k2 j hj h1 h2 h6 fun e=>hO (ro2 j e).1
      exact ⟨_,_,_,_,_,_,_,rfl,.inl (.inl yl)⟩
end Go.Proofs.YtblegbfgedeldaaGreat
namespace Go.Proofs.YtblegbfgedeldaaGreat
open Go Go.Ax
variable {fuel : Nat} {M : Mem} {Q : AV → Mem → Prop} {d : Nat}
theorem zQ5 {a : AV} {l : List Rn} (hS : Sl 10 isRn a l) (wf : Wf M) (k : Q (.fn 126 [] [.ptr M.size 0]) (M.add (.row false [a]))) :
  W3 (zAE Tryz.prog (fsT tbl) fuel (d + 1) (.fn 115) [a] M) Q:=by
 have oa:=hS.one
 refine zB3 tf115 rfl (by simp [a115]) fun b' ht hx=>?_
 have h0:=hx 0 _ rfl
 clear hx
 simp only [a115,c115,zzm] at ht ⊢
 simp (maxSteps:=2000000) (disch:=first | omega | assumption | (simp only [DS,Nat.reduceAdd, *]; done) | (simp only [DZ]; omega)) only [RUN,RU,zA2,zA1,zA0,zAA,reduceIte,Nat.reduceEqDiff,h0,hS.fz.cells]
 exact k
theorem zbC {a : AV} {l : List Rn} (hS : Sl 10 isRn a l) : ∀ r ∈ l,r.ok:=by
 intro r hr
 obtain ⟨i,hi,rfl⟩:=List.getElem_of_mem hr
 obtain ⟨_,_,⟨_,_,_,hok⟩,_⟩:=hS.iad i hi
 exact hok
theorem zYD {l : List Rn} (h : ∀ r ∈ l,r.ok) (hm : ∀ r ∈ l,r.may = true) : ∀ x ∈ elsL l,x.1.ok:=by
 intro x hx
 obtain ⟨r,hr,hx⟩:=List.mem_flatMap.1 hx
 obtain ⟨i,hi,rfl⟩:=List.mem_map.1 hx
 rw [List.mem_range] at hi
 have hb:=Spn.may_le (Rn.may_sp (hm r hr))
 have hk:=h r hr
 refine ⟨hk.1.1.1, ?_⟩
 simp only [Spn.at,i64R]
 omega
theorem zJ5 {l : List Rn} (hm : ∀ r ∈ l,r.may = true) : (elsL l).length ≤ 64 * l.length:=by
 have:=zEH hm
 have e:=zDP hm
 rw [← zKT]
 unfold prs
 rw [List.length_map]
 omega
theorem zZV {X : Mem} {tm : List AV} {a : AV} {l : List Rn} (hS : Sl 10 isRn a l) (hl : l.length ≤ 1000) (hm : ∀ r ∈ l,r.may = true) (hf : 64 * l.length + 1000 < fuel) (w : Wf X) (h2 : nth zA5 tm 2 = .ptr 0 0) (h3 : nth zA5 tm 3 = .ptr 1 0) (h4 : nth zA5 tm 4 = .ptr 3 0) (hlen : tm.length = 63) (hX : X.size = 5) (g0 : X.get 0 = some (.row false [BL false])) (g1 : X.get 1 = some (.row false [NIL])) (g2 : X.get 2 = some (.map [] 0)) (g3 : X.get 3 = some (.row false [.mp 2])) (g4 : X.get 4 = some (.row false [a]))
  (kt : Ord (elsL l) → ∀ u O N,OI tm (elsL l) O N → Q u N) (ks : ¬Ord (elsL l) → ∀ u N,OS tm N → Q u N) :
  W3 (zAE Tryz.prog (fsT tbl) fuel (d + 8) (.fn 126) ([] ++ [.yl (X.size + 1)] ++ [.ptr 4 0]) ((X.add (.dfr false)).add (.loop .ready none tm [12,13] cO1 cO2 X.size))) Q:=by
 have w1:=w.add (.dfr false)
 have hel:=zJ5 hm
 have heo:=zYD (zbC hS) hm
 have e : X.size + 1 = 6:=by omega
 have u : ∀ j,j < 5 → ((X.add (.dfr false)).add (.loop .ready none tm [12,13] cO1 cO2 X.size)).get j = X.get j:=fun j hj=>by
  rw [zAF w1 _ _ (by rw [zA6]; omega),zAF w _ _ (by omega)]
 have hJ0 : OI tm [] (fun j=>j = 1 ∨ j = 2 ∨ j = 6) ((X.add (.dfr false)).add (.loop .ready none tm [12,13] cO1 cO2 X.size)):=by
  refine ⟨w1.add _,by simp only [zA6]; omega,(u 0 (by omega)).trans g0,⟨NIL,(u 1 (by omega)).trans g1,SlP.nil,fun j hj=>by cases hj⟩,⟨_,(u 2 (by omega)).trans g2,zHI.nil _ _⟩,(u 3 (by omega)).trans g3, ?_, ?_,.inl rfl,.inr (.inl rfl),.inr (.inr rfl), ?_,Ord.nil⟩
  ·rw [zAF w1 _ _ (by rw [zA6]; omega),← hX]
   exact zAH w _ _ (Nat.le_refl _) (Nat.lt_succ_self _)
  ·have:=zAH w1 (.loop .ready none tm [12,13] cO1 cO2 X.size) 6 (by rw [zA6]; omega) (by rw [zA6]; omega)
   rw [hX] at this ⊢
   exact this
  ·intro j hj
   simp only [zA6]
   rcases hj with rfl | rfl | rfl <;> omega
 have key:=zVQ (d:=d) (fuel:=fuel) (Q:=Q) (J:=OI tm) (S:=fun N=>OS tm N ∧ ¬Ord (elsL l)) (id:=6) (p:=4) hS (by omega) hm (by omega) (w1.add _) ((u 4 (by omega)).trans g4) hJ0 (fun pre O N N' h wf le k=>h.keep wf le k) (fun pre O N h j hj=>(h.ol j hj).1) (fun pre x post O N he h wf le=>?_) (fun u N O h _ _=>kt h.od u O N h) (fun u N h=>ks h.2 u N h.1)
 ·rw [← e] at key
  exact key
 ·have hxm : x ∈ elsL l:=by rw [he]; simp
  have hpl : pre.length ≤ (elsL l).length:=by rw [he]; simp
  obtain ⟨v,N',hc,hv⟩:=ze6 (fuel:=fuel) (d:=d) (B:=((X.add (.dfr false)).add (.loop .ready none tm [12,13] cO1 cO2 X.size)).size) h h2 h3 h4 hlen (heo x hxm) (by omega) (by omega)
  refine ⟨v,N',hc, ?_⟩
  rcases hv with ⟨rfl,hv⟩ | ⟨rfl,hv,ho⟩
  ·exact .inl ⟨rfl,hv⟩
  ·refine .inr ⟨rfl,hv,fun k=>?_⟩
   rw [k pre x post he] at ho
   cases ho
open Classical in
set_option maxHeartbeats 4000000 in
theorem zNN {a : AV} {l : List Rn} (hS : Sl 10 isRn a l) (hl : l.length ≤ 1000) (hm : ∀ r ∈ l,r.may = true) (hf : 64 * l.length + 1000 < fuel) (M : Mem) : zAE Tryz.prog (fsT tbl) fuel (d + 9) (.fn 86) [a] M = some (BL (decide (Ord (elsL l))),M):=by
 have oa:=hS.one
 have hel:=zJ5 hm
 have heo:=zYD (zbC hS) hm
 apply zBM
 refine zAJ tf86 rfl (by simp only [icyL,fun M=>hS.icy M 12 (by omega)]) (by simp [a86]) fun b' ht hx=>?_
 have h0:=hx 0 _ rfl
 clear hx
 simp only [a86,c86,zz3,zzm,zzg] at ht ⊢
 have cm : cellsA (.mp 2) = [.mp 2]:=rfl
 have om : oneA (.mp 2) = true:=rfl
 have sm : scs (.map none) = [.sc (.map none)]:=rfl
 simp (maxSteps:=2000000) (disch:=first | omega | assumption | (simp only [DS,Nat.reduceAdd, *]; done) | (simp only [DZ]; omega)) only [RUN,RU,zA2,zA1,lay,reduceIte,Nat.reduceEqDiff,Nat.reduceAdd,h0,zUP,cm,sm]
 refine zQ5 hS (by simp (maxSteps:=2000000) (disch:=first | omega | assumption | (simp only [DS,Nat.reduceAdd, *]; done) | (simp only [DZ]; omega)) only [RUN]) ?_
 simp (maxSteps:=2000000) (disch:=first | omega | assumption | (simp only [DS,Nat.reduceAdd, *]; done) | (simp only [DZ]; omega)) only [RUN,RU,Nat.reduceAdd]
 refine zY2 (g:=126) (first:=[]) (cap:=[.ptr 4 0]) (by simp (maxSteps:=2000000) (disch:=first | omega | assumption | (simp only [DS,Nat.reduceAdd, *]; done) | (simp only [DZ]; omega)) only [RUN]) (by simp (maxSteps:=2000000) (disch:=first | omega | assumption | (simp only [DS,Nat.reduceAdd, *]; done) | (simp only [DZ]; omega)) only [RUN,reduceIte,Nat.reduceEqDiff]) ?_
 refine zZV (d:=d) hS hl hm hf ?_ ?_ ?_ ?_ ?_ ?_ ?_ ?_ ?_ ?_ ?_ (fun ho u O N h=>?_) (fun ho u N h=>?_)
 ·simp (maxSteps:=2000000) (disch:=first | omega | assumption | (simp only [DS,Nat.reduceAdd, *]; done) | (simp only [DZ]; omega)) only [RUN]
 ·simp (maxSteps:=2000000) (disch:=first | omega | assumption | (simp only [DS,Nat.reduceAdd, *]; done) | (simp only [DZ]; omega)) only [RUN,reduceIte,Nat.reduceEqDiff]
 ·simp (maxSteps:=2000000) (disch:=first | omega | assumption | (simp only [DS,Nat.reduceAdd, *]; done) | (simp only [DZ]; omega)) only [RUN,reduceIte,Nat.reduceEqDiff]
 ·simp (maxSteps:=2000000) (disch:=first | omega | assumption | (simp only [DS,Nat.reduceAdd, *]; done) | (simp only [DZ]; omega)) only [RUN,reduceIte,Nat.reduceEqDiff]
 ·rw [zL9]; exact ht
 ·simp (maxSteps:=2000000) (disch:=first | omega | assumption | (simp only [DS,Nat.reduceAdd, *]; done) | (simp only [DZ]; omega)) only [RUN,RU,Nat.reduceAdd]
 ·simp (maxSteps:=2000000) (disch:=first | omega | assumption | (simp only [DS,Nat.reduceAdd, *]; done) | (simp only [DZ]; omega)) only [RUN]
 ·simp (maxSteps:=2000000) (disch:=first | omega | assumption | (simp only [DS,Nat.reduceAdd, *]; done) | (simp only [DZ]; omega)) only [RUN]
 ·simp (maxSteps:=2000000) (disch:=first | omega | assumption | (simp only [DS,Nat.reduceAdd, *]; done) | (simp only [DZ]; omega)) only [RUN]
 ·simp (maxSteps:=2000000) (disch:=first | omega | assumption | (simp only [DS,Nat.reduceAdd, *]; done) | (simp only [DZ]; omega)) only [RUN]
 ·simp (maxSteps:=2000000) (disch:=first | omega | assumption | (simp only [DS,Nat.reduceAdd, *]; done) | (simp only [DZ]; omega)) only [RUN]
 ·have wf:=h.wf
  have sz:=h.sz
  have l0:=Mem.get_lt h.g0
  have l5:=Mem.get_lt h.g5
  have e6 : (mem0.add (.row false [BL false])).size = 1:=rfl
  refine ⟨wf,by simp only [zA6,zAB,zBG]; omega,_,_,_,_,_,_,_,.inl rfl,h.g6, ?_⟩
  generalize hX : N.upd _ _ = X
  have wX : Wf X:=by rw [← hX]; exact wf.upd _ _
  have sX : X.size = N.size:=by rw [← hX]; rfl
  have gX : ∀ j,j ≠ 6 → X.get j = N.get j:=fun j hj=>by rw [← hX]; exact zA4 wf _ _ _ (fun e=>hj e.symm)
  have x0:=(gX 0 (by omega)).trans h.g0
  have x5:=(gX 5 (by omega)).trans h.g5
  have hd : decide (Ord (elsL l)) = true:=decide_eq_true ho
  rw [hd]
  simp (maxSteps:=2000000) (disch:=first | omega | assumption | (simp only [DS,Nat.reduceAdd, *]; done) | (simp only [DZ]; omega)) only [RUN,RU,zA2,zA1,lay,reduceIte,Nat.reduceEqDiff,Nat.reduceAdd,x0,Option.getD_none]
  refine zK4 (by simp (maxSteps:=2000000) (disch:=first | omega | assumption | (simp only [DS,Nat.reduceAdd, *]; done) | (simp only [DZ]; omega)) only [RUN,wX]) (by simp (maxSteps:=2000000) (disch:=first | omega | assumption | (simp only [DS,Nat.reduceAdd, *]; done) | (simp only [DZ]; omega)) only [RUN,x5]) ?_
  simp (maxSteps:=2000000) (disch:=first | omega | assumption | (simp only [DS,Nat.reduceAdd, *]; done) | (simp only [DZ]; omega)) only [RUN,RU,zA0,zAA,frzL,reduceIte,Nat.reduceEqDiff]
 ·have wf:=h.wf
  have sz:=h.sz
  have l0:=Mem.get_lt h.g0
  have l5:=Mem.get_lt h.g5
  refine ⟨wf,by simp only [zA6,zAB,zBG]; omega,_,_,_,_,_,_,_,.inr rfl,h.g6, ?_⟩
  generalize hX : N.upd _ _ = X
  have wX : Wf X:=by rw [← hX]; exact wf.upd _ _
  have sX : X.size = N.size:=by rw [← hX]; rfl
  have gX : ∀ j,j ≠ 6 → X.get j = N.get j:=fun j hj=>by rw [← hX]; exact zA4 wf _ _ _ (fun e=>hj e.symm)
  have x0:=(gX 0 (by omega)).trans h.g0
  have x5:=(gX 5 (by omega)).trans h.g5
  have hd : decide (Ord (elsL l)) = false:=decide_eq_false ho
  rw [hd]
  simp (maxSteps:=2000000) (disch:=first | omega | assumption | (simp only [DS,Nat.reduceAdd, *]; done) | (simp only [DZ]; omega)) only [RUN,RU,Nat.reduceAdd,Option.getD_some]
  refine zK4 (by simp (maxSteps:=2000000) (disch:=first | omega | assumption | (simp only [DS,Nat.reduceAdd, *]; done) | (simp only [DZ]; omega)) only [wX]) (by simp (maxSteps:=2000000) (disch:=first | omega | assumption | (simp only [DS,Nat.reduceAdd, *]; done) | (simp only [DZ]; omega)) only [x5]) ?_
  simp (maxSteps:=2000000) (disch:=first | omega | assumption | (simp only [DS,Nat.reduceAdd, *]; done) | (simp only [DZ]; omega)) only [RUN,RU,zA0,zAA,frzL,reduceIte,Nat.reduceEqDiff,x0]
end Go.Proofs.YtblegbfgedeldaaGreat
namespace Go.Proofs.YtblegbfgedeldaaGreat
open Go Go.Ax
variable {fuel : Nat} {M : Mem} {Q : AV → Mem → Prop} {d : Nat}
theorem zQ1 {o : Rn} {ra : AV} (hR : Sl 1 zB6 ra o.rs) (hf : 100 < fuel) (M : Mem) : zAE Tryz.prog (fsT tbl) fuel (d + 7) (.fn 85) [.agg (rnR o ra)] M = some (BL (!o.may),M):=by
 have ora:=hR.one
 have hck:=fun M=>@zC1 fuel d o ra hR hf M
 apply zBM
 refine zAJ tf85 rfl (by simp only [icyL,zCK hR.fz]) (by simp [a85]) fun b' ht hx=>?_
 have h0:=hx 0 _ rfl
 clear hx
 simp only [a85,c85,zzm] at ht ⊢
 cases hm : o.may <;> rw [hm] at hck <;> simp (maxSteps:=2000000) (disch:=first | omega | assumption | (simp only [DS,Nat.reduceAdd, *]; done) | (simp only [DZ]; omega)) only [RUN,RU,zA2,zA1,zA0,zAA,frzL,slot,reduceIte,Nat.reduceEqDiff,Int.reduceEq,h0,hck,zAV,zBE]
open Classical in
noncomputable def zF4 (l : List Rn) : Bool:=decide (zDH l)
open Classical in
theorem zbP {l : List Rn} (h : zDH l) : zF4 l = true:=by unfold zF4; exact decide_eq_true h
open Classical in
theorem zL3 {l : List Rn} (h : ¬zDH l) : zF4 l = false:=by unfold zF4; exact decide_eq_false h
open Classical in
theorem zMQ {l : List Rn} : zF4 l = true ↔ zDH l:=by unfold zF4; exact ⟨of_decide_eq_true,fun h=>decide_eq_true h⟩
theorem zF5 {l : List Rn} (h : ∀ r ∈ l,r.may = true) : ∀ r ∈ l,r.rs.length ≤ 64:=fun r hr=>((Rn.may_iff.1 (h r hr)).2.2.2.1)
set_option maxHeartbeats 4000000 in
theorem zRT {a : AV} {l : List Rn} (hS : Sl 10 isRn a l) (hl : l.length ≤ 1000) (hf : 64 * l.length + 3001000 < fuel) (M : Mem) : zAE Tryz.prog (fsT tbl) fuel (d + 10) (.fn 62) [a] M = some (I64 (err (zF4 l)),M):=by
 have oa:=hS.one
 have hh:=fun M=>zaC (P:=Tryz.prog) (fs:=fsT tbl) (fuel:=fuel) (l:=l) (ag:=true) (n:=d + 7) tf84 tf114 (fun h=>by cases h) zCY hS (by omega) (by omega) (zYI 85) (p:=fun x => !x.may) (fun r x hr _ M=>by
  obtain ⟨ra,rfl,hra,_⟩:=hr
  exact @zQ1 fuel d x ra hra (by omega) M) M
 rw [zRD] at hh
 apply zBM
 refine zAJ tf62 rfl (by simp only [icyL,fun M=>hS.icy M 12 (by omega)]) (by simp [a62]) fun b' ht hx=>?_
 have h0:=hx 0 _ rfl
 clear hx
 simp only [a62,c62,zzm,zzg] at ht ⊢
 cases hb : l.all Rn.may with
 | false =>
  rw [hb] at hh
  have hno : zF4 l = false:=zL3 fun k=>by
   rw [List.all_eq_true.2 k.1] at hb; cases hb
  rw [hno]
  simp (maxSteps:=2000000) (disch:=first | omega | assumption | (simp only [DS,Nat.reduceAdd, *]; done) | (simp only [DZ]; omega)) only [RUN,RU,zA2,zA1,zA0,zAA,frzL,reduceIte,Nat.reduceEqDiff,h0,hh,zBE]
 | true =>
  rw [hb] at hh
  have hm : ∀ r ∈ l,r.may = true:=List.all_eq_true.1 hb
  have hrs:=zF5 hm
  have hct:=fun M=>@zHT fuel (d + 8) a l hS hm (by omega) (by omega) M
  have hord:=fun M=>@zNN fuel d a l hS hl hm (by omega) M
  obtain ⟨r,hr,hlong⟩:=zG1 (fuel:=fuel) (d:=d) hS (by omega) (fun r hr=>by have:=hrs r hr; omega) (by omega)
  have hmL:=(zC8 hm).2
  have hrsL:=zF5 hmL
  have hlenL : (zBN l).length ≤ 64000:=by
   have e1:=zDP hmL
   have e2:=zEH hm
   have e3:=zDP hm
   rw [(zC8 hm).1,(zD4 _).1] at e1
   have : (zBN l).length ≤ (zB2 (zBN l)):=by
    rw [(zC8 hm).1]
    have hh:=(zD4 (elsR l)).2
    generalize zCX (elsR l) = C at *
    clear e1
    induction C with
    | nil=>simp [zB2]
    | cons q C ih =>
     have:=ih (fun q hq=>hh q (List.mem_cons_of_mem _ hq))
     have:=(hh q List.mem_cons_self).1
     simp only [zB2,List.length_cons]
     omega
   rw [(zC8 hm).1] at this ⊢
   omega
  have hsame:=fun M=>@zUF fuel (d + 5) r a (zBN l) l hr hS (by omega) (fun e he=>⟨by have:=hrsL e he; omega,by have:=hrsL e he; omega⟩) (by omega) M
  have or:=hr.one
  by_cases h1 : zB2 l ≤ 8192
  ·have q1 : decide (8192 < zB2 l) = false:=decide_eq_false (by omega)
   by_cases h2 : Ord (elsL l)
   ·have ho:=@decide_eq_true _ (Classical.propDecidable (Ord (elsL l))) h2
    rw [ho] at hord
    by_cases h3 : zBN l = l
    ·have hyes : zF4 l = true:=zbP ⟨hm,h1,h2,h3⟩
     have hs : zKX (zBN l) l = true:=zMK.2 h3
     rw [hs] at hsame
     rw [hyes]
     simp (maxSteps:=2000000) (disch:=first | omega | assumption | (simp only [DS,Nat.reduceAdd, *]; done) | (simp only [DZ]; omega)) only [RUN,RU,zA2,zA1,zA0,zAA,frzL,reduceIte,Nat.reduceEqDiff,h0,hh,hct,q1,hord,hlong,hsame,zAV]
    ·have hno : zF4 l = false:=zL3 fun k=>h3 k.2.2.2
     have hs : zKX (zBN l) l = false:=by
      cases hq : zKX (zBN l) l with
      | false=>rfl
      | true=>exact absurd (zMK.1 hq) h3
     rw [hs] at hsame
     rw [hno]
     simp (maxSteps:=2000000) (disch:=first | omega | assumption | (simp only [DS,Nat.reduceAdd, *]; done) | (simp only [DZ]; omega)) only [RUN,RU,zA2,zA1,zA0,zAA,frzL,reduceIte,Nat.reduceEqDiff,h0,hh,hct,q1,hord,hlong,hsame,zBE]
   ·have ho:=@decide_eq_false _ (Classical.propDecidable (Ord (elsL l))) h2
    rw [ho] at hord
    have hno : zF4 l = false:=zL3 fun k=>h2 k.2.2.1
    rw [hno]
    simp (maxSteps:=2000000) (disch:=first | omega | assumption | (simp only [DS,Nat.reduceAdd, *]; done) | (simp only [DZ]; omega)) only [RUN,RU,zA2,zA1,zA0,zAA,frzL,reduceIte,Nat.reduceEqDiff,h0,hh,hct,q1,hord,zBE]
  ·have q1 : decide (8192 < zB2 l) = true:=decide_eq_true (by omega)
   have hno : zF4 l = false:=zL3 fun k=>h1 k.2.1
   rw [hno]
   simp (maxSteps:=2000000) (disch:=first | omega | assumption | (simp only [DS,Nat.reduceAdd, *]; done) | (simp only [DZ]; omega)) only [RUN,RU,zA2,zA1,zA0,zAA,frzL,reduceIte,Nat.reduceEqDiff,h0,hh,hct,q1,zBE]
end Go.Proofs.YtblegbfgedeldaaGreat
namespace Go.Proofs.YtblegbfgedeldaaGreat
open Go Go.Ax
variable {fuel : Nat} {M : Mem} {Q : AV → Mem → Prop} {d : Nat}
abbrev zRn : Value:=.agg #[.int .u8 0,.int .u32 0,.int .u8 0,.int .i64 0,.int .i64 0,.int .u8 0,.int .u32 0,.int .u8 0,.int .i64 0,.slice none 0 0]
theorem zcW {n : Nat} (wf : Wf M) (hn : 0 < n) (hb : n ≤ 1000000) (k : Q (.sl M.size 0 0 none 10) (M.add (.row false (zA9 zRn n)))) :
  W3 (zAE Tryz.prog (fsT tbl) fuel (d + 1) (.fn 120) [NIL,I64 n] M) Q:=by
 have hz:=zV8 (X:=M) (st:=10) (bytes:=80) (z:=zRn) wf rfl rfl hn (by omega) (by omega) (by omega)
 have e0 : decide ((n : Int) < 0) = false:=decide_eq_false (by omega)
 have e1 : decide ((0 : Int) < n) = true:=decide_eq_true (by omega)
 have w0 : IntKind.i64.wrap 0 = 0:=by decide
 have w1 : IntKind.i64.wrap ((n : Int) - 0) = n:=by rw [wrap_i64] <;> omega
 refine zB3 tf120 rfl (by simp [a120]) fun b' ht hx=>?_
 have h0:=hx 0 _ rfl
 have h1:=hx 1 _ rfl
 clear hx
 simp only [a120,c120,zz1,zzm] at ht ⊢
 have hs:=zbK (M:=M.add (.row false (zA9 zRn n))) (st:=10) (n:=n) (zAH wf (.row false (zA9 zRn n)) M.size (Nat.le_refl _) (Nat.lt_succ_self _))
 simp (maxSteps:=2000000) (disch:=first | omega | assumption | (simp only [DS,Nat.reduceAdd, *]; done) | (simp only [DZ]; omega)) only [RUN,RU,zA2,zA1,zA0,zAA,reduceIte,Nat.reduceEqDiff,Int.reduceSub,h0,h1,e0,e1,w0,w1,zeX,x_cap,zZP,zXT,hz,hs]
 exact k
set_option maxHeartbeats 8000000 in
/-- One list of three. -/
theorem zRW {id : Nat} {a0 a1 a2 : AV} {l0 l1 l2 : List Rn} (wf : Wf M) (hg : M.get id = some (.row false [a0,a1,a2])) (h0' : Sl 10 isRn a0 l0) (h1' : SlM M 10 isRn a1 l1) (h2' : Sl 10 isRn a2 l2) (hn : 0 < l1.length) (hb0 : l0.length ≤ 10000) (hb1 : l1.length ≤ 10000) (hb2 : l2.length ≤ 10000) (hf : 100 < fuel) (hw : M.wm ≤ M.size)
  (k : ∀ o N,SlM N 10 isRn o (l0 ++ l1 ++ l2) → Kept M N → (∀ j,rowOf o = some j → M.size ≤ j) → oneA o = true → cellsA o = [o] → ((rowsOf o).all fun i=>Nat.blt i N.size) = true → Q o N) :
  W3 (zAE Tryz.prog (fsT tbl) fuel (d + 2) (.fn 89) [.sl id 0 3 (some 3) 1] M) Q:=by
 have x0:=h0'.len
 have x1:=h1'.len
 have x2:=h2'.len
 have o0:=h0'.one
 have o1:=h1'.one
 have o2:=h2'.one
 have li:=Mem.get_lt hg
 have c3 : ((3 : Nat) : Int) = 3:=rfl
 have t0 : zDA (I64 0) = some 0:=rfl
 have t1 : zDA (I64 1) = some 1:=rfl
 have t2 : zDA (I64 2) = some 2:=rfl
 have q03 : decide ((0 : Int) < 3) = true:=rfl
 have q13 : decide ((1 : Int) < 3) = true:=rfl
 have q23 : decide ((2 : Int) < 3) = true:=rfl
 have q33 : decide ((3 : Int) < 3) = false:=rfl
 have v1 : IntKind.i64.wrap 1 = 1:=by decide
 have v2 : IntKind.i64.wrap 2 = 2:=by decide
 have v3 : IntKind.i64.wrap 3 = 3:=by decide
 have w0 : IntKind.i64.wrap (0 + (l0.length : Int)) = (l0.length : Nat):=by rw [wrap_i64] <;> omega
 have w1 : IntKind.i64.wrap ((l0.length : Int) + (l1.length : Int)) = ((l0.length + l1.length : Nat) : Int):=by rw [wrap_i64] <;> omega
 have w2 : IntKind.i64.wrap (((l0.length + l1.length : Nat) : Int) + (l2.length : Int)) = ((l0.length + l1.length + l2.length : Nat) : Int):=by rw [wrap_i64] <;> omega
 have n0 : decide (((l0.length : Nat) : Int) < 0) = false:=decide_eq_false (by omega)
 have n1 : decide (((l0.length + l1.length : Nat) : Int) < 0) = false:=decide_eq_false (by omega)
 have n2 : decide (((l0.length + l1.length + l2.length : Nat) : Int) < 0) = false:=decide_eq_false (by omega)
 refine zB3 tf89 rfl (by simp [a89]) fun b' ht hx=>?_
 have h0:=hx 0 _ rfl
 clear hx
 simp only [a89,c89,zz1,zzm] at ht ⊢
 simp (maxSteps:=2000000) (disch:=first | omega | assumption | (simp only [DS,Nat.reduceAdd, *]; done) | (simp only [DZ]; omega)) only [RUN,RU,zA2,zA1,reduceIte,Nat.reduceEqDiff,h0]
 refine w_un (by omega) ?_
 simp (maxSteps:=2000000) (disch:=first | omega | assumption | (simp only [DS,Nat.reduceAdd, *]; done) | (simp only [DZ]; omega)) only [RUN,RU,zA2,zA1,reduceIte,Nat.reduceEqDiff,Nat.reduceMul,Int.reduceLT,Int.reduceAdd,hg,c3,t0,x0,w0,n0,v1,zDS]
 refine w_un (by omega) ?_
 simp (maxSteps:=2000000) (disch:=first | omega | assumption | (simp only [DS,Nat.reduceAdd, *]; done) | (simp only [DZ]; omega)) only [RUN,RU,zA2,zA1,reduceIte,Nat.reduceEqDiff,Nat.reduceMul,Int.reduceLT,Int.reduceAdd,hg,t1,x1,w1,n1,v2,zDS]
 refine w_un (by omega) ?_
 simp (maxSteps:=2000000) (disch:=first | omega | assumption | (simp only [DS,Nat.reduceAdd, *]; done) | (simp only [DZ]; omega)) only [RUN,RU,zA2,zA1,reduceIte,Nat.reduceEqDiff,Nat.reduceMul,Int.reduceLT,Int.reduceAdd,hg,t2,x2,w2,n2,v3,zDS]
 refine w_un (by omega) ?_
 simp (maxSteps:=2000000) (disch:=first | omega | assumption | (simp only [DS,Nat.reduceAdd, *]; done) | (simp only [DZ]; omega)) only [RUN,RU,zA2,zA1,reduceIte,Nat.reduceEqDiff,zT7]
 refine zcW (d:=d) (n:=l0.length + l1.length + l2.length) wf (by omega) (by omega) ?_
 have sq0:=SlQ.fresh (X:=M) (st:=10) (T:=isRn) (n:=l0.length + l1.length + l2.length) (z:=zRn) wf rfl
 have wX:=wf.add (.row false (zA9 zRn (l0.length + l1.length + l2.length)))
 have kX : ∀ j,j < M.size → (M.add (.row false (zA9 zRn (l0.length + l1.length + l2.length)))).get j = M.get j:=fun j hj=>zAF wf _ _ hj
 have sX : (M.add (.row false (zA9 zRn (l0.length + l1.length + l2.length)))).size = M.size + 1:=rfl
 have dX : (M.add (.row false (zA9 zRn (l0.length + l1.length + l2.length)))).dirty = M.dirty:=rfl
 have vX : (M.add (.row false (zA9 zRn (l0.length + l1.length + l2.length)))).wm = M.wm:=rfl
 generalize (M.add (.row false (zA9 zRn (l0.length + l1.length + l2.length)))) = X at *
 have gX:=(kX id li).trans hg
 simp (maxSteps:=2000000) (disch:=first | omega | assumption | (simp only [DS,Nat.reduceAdd, *]; done) | (simp only [DZ]; omega)) only [RUN,RU,zA2,zA1,reduceIte,Nat.reduceEqDiff,h0,c3]
 refine w_un (by omega) ?_
 simp (maxSteps:=2000000) (disch:=first | omega | assumption | (simp only [DS,Nat.reduceAdd, *]; done) | (simp only [DZ]; omega)) only [RUN,RU,zA2,zA1,reduceIte,Nat.reduceEqDiff,Nat.reduceMul,Int.reduceLT,gX,t0,h0'.fz.rows]
 obtain ⟨r0,y0,z0,A0,R0⟩:=h0'.cells2 X
 refine SlQ.app (bytes:=80) wX sq0 y0 z0 A0 R0 zCY.cel (by omega) (by simp; omega) (by simp; omega) fun o' Y sq1 wY sY kY rY wmY diY=>?_
 have on1:=sq1.one
 have oc1:=sq1.cells
 have rl1:=sq1.rl (Nat.le_refl _)
 have ro1 : ∀ j,rowOf o' = some j → j = M.size:=fun j hj=>by rw [rY] at hj; cases hj; rfl
 have gY : Y.get id = some (.row false [a0,a1,a2]):=(kY id (fun e=>by cases e; omega)).trans gX
 have mY : ∀ j,j < M.size → Y.get j = M.get j:=fun j hj=>(kY j (fun e=>by cases e; omega)).trans (kX j hj)
 simp (maxSteps:=2000000) (disch:=first | omega | assumption | (simp only [DS,Nat.reduceAdd, *]; done) | (simp only [DZ]; omega)) only [RUN,RU,zA2,zA1,reduceIte,Nat.reduceEqDiff,Int.reduceAdd,v1,zDS]
 refine w_un (by omega) ?_
 have sm1 : SlM Y 10 isRn a1 l1:=h1'.keep fun j hj=>mY j (h1'.lt j hj)
 have rla:=zAR sm1.rl (Nat.le_refl _)
 simp (maxSteps:=2000000) (disch:=first | omega | assumption | (simp only [DS,Nat.reduceAdd, *]; done) | (simp only [DZ]; omega)) only [RUN,RU,zA2,zA1,reduceIte,Nat.reduceEqDiff,Nat.reduceMul,Int.reduceLT,gY,t1,rl1,rla]
 obtain ⟨r1,y1,z1,A1,R1⟩:=sm1.cells2
 refine SlQ.app (bytes:=80) wY sq1 y1 z1 A1 R1 zCY.cel (by omega) (by simp; omega) (by simp; omega) fun o2' Z sq2 wZ sZ kZ rZ wmZ diZ=>?_
 have on2:=sq2.one
 have oc2:=sq2.cells
 have rl2:=sq2.rl (Nat.le_refl _)
 have ro2 : ∀ j,rowOf o2' = some j → j = M.size:=fun j hj=>ro1 j (rZ ▸ hj)
 have gZ : Z.get id = some (.row false [a0,a1,a2]):=(kZ id (fun e=>by have:=ro1 _ e; omega)).trans gY
 have mZ : ∀ j,j < M.size → Z.get j = M.get j:=fun j hj=>(kZ j (fun e=>by have:=ro1 _ e; omega)).trans (mY j hj)
 simp (maxSteps:=2000000) (disch:=first | omega | assumption | (simp only [DS,Nat.reduceAdd, *]; done) | (simp only [DZ]; omega)) only [RUN,RU,zA2,zA1,reduceIte,Nat.reduceEqDiff,Int.reduceAdd,v2,zDS]
 refine w_un (by omega) ?_
 simp (maxSteps:=2000000) (disch:=first | omega | assumption | (simp only [DS,Nat.reduceAdd, *]; done) | (simp only [DZ]; omega)) only [RUN,RU,zA2,zA1,reduceIte,Nat.reduceEqDiff,Nat.reduceMul,Int.reduceLT,gZ,t2,rl2,h2'.fz.rows]
 obtain ⟨r2,y2,z2,A2,R2⟩:=h2'.cells2 Z
 refine SlQ.app (bytes:=80) wZ sq2 y2 z2 A2 R2 zCY.cel (by omega) (by simp; omega) (by simp; omega) fun o3' U sq3 wU sU kU rU wmU diU=>?_
 have on3:=sq3.one
 have oc3:=sq3.cells
 have rl3:=sq3.rl (Nat.le_refl _)
 have ro3 : ∀ j,rowOf o3' = some j → j = M.size:=fun j hj=>ro2 j (rU ▸ hj)
 have mU : ∀ j,j < M.size → U.get j = M.get j:=fun j hj=>(kU j (fun e=>by have:=ro2 _ e; omega)).trans (mZ j hj)
 simp (maxSteps:=2000000) (disch:=first | omega | assumption | (simp only [DS,Nat.reduceAdd, *]; done) | (simp only [DZ]; omega)) only [RUN,RU,zA2,zA1,reduceIte,Nat.reduceEqDiff,Int.reduceAdd,v3,zDS]
 refine w_un (by omega) ?_
 simp (maxSteps:=2000000) (disch:=first | omega | assumption | (simp only [DS,Nat.reduceAdd, *]; done) | (simp only [DZ]; omega)) only [RUN,RU,zA2,zA1,zA0,zAA,reduceIte,Nat.reduceEqDiff,zT7]
 have e0 : l0.length + l1.length + l2.length - l0.length - l1.length - l2.length = 0:=by omega
 rw [e0] at sq3
 have d1:=diY (fun j hj=>by cases hj; omega)
 have d2:=diZ (fun j hj=>by have:=ro1 j hj; omega)
 have d3:=diU (fun j hj=>by have:=ro2 j hj; omega)
 exact k o3' U (by have:=sq3.slm; simpa using this) ⟨wU,by omega,mU,by omega,d3.trans (d2.trans (d1.trans dX))⟩ (fun j hj=>by have:=ro3 j hj; omega) on3 oc3 rl3
end Go.Proofs.YtblegbfgedeldaaGreat
namespace Go.Proofs.YtblegbfgedeldaaGreat
open Go Go.Ax
variable {fuel : Nat} {M : Mem} {Q : AV → Mem → Prop} {d : Nat}
set_option maxHeartbeats 16000000 in
theorem zMB {a : AV} {l : List Rn} {x : Eid} (hS : Sl 10 isRn a l) (hm : ∀ r ∈ l,r.may = true) (hx : x = Eid.z ∨ zB9 l x ≠ none) (hl : l.length ≤ 9000) (hf : l.length + 100 < fuel) :
  ∃ r,Sl 10 isRn r (zB4 l x).1 ∧ ∀ M,zAE Tryz.prog (fsT tbl) fuel (d + 8) (.fn 66) [a,idA x] M = some (.tup [r,I64 (zB4 l x).2],M):=by
 have oa:=hS.one
 have la:=hS.len
 have hw:=fun M=>@zMV fuel (d + 1) a l x hS (by omega) (by omega) M
 refine zEC tf66 rfl (fun M=>by simp only [icyL,fun M=>hS.icy M 12 (by omega),zAS (zE8 x) (show 1 < 12 by omega)]) ?_
 refine zAJ tf66 rfl (by simp only [icyL,fun M=>hS.icy M 12 (by omega),zAS (zE8 x) (show 1 < 12 by omega)]) (by simp [a66]) fun b' ht hx=>?_
 have h0:=hx 0 _ rfl
 have h1:=hx 1 _ rfl
 clear hx
 simp only [a66,c66,zz1,zz3,zzm] at ht ⊢
 by_cases hz : x = Eid.z
 ·have q : decide (x = Eid.z) = true:=decide_eq_true hz
  have hpl : zB4 l x = (l,0):=by unfold zB4; rw [if_pos hz]
  rw [hpl]
  simp (maxSteps:=2000000) (disch:=first | omega | assumption | (simp only [DS,Nat.reduceAdd, *]; done) | (simp only [DZ]; omega)) only [RUN,RU,zA2,zA1,zA0,zAA,frzL,slot,zAI,reduceIte,Nat.reduceEqDiff,h0,h1,hS.fz.frz,↓pIdE,zAY,ETA,q]
  exact ⟨_,hS,rfl⟩
 ·have q : decide (x = Eid.z) = false:=decide_eq_false hz
  rcases hx with hx | hx
  ·exact absurd hx hz
  cases hwl : zB9 l x with
  | none=>exact absurd hwl hx
  | some p =>
   obtain ⟨n,k⟩:=p
   obtain ⟨L1,o,L2,hle,hln,h1',h2',h3',h4'⟩:=zGW hwl
   rw [hwl] at hw
   simp only [wN,wK] at hw
   have hnl : n < l.length:=by rw [hle,List.length_append,List.length_cons]; omega
   obtain ⟨r,hiad,hr,hrl⟩:=hS.iad n hnl
   have hgo : l.getD n Rn.z = l[n]:=by rw [List.getD_eq_getElem?_getD,List.getElem?_eq_getElem hnl]; rfl
   have hpl : zB4 l x = if (l.getD n Rn.z).cutE (k + 1) = 0 then (l.take n ++ [(l.getD n Rn.z).fst (k + 1),(l.getD n Rn.z).snd (k + 1)] ++ l.drop (n + 1),n + 1) else (l,n + 1):=by unfold zB4; rw [if_neg hz]; simp only [hwl]
   rw [hpl,hgo]
   clear hpl
   have hom:=hm l[n] (List.getElem_mem hnl)
   have hro:=zbC hS l[n] (List.getElem_mem hnl)
   have hon : o = l[n]:=by simp [hle,← hln]
   have hln':=hon ▸ h3'
   generalize l[n] = e at *
   obtain ⟨ra,rfl,hra,_⟩:=hr
   have ora:=hra.one
   have hb:=Spn.may_le (Rn.may_sp hom)
   have w1 : IntKind.i64.wrap (k + 1) = k + 1:=by rw [wrap_i64] <;> omega
   have w2 : IntKind.i64.wrap ((n : Int) + 1) = ((n + 1 : Nat) : Int):=by rw [wrap_i64] <;> omega
   obtain ⟨v,⟨ca,cb,rfl,hca,hcb⟩,hcut⟩:=zGR (fuel:=fuel) (d:=d) (n:=k + 1) hra (by omega)
   have oca:=hca.one
   have ocb:=hcb.one
   by_cases hc : e.cutE (k + 1) = 0
   ·have q2 : decide (e.cutE (k + 1) = 0) = true:=decide_eq_true hc
    rw [if_pos hc]
    obtain ⟨r1,s1,b1⟩:=zbJ hS (j:=n) (by omega)
    obtain ⟨r2,s2,b2⟩:=zU8 hS (i:=n + 1) (by omega)
    have ob1:=b1.one
    have ob2:=b2.one
    have eA : e.cutA (k + 1) = e.fst (k + 1):=by unfold Rn.cutA; rw [if_pos hc]
    have eB : e.cutB (k + 1) = e.snd (k + 1):=by unfold Rn.cutB; rw [if_pos hc]
    have okA:=zYH hro hc
    have okB:=zZA hro hc
    rw [eA] at hca hcut
    rw [eB] at hcb hcut
    generalize e.fst (k + 1) = eF at *
    generalize e.snd (k + 1) = eS at *
    have oca:=hca.one
    have ocb:=hcb.one
    simp (maxSteps:=2000000) (disch:=first | omega | assumption | (simp only [DS,Nat.reduceAdd, *]; done) | (simp only [DZ]; omega)) only [RUN,RU,zA2,zA1,slot,lay,zAI,zA9,reduceIte,Nat.reduceEqDiff,Nat.reduceBEq,Nat.reduceAdd,h0,h1,hS.fz.rows,↓pIdE,zAY,ETA,q,hw,hiad,w1,w2,hcut,q2,s1,s2,b1.fz.cells,b2.fz.cells,zCD]
    refine zRW (d:=d + 5) (id:=4) (a0:=r1) (a1:=.sl 3 0 2 (some 2) 10) (a2:=r2) (l1:=[eF,eS]) (by simp (maxSteps:=2000000) (disch:=first | omega | assumption | (simp only [DS,Nat.reduceAdd, *]; done) | (simp only [DZ]; omega)) only [RUN]) ?_ b1 (zUA (zOT hca hcb okA okB) (by simp) rfl (.inr rfl) ?_) b2 (by simp) (by rw [List.length_take]; omega) (by simp) (by rw [List.length_drop]; omega) (by omega) (Nat.le_refl _) fun o' N sm kN nr on oc rl=>?_
    ·simp (maxSteps:=2000000) (disch:=first | omega | assumption | (simp only [DS,Nat.reduceAdd, *]; done) | (simp only [DZ]; omega)) only [RUN]
    ·simp (maxSteps:=2000000) (disch:=first | omega | assumption | (simp only [DS,Nat.reduceAdd, *]; done) | (simp only [DZ]; omega)) only [RUN]
     rfl
    ·have wN:=kN.wf
     have dN : N.dirty = false:=kN.di
     simp (maxSteps:=2000000) (disch:=first | omega | assumption | (simp only [DS,Nat.reduceAdd, *]; done) | (simp only [DZ]; omega)) only [RUN,RU,zA2,zA1,zA0,zAA,frzL,reduceIte,Nat.reduceEqDiff,Nat.reduceAdd,dN]
     obtain ⟨ro,hro2,hfr⟩:=zGB sm zCY.cel 12 (by omega)
     rw [hfr _ (fun id h=>by simp (maxSteps:=2000000) (disch:=first | omega | assumption | (simp only [DS,Nat.reduceAdd, *]; done) | (simp only [DZ]; omega)) only [RUN])]
     exact ⟨ro,hro2,by rw [w2]⟩
   ·have q2 : decide (e.cutE (k + 1) = 0) = false:=decide_eq_false hc
    rw [if_neg hc]
    simp (maxSteps:=2000000) (disch:=first | omega | assumption | (simp only [DS,Nat.reduceAdd, *]; done) | (simp only [DZ]; omega)) only [RUN,RU,zA2,zA1,zA0,zAA,frzL,slot,lay,zAI,reduceIte,Nat.reduceEqDiff,Nat.reduceAdd,h0,h1,hS.fz.frz,↓pIdE,zAY,ETA,q,hw,hiad,w1,w2,hcut,q2]
    exact ⟨_,hS,rfl⟩
end Go.Proofs.YtblegbfgedeldaaGreat
namespace Go.Proofs.YtblegbfgedeldaaGreat
open Go Go.Ax
variable {fuel : Nat} {M : Mem} {Q : AV → Mem → Prop} {d : Nat}
theorem zOS {X : Mem} {o : AV} {r : List AV} {x : Rn} (wf : Wf X) (h : SlN X 10 isRn o []) (hx : isRn r x) (hr : r.length = 10)
  (k : ∀ o' M',SlM M' 10 isRn o' [x] → Wf M' → X.size ≤ M'.size → (∀ j,j < X.size → rowOf o ≠ some j → M'.get j = X.get j) → (∀ id,rowOf o' = some id → rowOf o = some id ∨ X.size ≤ id) → M'.wm = X.wm → Q o' M') :
  W3 (zAE Tryz.prog (fsT tbl) fuel (d + 1) (.fn 69) [o,I64 0,.sl X.size 0 1 (some 1) 10] (X.add (.row false r))) Q:=by
 have sm:=h.slm
 have oo:=sm.one
 have ol:=sm.len
 have z10 : decide ((1 : Int) = 0) = false:=rfl
 have ge : ∀ N,lenO N (.sl X.size 0 1 (some 1) 10) = some (I64 1,N):=fun _=>rfl
 have hs : ∀ N,(∀ j,rowOf o = some j → N.get j = X.get j) → ∃ v,slcO N 10 o (some (I64 0)) none none = some (v,N) ∧ oneA v = true:=fun N hN=>by
  rcases h with ⟨_,rfl | ⟨id,rfl,hg⟩⟩ | ⟨hn,_⟩
  ·exact ⟨_,rfl,rfl⟩
  ·exact ⟨_,rfl,rfl⟩
  ·exact absurd rfl hn
 obtain ⟨v,hsv,ov⟩:=hs (X.add (.row false r)) (fun j hj=>zAF wf _ _ (sm.lt j hj))
 refine zB3 tf69 rfl (by simp [a69]) fun b' ht hx=>?_
 have h0:=hx 0 _ rfl
 have h1:=hx 1 _ rfl
 have h2:=hx 2 _ rfl
 clear hx
 simp only [a69,c69,zz1,zzm] at ht ⊢
 have ol0 : ∀ N,lenO N o = some (I64 0,N):=ol
 have rlo:=zAR sm.rl (show X.size ≤ X.size + 1 by omega)
 simp (maxSteps:=2000000) (disch:=first | omega | assumption | (simp only [DS,Nat.reduceAdd, *]; done) | (simp only [DZ]; omega)) only [RUN,RU,zA2,zA1,reduceIte,Nat.reduceEqDiff,Int.reduceEq,h0,h1,h2,ol0,hsv,ge,rlo]
 refine app1 wf sm zCY (x:=x) hx hr (by omega) (by simp) (by simp) fun o' M' sm' w' le' kp nw wm' rl on oc=>?_
 simp (maxSteps:=2000000) (disch:=first | omega | assumption | (simp only [DS,Nat.reduceAdd, *]; done) | (simp only [DZ]; omega)) only [RUN,RU,zA2,zA1,zA0,zAA,reduceIte,Nat.reduceEqDiff]
 exact k o' M' sm' w' le' kp nw wm'
theorem zP1 {l : List Rn} {r : Rn} {n : Nat} (D : List Rn) (h : D = (l.drop n).takeWhile fun q=>r.sp.f.less q.sp.f) {i : Nat} (hi : i < D.length) (hn : n + i < l.length) : r.sp.f.less l[n + i].sp.f = true ∧ D[i] = l[n + i]:=by
 have h1 : D[i] ∈ (l.drop n).takeWhile fun q=>r.sp.f.less q.sp.f:=by rw [← h]; exact List.getElem_mem hi
 have h2:=List.all_eq_true.1 (List.all_takeWhile (l:=l.drop n) (p:=fun q=>r.sp.f.less q.sp.f)) _ h1
 have h3 : D[i] = l[n + i]:=by
  have hp : D <+: l.drop n:=by rw [h]; exact List.takeWhile_prefix _
  rw [hp.getElem hi,List.getElem_drop]
 rw [← h3]
 exact ⟨h2,rfl⟩
theorem zMN {l : List Rn} {x : Eid} {n : Nat} (h : zF3 l x n < l.length) : x.less l[zF3 l x n].sp.f = false:=by
 have hd : ((l.drop n).dropWhile fun q=>x.less q.sp.f) = l.drop (zF3 l x n):=by
  have e:=List.takeWhile_append_dropWhile (p:=fun q : Rn=>x.less q.sp.f) (l:=l.drop n)
  have e2:=congrArg (List.drop ((l.drop n).takeWhile fun q=>x.less q.sp.f).length) e
  rw [List.drop_left,List.drop_drop] at e2
  exact e2
 have:=List.head?_dropWhile_not (fun q : Rn=>x.less q.sp.f) (l.drop n)
 rw [hd,List.drop_eq_getElem_cons h] at this
 exact this
theorem zU7 {l : List Rn} {x : Eid} {n : Nat} (hn : n ≤ l.length) : zF3 l x n ≤ l.length:=by
 unfold zF3
 have:=(List.takeWhile_sublist (l:=l.drop n) (fun q : Rn=>x.less q.sp.f)).length_le
 rw [List.length_drop] at this
 omega
theorem zKR (l : List Rn) (x : Eid) : (zB4 l x).1.length ≤ l.length + 2:=by
 unfold zB4
 split
 ·simp
 ·split
  ·simp
  ·split
   ·simp; omega
   ·simp
theorem zT5 (l : List Rn) : (zBN l).length ≤ l.length:=by
 refine zC7 (P:=fun l=>(zBN l).length ≤ l.length) (Nat.le_refl _) (fun l r ih=>?_) l
 rw [zLV]
 have:=zO8 (zBN l) r
 simp only [List.length_append,List.length_singleton]
 omega
theorem zWE (l : List Rn) (r : Rn) : (insL l r).length ≤ l.length + 3:=by
 unfold insL
 refine Nat.le_trans (zT5 _) ?_
 have:=zKR l r.af
 simp only [List.length_append,List.length_take,List.length_drop,List.length_singleton]
 omega
noncomputable def insR (l : List Rn) (r : Rn) : List Rn:=if putE l r = 0 then insL l r else []
open Classical in
set_option maxHeartbeats 16000000 in
theorem zQI {a ra : AV} {l : List Rn} {x : Rn} (hS : Sl 10 isRn a l) (hR : Sl 1 zB6 ra x.rs) (hx : x.ok) (hl : l.length ≤ 900) (hf : 64 * l.length + 3011000 < fuel) : ∃ r,Sl 10 isRn r (insR l x) ∧ ∀ M,zAE Tryz.prog (fsT tbl) fuel (d + 11) (.fn 43) [a,.agg (rnR x ra)] M = some (.tup [r,I64 (putE l x)],M):=by
 have oa:=hS.one
 have ora:=hR.one
 have hck:=fun M=>@zRT fuel d a l hS (by omega) (by omega) M
 have hcx:=fun M=>@zC1 fuel (d + 4) x ra hR (by omega) M
 refine zEC tf43 rfl (fun M=>by simp only [icyL,fun M=>hS.icy M 12 (by omega),zCK hR.fz]) ?_
 refine zAJ tf43 rfl (by simp only [icyL,fun M=>hS.icy M 12 (by omega),zCK hR.fz]) (by simp [a43]) fun b' ht hx=>?_
 have h0:=hx 0 _ rfl
 have h1:=hx 1 _ rfl
 clear hx
 simp only [a43,c43,zz1,zz3,zzm] at ht ⊢
 have hiE : putE l x = if zF4 l = true ∧ x.may = true then (if x.af ≠ Eid.z ∧ zB9 l x.af = none then 6 else if ∃ i : Nat,(i : Int) < x.sp.n ∧ zB9 l (x.sp.at i) ≠ none then 2 else if 8192 < zB2 l + x.sp.n then 4 else 0) else 8:=by
  unfold putE
  simp only [zMQ]
 by_cases h8 : zF4 l = true ∧ x.may = true
 ·rw [if_pos h8] at hiE
  obtain ⟨htb,hxm⟩:=h8
  have hok:=zMQ.1 htb
  rw [htb] at hck
  rw [hxm] at hcx
  have hwh:=fun y M=>@zMV fuel (d + 4) a l y hS (by omega) (by omega) M
  have hwa:=fun M=>hwh x.af M
  have hb:=Spn.may_le (Rn.may_sp hxm)
  obtain ⟨m,hmn⟩ : ∃ m : Nat,x.sp.n = m:=⟨x.sp.n.toNat,by omega⟩
  have ia : ∀ i : Nat,i < m → ∀ M,zAE Tryz.prog (fsT tbl) fuel (d + 10) (.fn 64) [spA x.sp,I64 i] M = some (.tup [idA (x.sp.at i),I64 0],M):=fun i hi M=>by
   have:=@zI0 fuel (d + 5) x.sp i M
   rw [if_pos (Rn.may_sp hxm),if_neg (by omega)] at this
   exact this
  have qn1 : decide ((-1 : Int) < 0) = true:=rfl
  have qg1 : decide ((0 : Int) ≤ -1) = false:=rfl
  by_cases h6 : x.af ≠ Eid.z ∧ zB9 l x.af = none
  ·have e6 : putE l x = 6:=by rw [hiE,if_pos h6]
   have er : insR l x = []:=by unfold insR; rw [e6]; rfl
   rw [e6,er]
   have q : decide (x.af = Eid.z) = false:=decide_eq_false h6.1
   rw [h6.2] at hwa
   simp (maxSteps:=2000000) (disch:=first | omega | assumption | (simp only [DS,Nat.reduceAdd, *]; done) | (simp only [DZ]; omega)) only [RUN,RU,zA2,zA1,zA0,zAA,frzL,slot,zAI,reduceIte,Nat.reduceEqDiff,Nat.reduceBEq,Nat.reduceAdd,Int.reduceLT,h0,h1,hck,hcx,IMX,zAV,zBZ,BMM,hwa,wN,wK,↓pIdN,zBB,ETA,q]
   exact ⟨NIL,.inl ⟨rfl,rfl⟩,rfl⟩
  ·rw [if_neg h6] at hiE
   have hx6 : x.af = Eid.z ∨ zB9 l x.af ≠ none:=by
    by_cases h : x.af = Eid.z
    ·exact .inl h
    ·exact .inr fun k=>h6 ⟨h,k⟩
   have step : ∃ b : Bool,(decide ((wN (zB9 l x.af)) < 0) = b) ∧ (b = true → decide (x.af = Eid.z) = true):=by
    refine ⟨_,rfl,fun hb=>?_⟩
    rcases hx6 with h | h
    ·exact decide_eq_true h
    ·cases hw : zB9 l x.af with
     | none=>exact absurd hw h
     | some p =>
      have hb:=of_decide_eq_true hb
      rw [hw] at hb
      simp only [wN] at hb
      omega
   obtain ⟨b6,hb6,hb6'⟩:=step
   have main : ∀ (b6 : Bool),decide ((wN (zB9 l x.af)) < 0) = b6 → (b6 = true → decide (x.af = Eid.z) = true) → True:=fun _ _ _=>trivial
   clear main
   cases b6 with
   | true =>
    have q:=hb6' rfl
    simp (maxSteps:=2000000) (disch:=first | omega | assumption | (simp only [DS,Nat.reduceAdd, *]; done) | (simp only [DZ]; omega)) only [RUN,RU,zA2,zA1,slot,zAI,reduceIte,Nat.reduceEqDiff,Nat.reduceBEq,Nat.reduceAdd,h0,h1,hck,hcx,IMX,zAV,zBZ,BMM,hwa,hb6,↓pIdN,zBB,ETA,q]
    refine zBF (I:=fun n t N => ∃ (i : Nat),n = m - i ∧ i ≤ m ∧ nth zA5 t 0 = a ∧ nth zA5 t 3 = .ptr 0 0 ∧ nth zA5 t 40 = I64 m ∧ nth zA5 t 41 = I64 i ∧ Wf N ∧ N.get 0 = some (.row false (rnR x ra)) ∧ (∀ j,j < i → zB9 l (x.sp.at (j : Nat)) = none) ∧ N.size ≤ i + 1) (n:=m) (by omega) ?_ ?_
    ·refine ⟨0,rfl,Nat.zero_le _, ?_, ?_, ?_, ?_,Wf.mem0.add _,by simp (maxSteps:=2000000) (disch:=first | omega | assumption | (simp only [DS,Nat.reduceAdd, *]; done) | (simp only [DZ]; omega)) only [RUN],(fun _ h=>absurd h (by omega)),Nat.le_refl _⟩ <;> simp (maxSteps:=2000000) (disch:=first | omega | assumption | (simp only [DS,Nat.reduceAdd, *]; done) | (simp only [DZ]; omega)) only [RUN,reduceIte,Nat.reduceEqDiff,h0,hmn]
     all_goals first | rfl | assumption | done
    ·rintro n t N hlt ⟨i,rfl,hi,g0,g3,g40,g41,w,g,hj,sz⟩
     simp only [ht] at hlt ⊢
     have lg:=Mem.get_lt g
     by_cases hc : i < m
     ·have q1 : decide ((i : Int) < m) = true:=decide_eq_true (by omega)
      have w1 : IntKind.i64.wrap ((i : Int) + 1) = ((i + 1 : Nat) : Int):=by rw [wrap_i64] <;> omega
      have iai:=ia i hc
      have hwi:=hwh (x.sp.at (i : Nat))
      cases hwl : zB9 l (x.sp.at (i : Nat)) with
      | some p =>
       have e2 : putE l x = 2:=by rw [hiE,if_pos ⟨i,by omega,by rw [hwl]; simp⟩]
       have er : insR l x = []:=by unfold insR; rw [e2]; rfl
       rw [hwl] at hwi
       have qp : decide ((0 : Int) ≤ ((p.1 : Nat) : Int)) = true:=decide_eq_true (by omega)
       rw [e2,er]
       simp (maxSteps:=2000000) (disch:=first | omega | assumption | (simp only [DS,Nat.reduceAdd, *]; done) | (simp only [DZ]; omega)) only [RUN,RU,zA2,zA1,zA0,zAA,frzL,slot,lay,reduceIte,Nat.reduceEqDiff,Nat.reduceAdd,g0,g3,g40,g41,q1,iai,g,hwi,wN,wK,qp]
       exact ⟨NIL,.inl ⟨rfl,rfl⟩,rfl⟩
      | none =>
       rw [hwl] at hwi
       simp (maxSteps:=2000000) (disch:=first | omega | assumption | (simp only [DS,Nat.reduceAdd, *]; done) | (simp only [DZ]; omega)) only [RUN,RU,zA2,zA1,slot,lay,reduceIte,Nat.reduceEqDiff,Nat.reduceAdd,Nat.reduceLeDiff,Int.reduceLE,g0,g3,g40,g41,q1,iai,g,w,hwi,wN,wK,w1]
       refine ⟨hlt,m - (i + 1),by omega,i + 1,rfl,by omega,rfl,fun j hj'=>?_,by omega⟩
       rcases Nat.lt_succ_iff_lt_or_eq.1 hj' with h | rfl
       ·exact hj j h
       ·exact hwl
     ·obtain rfl : i = m:=by omega
      have q1 : decide ((i : Int) < i) = false:=decide_eq_false (by omega)
      have hno : ¬∃ j : Nat,(j : Int) < x.sp.n ∧ zB9 l (x.sp.at j) ≠ none:=fun ⟨j,h1,h2⟩=>h2 (hj j (by omega))
      rw [if_neg hno] at hiE
      have hct:=fun M=>@zHT fuel (d + 9) a l hS hok.1 (by omega) (by omega) M
      have hcl:=zEH hok.1
      have w2 : IntKind.i64.wrap (zB2 l + x.sp.n) = zB2 l + x.sp.n:=by rw [wrap_i64] <;> omega
      by_cases h4 : 8192 < zB2 l + x.sp.n
      ·have e4 : putE l x = 4:=by rw [hiE,if_pos h4]
       have er : insR l x = []:=by unfold insR; rw [e4]; rfl
       have q4 : decide (8192 < zB2 l + x.sp.n) = true:=decide_eq_true h4
       rw [e4,er]
       simp (maxSteps:=2000000) (disch:=first | omega | assumption | (simp only [DS,Nat.reduceAdd, *]; done) | (simp only [DZ]; omega)) only [RUN,RU,zA2,zA1,zA0,zAA,frzL,reduceIte,Nat.reduceEqDiff,Nat.reduceBEq,Nat.reduceAdd,g0,g3,g40,g41,g,hct,w2,q4]
       exact ⟨NIL,.inl ⟨rfl,rfl⟩,rfl⟩
      ·have e0 : putE l x = 0:=by rw [hiE,if_neg h4]
       have er : insR l x = insL l x:=by unfold insR; rw [if_pos e0]
       have q4 : decide (8192 < zB2 l + x.sp.n) = false:=decide_eq_false h4
       obtain ⟨r',hr',hpart⟩:=zMB (fuel:=fuel) (d:=d + 2) hS hok.1 hx6 (by omega) (by omega)
       obtain ⟨p1,p2,p3,p4⟩:=zNO hok.1 hx6
       have hpl:=zKR l x.af
       have hsk:=zU7 (x:=x.sp.f) p1
       have hss:=fun h=>@zMN (zB4 l x.af).1 x.sp.f (zB4 l x.af).2 h
       have hmt:=fun D hD i=>@zP1 (zB4 l x.af).1 x (zB4 l x.af).2 D hD i
       have eL : insL l x = zBN ((zB4 l x.af).1.take (zF3 (zB4 l x.af).1 x.sp.f (zB4 l x.af).2) ++ [x] ++ (zB4 l x.af).1.drop (zF3 (zB4 l x.af).1 x.sp.f (zB4 l x.af).2)):=rfl
       unfold zF3 at hsk hss eL
       rw [e0,er,eL]
       generalize hD : ((zB4 l x.af).1.drop (zB4 l x.af).2).takeWhile (fun q=>x.sp.f.less q.sp.f) = D at *
       have hmt:=fun i=>hmt D rfl (i:=i)
       generalize (zB4 l x.af).1 = l' at *
       generalize (zB4 l x.af).2 = n0 at *
       have or':=hr'.one
       have lr':=hr'.len
       simp (maxSteps:=2000000) (disch:=first | omega | assumption | (simp only [DS,Nat.reduceAdd, *]; done) | (simp only [DZ]; omega)) only [RUN,RU,zA2,zA1,slot,reduceIte,Nat.reduceEqDiff,Nat.reduceBEq,Nat.reduceAdd,g0,g3,g40,g41,g,hct,w2,q4,hpart]
       refine zBF (I:=fun n2 t2 N2 => ∃ (i2 : Nat),n2 = l'.length - n0 - i2 ∧ i2 ≤ l'.length - n0 ∧ nth zA5 t2 0 = r' ∧ nth zA5 t2 3 = .ptr 0 0 ∧ nth zA5 t2 14 = I64 ((n0 + i2 : Nat) : Int) ∧ Wf N2 ∧ N2.size ≤ 70 ∧ N2.get 0 = some (.row false (rnR x ra)) ∧ i2 ≤ D.length) (n:=l'.length - n0) (by omega) ?_ ?_
       ·refine ⟨0,rfl,Nat.zero_le _, ?_, ?_, ?_,w,by omega,g,Nat.zero_le _⟩ <;> simp (maxSteps:=2000000) (disch:=first | omega | assumption | (simp only [DS,Nat.reduceAdd, *]; done) | (simp only [DZ]; omega)) only [RUN,RU,reduceIte,Nat.reduceEqDiff,g0,g3]
        all_goals first | rfl | assumption | done
       ·rintro n2 t2 N2 hlt2 ⟨i2,rfl,hi2,g20,g23,g214,wf2,sz2,gg,hi2⟩
        simp only [hlt] at hlt2 ⊢
        have lgg:=Mem.get_lt gg
        by_cases hc2 : n0 + i2 < l'.length
        ·have q2 : decide (((n0 + i2 : Nat) : Int) < l'.length) = true:=decide_eq_true (by omega)
         have w3 : IntKind.i64.wrap (((n0 + i2 : Nat) : Int) + 1) = ((n0 + (i2 + 1) : Nat) : Int):=by rw [wrap_i64] <;> omega
         obtain ⟨r2,hiad2,hre,hrl2⟩:=hr'.iad (n0 + i2) hc2
         by_cases hd2 : i2 < D.length
         ·have hlt3:=(hmt i2 hd2 hc2).1
          generalize l'[n0 + i2] = e2 at *
          obtain ⟨rb,rfl,hrb,_⟩:=hre
          have orb:=hrb.one
          have hls:=fun M=>@zEZ fuel (d + 8) x.sp.f e2.sp.f M
          rw [hlt3] at hls
          simp (maxSteps:=2000000) (disch:=first | omega | assumption | (simp only [DS,Nat.reduceAdd, *]; done) | (simp only [DZ]; omega)) only [RUN,RU,zA2,zA1,slot,reduceIte,Nat.reduceEqDiff,Nat.reduceBEq,Nat.reduceAdd,g20,g23,g214,q2,lr',hiad2,gg,wf2,hls,w3]
          exact ⟨hlt2,l'.length - n0 - (i2 + 1),by omega,i2 + 1,rfl,by omega,rfl,by omega⟩
         ·obtain rfl : i2 = D.length:=by omega
          have hlt3:=hss hc2
          generalize l'[n0 + D.length] = e2 at *
          obtain ⟨rb,rfl,hrb,_⟩:=hre
          have orb:=hrb.one
          have hls:=fun M=>@zEZ fuel (d + 8) x.sp.f e2.sp.f M
          rw [hlt3] at hls
          simp (maxSteps:=2000000) (disch:=first | omega | assumption | (simp only [DS,Nat.reduceAdd, *]; done) | (simp only [DZ]; omega)) only [RUN,RU,zA2,slot,reduceIte,Nat.reduceEqDiff,Nat.reduceBEq,Nat.reduceAdd,g20,g23,g214,q2,lr',hiad2,gg,hls]
          refine zJY zCY.cel tf70 Tryz.underlying67 hr' (by omega) (by omega) (by simp (maxSteps:=2000000) (disch:=first | omega | assumption | (simp only [DS,Nat.reduceAdd, *]; done) | (simp only [DZ]; omega)) only [RUN,wf2]) fun o3 M3 wf3 le3 kp3 sn3 nr3 wm3 di3 sz3=>?_
          have hd3 : M3.dirty = false:=di3
          have z0 : M3.get 0 = some (.row false (rnR x ra)):=(kp3 0 lgg).trans gg
          have lz0:=Mem.get_lt z0
          have sm3:=sn3.slm
          have on3:=sm3.one
          have oc3:=sm3.cells
          have rl3:=zAR sm3.rl (Nat.le_refl M3.size)
          have rl3':=zAR sm3.rl (Nat.le_succ M3.size)
          simp (maxSteps:=2000000) (disch:=first | omega | assumption | (simp only [DS,Nat.reduceAdd, *]; done) | (simp only [DZ]; omega)) only [RUN,RU,zA2,slot,lay,zAI,zA9,reduceIte,Nat.reduceEqDiff,Nat.reduceBEq,Nat.reduceAdd,g23,g214,hd3,z0,zY5,zCD]
          have sz3' : M3.size ≤ N2.size + 2:=sz3
          have hb0 : Nat.ble N2.size 0 = false:=by
           cases hb : Nat.ble N2.size 0 with
           | false=>rfl
           | true=>have:=Nat.le_of_ble_eq_true hb; omega
          refine ⟨by simp [zBW,FP.apart,FP.reads,FP.writes,hb0],by simp [zBW,FP.apart,FP.reads,FP.writes], ?_⟩
          have eX : ((N2.bk M3).add (.row false (rnR x ra))).lo = (⟨M3.t,M3.size,M3.size + 1,false⟩ : Mem).add (.row false (rnR x ra)):=rfl
          show W3 (insO _ (((N2.bk M3).add (.row false (rnR x ra))).lo) 69 10 80 o3 (I64 ((n0 + D.length : Nat) : Int)) (.sl M3.size 0 1 (some 1) 10)) _
          rw [eX]
          have wX : Wf (⟨M3.t,M3.size,M3.size + 1,false⟩ : Mem):=wf3
          have sX : (⟨M3.t,M3.size,M3.size + 1,false⟩ : Mem).size = M3.size:=rfl
          have snX : SlN (⟨M3.t,M3.size,M3.size + 1,false⟩ : Mem) 10 isRn o3 l':=sn3
          generalize (⟨M3.t,M3.size,M3.size + 1,false⟩ : Mem) = X3 at *
          have key : W3 (insO (zAE Tryz.prog (fsT tbl) fuel (d + 10)) (X3.add (.row false (rnR x ra))) 69 10 80 o3 (I64 ((n0 + D.length : Nat) : Int)) (.sl M3.size 0 1 (some 1) 10)) (fun o4 M4=>SlM M4 10 isRn o4 (l'.take (n0 + D.length) ++ [x] ++ l'.drop (n0 + D.length)) ∧ Wf M4):=by
           rw [← sX]
           by_cases hz : l' = []
           ·subst hz
            have e0 : n0 + D.length = 0:=by simp only [List.length_nil] at hsk; omega
            rw [e0]
            have hc0 : ((0 : Nat) : Int) = 0:=rfl
            rw [hc0]
            have h0' : W3 (zAE Tryz.prog (fsT tbl) fuel (d + 10) (.fn 69) [o3,I64 0,.sl X3.size 0 1 (some 1) 10] (X3.add (.row false (rnR x ra)))) (fun o4 M4=>SlM M4 10 isRn o4 [x] ∧ Wf M4):=zOS (d:=d + 9) wX snX ⟨ra,rfl,hR,hx⟩ rfl (fun o' M' a b _ _ _ _=>⟨a,b⟩)
            have e1 : insO (zAE Tryz.prog (fsT tbl) fuel (d + 10)) (X3.add (.row false (rnR x ra))) 69 10 80 o3 (I64 0) (.sl X3.size 0 1 (some 1) 10) = zAE Tryz.prog (fsT tbl) fuel (d + 10) (.fn 69) [o3,I64 0,.sl X3.size 0 1 (some 1) 10] (X3.add (.row false (rnR x ra))):=by
             rcases snX with ⟨_,rfl | ⟨id,rfl,_⟩⟩ | ⟨hn,_⟩
             ·exact zKI ..
             ·exact zKH ..
             ·exact absurd rfl hn
            rw [e1]
            exact h0'
           ·exact snX.ins (bytes:=80) (g:=69) wX hz zCY.cel ⟨ra,rfl,hR,hx⟩ rfl (by omega) (by omega) (by omega) (by omega) (by omega) fun o' M' a b _ _ _=>⟨a,b⟩
          obtain ⟨o4,M4,he4,sm4,wf4⟩:=key
          rw [he4]
          clear he4 eX hmt hss snX sn3 sm3 kp3 hno hwh hwa hck hcx hcl ia hj hpart hct
          have on4:=sm4.one
          have oc4:=sm4.cells
          have rl4:=zAR sm4.rl (Nat.le_refl M4.size)
          simp (maxSteps:=2000000) (disch:=first | omega | assumption | (simp only [DS,Nat.reduceAdd, *]; done) | (simp only [DZ]; omega)) only [RUN,RU,zA2,reduceIte,Nat.reduceEqDiff,Nat.reduceAdd]
          refine zL7 (n:=d + 9) (R:=fun r=>Sl 10 isRn r (zBN (l'.take (n0 + D.length) ++ [x] ++ l'.drop (n0 + D.length)))) tf68 rfl (sm4.keep fun _ _=>rfl) (show Wf _ from wf4) zCY (fun a' ha'=>?_) fun r X' hr wX' sX' kX'=>?_
          ·refine zG1 (d:=d + 1) ha' (by simp only [List.length_append,List.length_take,List.length_drop,List.length_singleton]; omega) (fun q hq=>?_) (by simp only [List.length_append,List.length_take,List.length_drop,List.length_singleton]; omega)
           have hq64 : q.rs.length ≤ 64:=by
            rcases List.mem_append.1 hq with hq | hq
            ·rcases List.mem_append.1 hq with hq | hq
             ·exact zF5 p2 q (List.mem_of_mem_take hq)
             ·rw [List.mem_singleton] at hq; subst hq
              exact (Rn.may_iff.1 hxm).2.2.2.1
            ·exact zF5 p2 q (List.mem_of_mem_drop hq)
           omega
          ·have orr:=hr.one
           simp (maxSteps:=2000000) (disch:=first | omega | assumption | (simp only [DS,Nat.reduceAdd, *]; done) | (simp only [DZ]; omega)) only [RUN,RU,zA2,zA0,zAA,frzL,reduceIte,Nat.reduceEqDiff,Nat.reduceAdd,hr.fz.frz,zCD]
           exact ⟨r,hr,rfl⟩
        ·obtain rfl : i2 = D.length:=by omega
         have q2 : decide (((n0 + D.length : Nat) : Int) < l'.length) = false:=decide_eq_false (by omega)
         simp (maxSteps:=2000000) (disch:=first | omega | assumption | (simp only [DS,Nat.reduceAdd, *]; done) | (simp only [DZ]; omega)) only [RUN,RU,zA2,reduceIte,Nat.reduceEqDiff,Nat.reduceBEq,Nat.reduceAdd,g20,g214,q2,lr']
         refine zJY zCY.cel tf70 Tryz.underlying67 hr' (by omega) (by omega) (by simp (maxSteps:=2000000) (disch:=first | omega | assumption | (simp only [DS,Nat.reduceAdd, *]; done) | (simp only [DZ]; omega)) only [RUN,wf2]) fun o3 M3 wf3 le3 kp3 sn3 nr3 wm3 di3 sz3=>?_
         have hd3 : M3.dirty = false:=di3
         have z0 : M3.get 0 = some (.row false (rnR x ra)):=(kp3 0 lgg).trans gg
         have lz0:=Mem.get_lt z0
         have sm3:=sn3.slm
         have on3:=sm3.one
         have oc3:=sm3.cells
         have rl3:=zAR sm3.rl (Nat.le_refl M3.size)
         have rl3':=zAR sm3.rl (Nat.le_succ M3.size)
         simp (maxSteps:=2000000) (disch:=first | omega | assumption | (simp only [DS,Nat.reduceAdd, *]; done) | (simp only [DZ]; omega)) only [RUN,RU,zA2,slot,lay,zAI,zA9,reduceIte,Nat.reduceEqDiff,Nat.reduceBEq,Nat.reduceAdd,g23,g214,hd3,z0,zY5,zCD]
         have sz3' : M3.size ≤ N2.size + 2:=sz3
         have hb0 : Nat.ble N2.size 0 = false:=by
          cases hb : Nat.ble N2.size 0 with
          | false=>rfl
          | true=>have:=Nat.le_of_ble_eq_true hb; omega
         refine ⟨by simp [zBW,FP.apart,FP.reads,FP.writes,hb0],by simp [zBW,FP.apart,FP.reads,FP.writes], ?_⟩
         have eX : ((N2.bk M3).add (.row false (rnR x ra))).lo = (⟨M3.t,M3.size,M3.size + 1,false⟩ : Mem).add (.row false (rnR x ra)):=rfl
         show W3 (insO _ (((N2.bk M3).add (.row false (rnR x ra))).lo) 69 10 80 o3 (I64 ((n0 + D.length : Nat) : Int)) (.sl M3.size 0 1 (some 1) 10)) _
         rw [eX]
         have wX : Wf (⟨M3.t,M3.size,M3.size + 1,false⟩ : Mem):=wf3
         have sX : (⟨M3.t,M3.size,M3.size + 1,false⟩ : Mem).size = M3.size:=rfl
         have snX : SlN (⟨M3.t,M3.size,M3.size + 1,false⟩ : Mem) 10 isRn o3 l':=sn3
         generalize (⟨M3.t,M3.size,M3.size + 1,false⟩ : Mem) = X3 at *
         have key : W3 (insO (zAE Tryz.prog (fsT tbl) fuel (d + 10)) (X3.add (.row false (rnR x ra))) 69 10 80 o3 (I64 ((n0 + D.length : Nat) : Int)) (.sl M3.size 0 1 (some 1) 10)) (fun o4 M4=>SlM M4 10 isRn o4 (l'.take (n0 + D.length) ++ [x] ++ l'.drop (n0 + D.length)) ∧ Wf M4):=by
          rw [← sX]
          by_cases hz : l' = []
          ·subst hz
           have e0 : n0 + D.length = 0:=by simp only [List.length_nil] at hsk; omega
           rw [e0]
           have hc0 : ((0 : Nat) : Int) = 0:=rfl
           rw [hc0]
           have h0' : W3 (zAE Tryz.prog (fsT tbl) fuel (d + 10) (.fn 69) [o3,I64 0,.sl X3.size 0 1 (some 1) 10] (X3.add (.row false (rnR x ra)))) (fun o4 M4=>SlM M4 10 isRn o4 [x] ∧ Wf M4):=zOS (d:=d + 9) wX snX ⟨ra,rfl,hR,hx⟩ rfl (fun o' M' a b _ _ _ _=>⟨a,b⟩)
           have e1 : insO (zAE Tryz.prog (fsT tbl) fuel (d + 10)) (X3.add (.row false (rnR x ra))) 69 10 80 o3 (I64 0) (.sl X3.size 0 1 (some 1) 10) = zAE Tryz.prog (fsT tbl) fuel (d + 10) (.fn 69) [o3,I64 0,.sl X3.size 0 1 (some 1) 10] (X3.add (.row false (rnR x ra))):=by
            rcases snX with ⟨_,rfl | ⟨id,rfl,_⟩⟩ | ⟨hn,_⟩
            ·exact zKI ..
            ·exact zKH ..
            ·exact absurd rfl hn
           rw [e1]
           exact h0'
          ·exact snX.ins (bytes:=80) (g:=69) wX hz zCY.cel ⟨ra,rfl,hR,hx⟩ rfl (by omega) (by omega) (by omega) (by omega) (by omega) fun o' M' a b _ _ _=>⟨a,b⟩
         obtain ⟨o4,M4,he4,sm4,wf4⟩:=key
         rw [he4]
         clear he4 eX hmt hss snX sn3 sm3 kp3 hno hwh hwa hck hcx hcl ia hj hpart hct
         have on4:=sm4.one
         have oc4:=sm4.cells
         have rl4:=zAR sm4.rl (Nat.le_refl M4.size)
         simp (maxSteps:=2000000) (disch:=first | omega | assumption | (simp only [DS,Nat.reduceAdd, *]; done) | (simp only [DZ]; omega)) only [RUN,RU,zA2,reduceIte,Nat.reduceEqDiff,Nat.reduceAdd]
         refine zL7 (n:=d + 9) (R:=fun r=>Sl 10 isRn r (zBN (l'.take (n0 + D.length) ++ [x] ++ l'.drop (n0 + D.length)))) tf68 rfl (sm4.keep fun _ _=>rfl) (show Wf _ from wf4) zCY (fun a' ha'=>?_) fun r X' hr wX' sX' kX'=>?_
         ·refine zG1 (d:=d + 1) ha' (by simp only [List.length_append,List.length_take,List.length_drop,List.length_singleton]; omega) (fun q hq=>?_) (by simp only [List.length_append,List.length_take,List.length_drop,List.length_singleton]; omega)
          have hq64 : q.rs.length ≤ 64:=by
           rcases List.mem_append.1 hq with hq | hq
           ·rcases List.mem_append.1 hq with hq | hq
            ·exact zF5 p2 q (List.mem_of_mem_take hq)
            ·rw [List.mem_singleton] at hq; subst hq
             exact (Rn.may_iff.1 hxm).2.2.2.1
           ·exact zF5 p2 q (List.mem_of_mem_drop hq)
          omega
         ·have orr:=hr.one
          simp (maxSteps:=2000000) (disch:=first | omega | assumption | (simp only [DS,Nat.reduceAdd, *]; done) | (simp only [DZ]; omega)) only [RUN,RU,zA2,zA0,zAA,frzL,reduceIte,Nat.reduceEqDiff,Nat.reduceAdd,hr.fz.frz,zCD]
          exact ⟨r,hr,rfl⟩
   | false =>
    simp (maxSteps:=2000000) (disch:=first | omega | assumption | (simp only [DS,Nat.reduceAdd, *]; done) | (simp only [DZ]; omega)) only [RUN,RU,zA2,zA1,slot,reduceIte,Nat.reduceEqDiff,Nat.reduceBEq,Nat.reduceAdd,h0,h1,hck,hcx,IMX,zAV,zBZ,BMM,hwa,hb6]
    refine zBF (I:=fun n t N => ∃ (i : Nat),n = m - i ∧ i ≤ m ∧ nth zA5 t 0 = a ∧ nth zA5 t 3 = .ptr 0 0 ∧ nth zA5 t 40 = I64 m ∧ nth zA5 t 41 = I64 i ∧ Wf N ∧ N.get 0 = some (.row false (rnR x ra)) ∧ (∀ j,j < i → zB9 l (x.sp.at (j : Nat)) = none) ∧ N.size ≤ i + 1) (n:=m) (by omega) ?_ ?_
    ·refine ⟨0,rfl,Nat.zero_le _, ?_, ?_, ?_, ?_,Wf.mem0.add _,by simp (maxSteps:=2000000) (disch:=first | omega | assumption | (simp only [DS,Nat.reduceAdd, *]; done) | (simp only [DZ]; omega)) only [RUN],(fun _ h=>absurd h (by omega)),Nat.le_refl _⟩ <;> simp (maxSteps:=2000000) (disch:=first | omega | assumption | (simp only [DS,Nat.reduceAdd, *]; done) | (simp only [DZ]; omega)) only [RUN,reduceIte,Nat.reduceEqDiff,h0,hmn]
     all_goals first | rfl | assumption | done
    ·rintro n t N hlt ⟨i,rfl,hi,g0,g3,g40,g41,w,g,hj,sz⟩
     simp only [ht] at hlt ⊢
     have lg:=Mem.get_lt g
     by_cases hc : i < m
     ·have q1 : decide ((i : Int) < m) = true:=decide_eq_true (by omega)
      have w1 : IntKind.i64.wrap ((i : Int) + 1) = ((i + 1 : Nat) : Int):=by rw [wrap_i64] <;> omega
      have iai:=ia i hc
      have hwi:=hwh (x.sp.at (i : Nat))
      cases hwl : zB9 l (x.sp.at (i : Nat)) with
      | some p =>
       have e2 : putE l x = 2:=by rw [hiE,if_pos ⟨i,by omega,by rw [hwl]; simp⟩]
       have er : insR l x = []:=by unfold insR; rw [e2]; rfl
       rw [hwl] at hwi
       have qp : decide ((0 : Int) ≤ ((p.1 : Nat) : Int)) = true:=decide_eq_true (by omega)
       rw [e2,er]
       simp (maxSteps:=2000000) (disch:=first | omega | assumption | (simp only [DS,Nat.reduceAdd, *]; done) | (simp only [DZ]; omega)) only [RUN,RU,zA2,zA1,zA0,zAA,frzL,slot,lay,reduceIte,Nat.reduceEqDiff,Nat.reduceAdd,g0,g3,g40,g41,q1,iai,g,hwi,wN,wK,qp]
       exact ⟨NIL,.inl ⟨rfl,rfl⟩,rfl⟩
      | none =>
       rw [hwl] at hwi
       simp (maxSteps:=2000000) (disch:=first | omega | assumption | (simp only [DS,Nat.reduceAdd, *]; done) | (simp only [DZ]; omega)) only [RUN,RU,zA2,zA1,slot,lay,reduceIte,Nat.reduceEqDiff,Nat.reduceAdd,Nat.reduceLeDiff,Int.reduceLE,g0,g3,g40,g41,q1,iai,g,w,hwi,wN,wK,w1]
       refine ⟨hlt,m - (i + 1),by omega,i + 1,rfl,by omega,rfl,fun j hj'=>?_,by omega⟩
       rcases Nat.lt_succ_iff_lt_or_eq.1 hj' with h | rfl
       ·exact hj j h
       ·exact hwl
     ·obtain rfl : i = m:=by omega
      have q1 : decide ((i : Int) < i) = false:=decide_eq_false (by omega)
      have hno : ¬∃ j : Nat,(j : Int) < x.sp.n ∧ zB9 l (x.sp.at j) ≠ none:=fun ⟨j,h1,h2⟩=>h2 (hj j (by omega))
      rw [if_neg hno] at hiE
      have hct:=fun M=>@zHT fuel (d + 9) a l hS hok.1 (by omega) (by omega) M
      have hcl:=zEH hok.1
      have w2 : IntKind.i64.wrap (zB2 l + x.sp.n) = zB2 l + x.sp.n:=by rw [wrap_i64] <;> omega
      by_cases h4 : 8192 < zB2 l + x.sp.n
      ·have e4 : putE l x = 4:=by rw [hiE,if_pos h4]
       have er : insR l x = []:=by unfold insR; rw [e4]; rfl
       have q4 : decide (8192 < zB2 l + x.sp.n) = true:=decide_eq_true h4
       rw [e4,er]
       simp (maxSteps:=2000000) (disch:=first | omega | assumption | (simp only [DS,Nat.reduceAdd, *]; done) | (simp only [DZ]; omega)) only [RUN,RU,zA2,zA1,zA0,zAA,frzL,reduceIte,Nat.reduceEqDiff,Nat.reduceBEq,Nat.reduceAdd,g0,g3,g40,g41,g,hct,w2,q4]
       exact ⟨NIL,.inl ⟨rfl,rfl⟩,rfl⟩
      ·have e0 : putE l x = 0:=by rw [hiE,if_neg h4]
       have er : insR l x = insL l x:=by unfold insR; rw [if_pos e0]
       have q4 : decide (8192 < zB2 l + x.sp.n) = false:=decide_eq_false h4
       obtain ⟨r',hr',hpart⟩:=zMB (fuel:=fuel) (d:=d + 2) hS hok.1 hx6 (by omega) (by omega)
       obtain ⟨p1,p2,p3,p4⟩:=zNO hok.1 hx6
       have hpl:=zKR l x.af
       have hsk:=zU7 (x:=x.sp.f) p1
       have hss:=fun h=>@zMN (zB4 l x.af).1 x.sp.f (zB4 l x.af).2 h
       have hmt:=fun D hD i=>@zP1 (zB4 l x.af).1 x (zB4 l x.af).2 D hD i
       have eL : insL l x = zBN ((zB4 l x.af).1.take (zF3 (zB4 l x.af).1 x.sp.f (zB4 l x.af).2) ++ [x] ++ (zB4 l x.af).1.drop (zF3 (zB4 l x.af).1 x.sp.f (zB4 l x.af).2)):=rfl
       unfold zF3 at hsk hss eL
       rw [e0,er,eL]
       generalize hD : ((zB4 l x.af).1.drop (zB4 l x.af).2).takeWhile (fun q=>x.sp.f.less q.sp.f) = D at *
       have hmt:=fun i=>hmt D rfl (i:=i)
       generalize (zB4 l x.af).1 = l' at *
       generalize (zB4 l x.af).2 = n0 at *
       have or':=hr'.one
       have lr':=hr'.len
       simp (maxSteps:=2000000) (disch:=first | omega | assumption | (simp only [DS,Nat.reduceAdd, *]; done) | (simp only [DZ]; omega)) only [RUN,RU,zA2,zA1,slot,reduceIte,Nat.reduceEqDiff,Nat.reduceBEq,Nat.reduceAdd,g0,g3,g40,g41,g,hct,w2,q4,hpart]
       refine zBF (I:=fun n2 t2 N2 => ∃ (i2 : Nat),n2 = l'.length - n0 - i2 ∧ i2 ≤ l'.length - n0 ∧ nth zA5 t2 0 = r' ∧ nth zA5 t2 3 = .ptr 0 0 ∧ nth zA5 t2 14 = I64 ((n0 + i2 : Nat) : Int) ∧ Wf N2 ∧ N2.size ≤ 70 ∧ N2.get 0 = some (.row false (rnR x ra)) ∧ i2 ≤ D.length) (n:=l'.length - n0) (by omega) ?_ ?_
       ·refine ⟨0,rfl,Nat.zero_le _, ?_, ?_, ?_,w,by omega,g,Nat.zero_le _⟩ <;> simp (maxSteps:=2000000) (disch:=first | omega | assumption | (simp only [DS,Nat.reduceAdd, *]; done) | (simp only [DZ]; omega)) only [RUN,RU,reduceIte,Nat.reduceEqDiff,g0,g3]
        all_goals first | rfl | assumption | done
       ·rintro n2 t2 N2 hlt2 ⟨i2,rfl,hi2,g20,g23,g214,wf2,sz2,gg,hi2⟩
        simp only [hlt] at hlt2 ⊢
        have lgg:=Mem.get_lt gg
        by_cases hc2 : n0 + i2 < l'.length
        ·have q2 : decide (((n0 + i2 : Nat) : Int) < l'.length) = true:=decide_eq_true (by omega)
         have w3 : IntKind.i64.wrap (((n0 + i2 : Nat) : Int) + 1) = ((n0 + (i2 + 1) : Nat) : Int):=by rw [wrap_i64] <;> omega
         obtain ⟨r2,hiad2,hre,hrl2⟩:=hr'.iad (n0 + i2) hc2
         by_cases hd2 : i2 < D.length
         ·have hlt3:=(hmt i2 hd2 hc2).1
          generalize l'[n0 + i2] = e2 at *
          obtain ⟨rb,rfl,hrb,_⟩:=hre
          have orb:=hrb.one
          have hls:=fun M=>@zEZ fuel (d + 8) x.sp.f e2.sp.f M
          rw [hlt3] at hls
          simp (maxSteps:=2000000) (disch:=first | omega | assumption | (simp only [DS,Nat.reduceAdd, *]; done) | (simp only [DZ]; omega)) only [RUN,RU,zA2,zA1,slot,reduceIte,Nat.reduceEqDiff,Nat.reduceBEq,Nat.reduceAdd,g20,g23,g214,q2,lr',hiad2,gg,wf2,hls,w3]
          exact ⟨hlt2,l'.length - n0 - (i2 + 1),by omega,i2 + 1,rfl,by omega,rfl,by omega⟩
         ·obtain rfl : i2 = D.length:=by omega
          have hlt3:=hss hc2
          generalize l'[n0 + D.length] = e2 at *
          obtain ⟨rb,rfl,hrb,_⟩:=hre
          have orb:=hrb.one
          have hls:=fun M=>@zEZ fuel (d + 8) x.sp.f e2.sp.f M
          rw [hlt3] at hls
          simp (maxSteps:=2000000) (disch:=first | omega | assumption | (simp only [DS,Nat.reduceAdd, *]; done) | (simp only [DZ]; omega)) only [RUN,RU,zA2,slot,reduceIte,Nat.reduceEqDiff,Nat.reduceBEq,Nat.reduceAdd,g20,g23,g214,q2,lr',hiad2,gg,hls]
          refine zJY zCY.cel tf70 Tryz.underlying67 hr' (by omega) (by omega) (by simp (maxSteps:=2000000) (disch:=first | omega | assumption | (simp only [DS,Nat.reduceAdd, *]; done) | (simp only [DZ]; omega)) only [RUN,wf2]) fun o3 M3 wf3 le3 kp3 sn3 nr3 wm3 di3 sz3=>?_
          have hd3 : M3.dirty = false:=di3
          have z0 : M3.get 0 = some (.row false (rnR x ra)):=(kp3 0 lgg).trans gg
          have lz0:=Mem.get_lt z0
          have sm3:=sn3.slm
          have on3:=sm3.one
          have oc3:=sm3.cells
          have rl3:=zAR sm3.rl (Nat.le_refl M3.size)
          have rl3':=zAR sm3.rl (Nat.le_succ M3.size)
          simp (maxSteps:=2000000) (disch:=first | omega | assumption | (simp only [DS,Nat.reduceAdd, *]; done) | (simp only [DZ]; omega)) only [RUN,RU,zA2,slot,lay,zAI,zA9,reduceIte,Nat.reduceEqDiff,Nat.reduceBEq,Nat.reduceAdd,g23,g214,hd3,z0,zY5,zCD]
          have sz3' : M3.size ≤ N2.size + 2:=sz3
          have hb0 : Nat.ble N2.size 0 = false:=by
           cases hb : Nat.ble N2.size 0 with
           | false=>rfl
           | true=>have:=Nat.le_of_ble_eq_true hb; omega
          refine ⟨by simp [zBW,FP.apart,FP.reads,FP.writes,hb0],by simp [zBW,FP.apart,FP.reads,FP.writes], ?_⟩
          have eX : ((N2.bk M3).add (.row false (rnR x ra))).lo = (⟨M3.t,M3.size,M3.size + 1,false⟩ : Mem).add (.row false (rnR x ra)):=rfl
          show W3 (insO _ (((N2.bk M3).add (.row false (rnR x ra))).lo) 69 10 80 o3 (I64 ((n0 + D.length : Nat) : Int)) (.sl M3.size 0 1 (some 1) 10)) _
          rw [eX]
          have wX : Wf (⟨M3.t,M3.size,M3.size + 1,false⟩ : Mem):=wf3
          have sX : (⟨M3.t,M3.size,M3.size + 1,false⟩ : Mem).size = M3.size:=rfl
          have snX : SlN (⟨M3.t,M3.size,M3.size + 1,false⟩ : Mem) 10 isRn o3 l':=sn3
          generalize (⟨M3.t,M3.size,M3.size + 1,false⟩ : Mem) = X3 at *
          have key : W3 (insO (zAE Tryz.prog (fsT tbl) fuel (d + 10)) (X3.add (.row false (rnR x ra))) 69 10 80 o3 (I64 ((n0 + D.length : Nat) : Int)) (.sl M3.size 0 1 (some 1) 10)) (fun o4 M4=>SlM M4 10 isRn o4 (l'.take (n0 + D.length) ++ [x] ++ l'.drop (n0 + D.length)) ∧ Wf M4):=by
           rw [← sX]
           by_cases hz : l' = []
           ·subst hz
            have e0 : n0 + D.length = 0:=by simp only [List.length_nil] at hsk; omega
            rw [e0]
            have hc0 : ((0 : Nat) : Int) = 0:=rfl
            rw [hc0]
            have h0' : W3 (zAE Tryz.prog (fsT tbl) fuel (d + 10) (.fn 69) [o3,I64 0,.sl X3.size 0 1 (some 1) 10] (X3.add (.row false (rnR x ra)))) (fun o4 M4=>SlM M4 10 isRn o4 [x] ∧ Wf M4):=zOS (d:=d + 9) wX snX ⟨ra,rfl,hR,hx⟩ rfl (fun o' M' a b _ _ _ _=>⟨a,b⟩)
            have e1 : insO (zAE Tryz.prog (fsT tbl) fuel (d + 10)) (X3.add (.row false (rnR x ra))) 69 10 80 o3 (I64 0) (.sl X3.size 0 1 (some 1) 10) = zAE Tryz.prog (fsT tbl) fuel (d + 10) (.fn 69) [o3,I64 0,.sl X3.size 0 1 (some 1) 10] (X3.add (.row false (rnR x ra))):=by
             rcases snX with ⟨_,rfl | ⟨id,rfl,_⟩⟩ | ⟨hn,_⟩
             ·exact zKI ..
             ·exact zKH ..
             ·exact absurd rfl hn
            rw [e1]
            exact h0'
           ·exact snX.ins (bytes:=80) (g:=69) wX hz zCY.cel ⟨ra,rfl,hR,hx⟩ rfl (by omega) (by omega) (by omega) (by omega) (by omega) fun o' M' a b _ _ _=>⟨a,b⟩
          obtain ⟨o4,M4,he4,sm4,wf4⟩:=key
          rw [he4]
          clear he4 eX hmt hss snX sn3 sm3 kp3 hno hwh hwa hck hcx hcl ia hj hpart hct
          have on4:=sm4.one
          have oc4:=sm4.cells
          have rl4:=zAR sm4.rl (Nat.le_refl M4.size)
          simp (maxSteps:=2000000) (disch:=first | omega | assumption | (simp only [DS,Nat.reduceAdd, *]; done) | (simp only [DZ]; omega)) only [RUN,RU,zA2,reduceIte,Nat.reduceEqDiff,Nat.reduceAdd]
          refine zL7 (n:=d + 9) (R:=fun r=>Sl 10 isRn r (zBN (l'.take (n0 + D.length) ++ [x] ++ l'.drop (n0 + D.length)))) tf68 rfl (sm4.keep fun _ _=>rfl) (show Wf _ from wf4) zCY (fun a' ha'=>?_) fun r X' hr wX' sX' kX'=>?_
          ·refine zG1 (d:=d + 1) ha' (by simp only [List.length_append,List.length_take,List.length_drop,List.length_singleton]; omega) (fun q hq=>?_) (by simp only [List.length_append,List.length_take,List.length_drop,List.length_singleton]; omega)
           have hq64 : q.rs.length ≤ 64:=by
            rcases List.mem_append.1 hq with hq | hq
            ·rcases List.mem_append.1 hq with hq | hq
             ·exact zF5 p2 q (List.mem_of_mem_take hq)
             ·rw [List.mem_singleton] at hq; subst hq
              exact (Rn.may_iff.1 hxm).2.2.2.1
            ·exact zF5 p2 q (List.mem_of_mem_drop hq)
           omega
          ·have orr:=hr.one
           simp (maxSteps:=2000000) (disch:=first | omega | assumption | (simp only [DS,Nat.reduceAdd, *]; done) | (simp only [DZ]; omega)) only [RUN,RU,zA2,zA0,zAA,frzL,reduceIte,Nat.reduceEqDiff,Nat.reduceAdd,hr.fz.frz,zCD]
           exact ⟨r,hr,rfl⟩
        ·obtain rfl : i2 = D.length:=by omega
         have q2 : decide (((n0 + D.length : Nat) : Int) < l'.length) = false:=decide_eq_false (by omega)
         simp (maxSteps:=2000000) (disch:=first | omega | assumption | (simp only [DS,Nat.reduceAdd, *]; done) | (simp only [DZ]; omega)) only [RUN,RU,zA2,reduceIte,Nat.reduceEqDiff,Nat.reduceBEq,Nat.reduceAdd,g20,g214,q2,lr']
         refine zJY zCY.cel tf70 Tryz.underlying67 hr' (by omega) (by omega) (by simp (maxSteps:=2000000) (disch:=first | omega | assumption | (simp only [DS,Nat.reduceAdd, *]; done) | (simp only [DZ]; omega)) only [RUN,wf2]) fun o3 M3 wf3 le3 kp3 sn3 nr3 wm3 di3 sz3=>?_
         have hd3 : M3.dirty = false:=di3
         have z0 : M3.get 0 = some (.row false (rnR x ra)):=(kp3 0 lgg).trans gg
         have lz0:=Mem.get_lt z0
         have sm3:=sn3.slm
         have on3:=sm3.one
         have oc3:=sm3.cells
         have rl3:=zAR sm3.rl (Nat.le_refl M3.size)
         have rl3':=zAR sm3.rl (Nat.le_succ M3.size)
         simp (maxSteps:=2000000) (disch:=first | omega | assumption | (simp only [DS,Nat.reduceAdd, *]; done) | (simp only [DZ]; omega)) only [RUN,RU,zA2,slot,lay,zAI,zA9,reduceIte,Nat.reduceEqDiff,Nat.reduceBEq,Nat.reduceAdd,g23,g214,hd3,z0,zY5,zCD]
         have sz3' : M3.size ≤ N2.size + 2:=sz3
         have hb0 : Nat.ble N2.size 0 = false:=by
          cases hb : Nat.ble N2.size 0 with
          | false=>rfl
          | true=>have:=Nat.le_of_ble_eq_true hb; omega
         refine ⟨by simp [zBW,FP.apart,FP.reads,FP.writes,hb0],by simp [zBW,FP.apart,FP.reads,FP.writes], ?_⟩
         have eX : ((N2.bk M3).add (.row false (rnR x ra))).lo = (⟨M3.t,M3.size,M3.size + 1,false⟩ : Mem).add (.row false (rnR x ra)):=rfl
         show W3 (insO _ (((N2.bk M3).add (.row false (rnR x ra))).lo) 69 10 80 o3 (I64 ((n0 + D.length : Nat) : Int)) (.sl M3.size 0 1 (some 1) 10)) _
         rw [eX]
         have wX : Wf (⟨M3.t,M3.size,M3.size + 1,false⟩ : Mem):=wf3
         have sX : (⟨M3.t,M3.size,M3.size + 1,false⟩ : Mem).size = M3.size:=rfl
         have snX : SlN (⟨M3.t,M3.size,M3.size + 1,false⟩ : Mem) 10 isRn o3 l':=sn3
         generalize (⟨M3.t,M3.size,M3.size + 1,false⟩ : Mem) = X3 at *
         have key : W3 (insO (zAE Tryz.prog (fsT tbl) fuel (d + 10)) (X3.add (.row false (rnR x ra))) 69 10 80 o3 (I64 ((n0 + D.length : Nat) : Int)) (.sl M3.size 0 1 (some 1) 10)) (fun o4 M4=>SlM M4 10 isRn o4 (l'.take (n0 + D.length) ++ [x] ++ l'.drop (n0 + D.length)) ∧ Wf M4):=by
          rw [← sX]
          by_cases hz : l' = []
          ·subst hz
           have e0 : n0 + D.length = 0:=by simp only [List.length_nil] at hsk; omega
           rw [e0]
           have hc0 : ((0 : Nat) : Int) = 0:=rfl
           rw [hc0]
           have h0' : W3 (zAE Tryz.prog (fsT tbl) fuel (d + 10) (.fn 69) [o3,I64 0,.sl X3.size 0 1 (some 1) 10] (X3.add (.row false (rnR x ra)))) (fun o4 M4=>SlM M4 10 isRn o4 [x] ∧ Wf M4):=zOS (d:=d + 9) wX snX ⟨ra,rfl,hR,hx⟩ rfl (fun o' M' a b _ _ _ _=>⟨a,b⟩)
           have e1 : insO (zAE Tryz.prog (fsT tbl) fuel (d + 10)) (X3.add (.row false (rnR x ra))) 69 10 80 o3 (I64 0) (.sl X3.size 0 1 (some 1) 10) = zAE Tryz.prog (fsT tbl) fuel (d + 10) (.fn 69) [o3,I64 0,.sl X3.size 0 1 (some 1) 10] (X3.add (.row false (rnR x ra))):=by
            rcases snX with ⟨_,rfl | ⟨id,rfl,_⟩⟩ | ⟨hn,_⟩
            ·exact zKI ..
            ·exact zKH ..
            ·exact absurd rfl hn
           rw [e1]
           exact h0'
          ·exact snX.ins (bytes:=80) (g:=69) wX hz zCY.cel ⟨ra,rfl,hR,hx⟩ rfl (by omega) (by omega) (by omega) (by omega) (by omega) fun o' M' a b _ _ _=>⟨a,b⟩
         obtain ⟨o4,M4,he4,sm4,wf4⟩:=key
         rw [he4]
         clear he4 eX hmt hss snX sn3 sm3 kp3 hno hwh hwa hck hcx hcl ia hj hpart hct
         have on4:=sm4.one
         have oc4:=sm4.cells
         have rl4:=zAR sm4.rl (Nat.le_refl M4.size)
         simp (maxSteps:=2000000) (disch:=first | omega | assumption | (simp only [DS,Nat.reduceAdd, *]; done) | (simp only [DZ]; omega)) only [RUN,RU,zA2,reduceIte,Nat.reduceEqDiff,Nat.reduceAdd]
         refine zL7 (n:=d + 9) (R:=fun r=>Sl 10 isRn r (zBN (l'.take (n0 + D.length) ++ [x] ++ l'.drop (n0 + D.length)))) tf68 rfl (sm4.keep fun _ _=>rfl) (show Wf _ from wf4) zCY (fun a' ha'=>?_) fun r X' hr wX' sX' kX'=>?_
         ·refine zG1 (d:=d + 1) ha' (by simp only [List.length_append,List.length_take,List.length_drop,List.length_singleton]; omega) (fun q hq=>?_) (by simp only [List.length_append,List.length_take,List.length_drop,List.length_singleton]; omega)
          have hq64 : q.rs.length ≤ 64:=by
           rcases List.mem_append.1 hq with hq | hq
           ·rcases List.mem_append.1 hq with hq | hq
            ·exact zF5 p2 q (List.mem_of_mem_take hq)
            ·rw [List.mem_singleton] at hq; subst hq
             exact (Rn.may_iff.1 hxm).2.2.2.1
           ·exact zF5 p2 q (List.mem_of_mem_drop hq)
          omega
         ·have orr:=hr.one
          simp (maxSteps:=2000000) (disch:=first | omega | assumption | (simp only [DS,Nat.reduceAdd, *]; done) | (simp only [DZ]; omega)) only [RUN,RU,zA2,zA0,zAA,frzL,reduceIte,Nat.reduceEqDiff,Nat.reduceAdd,hr.fz.frz,zCD]
          exact ⟨r,hr,rfl⟩
 ·have e8 : putE l x = 8:=by rw [hiE,if_neg h8]
  have er : insR l x = []:=by unfold insR; rw [e8]; rfl
  have hz : imax (err (zF4 l)) (err x.may) = 8:=by
   cases ma : zF4 l <;> cases mb : x.may <;> first | rfl | exact absurd ⟨ma,mb⟩ h8
  rw [e8,er]
  simp (maxSteps:=2000000) (disch:=first | omega | assumption | (simp only [DS,Nat.reduceAdd, *]; done) | (simp only [DZ]; omega)) only [RUN,RU,zA2,zA1,zA0,zAA,frzL,slot,reduceIte,Nat.reduceEqDiff,Nat.reduceBEq,Nat.reduceAdd,Int.reduceEq,h0,h1,hck,hcx,hz,zBZ,BMM]
  exact ⟨NIL,.inl ⟨rfl,rfl⟩,rfl⟩
end Go.Proofs.YtblegbfgedeldaaGreat
namespace Go.Proofs.YtblegbfgedeldaaGreat
open Go Go.Ax
variable {fuel : Nat} {M : Mem} {Q : AV → Mem → Prop} {d : Nat} {l : List Op} {a : AV}
theorem zL4 (l : List Op) : (textOf l).length ≤ 3 * l.length:=by
 refine zC7 (P:=fun l=>(textOf l).length ≤ 3 * l.length) (Nat.le_refl _) (fun l o ih=>?_) l
 rw [zE7]
 unfold stepT
 split
 ·have:=zWE (textOf l) o.rn
  simp only [List.length_append,List.length_singleton]
  omega
 ·simp only [List.length_append,List.length_singleton]
  omega
def zeN (l : List Op) (r : AV) : Prop:=∃ r1,r = .tup [r1,I64 (err (zAT [] l))] ∧ Sl 10 isRn r1 (if zAT [] l = true then textOf l else [])
theorem zeG {o : Op} (h : o.ok) : o.rn.ok:=⟨h.2.2.2.1,h.2.2.2.2.1,h.2.2.2.2.2.2⟩
set_option maxHeartbeats 8000000 in
theorem zXZ (hS : Sl 17 isOp a l) (hl : l.length ≤ 200) (hf : 3080000 < fuel) : ∃ r,zeN l r ∧ ∀ M,zAE Tryz.prog (fsT tbl) fuel (d + 15) (.fn 24) [a] M = some (r,M):=by
 have ll:=hS.len
 have hck:=fun M=>zDI (fuel:=fuel) (d:=d) hS (by omega) (by omega) M
 refine zEC tf24 rfl (fun M=>by simp only [icyL,fun M=>hS.icy M 12 (by omega)]) ?_
 refine zAJ tf24 rfl (by simp only [icyL,fun M=>hS.icy M 12 (by omega)]) (by simp [a24]) fun b' ht hx=>?_
 have h0:=hx 0 _ rfl
 clear hx
 simp only [a24,c24,zz1,zz5,zzm] at ht ⊢
 unfold zeN
 cases q1 : zAT [] l with
 | false =>
  rw [q1] at hck
  simp (maxSteps:=2000000) (disch:=first | omega | assumption | (simp only [DS,Nat.reduceAdd, *]; done) | (simp only [DZ]; omega)) only [RUN,RU,zA2,zA1,zA0,zAA,frzL,reduceIte,Nat.reduceEqDiff,Int.reduceEq,h0,hck,zBE]
  exact ⟨_,⟨NIL,rfl,.inl ⟨rfl,rfl⟩⟩,rfl⟩
 | true =>
  rw [q1] at hck
  simp only [if_true]
  simp (maxSteps:=2000000) (disch:=first | omega | assumption | (simp only [DS,Nat.reduceAdd, *]; done) | (simp only [DZ]; omega)) only [RUN,RU,zA2,zA1,reduceIte,Nat.reduceEqDiff,h0,hck,zAV,ll]
  refine zBF (I:=fun n t N => ∃ (i : Nat) (r : AV),n = l.length - i ∧ i ≤ l.length ∧ nth zA5 t 2 = r ∧ nth zA5 t 14 = a ∧ nth zA5 t 15 = I64 l.length ∧ nth zA5 t 16 = I64 i ∧ Wf N ∧ Sl 10 isRn r (textOf (l.take i))) (n:=l.length) (by omega) ?_ ?_
  ·refine ⟨0,NIL,rfl,Nat.zero_le _, ?_, ?_, ?_, ?_,Wf.mem0,.inl ⟨rfl,rfl⟩⟩ <;> simp (maxSteps:=2000000) (disch:=first | omega | assumption | (simp only [DS,Nat.reduceAdd, *]; done) | (simp only [DZ]; omega)) only [RUN,reduceIte,Nat.reduceEqDiff]
   all_goals first | rfl | assumption | done
  ·rintro n t N hlt ⟨i,r,rfl,hi,g2,g14,g15,g16,w,hA⟩
   simp only [ht] at hlt ⊢
   have or':=hA.one
   by_cases hc : i < l.length
   ·have q3 : decide ((i : Int) < l.length) = true:=decide_eq_true (by omega)
    have w1 : IntKind.i64.wrap ((i : Int) + 1) = ((i + 1 : Nat) : Int):=by rw [wrap_i64] <;> omega
    obtain ⟨r0,hiad,hr,hrl⟩:=hS.iad i hc
    have hts:=zE7 (l.take i) l[i]
    rw [← take_snoc l i hc] at hts
    have htl:=zL4 (l.take i)
    rw [List.length_take] at htl
    have hsp : l.take i ++ l[i] :: l.drop (i + 1) = l:=by rw [← List.drop_eq_getElem_cons hc,List.take_append_drop]
    have hput : rofE l[i] = 0 → putE (textOf (l.take i)) l[i].rn = 0:=zWA (m:=l.drop (i + 1)) (by rw [hsp]; exact q1)
    clear hsp
    generalize l[i] = e at *
    obtain ⟨ra,rfl,hra,hok⟩:=hr
    have ora:=hra.one
    obtain ⟨rr,hk,hof⟩:=zMJ (fuel:=fuel) (d:=d + 6) hra hok (by omega)
    by_cases q4 : rofE e = 0
    ·have q4' : decide (rofE e = 0) = true:=decide_eq_true q4
     unfold rofK at hk
     rw [if_pos q4] at hk
     obtain ⟨rb,rfl,hrb⟩:=hk
     have orb:=hrb.one
     obtain ⟨r2,hr2,hins⟩:=zQI (fuel:=fuel) (d:=d + 3) (x:=e.rn) hA hrb (zeG hok) (by omega) (by omega)
     have or2:=hr2.one
     rw [hput q4] at hins
     unfold insR at hr2
     rw [if_pos (hput q4)] at hr2
     unfold stepT at hts
     rw [if_pos q4] at hts
     simp (maxSteps:=2000000) (disch:=first | omega | assumption | (simp only [DS,Nat.reduceAdd, *]; done) | (simp only [DZ]; omega)) only [RUN,RU,zA2,zA1,slot,lay,reduceIte,Nat.reduceEqDiff,Nat.reduceAdd,g2,g14,g15,g16,q3,hiad,hof,hins,w,w1]
     exact ⟨hlt,l.length - (i + 1),by omega,i + 1,r2,rfl,by omega,rfl,rfl,by rw [hts]; exact hr2⟩
    ·have q4' : decide (rofE e = 0) = false:=decide_eq_false q4
     unfold rofK at hk
     rw [if_neg q4] at hk
     subst hk
     unfold stepT at hts
     rw [if_neg q4] at hts
     unfold rnZ at hof
     simp (maxSteps:=2000000) (disch:=first | omega | assumption | (simp only [DS,Nat.reduceAdd, *]; done) | (simp only [DZ]; omega)) only [RUN,RU,zA2,zA1,slot,lay,reduceIte,Nat.reduceEqDiff,Nat.reduceAdd,g2,g14,g15,g16,q3,hiad,hof,q4',w,w1]
     exact ⟨hlt,l.length - (i + 1),by omega,i + 1,r,rfl,by omega,rfl,rfl,by rw [hts]; exact hA⟩
   ·obtain rfl : i = l.length:=by omega
    have q3 : decide ((l.length : Int) < l.length) = false:=decide_eq_false (by omega)
    rw [List.take_length] at hA
    simp (maxSteps:=2000000) (disch:=first | omega | assumption | (simp only [DS,Nat.reduceAdd, *]; done) | (simp only [DZ]; omega)) only [RUN,RU,zA2,zA1,zA0,zAA,frzL,reduceIte,Nat.reduceEqDiff,g2,g15,g16,hA.fz.frz]
    exact ⟨_,⟨r,rfl,hA⟩,rfl⟩
theorem ze0 (hS : Sl 17 isOp a l) : ∀ p ∈ l,p.ok:=by
 rcases hS with ⟨_,rfl⟩ | ⟨rows,cap,_,hA,_⟩
 ·intro p hp; cases hp
 ·intro p hp
  obtain ⟨i,hi,rfl⟩:=List.getElem_of_mem hp
  have hr : i < rows.length:=by rw [hA.length_eq]; exact hi
  obtain ⟨_,_,_,h⟩:=hA.get hr hi
  exact h
end Go.Proofs.YtblegbfgedeldaaGreat
namespace Go.Ax
open Go
variable {α : Type} {M N : Mem} {st : Nat} {T : List AV → α → Prop} {v o : AV} {l : List α}
def SlR (M : Mem) (st : Nat) (T : List AV → α → Prop) (v : AV) (l : List α) : Prop :=
 (v = NIL ∧ l = []) ∨ ∃ (id : Nat) (rows : List (List AV)) (cap : Option Nat),v = .sl id 0 rows.length cap st ∧ M.rd id = some rows.flatten ∧ All2 T rows l ∧ ∀ r ∈ rows,r.length = st
theorem SlR.of (h : SlM M st T v l) : SlR M st T v l:=by
 rcases h with h | ⟨id,rows,cap,rfl,_,hg,hA,hr⟩
 ·exact .inl h
 ·exact .inr ⟨id,rows,cap,rfl,zBR hg,hA,hr⟩
theorem SlR.keep (h : SlR M st T v l) (k : ∀ j,N.rd j = M.rd j) : SlR N st T v l:=by
 rcases h with h | ⟨id,rows,cap,h1,h2,h3,h4⟩
 ·exact .inl h
 ·exact .inr ⟨id,rows,cap,h1,(k id).trans h2,h3,h4⟩
theorem SlR.icyk (h : SlR M st T v l) (wf : Wf M) (hT : FzT T) {k : Nat} (hk : 1 < k) : ∃ v' M',Go.Ax.icy k M v = some (v',M') ∧ Sl st T v' l ∧ Wf M' ∧ M'.size = M.size ∧ (∀ j,M'.rd j = M.rd j) ∧ ∀ j,rowOf v ≠ some j → M'.get j = M.get j:=by
 obtain ⟨k,rfl⟩ : ∃ j,k = j + 1:=⟨k - 1,by omega⟩
 rcases h with ⟨rfl,rfl⟩ | ⟨id,rows,cap,rfl,hg,hA,hr⟩
 ·exact ⟨NIL,M,rfl,.inl ⟨rfl,rfl⟩,wf,rfl,fun _=>rfl,fun _ _=>rfl⟩
 ·have hfl:=zAL hr
  have hcs : ∀ N,icyL (Go.Ax.icy k) N rows.flatten = some (rows.flatten,N):=zD8 (by omega) fun x hx N=>hT.celI.flat hA x hx N k (by omega)
  have hble : Nat.ble (0 + rows.length * st) rows.flatten.length = true:=zBH (by omega)
  have hsl : slot rows.flatten 0 (rows.length * st) = rows.flatten:=zBU _ _ hfl.symm
  have hrd:=hg
  rw [zE9] at hrd
  cases ho : M.get id with
  | none=>rw [ho] at hrd; cases hrd
  | some x =>
   rw [ho] at hrd
   cases x with
   | row b ds =>
    have e : ds = rows.flatten:=by simpa [rd1] using hrd
    subst e
    exact ⟨_,M.upd id (.fro rows.flatten),by simp only [Go.Ax.icy,hg,hble,hcs,ho,zBC wf (Mem.get_lt ho),hsl],.inr ⟨rows,cap,rfl,hA,hr⟩,wf.upd _ _,rfl,NK.rd_fro wf ho,fun j hj=>zA4 wf _ _ _ (fun e=>hj (by rw [e]; rfl))⟩
   | fro ds=>exact ⟨_,M,by simp only [Go.Ax.icy,hg,hble,hcs,ho,hsl],.inr ⟨rows,cap,rfl,hA,hr⟩,wf,rfl,fun _=>rfl,fun _ _=>rfl⟩
   | _=>simp [rd1] at hrd
theorem SlR.hand {P : Program} {fs : Nat → Option AFunc} {fuel f n : Nat} {af : AFunc} {rest : List AV} {R : AV → Prop} {Q : AV → Mem → Prop} (h : fs f = some af) (hg : af.gc = 1) (hN : SlR M st T o l) (wf : Wf M) (hT : FzT T) (hr : ∀ M,icyL (Go.Ax.icy 12) M rest = some (rest,M)) (hc : ∀ o',Sl st T o' l → ∃ r,R r ∧ ∀ M,zAE P fs fuel (n + 1) (.fn f) (o' :: rest) M = some (r,M))
  (k : ∀ r M',R r → Wf M' → M'.size = M.size → SlR M' st T o l → (∀ j,rowOf o ≠ some j → M'.get j = M.get j) → Q r M') : W3 (zAE P fs fuel (n + 1) (.fn f) (o :: rest) M) Q:=by
 obtain ⟨o',M',i1,s1,w1,z1,r1,g1⟩:=hN.icyk wf hT (k:=12) (by omega)
 obtain ⟨r,hR,hcall⟩:=hc o' s1
 refine ⟨r,M',zE1 (bs:=o' :: rest) h hg (hcall mem0) (M3:=mem0) ?_ ?_,k r M' hR w1 z1 (hN.keep r1) g1⟩
 ·simp only [icyL,s1.icy mem0 12 (by omega),hr]
 ·simp only [icyL,i1,hr]
end Go.Ax
namespace Go.Proofs.YtblegbfgedeldaaGreat
open Go Go.Ax
variable {fuel : Nat} {M : Mem} {Q : AV → Mem → Prop} {d : Nat} {l : List Op} {a : AV} {v : Lb}
theorem zSZ (l : List Op) (v : Lb) : zI3 (lowL l v) v (zD2 (elsR (textOf (lowL l v)))) = zC2 l v:=by
 unfold zI3 zD2 zC2
 rw [List.filter_map,List.map_map]
 rfl
theorem zPQ {l : List Op} (h : zAT [] l = true) (v : Lb) : (zC2 l v).length ≤ 192 * l.length:=by
 have hT:=zCG (zD7 v h)
 have h1:=zK1 hT.ok.1
 have h2:=zL4 (lowL l v)
 have h3:=zKN l v
 unfold zC2
 rw [List.length_map]
 exact Nat.le_trans (List.length_filter_le _ _) (by omega)
def zYA (l : List Op) (v : Lb) (r : AV) : Prop:=∃ r1,r = .tup [r1,I64 (zFH l v)] ∧ Sl 5 zEK r1 (if zFH l v = 0 then zC2 l v else [])
theorem zJH (h : zFH l v = 0) : zAT [] l = true ∧ v.may = true:=by
 unfold zFH err at h
 cases h1 : zAT [] l <;> cases h2 : v.may <;> rw [h1,h2] at h <;> first | exact ⟨rfl,rfl⟩ | cases h
set_option maxHeartbeats 8000000 in
theorem zHR (hS : Sl 17 isOp a l) (hl : l.length ≤ 200) (hf : 3200000 < fuel) (hd : ∀ o ∈ l,o.rs.length ≤ 1000000000) : ∃ r,zYA l v r ∧ ∀ M,zAE Tryz.prog (fsT tbl) fuel (d + 18) (.fn 9) [a,lbA v] M = some (r,M):=by
 obtain ⟨ro,⟨r2,rfl,hr2⟩,hon⟩:=zX2 (fuel:=fuel) (d:=d + 2) (v:=v) hS (by omega) (by omega) hd
 have or2:=hr2.one
 refine zEC tf9 rfl (fun M=>by simp only [icyL,fun M=>hS.icy M 12 (by omega),zAS (zCW v) (show 1 < 12 by omega)]) ?_
 refine zAJ tf9 rfl (by simp only [icyL,fun M=>hS.icy M 12 (by omega),zAS (zCW v) (show 1 < 12 by omega)]) (by simp [a9]) fun b' ht hx=>?_
 have h0:=hx 0 _ rfl
 have h1:=hx 1 _ rfl
 clear hx
 simp only [a9,c9,zzm] at ht ⊢
 unfold zYA
 by_cases q1 : zFH l v = 0
 ·rw [if_pos q1] at hr2
  obtain ⟨q2,q3⟩:=zJH q1
  have q4:=zD7 v q2
  have hlow:=zKN l v
  obtain ⟨rt,⟨r3,rfl,hr3⟩,htx⟩:=zXZ (fuel:=fuel) (d:=d + 2) hr2 (by omega) (by omega)
  rw [q4] at htx hr3
  simp only [if_true] at hr3
  have hT:=zCG q4
  have htl:=zL4 (lowL l v)
  obtain ⟨r4,hr4,hal⟩:=zZF (fuel:=fuel) (d:=d + 9) hr3 hT.ok.1 (by omega) (by omega)
  have hel:=zK1 hT.ok.1
  rw [q1]
  rw [q1] at hon
  simp (maxSteps:=2000000) (disch:=first | omega | assumption | (simp only [DS,Nat.reduceAdd, *]; done) | (simp only [DZ]; omega)) only [RUN,RU,zA2,zA1,slot,lay,reduceIte,Nat.reduceEqDiff,Nat.reduceAdd,h0,h1,hon,htx,hal,zAV,hr2.fz.cells]
  refine zbI (d:=d) (low:=lowL l v) (v:=v) hr4 (by rw [zER]; omega) hr2 q4 (by omega) (by rw [zER]; omega) ?_ ?_ ?_ ?_ fun o N wN leN kpN smN nwN wmN=>?_
  ·simp (maxSteps:=2000000) (disch:=first | omega | assumption | (simp only [DS,Nat.reduceAdd, *]; done) | (simp only [DZ]; omega)) only [RUN]
  ·exact Nat.zero_le _
  ·simp (maxSteps:=2000000) (disch:=first | omega | assumption | (simp only [DS,Nat.reduceAdd, *]; done) | (simp only [DZ]; omega)) only [RUN]
  ·simp (maxSteps:=2000000) (disch:=first | omega | assumption | (simp only [DS,Nat.reduceAdd, *]; done) | (simp only [DZ]; omega)) only [RUN]
  ·rw [zSZ] at smN
   obtain ⟨ro,hz,hs⟩:=smN.frz zKA.cel (k:=12) (by omega)
   have oo:=smN.one
   simp (maxSteps:=2000000) (disch:=first | omega | assumption | (simp only [DS,Nat.reduceAdd, *]; done) | (simp only [DZ]; omega)) only [RUN,RU,zA2,zA1,zA0,zAA,frzL,reduceIte,Nat.reduceEqDiff,hz]
   exact ⟨_,⟨ro,rfl,by simpa using hs⟩,rfl⟩
 ·have q1':=decide_eq_false q1
  simp (maxSteps:=2000000) (disch:=first | omega | assumption | (simp only [DS,Nat.reduceAdd, *]; done) | (simp only [DZ]; omega)) only [RUN,RU,zA2,zA1,zA0,zAA,frzL,slot,lay,reduceIte,Nat.reduceEqDiff,Nat.reduceAdd,h0,h1,hon,q1',hr2.fz.cells]
  exact ⟨_,⟨NIL,rfl,by rw [if_neg q1]; exact .inl ⟨rfl,rfl⟩⟩,rfl⟩
end Go.Proofs.YtblegbfgedeldaaGreat
namespace Go.Proofs.YtblegbfgedeldaaGreat
open Go Go.Ax
theorem zUE (l m : List Op) : zAM (l ++ m) = zAM l ++ zAM m:=by simp [zAM]
theorem zS0 {l : List Op} (h : zAT [] l = true) {v : Lb} : ∀ x ∈ elsR (textOf (lowL l v)),x.id.hd.lb.leq v = true ∧ 1 ≤ x.id.c ∧ x.id.may = true:=by
 intro x hx
 have hT:=zCG (zD7 v h)
 obtain ⟨o,ho,hr,hxo⟩:=(hT.mem x).1 hx
 have hm:=zOH hT.ok.1 x hx
 have hmi:=(El.may_iff.1 hm).1
 refine ⟨?_,(Eid.may_iff.1 hmi).2.1,hmi⟩
 have hid : x.id ∈ o.sp.ids:=by rw [← zHU]; exact List.mem_map.2 ⟨x,hxo,rfl⟩
 rw [zKO hid]
 obtain ⟨hom,hk,_⟩:=zIP hr
 rw [(zFG hom hk).1]
 exact (List.mem_filter.1 ho).2
theorem zPP {l : List Op} (h : zAT [] l = true) (v : Lb) : ((zC2 l v).map (·.id)).Nodup:=by
 have hT:=zCG (zD7 v h)
 have hn:=(zDY hT.ok).1.t.s1.nd
 have e : (zC2 l v).map (·.id) = ((elsR (textOf (lowL l v))).filter fun x => !zED (lowL l v) x.id).map (·.id):=by
  unfold zC2
  rw [List.map_map]
  rfl
 rw [e]
 exact hn.sublist (List.Sublist.map _ List.filter_sublist)
theorem zUI {l : List Op} {v : Lb} {c : CellV} (hc : c ∈ zC2 l v) : ∃ x ∈ elsR (textOf (lowL l v)),x.id = c.id ∧ zED (lowL l v) c.id = false:=by
 unfold zC2 at hc
 obtain ⟨x,hx,rfl⟩:=List.mem_map.1 hc
 obtain ⟨h1,h2⟩:=List.mem_filter.1 hx
 exact ⟨x,h1,rfl,by have h2 : (!zED (lowL l v) x.id) = true:=h2; simpa [cellV] using h2⟩
end Go.Proofs.YtblegbfgedeldaaGreat
namespace Go.Proofs.YtblegbfgedeldaaGreat
open Go Go.Ax
theorem zaM {l : List Op} (h : zAT [] l = true) (hok : ∀ o ∈ l,o.ok) (v : Lb) : elsR (textOf (lowL l v)) = (elsR (textOf l)).filter (lowE v):=by
 rw [(zXY h hok v).1,zPO (zCG h).ok.1,(zD4 _).1]
end Go.Proofs.YtblegbfgedeldaaGreat
namespace Go.Proofs.YtblegbfgedeldaaGreat
open Go Go.Ax
def addS (out : List Spn) (x : Eid) : List Spn :=
 match out.getLast? with
 | none=>out ++ [⟨x,1⟩]
 | some s=>if (⟨s.f,s.n + 1⟩ : Spn).has x = some s.n then out.set (out.length - 1) ⟨s.f,s.n + 1⟩ else out ++ [⟨x,1⟩]
def spansOf (c : List Eid) : List Spn:=c.foldl addS []
theorem zGS (c : List Eid) (x : Eid) : spansOf (c ++ [x]) = addS (spansOf c) x:=by simp [spansOf]
theorem zO9 (x : Eid) : addS [] x = [⟨x,1⟩]:=rfl
theorem zLA (o : List Spn) (s : Spn) (x : Eid) : addS (o ++ [s]) x = if (⟨s.f,s.n + 1⟩ : Spn).has x = some s.n then o ++ [⟨s.f,s.n + 1⟩] else o ++ [s] ++ [⟨x,1⟩]:=by
 unfold addS
 rw [List.getLast?_concat]
 simp only [List.length_append,List.length_singleton,Nat.add_sub_cancel]
 simp
theorem zUT (o : List Spn) (x : Eid) : (addS o x).length ≤ o.length + 1:=by
 unfold addS
 split
 ·simp
 ·split <;> simp
theorem zMP (c : List Eid) : (spansOf c).length ≤ c.length:=by
 refine zC7 (P:=fun c=>(spansOf c).length ≤ c.length) (Nat.le_refl _) (fun c x ih=>?_) c
 rw [zGS,List.length_append,List.length_singleton]
 have:=zUT (spansOf c) x
 omega
theorem zSP (x : Eid) : (⟨x,1⟩ : Spn).ids = [x]:=by
 show (List.range 1).map (fun (i : Nat)=>(⟨x,1⟩ : Spn).at i) = [x]
 simp [Spn.at]
theorem zWB {s : Spn} (h : 0 ≤ s.n) : (⟨s.f,s.n + 1⟩ : Spn).ids = s.ids ++ [s.at s.n]:=by
 unfold Spn.ids
 have e : (s.n + 1).toNat = s.n.toNat + 1:=by omega
 simp only [e,List.range_succ,List.map_append,List.map_cons,List.map_nil]
 congr 2
 show s.at (s.n.toNat : Int) = s.at s.n
 rw [Int.toNat_of_nonneg h]
theorem zTH {x : Eid} (h : x.may = true) : (⟨x,1⟩ : Spn).may = true:=by
 have:=(Eid.may_iff.1 h).2
 unfold Spn.may
 rw [h]
 simp only [Bool.true_and,Bool.and_eq_true,decide_eq_true_eq]
 omega
theorem zPL {c : List Eid} (hm : ∀ x ∈ c,x.may = true) : (spansOf c).flatMap Spn.ids = c ∧ ∀ s ∈ spansOf c,s.may = true:=by
 revert hm
 refine zC7 (P:=fun c=>(∀ x ∈ c,x.may = true) → (spansOf c).flatMap Spn.ids = c ∧ ∀ s ∈ spansOf c,s.may = true) (fun _=>⟨rfl,fun s hs=>absurd hs (by simp [spansOf])⟩) (fun c x ih hm=>?_) c
 obtain ⟨h1,h2⟩:=ih fun y hy=>hm y (List.mem_append_left _ hy)
 have hx:=hm x (by simp)
 rw [zGS]
 rcases List.eq_nil_or_concat (spansOf c) with e | ⟨o,s,e⟩
 ·rw [e] at h1 ⊢
  have hc : c = []:=by simpa using h1.symm
  subst hc
  rw [zO9]
  refine ⟨by simp [zSP],fun s hs=>?_⟩
  rw [List.mem_singleton] at hs
  subst hs
  exact zTH hx
 ·rw [e] at h1 h2 ⊢
  rw [List.concat_eq_append] at h1 h2 ⊢
  rw [zLA]
  have hs:=h2 s (by simp)
  have hb:=Spn.may_le hs
  split
  ·rename_i hh
   obtain ⟨hsm,_,_,hxe⟩:=zHY.1 hh
   refine ⟨?_,fun q hq=>?_⟩
   ·rw [List.flatMap_append] at h1 ⊢
    simp only [List.flatMap_cons,List.flatMap_nil,List.append_nil] at h1 ⊢
    have hxe : x = s.at s.n:=hxe.symm
    rw [zWB (by omega),← List.append_assoc,h1,← hxe]
   ·rcases List.mem_append.1 hq with hq | hq
    ·exact h2 q (List.mem_append_left _ hq)
    ·rw [List.mem_singleton] at hq
     subst hq
     exact hsm
  ·refine ⟨?_,fun q hq=>?_⟩
   ·rw [List.flatMap_append,h1]
    simp [zSP]
   ·rcases List.mem_append.1 hq with hq | hq
    ·exact h2 q hq
    ·rw [List.mem_singleton] at hq
     subst hq
     exact zTH hx
theorem zcY {s : Spn} (hs : s.may = true) {x : Eid} : (s.has x).isSome = true ↔ x ∈ s.ids:=by
 constructor
 ·exact zNH
 ·intro h
  unfold Spn.ids at h
  obtain ⟨i,hi,rfl⟩:=List.mem_map.1 h
  rw [List.mem_range] at hi
  unfold Spn.has
  rw [if_pos ⟨hs,rfl,by show s.f.c ≤ s.f.c + (i : Int); omega,by show s.f.c + (i : Int) < s.f.c + s.n; omega⟩]
  rfl
def zBO (kd : Int) (h : Hd) (s : Int) (to : Lb) (sp : List Spn) : List Op:=sp.mapIdx fun i x=>⟨kd,h,s + i,x,Eid.z,to,[]⟩
theorem zDD (kd : Int) (h : Hd) (s : Int) (to : Lb) (sp : List Spn) : (zBO kd h s to sp).length = sp.length:=List.length_mapIdx
theorem zEN (kd : Int) (h : Hd) (s : Int) (to : Lb) (sp : List Spn) (i : Nat) (hi : i < (zBO kd h s to sp).length) : (zBO kd h s to sp)[i] = ⟨kd,h,s + i,sp[i]'(by rw [zDD] at hi; exact hi),Eid.z,to,[]⟩:=by
 simp [zBO]
theorem zCU {kd : Int} {h : Hd} {s : Int} {to : Lb} {sp : List Spn} {o : Op} (ho : o ∈ zBO kd h s to sp) : ∃ i : Nat,∃ x ∈ sp,i < sp.length ∧ o = ⟨kd,h,s + i,x,Eid.z,to,[]⟩:=by
 obtain ⟨i,hi,rfl⟩:=List.getElem_of_mem ho
 rw [zEN]
 rw [zDD] at hi
 exact ⟨i,sp[i],List.getElem_mem hi,hi,rfl⟩
theorem zdH {kd : Int} {h : Hd} {s : Int} {to : Lb} {x : Spn} (hk : (kd = 2 ∧ to = Lb.z) ∨ (kd = 3 ∧ to.may = true)) (hh : h.may = true) (hs : 1 ≤ s ∧ s < 16777216) (hx : x.may = true) : (⟨kd,h,s,x,Eid.z,to,[]⟩ : Op).may = true:=by
 have e1 : decide (s < 1) = false:=decide_eq_false (by omega)
 have e2 : decide (16777216 ≤ s) = false:=decide_eq_false (by omega)
 unfold Op.may Op.part Op.bare
 simp only [hh,hx,e1,e2]
 rcases hk with ⟨rfl,rfl⟩ | ⟨rfl,ht⟩
 ·simp
 ·simp [ht]
theorem zY0 {l : List Op} {m : List Op} (hk : ∀ o ∈ m,o.kd ≠ 1) : zAM (l ++ m) = zAM l:=by
 rw [zUE]
 have : zAM m = []:=by
  unfold zAM
  rw [List.flatMap_eq_nil_iff]
  intro o ho
  rw [if_neg (hk o ho)]
 rw [this,List.append_nil]
theorem zbQ {l : List Op} : ∀ {m : List Op},(∀ o ∈ m,o.kd ≠ 1) → textOf (l ++ m) = textOf l:=by
 intro m
 refine zC7 (P:=fun m=>(∀ o ∈ m,o.kd ≠ 1) → textOf (l ++ m) = textOf l) (fun _=>by rw [List.append_nil]) (fun m o ih h=>?_) m
 rw [← List.append_assoc,zE7,ih fun p hp=>h p (List.mem_append_left _ hp)]
 unfold stepT
 rw [if_neg fun hr=>h o (by simp) (zIP hr).2.1]
theorem zQX {l : List Op} (h : zAT [] l = true) (hok : ∀ o ∈ l,o.ok) {v : Lb} {c : CellV} (hc : c ∈ zC2 l v) : c.id ∈ zAM l ∧ c.id.hd.lb.leq v = true ∧ c.id.may = true:=by
 obtain ⟨x,hx,hxe,_⟩:=zUI hc
 have h2:=zS0 h x hx
 rw [zaM h hok] at hx
 rw [← hxe]
 exact ⟨((zCG h).ids _).2 ⟨x,(List.mem_filter.1 hx).1,rfl⟩,h2.1,h2.2.2⟩
theorem zW1 {l m : List Op} (hl : zAT [] l = true) (fit : ∀ i (hi : i < m.length),zAT [] (l ++ m.take i) = true → m[i].may = true ∧ fitE (l ++ m.take i) m[i] = 0) :
  ∀ i,i ≤ m.length → zAT [] (l ++ m.take i) = true ∧ ∀ hi : i < m.length,zLG (l ++ m.take i) m[i] = 0:=by
 intro i
 induction i with
 | zero =>
  intro _
  have h0 : zAT [] (l ++ m.take 0) = true:=by simpa using hl
  refine ⟨h0,fun hi'=>?_⟩
  obtain ⟨f1,f2⟩:=fit 0 hi' h0
  unfold zLG
  rw [if_pos h0,if_pos f1]
  exact f2
 | succ i ih =>
  intro hi'
  obtain ⟨h1,_⟩:=ih (by omega)
  obtain ⟨f1,f2⟩:=fit i (by omega) h1
  have h2 : zAT [] (l ++ m.take (i + 1)) = true:=by
   rw [take_snoc _ i (by omega),← List.append_assoc,zHZ,h1,f1,f2]
   rfl
  refine ⟨h2,fun hi2=>?_⟩
  obtain ⟨g1,g2⟩:=fit (i + 1) hi2 h2
  unfold zLG
  rw [if_pos h2,if_pos g1]
  exact g2
theorem zdG {l : List Op} {kd : Int} (hk : kd ≠ 1) {h : Hd} {s : Int} {to : Lb} {sp : List Spn} (hi : ∀ x ∈ sp,∀ y ∈ x.ids,y ∈ zAM l ∧ y.hd.lb.leq h.lb = true) {i : Nat} {x : Spn} (hx : x ∈ sp) (s' : Int) : allB (l ++ (zBO kd h s to sp).take i) ⟨kd,h,s',x,Eid.z,to,[]⟩ = true:=by
 unfold allB
 rw [List.all_eq_true]
 intro y hy
 obtain ⟨h1,h2⟩:=hi _ hx y hy
 unfold zFN
 rw [zY0 (fun o ho=>by obtain ⟨_,_,_,_,rfl⟩:=zCU (List.mem_of_mem_take ho); exact hk),decide_eq_true h1,h2]
 rfl
theorem zRX : ∀ {sp : List Spn},(sp.flatMap Spn.ids).Nodup → sp.Pairwise fun a b => ∀ x ∈ a.ids,x ∉ b.ids
 | [],_ => .nil
 | a :: sp,h=>by
  rw [List.flatMap_cons,List.nodup_append] at h
  obtain ⟨_,h2,h3⟩:=h
  refine List.pairwise_cons.2 ⟨fun b hb x hx hxb=>?_,zRX h2⟩
  exact h3 x hx x (List.mem_flatMap.2 ⟨b,hb,hxb⟩) rfl
theorem zQR {l : List Op} (hl : zAT [] l = true) (hlen : l.length ≤ 100) {h : Hd} {s : Int} {to : Lb} {sp : List Spn} (hh : h.may = true) (ht : to.may = true) (hs : 1 ≤ s ∧ s + 64 ≤ 16777216) (hn : sp.length ≤ 64) (hm : ∀ x ∈ sp,x.may = true) (hi : ∀ x ∈ sp,∀ y ∈ x.ids,y ∈ zAM l ∧ y.hd.lb.leq h.lb = true) (hd : (sp.flatMap Spn.ids).Nodup) (hr : ∀ o ∈ zBO 3 h s to sp,zCN l o = true) :
  ∀ i,i ≤ (zBO 3 h s to sp).length → zAT [] (l ++ (zBO 3 h s to sp).take i) = true ∧ ∀ hi : i < (zBO 3 h s to sp).length,zLG (l ++ (zBO 3 h s to sp).take i) (zBO 3 h s to sp)[i] = 0:=by
 refine zW1 hl fun i hi' hist=>?_
 have hl2:=zDD 3 h s to sp
 have hip : i < sp.length:=by omega
 have hx:=List.getElem_mem hip
 have hri:=hr _ (List.getElem_mem hi')
 rw [zEN] at hri ⊢
 have hmay:=zdH (kd:=3) (to:=to) (.inr ⟨rfl,ht⟩) hh (s:=s + i) ⟨by omega,by omega⟩ (hm _ hx)
 refine ⟨hmay, ?_⟩
 have hright : zCN (l ++ (zBO 3 h s to sp).take i) ⟨3,h,s + i,sp[i],Eid.z,to,[]⟩ = true:=by
  unfold zCN at hri ⊢
  rw [if_pos rfl,Bool.and_eq_true,List.all_eq_true] at hri ⊢
  refine ⟨hri.1,fun y hy=>?_⟩
  have e : made (l ++ (zBO 3 h s to sp).take i) y h.lb = made l y h.lb:=by
   unfold made zC0
   rw [List.filter_append]
   have e2 : ((zBO 3 h s to sp).take i).filter (zC9 y h.lb) = []:=by
    rw [List.filter_eq_nil_iff]
    intro o ho hc
    obtain ⟨j,hj,rfl⟩:=List.getElem_of_mem ho
    rw [List.length_take] at hj
    rw [List.getElem_take,zEN] at hc
    have hc:=(zGQ.1 hc).2.1
    exact List.pairwise_iff_getElem.1 (zRX hd) j i (by omega) hip (by omega) y (zNH hc) hy
   rw [e2,List.append_nil]
  show zH9 (made _ y h.lb) h.lb = true
  rw [e]
  exact hri.2 y hy
 have hchE : chfE (l ++ (zBO 3 h s to sp).take i) ⟨3,h,s + i,sp[i],Eid.z,to,[]⟩ = 0:=by
  unfold chfE
  rw [zEX hist,if_pos rfl,hmay]
  rfl
 have hchB : chfB (l ++ (zBO 3 h s to sp).take i) ⟨3,h,s + i,sp[i],Eid.z,to,[]⟩ = true:=by
  unfold chfB
  rw [hchE,hright]
  rfl
 unfold fitE zE3 raiE
 simp only [zdG (kd:=3) (by decide) hi hx,hchE,hchB]
 rw [List.length_append,List.length_take]
 simp
 omega
end Go.Proofs.YtblegbfgedeldaaGreat
namespace Go.Ax
open Go
variable {P : Program} {call : Tg → List AV → Mem → Option (AV × Mem)} {t : List AV} {M : Mem}
def bldR (P : Program) (call : Tg → List AV → Mem → Option (AV × Mem)) (t : List AV) (M : Mem) (x0 x1 x2 x3 x4 : Operand) (a b c d e : List AV) : OR:=match a,b,c,d,e with
 | [a],[b1,b2,b3],[c],[d1,d2,d3,d4,d5],[e1,e2]=>some (.agg [a,b1,b2,b3,c,d1,d2,d3,d4,d5,.sc (.int .u8 0),.sc (.int .u32 0),.sc (.int .u8 0),.sc (.int .i64 0),e1,e2,.sc (.slice none 0 0)],M)
 | _,_,_,_,_=>zA7 P call t M (.build (.agg #[(.int .u8 0),(.int .u8 0),(.int .u32 0),(.int .u8 0),(.int .i64 0),(.int .u8 0),(.int .u32 0),(.int .u8 0),(.int .i64 0),(.int .i64 0),(.int .u8 0),(.int .u32 0),(.int .u8 0),(.int .i64 0),(.int .u8 0),(.int .u32 0),(.slice none 0 0)]) [(0,1,x0),(1,3,x1),(4,1,x2),(5,5,x3),(14,2,x4)])
theorem zZK (x0 x1 x2 x3 x4 : Operand) : zA7 P call t M (.build (.agg #[(.int .u8 0),(.int .u8 0),(.int .u32 0),(.int .u8 0),(.int .i64 0),(.int .u8 0),(.int .u32 0),(.int .u8 0),(.int .i64 0),(.int .i64 0),(.int .u8 0),(.int .u32 0),(.int .u8 0),(.int .i64 0),(.int .u8 0),(.int .u32 0),(.slice none 0 0)]) [(0,1,x0),(1,3,x1),(4,1,x2),(5,5,x3),(14,2,x4)]) = bldR P call t M x0 x1 x2 x3 x4 (cellsA (zA8 t x0)) (cellsA (zA8 t x1)) (cellsA (zA8 t x2)) (cellsA (zA8 t x3)) (cellsA (zA8 t x4)):=by
 unfold bldR
 split
 ·rename_i h0 h1 h2 h3 h4
  rw [zUO]
  simp only [zAI,h0,h1,h2,h3,h4]
  rfl
 ·rfl
theorem zV9 (x0 x1 x2 x3 x4 : Operand) (a b1 b2 b3 c d1 d2 d3 d4 d5 e1 e2 : AV) : bldR P call t M x0 x1 x2 x3 x4 [a] [b1,b2,b3] [c] [d1,d2,d3,d4,d5] [e1,e2] = some (.agg [a,b1,b2,b3,c,d1,d2,d3,d4,d5,.sc (.int .u8 0),.sc (.int .u32 0),.sc (.int .u8 0),.sc (.int .i64 0),e1,e2,.sc (.slice none 0 0)],M):=rfl
theorem take_at {cs r : List AV} {n k : Nat} (h : ∀ o,o < k → cs[n + o]? = r[o]?) : List.take k (List.drop n cs) = r.take k:=by
 apply List.ext_getElem?
 intro j
 rw [List.getElem?_take,List.getElem?_take]
 split
 ·rw [List.getElem?_drop]
  exact h j (by assumption)
 ·rfl
end Go.Ax
namespace Go.Ax
open Go
theorem zeL {α : Type} {T : List AV → α → Prop} {st : Nat} {a : AV} {l : List α} (h : Sl st T a l) {i j : Nat} (hi : i ≤ j) (hj : j ≤ l.length) : ∃ a',(∀ M,slcO M st a (some (.sc (.int .i64 i))) (some (.sc (.int .i64 j))) none = some (a',M)) ∧ Sl st T a' ((l.drop i).take (j - i)):=by
 rcases h with ⟨rfl,rfl⟩ | ⟨rows,cap,rfl,hA,hr⟩
 ·obtain rfl : j = 0:=by simpa using hj
  obtain rfl : i = 0:=by omega
  exact ⟨_,fun M=>rfl,.inl ⟨rfl,by simp⟩⟩
 ·have hl:=hA.length_eq
  have hdl : (rows.drop i).length = rows.length - i:=List.length_drop
  refine ⟨.pv ((rows.drop i).take (j - i)).flatten (j - i) (zFT cap i) st,fun M=>?_,.inr ⟨(rows.drop i).take (j - i),zFT cap i,by rw [List.length_take,hdl,Nat.min_eq_left (by omega)],zEG _ (zFQ i hA),fun r hq=>hr r (List.mem_of_mem_drop (List.mem_of_mem_take hq))⟩⟩
  have hs : slot rows.flatten (i * st) ((j - i) * st) = ((rows.drop i).take (j - i)).flatten:=by
   rw [slot,zD6 i hr,zGJ (j - i) (fun r hq=>hr r (List.mem_of_mem_drop hq))]
  unfold slcO
  simp only [Nat.beq_refl,zGF _ _ _ _ (show j ≤ rows.length by omega),zGF _ _ _ _ hi,hs]
end Go.Ax
namespace Go.Proofs.YtblegbfgedeldaaGreat
open Go Go.Ax
variable {fuel : Nat} {M : Mem} {Q : AV → Mem → Prop} {d : Nat} {l : List Op} {a : AV} {v : Lb}
def vspE (l : List Op) (v : Lb) (k m : Int) : Int:=if zFH l v = 0 then (if k < 0 ∨ ((zC2 l v).length : Int) < k ∨ m < 1 ∨ (zC2 l v).length - k < m then 2 else 0) else zFH l v
def midC (l : List Op) (v : Lb) (k m : Int) : List CellV:=((zC2 l v).drop k.toNat).take m.toNat
def vspK (l : List Op) (v : Lb) (k m : Int) (r : AV) : Prop:=∃ r1,r = .tup [r1,I64 (vspE l v k m)] ∧ Sl 5 zSV r1 (if vspE l v k m = 0 then spansOf ((midC l v k m).map (·.id)) else [])
set_option maxHeartbeats 16000000 in
theorem zQY {k m : Int} (hS : Sl 17 isOp a l) (hl : l.length ≤ 200) (hf : 3200000 < fuel) (hd : ∀ o ∈ l,o.rs.length ≤ 1000000000) : ∃ r,vspK l v k m r ∧ ∀ M,zAE Tryz.prog (fsT tbl) fuel (d + 19) (.fn 56) [a,lbA v,I64 k,I64 m] M = some (r,M):=by
 obtain ⟨rc,⟨r2,rfl,hr2⟩,hce⟩:=zHR (fuel:=fuel) (d:=d) (v:=v) hS hl hf hd
 refine zEC tf56 rfl (fun M=>by simp only [icyL,fun M=>hS.icy M 12 (by omega),zAS (zCW v) (show 1 < 12 by omega),zGL]) ?_
 refine zAJ tf56 rfl (by simp only [icyL,fun M=>hS.icy M 12 (by omega),zAS (zCW v) (show 1 < 12 by omega),zGL]) (by simp [a56]) fun b' ht hx=>?_
 have h0:=hx 0 _ rfl
 have h1:=hx 1 _ rfl
 have h2:=hx 2 _ rfl
 have h3:=hx 3 _ rfl
 clear hx
 simp only [a56,c56,zz0,zz2,zzm,zzg] at ht ⊢
 unfold vspK vspE
 by_cases q1 : zFH l v = 0
 ·have q1':=decide_eq_true q1
  rw [q1] at hr2 hce
  simp only [if_true] at hr2
  have hvl:=zPQ (zJH q1).1 v
  have lr2:=hr2.len
  simp only [q1,if_true]
  by_cases q2 : k < 0
  ·have q2':=decide_eq_true q2
   simp only [q2,true_or,if_true]
   simp (maxSteps:=2000000) (disch:=first | omega | assumption | (simp only [DS,Nat.reduceAdd, *]; done) | (simp only [DZ]; omega)) only [RUN,RU,zA2,zA1,zA0,zAA,frzL,slot,reduceIte,Nat.reduceEqDiff,Int.reduceEq,h0,h1,h2,hce,q2']
   exact ⟨_,⟨NIL,rfl,.inl ⟨rfl,rfl⟩⟩,rfl⟩
  have q2':=decide_eq_false q2
  by_cases q3 : ((zC2 l v).length : Int) < k
  ·have q3':=decide_eq_true q3
   simp only [q3,true_or,or_true,if_true]
   simp (maxSteps:=2000000) (disch:=first | omega | assumption | (simp only [DS,Nat.reduceAdd, *]; done) | (simp only [DZ]; omega)) only [RUN,RU,zA2,zA1,zA0,zAA,frzL,slot,reduceIte,Nat.reduceEqDiff,Int.reduceEq,h0,h1,h2,hce,q2',q3',lr2]
   exact ⟨_,⟨NIL,rfl,.inl ⟨rfl,rfl⟩⟩,rfl⟩
  have q3':=decide_eq_false q3
  by_cases q4 : m < 1
  ·have q4':=decide_eq_true q4
   simp only [q4,true_or,or_true,if_true]
   simp (maxSteps:=2000000) (disch:=first | omega | assumption | (simp only [DS,Nat.reduceAdd, *]; done) | (simp only [DZ]; omega)) only [RUN,RU,zA2,zA1,zA0,zAA,frzL,slot,reduceIte,Nat.reduceEqDiff,Int.reduceEq,h0,h1,h2,h3,hce,q2',q3',q4',lr2]
   exact ⟨_,⟨NIL,rfl,.inl ⟨rfl,rfl⟩⟩,rfl⟩
  have q4':=decide_eq_false q4
  obtain ⟨k,rfl⟩ : ∃ n : Nat,k = n:=⟨k.toNat,by omega⟩
  have w0 : IntKind.i64.wrap (((zC2 l v).length : Int) - k) = (zC2 l v).length - k:=by rw [wrap_i64] <;> omega
  by_cases q5 : ((zC2 l v).length : Int) - k < m
  ·have q5':=decide_eq_true q5
   simp only [q5,or_true,if_true]
   simp (maxSteps:=2000000) (disch:=first | omega | assumption | (simp only [DS,Nat.reduceAdd, *]; done) | (simp only [DZ]; omega)) only [RUN,RU,zA2,zA1,zA0,zAA,frzL,slot,reduceIte,Nat.reduceEqDiff,Int.reduceEq,h0,h1,h2,h3,hce,q2',q3',q4',q5',w0,lr2]
   exact ⟨_,⟨NIL,rfl,.inl ⟨rfl,rfl⟩⟩,rfl⟩
  have q5':=decide_eq_false q5
  obtain ⟨m,rfl⟩ : ∃ n : Nat,m = n:=⟨m.toNat,by omega⟩
  have q6 : ¬((k : Int) < 0 ∨ ((zC2 l v).length : Int) < k ∨ (m : Int) < 1 ∨ (zC2 l v).length - (k : Int) < m):=by omega
  simp only [q6,if_false,if_true]
  unfold midC
  simp only [Int.toNat_natCast]
  have w1 : IntKind.i64.wrap ((k : Int) + m) = ((k + m : Nat) : Int):=by rw [wrap_i64] <;> omega
  obtain ⟨sa,hsa,hsl⟩:=zeL hr2 (i:=k) (j:=k + m) (by omega) (by omega)
  rw [Nat.add_sub_cancel_left] at hsl
  have hcm : ∀ c ∈ ((zC2 l v).drop k).take m,c.id.may = true:=fun c hc=>by
   obtain ⟨x,x1,x2,_⟩:=zUI (List.mem_of_mem_drop (List.mem_of_mem_take hc))
   rw [← x2]
   exact (zS0 (zJH q1).1 x x1).2.2
  have hlm : (((zC2 l v).drop k).take m).length = m:=by rw [List.length_take,List.length_drop]; omega
  generalize ((zC2 l v).drop k).take m = cs at *
  have lsa:=hsl.len
  simp (maxSteps:=2000000) (disch:=first | omega | assumption | (simp only [DS,Nat.reduceAdd, *]; done) | (simp only [DZ]; omega)) only [RUN,RU,zA2,zA1,slot,reduceIte,Nat.reduceEqDiff,h0,h1,h2,h3,hce,hr2.fz.rows,q2',q3',q4',q5',w0,w1,lr2,hsa,lsa]
  refine zBF (I:=fun nq tq Nq => ∃ (iq : Nat) (o : AV),nq = cs.length - iq ∧ iq ≤ cs.length ∧ nth zA5 tq 8 = o ∧ nth zA5 tq 51 = sa ∧ nth zA5 tq 52 = I64 cs.length ∧ nth zA5 tq 53 = I64 iq ∧ Wf Nq ∧ Nq.wm = 0 ∧ SlM Nq 5 zSV o (spansOf ((cs.take iq).map (·.id)))) (n:=cs.length) (by omega) ?_ ?_
  ·refine ⟨0,NIL,rfl,Nat.zero_le _, ?_, ?_, ?_, ?_,Wf.mem0.add _,rfl,SlM.nil⟩ <;> simp (maxSteps:=2000000) (disch:=first | omega | assumption | (simp only [DS,Nat.reduceAdd, *]; done) | (simp only [DZ]; omega)) only [RUN,reduceIte,Nat.reduceEqDiff]
   all_goals first | rfl | assumption | done
  ·rintro nq tq Nq hltq ⟨iq,o,rfl,hiq,gq8,gq51,gq52,gq53,w,wm,sm⟩
   simp only [ht] at hltq ⊢
   have oo:=sm.one
   have oc:=sm.cells
   have ol:=sm.len
   have hsl2:=zMP ((cs.take iq).map (·.id))
   rw [List.length_map,List.length_take] at hsl2
   by_cases hc : iq < cs.length
   ·have c1 : decide ((iq : Int) < cs.length) = true:=decide_eq_true (by omega)
    have e1 : IntKind.i64.wrap ((iq : Int) + 1) = ((iq + 1 : Nat) : Int):=by rw [wrap_i64] <;> omega
    obtain ⟨r,hiad,hr,hrl⟩:=hsl.iad iq hc
    have hts : spansOf ((cs.take (iq + 1)).map (·.id)) = addS (spansOf ((cs.take iq).map (·.id))) cs[iq].id:=by
     rw [take_snoc cs iq hc,List.map_append,List.map_cons,List.map_nil,zGS]
    generalize cs[iq] = c at *
    obtain ⟨rfl,hok⟩:=hr
    have hspm:=(zPL (c:=(cs.take iq).map (·.id)) (fun x hx=>by
     obtain ⟨y,hy,rfl⟩:=List.mem_map.1 hx
     exact hcm y (List.mem_of_mem_take hy))).2
    generalize spansOf ((cs.take iq).map (·.id)) = sp at *
    have wX : ∀ z r,Wf ((Nq.add z).upd Nq.size r):=fun z r=>(w.add z).upd _ _
    have gX : ∀ z r j,j < Nq.size → ((Nq.add z).upd Nq.size r).get j = Nq.get j:=fun z r j hj=>by
     rw [zA4 (w.add _) _ _ _ (by omega),zAF w _ _ hj]
    rcases List.eq_nil_or_concat sp with e | ⟨o',s,e⟩
    ·subst e
     rw [zO9] at hts
     have w2 : IntKind.i64.wrap (((0 : Nat) : Int) - 1) = -1:=by decide
     have c2 : decide ((0 : Int) ≤ -1) = false:=by decide
     simp (maxSteps:=2000000) (disch:=first | omega | assumption | (simp only [DS,Nat.reduceAdd, *]; done) | (simp only [DZ]; omega)) only [RUN,RU,zA2,zA1,slot,lay,zAI,zA9,reduceIte,Nat.reduceEqDiff,Nat.reduceBEq,Nat.reduceAdd,Int.reduceLE,gq8,gq51,gq52,gq53,c1,hiad,ol,w2]
     refine ⟨zAR sm.rl (by omega), ?_⟩
     refine app1 (bytes:=32) (x:=⟨c.id,1⟩) (wX _ _) (sm.keep fun j hj=>gX _ _ j (sm.lt j hj)) zON ⟨rfl,hok,by show -9223372036854775808 ≤ (1 : Int) ∧ (1 : Int) ≤ 9223372036854775807; decide⟩ rfl (by omega) (by simp) (by simp) fun p2 M2 m2 wf2 le2 kp2 nw2 wm2 rl2 on2 oc2=>?_
     simp (maxSteps:=2000000) (disch:=first | omega | assumption | (simp only [DS,Nat.reduceAdd, *]; done) | (simp only [DZ]; omega)) only [RUN,RU,zA2,zA1,reduceIte,Nat.reduceEqDiff,gq8,gq51,gq52,gq53,wf2,e1]
     exact ⟨hltq,cs.length - (iq + 1),by omega,iq + 1,p2,rfl,by omega,rfl,rfl,wm2.trans wm,by rw [hts]; exact m2⟩
    ·rw [List.concat_eq_append] at e
     subst e
     rw [zLA] at hts
     have hsb:=Spn.may_le (hspm s (by simp))
     have hlen1 : (o' ++ [s]).length = o'.length + 1:=by simp
     have w2 : IntKind.i64.wrap ((((o' ++ [s]).length : Nat) : Int) - 1) = (o'.length : Int):=by rw [wrap_i64] <;> omega
     have c2 : decide ((0 : Int) ≤ (o'.length : Int)) = true:=decide_eq_true (by omega)
     have w3 : IntKind.i64.wrap (s.n + 1) = s.n + 1:=by rw [wrap_i64] <;> omega
     obtain ⟨id,rw',r,hrow,lid,hg,hcs,hiad2,hr2',hrl2,hpt,hcell,hpart,hset⟩:=sm.atS (i:=o'.length) (by omega)
     have es : (o' ++ [s])[o'.length]'(by omega) = s:=by simp
     rw [es] at hr2'
     obtain ⟨rfl,hsok⟩:=hr2'
     have hhas:=fun M=>zKE (fuel:=fuel) (d:=d + 13) ⟨s.f,s.n + 1⟩ c.id M
     have p4 : rw'[o'.length * 5 + 4]? = some (I64 s.n):=(hcell 4 (by decide)).trans rfl
     have p0 : List.take 4 (List.drop (o'.length * 5) rw') = idR s.f:=(take_at (k:=4) (r:=spR s) (fun o ho=>hcell o (by omega))).trans rfl
     have rlo:=zAR sm.rl (show Nq.size ≤ Nq.size + 1 + 1 by omega)
     have wZ : ∀ z r z' r',Wf ((((Nq.add z).upd Nq.size r).add z').upd (Nq.size + 1) r'):=fun z r z' r'=>((wX z r).add z').upd _ _
     have gZ : ∀ z r z' r' j,j < Nq.size → ((((Nq.add z).upd Nq.size r).add z').upd (Nq.size + 1) r').get j = Nq.get j:=fun z r z' r' j hj=>by
      rw [zA4 ((wX z r).add z') _ _ _ (by omega),zAF (wX z r) _ _ (by simp only [zAB,zA6]; omega)]
      exact gX z r j hj
     have hone : (⟨c.id,1⟩ : Spn).ok:=⟨hok,by show -9223372036854775808 ≤ (1 : Int) ∧ (1 : Int) ≤ 9223372036854775807; decide⟩
     by_cases hh : (⟨s.f,s.n + 1⟩ : Spn).has c.id = some s.n
     ·rw [if_pos hh] at hts
      simp only [hh,Option.getD_some,Option.isSome_some] at hhas
      have tt : decide (s.n = s.n) = true:=decide_eq_true rfl
      simp (maxSteps:=2000000) (disch:=first | omega | assumption | (simp only [DS,Nat.reduceAdd, *]; done) | (simp only [DZ]; omega)) only [RUN,RU,zA2,zA1,slot,lay,zAI,reduceIte,Nat.reduceEqDiff,Nat.reduceBEq,Nat.reduceAdd,gq8,gq51,gq52,gq53,c1,e1,hiad,w,ol,w2,c2,hiad2,hg,p4,p0,w3,hhas]
      refine ⟨hltq,cs.length - (iq + 1),by omega,iq + 1,o,rfl,by omega,rfl,rfl,wm, ?_⟩
      have key:=hset (spR ⟨s.f,s.n + 1⟩) ⟨s.f,s.n + 1⟩ ⟨rfl,hsok.1,by show -9223372036854775808 ≤ s.n + 1 ∧ s.n + 1 ≤ 9223372036854775807; omega⟩ rfl _ (zAG (wZ (.row false (zF2 ⟨Eid.z,0⟩)) (.row false (zF2 c)) (.row false (spR ⟨Eid.z,0⟩)) (.row false (spR ⟨s.f,s.n + 1⟩))) (.row false (lay rw' (o'.length * 5) (spR ⟨s.f,s.n + 1⟩))) id (by simp only [zAB,zA6]; omega))
      have es2 : (o' ++ [s]).set o'.length ⟨s.f,s.n + 1⟩ = o' ++ [⟨s.f,s.n + 1⟩]:=by simp
      rw [es2,← hts] at key
      exact key
     ·rw [if_neg hh] at hts
      cases hsm : ((⟨s.f,s.n + 1⟩ : Spn).has c.id).isSome with
      | false =>
       simp only [hsm] at hhas
       simp (maxSteps:=2000000) (disch:=first | omega | assumption | (simp only [DS,Nat.reduceAdd, *]; done) | (simp only [DZ]; omega)) only [RUN,RU,zA2,zA1,slot,lay,zAI,zA9,reduceIte,Nat.reduceEqDiff,Nat.reduceBEq,Nat.reduceAdd,gq8,gq51,gq52,gq53,c1,hiad,ol,w2,c2,hiad2,hg,p4,p0,w3,hhas]
       refine ⟨zAR sm.rl (by omega), ?_⟩
       refine app1 (bytes:=32) (x:=⟨c.id,1⟩) (wZ _ _ _ _) (sm.keep fun j hj=>gZ _ _ _ _ j (sm.lt j hj)) zON ⟨rfl,hone⟩ rfl (by omega) (by omega) (by omega) fun p2 M2 m2 wf2 le2 kp2 nw2 wm2 rl2 on2 oc2=>?_
       simp (maxSteps:=2000000) (disch:=first | omega | assumption | (simp only [DS,Nat.reduceAdd, *]; done) | (simp only [DZ]; omega)) only [RUN,RU,zA2,zA1,reduceIte,Nat.reduceEqDiff,gq8,gq51,gq52,gq53,wf2,e1]
       exact ⟨hltq,cs.length - (iq + 1),by omega,iq + 1,p2,rfl,by omega,rfl,rfl,wm2.trans wm,by rw [hts]; exact m2⟩
      | true =>
       have hne : decide ((((⟨s.f,s.n + 1⟩ : Spn).has c.id).getD 0) = s.n) = false:=decide_eq_false fun e=>hh (by
        obtain ⟨x,hx⟩:=Option.isSome_iff_exists.1 hsm
        rw [hx] at e ⊢
        exact congrArg some e)
       simp only [hsm] at hhas
       simp (maxSteps:=2000000) (disch:=first | omega | assumption | (simp only [DS,Nat.reduceAdd, *]; done) | (simp only [DZ]; omega)) only [RUN,RU,zA2,zA1,slot,lay,zAI,zA9,reduceIte,Nat.reduceEqDiff,Nat.reduceBEq,Nat.reduceAdd,gq8,gq51,gq52,gq53,c1,hiad,ol,w2,c2,hiad2,hg,p4,p0,w3,hhas,hne]
       refine ⟨zAR sm.rl (by omega), ?_⟩
       refine app1 (bytes:=32) (x:=⟨c.id,1⟩) (wZ _ _ _ _) (sm.keep fun j hj=>gZ _ _ _ _ j (sm.lt j hj)) zON ⟨rfl,hone⟩ rfl (by omega) (by omega) (by omega) fun p2 M2 m2 wf2 le2 kp2 nw2 wm2 rl2 on2 oc2=>?_
       simp (maxSteps:=2000000) (disch:=first | omega | assumption | (simp only [DS,Nat.reduceAdd, *]; done) | (simp only [DZ]; omega)) only [RUN,RU,zA2,zA1,reduceIte,Nat.reduceEqDiff,gq8,gq51,gq52,gq53,wf2,e1]
       exact ⟨hltq,cs.length - (iq + 1),by omega,iq + 1,p2,rfl,by omega,rfl,rfl,wm2.trans wm,by rw [hts]; exact m2⟩
   ·obtain rfl : iq = cs.length:=by omega
    have c1 : decide ((cs.length : Int) < cs.length) = false:=decide_eq_false (by omega)
    rw [List.take_length] at sm
    obtain ⟨ro,hz,hs⟩:=sm.frz zON.cel (k:=12) (by omega)
    simp (maxSteps:=2000000) (disch:=first | omega | assumption | (simp only [DS,Nat.reduceAdd, *]; done) | (simp only [DZ]; omega)) only [RUN,RU,zA2,zA1,zA0,zAA,frzL,reduceIte,Nat.reduceEqDiff,gq8,gq52,gq53,hz]
    exact ⟨_,⟨ro,rfl,hs⟩,rfl⟩
 ·have q1':=decide_eq_false q1
  rw [if_neg q1] at hr2
  simp only [q1,if_false]
  simp (maxSteps:=2000000) (disch:=first | omega | assumption | (simp only [DS,Nat.reduceAdd, *]; done) | (simp only [DZ]; omega)) only [RUN,RU,zA2,zA1,zA0,zAA,frzL,slot,reduceIte,Nat.reduceEqDiff,h0,h1,hce,q1']
  exact ⟨_,⟨NIL,rfl,.inl ⟨rfl,rfl⟩⟩,rfl⟩
end Go.Proofs.YtblegbfgedeldaaGreat
namespace Go.Proofs.YtblegbfgedeldaaGreat
open Go Go.Ax
variable {fuel : Nat} {M : Mem} {Q : AV → Mem → Prop} {d : Nat} {l : List Op} {a : AV} {v : Lb}
def espE (l : List Op) (v : Lb) (k m : Int) : Int:=if 64 < m then 4 else vspE l v k m
def espK (l : List Op) (v : Lb) (k m : Int) (r : AV) : Prop:=∃ r1,r = .tup [r1,I64 (espE l v k m)] ∧ Sl 5 zSV r1 (if espE l v k m = 0 then spansOf ((midC l v k m).map (·.id)) else [])
theorem zQ8 {h : Hd} {k m : Int} (hS : Sl 17 isOp a l) (hl : l.length ≤ 200) (hf : 3200000 < fuel) (hd : ∀ o ∈ l,o.rs.length ≤ 1000000000) : ∃ r,espK l h.lb k m r ∧ ∀ M,zAE Tryz.prog (fsT tbl) fuel (d + 20) (.fn 32) [a,hdA h,I64 k,I64 m] M = some (r,M):=by
 obtain ⟨rv,⟨r1,rfl,hr1⟩,hsp⟩:=zQY (fuel:=fuel) (d:=d) (v:=h.lb) (k:=k) (m:=m) hS hl hf hd
 refine zEC tf32 rfl (fun M=>by simp only [icyL,fun M=>hS.icy M 12 (by omega),zAS (zJ8 h) (show 1 < 12 by omega),zGL]) ?_
 refine zAJ tf32 rfl (by simp only [icyL,fun M=>hS.icy M 12 (by omega),zAS (zJ8 h) (show 1 < 12 by omega),zGL]) (by simp [a32]) fun b' ht hx=>?_
 have h0:=hx 0 _ rfl
 have h1:=hx 1 _ rfl
 have h2:=hx 2 _ rfl
 have h3:=hx 3 _ rfl
 clear hx
 simp only [a32,c32,zzm] at ht ⊢
 unfold espK espE
 by_cases q1 : 64 < m
 ·have q1':=decide_eq_true q1
  simp only [q1,if_true]
  simp (maxSteps:=2000000) (disch:=first | omega | assumption | (simp only [DS,Nat.reduceAdd, *]; done) | (simp only [DZ]; omega)) only [RUN,RU,zA2,zA1,zA0,zAA,frzL,reduceIte,Nat.reduceEqDiff,Int.reduceEq,h1,h3,q1']
  exact ⟨_,⟨NIL,rfl,.inl ⟨rfl,rfl⟩⟩,rfl⟩
 ·have q1':=decide_eq_false q1
  simp only [q1,if_false]
  simp (maxSteps:=2000000) (disch:=first | omega | assumption | (simp only [DS,Nat.reduceAdd, *]; done) | (simp only [DZ]; omega)) only [RUN,RU,zA2,zA1,zA0,zAA,frzL,slot,reduceIte,Nat.reduceEqDiff,h0,h1,h2,h3,q1',hsp,hr1.fz.frz]
  exact ⟨_,⟨r1,rfl,hr1⟩,rfl⟩
theorem ed_z {h : Hd} {s : Int} (e : edE l h s = 0) : zAT [] l = true ∧ h.may = true ∧ 1 ≤ s ∧ s < 16777152:=by
 unfold edE at e
 split at e
 ·rename_i h1
  split at e
  ·cases e
  ·exact ⟨h1.1,h1.2,by omega,by omega⟩
 ·cases e
theorem vsp_z {k m : Int} (e : vspE l v k m = 0) : zFH l v = 0 ∧ 0 ≤ k ∧ k ≤ (zC2 l v).length ∧ 1 ≤ m ∧ m ≤ (zC2 l v).length - k:=by
 unfold vspE at e
 split at e
 ·rename_i h1
  split at e
  ·cases e
  ·exact ⟨h1,by omega,by omega,by omega,by omega⟩
 ·rename_i h1; exact absurd e h1
theorem zcI {k m : Int} (e : espE l v k m = 0) : m ≤ 64 ∧ vspE l v k m = 0:=by
 unfold espE at e
 split at e
 ·cases e
 ·exact ⟨by omega,e⟩
theorem zT9 {k m : Int} (hm : m ≤ 64) : (spansOf ((midC l v k m).map (·.id))).length ≤ 64:=by
 have h1:=zMP ((midC l v k m).map (·.id))
 rw [List.length_map] at h1
 unfold midC at h1 ⊢
 rw [List.length_take] at h1
 omega
end Go.Proofs.YtblegbfgedeldaaGreat
namespace Go.Proofs.YtblegbfgedeldaaGreat
open Go Go.Ax
variable {fuel : Nat} {M : Mem} {Q : AV → Mem → Prop} {d : Nat} {l : List Op} {a : AV} {v : Lb}
set_option maxHeartbeats 4000000 in
theorem zeE {bh bs bt i : Nat} {to : Lb} {h : Hd} {s : Int} {x : Spn} (wf : Wf M) (hw : M.wm ≤ M.size) (m1 : M.get bh = some (.row false (hdR h))) (m2 : M.get bs = some (.row false [I64 s])) (m3 : M.get bt = some (.row false (lbR to))) (hs : 1 ≤ s ∧ s ≤ 16777216) (hi : i ≤ 100000) (k : ∀ N,Kept M N → Q (.agg (opR ⟨3,h,s + i,x,Eid.z,to,[]⟩ NIL)) N) : W3 (zAE Tryz.prog (fsT tbl) fuel (d + 1) (.fn 36) [I64 i,spA x,.ptr bh 0,.ptr bs 0,.ptr bt 0] M) Q:=by
 have l1:=Mem.get_lt m1
 have l2:=Mem.get_lt m2
 have l3:=Mem.get_lt m3
 have w1 : IntKind.i64.wrap (s + (i : Int)) = s + i:=by rw [wrap_i64] <;> omega
 have kk:=fun p q r=>(((Kept.refl wf).add p).add q).upd hw (Nat.le_succ M.size) r
 refine zB3 tf36 rfl (by simp [a36]) fun b' ht hx=>?_
 have h0:=hx 0 _ rfl
 have h1:=hx 1 _ rfl
 have h2:=hx 2 _ rfl
 have h3:=hx 3 _ rfl
 have h4:=hx 4 _ rfl
 clear hx
 simp only [a36,c36,zz5] at ht ⊢
 simp (maxSteps:=2000000) (disch:=first | omega | assumption | (simp only [DS,Nat.reduceAdd, *]; done) | (simp only [DZ]; omega)) only [RUN,RU,zA2,zA1,zA0,zAA,slot,lay,reduceIte,Nat.reduceEqDiff,Nat.reduceAdd,h0,h1,h2,h3,h4,m1,m2,m3,w1,↓zZK,zV9]
 exact k _ (kk _ _ _)
set_option maxHeartbeats 8000000 in
theorem zVP {bh bs bt : Nat} {to : Lb} {h : Hd} {s : Int} {sp : List Spn} (hS : Sl 5 zSV a sp) (hl : sp.length ≤ 64) (hf : 100 < fuel) (hho : h.ok) (hto : to.ok) (wf : Wf M) (hw : M.wm ≤ M.size) (m1 : M.get bh = some (.row false (hdR h))) (m2 : M.get bs = some (.row false [I64 s])) (m3 : M.get bt = some (.row false (lbR to))) (hs : 1 ≤ s ∧ s ≤ 16777216)
  (k : ∀ o N,Wf N → M.size ≤ N.size → (∀ j,j < M.size → N.get j = M.get j) → SlM N 17 isOp o (zBO 3 h s to sp) → N.wm = M.wm → Q o N) : W3 (zAE Tryz.prog (fsT tbl) fuel (d + 2) (.fn 33) [a,.fn 36 [] [.ptr bh 0,.ptr bs 0,.ptr bt 0]] M) Q:=by
 have la:=hS.len
 have l1:=Mem.get_lt m1
 have l2:=Mem.get_lt m2
 have l3:=Mem.get_lt m3
 have hol:=zDD 3 h s to sp
 refine zB3 tf33 rfl (by simp [a33]) fun b' ht hx=>?_
 have h0:=hx 0 _ rfl
 have h1:=hx 1 _ rfl
 clear hx
 simp only [a33,c33,zz2,zz5,zzm] at ht ⊢
 simp (maxSteps:=2000000) (disch:=first | omega | assumption | (simp only [DS,Nat.reduceAdd, *]; done) | (simp only [DZ]; omega)) only [RUN,RU,zA2,zA1,reduceIte,Nat.reduceEqDiff,h0,la]
 refine zBF (I:=fun n t N => ∃ (i : Nat) (o : AV),n = sp.length - i ∧ i ≤ sp.length ∧ nth zA5 t 1 = .fn 36 [] [.ptr bh 0,.ptr bs 0,.ptr bt 0] ∧ nth zA5 t 4 = o ∧ nth zA5 t 7 = a ∧ nth zA5 t 8 = I64 sp.length ∧ nth zA5 t 9 = I64 i ∧ Wf N ∧ M.size ≤ N.size ∧ (∀ j,j < M.size → N.get j = M.get j) ∧ N.wm = M.wm ∧ SlM N 17 isOp o ((zBO 3 h s to sp).take i) ∧ (∀ j,rowOf o = some j → M.size ≤ j)) (n:=sp.length) (by omega) ?_ ?_
 ·refine ⟨0,NIL,rfl,Nat.zero_le _, ?_, ?_, ?_, ?_, ?_,wf,Nat.le_refl _,(fun _ _=>rfl),rfl,SlM.nil,(fun _ h=>by cases h)⟩ <;> simp (maxSteps:=2000000) (disch:=first | omega | assumption | (simp only [DS,Nat.reduceAdd, *]; done) | (simp only [DZ]; omega)) only [RUN,reduceIte,Nat.reduceEqDiff,h1]
  all_goals first | rfl | assumption | done
 ·rintro n t N hlt ⟨i,o,rfl,hi,g1,g4,g7,g8,g9,w,le,kp,wm,sm,nr⟩
  simp only [ht] at hlt ⊢
  have oo:=sm.one
  have oc:=sm.cells
  have hll : ((zBO 3 h s to sp).take i).length ≤ 64:=by rw [List.length_take]; omega
  by_cases hc : i < sp.length
  ·have q1 : decide ((i : Int) < sp.length) = true:=decide_eq_true (by omega)
   have w1 : IntKind.i64.wrap ((i : Int) + 1) = ((i + 1 : Nat) : Int):=by rw [wrap_i64] <;> omega
   obtain ⟨r,hiad,hr,hrl⟩:=hS.iad i hc
   have hts:=take_snoc (zBO 3 h s to sp) i (by omega)
   rw [zEN] at hts
   generalize sp[i] = x at *
   obtain ⟨rfl,hok⟩:=hr
   have hwN : N.wm ≤ N.size:=by rw [wm]; exact Nat.le_trans hw le
   have kX:=((Kept.refl w).add (.row false (spR ⟨Eid.z,0⟩))).upd hwN (Nat.le_refl _) (.row false (spR x))
   simp (maxSteps:=2000000) (disch:=first | omega | assumption | (simp only [DS,Nat.reduceAdd, *]; done) | (simp only [DZ]; omega)) only [RUN,RU,zA2,zA1,slot,lay,reduceIte,Nat.reduceEqDiff,Nat.reduceAdd,g1,g4,g7,g8,g9,q1,hiad]
   refine zeE (d:=d) (x:=x) kX.wf (by rw [kX.wm]; exact Nat.le_trans hwN kX.le) ((kX.get bh (by omega)).trans ((kp bh l1).trans m1)) ((kX.get bs (by omega)).trans ((kp bs l2).trans m2)) ((kX.get bt (by omega)).trans ((kp bt l3).trans m3)) hs (by omega) fun N2 k2=>?_
   have w2:=k2.wf
   have k3:=kX.trans k2
   have le2:=k2.le
   simp only [zAB,zA6] at le2
   have smX : SlM N2 17 isOp o ((zBO 3 h s to sp).take i):=sm.keep fun j hj=>k3.get j (sm.lt j hj)
   simp (maxSteps:=2000000) (disch:=first | omega | assumption | (simp only [DS,Nat.reduceAdd, *]; done) | (simp only [DZ]; omega)) only [RUN,RU,zA2,zA1,lay,zAI,zA9,reduceIte,Nat.reduceEqDiff,Nat.reduceBEq,Nat.reduceAdd]
   refine ⟨zAR smX.rl (by omega), ?_⟩
   have hook : (⟨3,h,s + i,x,Eid.z,to,[]⟩ : Op).ok:=⟨by show (0 : Int) ≤ 3 ∧ (3 : Int) ≤ 255; decide,hho,by show -9223372036854775808 ≤ s + (i : Int) ∧ s + (i : Int) ≤ 9223372036854775807; omega,hok,Eid.z_ok,hto,fun _ h=>by cases h⟩
   refine app1 (bytes:=112) (x:=⟨3,h,s + i,x,Eid.z,to,[]⟩) w2 smX zJ0 ⟨NIL,rfl,.inl ⟨rfl,rfl⟩,hook⟩ rfl (by omega) (by omega) (by omega) fun p2 M2 m2' wf2 le3 kp2 nw2 wm2 rl2 on2 oc2=>?_
   simp (maxSteps:=2000000) (disch:=first | omega | assumption | (simp only [DS,Nat.reduceAdd, *]; done) | (simp only [DZ]; omega)) only [RUN,RU,zA2,zA1,reduceIte,Nat.reduceEqDiff,g1,g4,g7,g8,g9,wf2,w1]
   refine ⟨hlt,sp.length - (i + 1),by omega,i + 1,p2,rfl,by omega,rfl,rfl,by omega,fun j hj=>?_,(wm2.trans k3.wm).trans wm,by rw [hts]; exact m2',fun j hj=>?_⟩
   ·rw [kp2 j (by omega) (fun h=>by have:=nr _ h; omega)]; exact (k3.get j (by omega)).trans (kp j hj)
   ·rcases nw2 j hj with h | h
    ·exact nr j h
    ·omega
  ·obtain rfl : i = sp.length:=by omega
   have q1 : decide ((sp.length : Int) < sp.length) = false:=decide_eq_false (by omega)
   rw [List.take_of_length_le (by omega)] at sm
   simp (maxSteps:=2000000) (disch:=first | omega | assumption | (simp only [DS,Nat.reduceAdd, *]; done) | (simp only [DZ]; omega)) only [RUN,RU,zA2,zA1,zA0,zAA,reduceIte,Nat.reduceEqDiff,g4,g8,g9]
   exact k o N w le kp sm wm
def rsE (l : List Op) (h : Hd) (s k m : Int) (to : Lb) : Int:=if edE l h s = 0 then (if to.may = true then (if espE l h.lb k m = 0 then (if h.lb.leq to = true then (if (zBO 3 h s to (spansOf ((midC l h.lb k m).map (·.id)))).all (fun o=>chfB l o) = true then 0 else 230) else 2) else espE l h.lb k m) else 8) else edE l h s
def rsK (l : List Op) (h : Hd) (s k m : Int) (to : Lb) (r : AV) : Prop:=∃ r1,r = .tup [r1,I64 (rsE l h s k m to)] ∧ Sl 17 isOp r1 (if rsE l h s k m to = 0 then zBO 3 h s to (spansOf ((midC l h.lb k m).map (·.id))) else [])
set_option maxHeartbeats 16000000 in
theorem zTT {h : Hd} {s k m : Int} {to : Lb} (hS : Sl 17 isOp a l) (hho : h.ok) (hto : to.ok) (hl : l.length ≤ 200) (hf : 3200000 < fuel) (hd : ∀ o ∈ l,o.rs.length ≤ 1000000000) : ∃ r,rsK l h s k m to r ∧ ∀ M,zAE Tryz.prog (fsT tbl) fuel (d + 21) (.fn 14) [a,hdA h,I64 s,I64 k,I64 m,lbA to] M = some (r,M):=by
 have hask:=fun M=>zQ4 (fuel:=fuel) (d:=d + 5) (h:=h) (s:=s) hS (by omega) (by omega) M
 have hlc:=fun M=>@zDR fuel (d + 19) to M
 have hlq:=fun M=>@zEM fuel (d + 19) h.lb to M
 obtain ⟨rv,⟨r1,rfl,hr1⟩,hsp⟩:=zQ8 (fuel:=fuel) (d:=d) (h:=h) (k:=k) (m:=m) hS hl hf hd
 refine zEC tf14 rfl (fun M=>by simp only [icyL,fun M=>hS.icy M 12 (by omega),zAS (zJ8 h) (show 1 < 12 by omega),zAS (zCW to) (show 1 < 12 by omega),zGL]) ?_
 refine zAJ tf14 rfl (by simp only [icyL,fun M=>hS.icy M 12 (by omega),zAS (zJ8 h) (show 1 < 12 by omega),zAS (zCW to) (show 1 < 12 by omega),zGL]) (by simp [a14]) fun b' ht hx=>?_
 have h0:=hx 0 _ rfl
 have h1:=hx 1 _ rfl
 have h2:=hx 2 _ rfl
 have h3:=hx 3 _ rfl
 have h4:=hx 4 _ rfl
 have h5:=hx 5 _ rfl
 clear hx
 simp only [a14,c14,zz5,zzm] at ht ⊢
 unfold rsK rsE
 by_cases q1 : edE l h s = 0
 ·obtain ⟨e1,e2,e3,e4⟩:=ed_z q1
  simp only [q1,if_true]
  rw [q1] at hask
  cases q2 : to.may with
  | false =>
   rw [q2] at hlc
   have e8 : ((8 : Int) = 0) = False:=by decide
   simp only [Bool.false_eq_true,if_false,e8]
   simp (maxSteps:=2000000) (disch:=first | omega | assumption | (simp only [DS,Nat.reduceAdd, *]; done) | (simp only [DZ]; omega)) only [RUN,RU,zA2,zA1,zA0,zAA,frzL,slot,reduceIte,Nat.reduceEqDiff,Nat.reduceAdd,Int.reduceEq,h0,h1,h2,h5,hask,hlc,zBE]
   exact ⟨_,⟨NIL,rfl,.inl ⟨rfl,rfl⟩⟩,rfl⟩
  | true =>
   rw [q2] at hlc
   simp only [if_true]
   by_cases q3 : espE l h.lb k m = 0
   ·obtain ⟨f1,f2⟩:=zcI q3
    have hnl:=zT9 (l:=l) (v:=h.lb) (k:=k) f1
    rw [q3] at hr1 hsp
    simp only [if_true] at hr1
    simp only [q3,if_true]
    generalize spansOf ((midC l h.lb k m).map (·.id)) = sp at *
    have lr1:=hr1.len
    cases q4 : h.lb.leq to with
    | false =>
     rw [q4] at hlq
     have e2' : ((2 : Int) = 0) = False:=by decide
     simp only [Bool.false_eq_true,if_false,e2']
     simp (maxSteps:=2000000) (disch:=first | omega | assumption | (simp only [DS,Nat.reduceAdd, *]; done) | (simp only [DZ]; omega)) only [RUN,RU,zA2,zA1,zA0,zAA,frzL,slot,reduceIte,Nat.reduceEqDiff,Nat.reduceAdd,Int.reduceEq,h0,h1,h2,h3,h4,h5,hask,hlc,hsp,hlq,zAV]
     exact ⟨_,⟨NIL,rfl,.inl ⟨rfl,rfl⟩⟩,rfl⟩
    | true =>
     rw [q4] at hlq
     simp only [if_true]
     simp (maxSteps:=2000000) (disch:=first | omega | assumption | (simp only [DS,Nat.reduceAdd, *]; done) | (simp only [DZ]; omega)) only [RUN,RU,zA2,zA1,slot,reduceIte,Nat.reduceEqDiff,Nat.reduceAdd,h0,h1,h2,h3,h4,h5,hask,hlc,hsp,hlq,zAV]
     refine zVP (d:=d + 18) (bh:=0) (bs:=1) (bt:=2) (to:=to) hr1 hnl (by omega) hho hto (((Wf.mem0.add _).add _).add _) (Nat.zero_le _) (by simp (maxSteps:=2000000) (disch:=first | omega | assumption | (simp only [DS,Nat.reduceAdd, *]; done) | (simp only [DZ]; omega)) only [RUN]) (by simp (maxSteps:=2000000) (disch:=first | omega | assumption | (simp only [DS,Nat.reduceAdd, *]; done) | (simp only [DZ]; omega)) only [RUN]) (by simp (maxSteps:=2000000) (disch:=first | omega | assumption | (simp only [DS,Nat.reduceAdd, *]; done) | (simp only [DZ]; omega)) only [RUN]) ⟨e3,by omega⟩ fun o N2 w2 le2 k2 sm2 wm2=>?_
     have hol:=zDD 3 h s to sp
     have oo:=sm2.one
     have lo:=sm2.len
     generalize zBO 3 h s to sp = L at *
     simp (maxSteps:=2000000) (disch:=first | omega | assumption | (simp only [DS,Nat.reduceAdd, *]; done) | (simp only [DZ]; omega)) only [RUN,RU,zA2,zA1,reduceIte,Nat.reduceEqDiff,lo]
     refine zBF (I:=fun nq tq Nq => ∃ (iq : Nat) (_x : Nat),nq = L.length - iq ∧ iq ≤ L.length ∧ nth zA5 tq 0 = a ∧ nth zA5 tq 17 = I64 0 ∧ nth zA5 tq 18 = o ∧ nth zA5 tq 58 = o ∧ nth zA5 tq 59 = I64 L.length ∧ nth zA5 tq 60 = I64 iq ∧ Wf Nq ∧ SlM Nq 17 isOp o L ∧ (∀ j (hj : j < L.length),j < iq → chfB l L[j] = true)) (n:=L.length) (by omega) ?_ ?_
     ·refine ⟨0,0,rfl,Nat.zero_le _, ?_, ?_, ?_, ?_, ?_, ?_,w2,sm2,(fun j _ h=>absurd h (by omega))⟩ <;> simp (maxSteps:=2000000) (disch:=first | omega | assumption | (simp only [DS,Nat.reduceAdd, *]; done) | (simp only [DZ]; omega)) only [RUN,reduceIte,Nat.reduceEqDiff,h0]
      all_goals first | rfl | assumption | done
     ·rintro nq tq Nq hltq ⟨iq,_x,rfl,hiq,gq0,gq17,gq18,gq58,gq59,gq60,w,sm,ha⟩
      simp only [ht] at hltq ⊢
      by_cases hc : iq < L.length
      ·have c1 : decide ((iq : Int) < L.length) = true:=decide_eq_true (by omega)
       have w1 : IntKind.i64.wrap ((iq : Int) + 1) = ((iq + 1 : Nat) : Int):=by rw [wrap_i64] <;> omega
       obtain ⟨id,cs,r,hrow,lid,hg,hcs,hiad,hr,hrl,hpt,_⟩:=sm.atS hc
       have hx : L[iq] ∈ L:=List.getElem_mem hc
       have hsnoc : chfB l L[iq] = true → ∀ j (hj : j < L.length),j < iq + 1 → chfB l L[j] = true:=fun e j hj h=>by
        by_cases hji : j = iq
        ·subst hji; exact e
        ·exact ha j hj (by omega)
       generalize L[iq] = x at *
       obtain ⟨ra,rfl,hra,hok⟩:=hr
       have ora:=hra.one
       simp (maxSteps:=2000000) (disch:=first | omega | assumption | (simp only [DS,Nat.reduceAdd, *]; done) | (simp only [DZ]; omega)) only [RUN,RU,zA2,zA1,slot,lay,reduceIte,Nat.reduceEqDiff,Nat.reduceAdd,gq0,gq58,gq59,gq60,c1,hiad,hg,hpt]
       have kX : ∀ z r,Wf ((Nq.add z).upd Nq.size r):=fun z r=>(w.add z).upd _ _
       refine zOE (d:=d + 10) (.inl hS) (by omega) (by omega) hra hok (kX _ _) fun N3 k3=>?_
       have w3:=k3.wf
       have sm3 : SlM N3 17 isOp o L:=sm.keep fun j hj=>by
        have:=sm.lt j hj
        rw [k3.get j (by simp only [zAB,zA6]; omega),zA4 (w.add _) _ _ _ (by omega),zAF w _ _ this]
       cases qb : chfB l x with
       | true =>
        simp (maxSteps:=2000000) (disch:=first | omega | assumption | (simp only [DS,Nat.reduceAdd, *]; done) | (simp only [DZ]; omega)) only [RUN,RU,zA2,zA1,reduceIte,Nat.reduceEqDiff,gq0,gq17,gq18,gq58,gq59,gq60,w3,w1]
        exact ⟨hltq,L.length - (iq + 1),by omega,iq + 1,0,rfl,by omega,rfl,sm3,hsnoc qb⟩
       | false =>
        have qa : L.all (fun o=>chfB l o) = false:=by
         rw [← Bool.not_eq_true]
         intro hh
         have:=List.all_eq_true.1 hh x hx
         rw [qb] at this
         cases this
        have e8 : ((230 : Int) = 0) = False:=by decide
        simp only [qa,Bool.false_eq_true,if_false,e8]
        simp (maxSteps:=2000000) (disch:=first | omega | assumption | (simp only [DS,Nat.reduceAdd, *]; done) | (simp only [DZ]; omega)) only [RUN,RU,zA2,zA1,zA0,zAA,frzL,reduceIte,Nat.reduceEqDiff,gq17,gq18]
        exact ⟨_,⟨NIL,rfl,.inl ⟨rfl,rfl⟩⟩,rfl⟩
      ·obtain rfl : iq = L.length:=by omega
       have c1 : decide ((L.length : Int) < L.length) = false:=decide_eq_false (by omega)
       have qa : L.all (fun o=>chfB l o) = true:=List.all_eq_true.2 fun x hx=>by
        obtain ⟨j,hj,rfl⟩:=List.getElem_of_mem hx
        exact ha j hj hj
       simp only [qa,if_true]
       obtain ⟨ro,hz,hs⟩:=sm.frz zJ0.cel (k:=12) (by omega)
       simp (maxSteps:=2000000) (disch:=first | omega | assumption | (simp only [DS,Nat.reduceAdd, *]; done) | (simp only [DZ]; omega)) only [RUN,RU,zA2,zA1,zA0,zAA,frzL,reduceIte,Nat.reduceEqDiff,gq17,gq18,gq59,gq60,hz]
       exact ⟨_,⟨ro,rfl,hs⟩,rfl⟩
   ·have q3':=decide_eq_false q3
    rw [if_neg q3] at hr1
    simp only [q3,if_false]
    simp (maxSteps:=2000000) (disch:=first | omega | assumption | (simp only [DS,Nat.reduceAdd, *]; done) | (simp only [DZ]; omega)) only [RUN,RU,zA2,zA1,zA0,zAA,frzL,slot,reduceIte,Nat.reduceEqDiff,Nat.reduceAdd,h0,h1,h2,h3,h4,h5,hask,hlc,hsp,zAV,q3']
    exact ⟨_,⟨NIL,rfl,.inl ⟨rfl,rfl⟩⟩,rfl⟩
 ·have q1':=decide_eq_false q1
  simp only [q1,if_false]
  simp (maxSteps:=2000000) (disch:=first | omega | assumption | (simp only [DS,Nat.reduceAdd, *]; done) | (simp only [DZ]; omega)) only [RUN,RU,zA2,zA1,zA0,zAA,frzL,slot,reduceIte,Nat.reduceEqDiff,Nat.reduceAdd,h0,h1,h2,h5,hask,q1']
  exact ⟨_,⟨NIL,rfl,.inl ⟨rfl,rfl⟩⟩,rfl⟩
end Go.Proofs.YtblegbfgedeldaaGreat
namespace Go.Proofs.YtblegbfgedeldaaGreat
open Go Go.Ax
theorem zZ2 {l : List Op} {kd : Int} {h : Hd} {s : Int} {to : Lb} {sp : List Spn} : lowL (l ++ zBO kd h s to sp) h.lb = lowL l h.lb ++ zBO kd h s to sp:=by
 unfold lowL
 rw [List.filter_append]
 congr 1
 refine List.filter_eq_self.2 fun o ho=>?_
 obtain ⟨_,_,_,_,rfl⟩:=zCU ho
 exact zG0 _
theorem hasR {h : Hd} {s : Int} {to : Lb} {sp : List Spn} (hm : ∀ x ∈ sp,x.may = true) {x : Eid} {v : Lb} (hv : h.lb.leq v = true) : (∃ o ∈ zBO 3 h s to sp,zC9 x v o = true) ↔ x ∈ sp.flatMap Spn.ids:=by
 rw [List.mem_flatMap]
 constructor
 ·rintro ⟨o,ho,hc⟩
  obtain ⟨_,q,hq,_,rfl⟩:=zCU ho
  exact ⟨q,hq,zNH (zGQ.1 hc).2.1⟩
 ·rintro ⟨q,hq,hx⟩
  obtain ⟨i,hi,rfl⟩:=List.getElem_of_mem hq
  have hi2 : i < (zBO 3 h s to sp).length:=by rw [zDD]; exact hi
  refine ⟨(zBO 3 h s to sp)[i],List.getElem_mem hi2, ?_⟩
  rw [zEN]
  exact zGQ.2 ⟨rfl,(zcY (hm _ hq)).2 hx,hv⟩
def upC (to v : Lb) (D : List Eid) (c : CellV) : CellV:=if c.id ∈ D ∧ to.leq v = false then ⟨c.id, -1⟩ else c
theorem zQP {l : List Op} (hl : zAT [] l = true) {h : Hd} {s : Int} {to : Lb} {sp : List Spn} (h2 : zAT [] (l ++ zBO 3 h s to sp) = true) (hm : ∀ x ∈ sp,x.may = true) : zC2 (l ++ zBO 3 h s to sp) h.lb = (zC2 l h.lb).map (upC to h.lb (sp.flatMap Spn.ids)):=by
 have hL:=zD7 h.lb hl
 have hL2:=zD7 h.lb h2
 rw [zZ2] at hL2
 unfold zC2
 rw [zZ2,zbQ (fun o ho=>by obtain ⟨_,_,_,_,rfl⟩:=zCU ho; show (3 : Int) ≠ 1; decide),List.map_map]
 have eg : ∀ x : Eid,zED (lowL l h.lb ++ zBO 3 h s to sp) x = zED (lowL l h.lb) x:=fun x=>by
  rw [zW6]
  have : zED (zBO 3 h s to sp) x = false:=by
   unfold zED
   rw [List.any_eq_false]
   intro o ho
   obtain ⟨_,_,_,_,rfl⟩:=zCU ho
   simp
  rw [this,Bool.or_false]
 simp only [eg]
 apply List.map_congr_left
 intro x _
 simp only [Function.comp_apply]
 have e : zEQ (lowL l h.lb ++ zBO 3 h s to sp) x.id h.lb = (zEQ (lowL l h.lb) x.id h.lb && !(decide (x.id ∈ sp.flatMap Spn.ids) && !to.leq h.lb)):=by
  rw [Bool.eq_iff_iff,zMM hL2,Bool.and_eq_true,zMM hL]
  constructor
  ·rintro ⟨a1,a2,a3⟩
   refine ⟨⟨a1,a2,fun o ho=>a3 o (List.mem_append_left _ ho)⟩, ?_⟩
   by_cases hd : x.id ∈ sp.flatMap Spn.ids
   ·obtain ⟨o,ho,hc⟩:=(hasR (h:=h) (s:=s) (to:=to) hm (zG0 h.lb)).2 hd
    have:=a3 o (List.mem_append_right _ ho) hc
    obtain ⟨_,_,_,_,rfl⟩:=zCU ho
    have this : to.leq h.lb = true:=this
    simp [this]
   ·simp [hd]
  ·rintro ⟨⟨a1,a2,a3⟩,a4⟩
   refine ⟨a1,a2,fun o ho hc=>?_⟩
   rcases List.mem_append.1 ho with ho | ho
   ·exact a3 o ho hc
   ·have hd:=(hasR (h:=h) (s:=s) (to:=to) hm (zG0 h.lb)).1 ⟨o,ho,hc⟩
    obtain ⟨_,_,_,_,rfl⟩:=zCU ho
    show to.leq h.lb = true
    simpa [hd] using a4
 unfold cellV upC
 rw [e]
 generalize sp.flatMap Spn.ids = D
 by_cases hd : x.id ∈ D
 ·cases to.leq h.lb <;> cases zEQ (lowL l h.lb) x.id h.lb <;> simp [hd]
 ·cases zEQ (lowL l h.lb) x.id h.lb <;> simp [hd]
theorem zaP {W : List CellV} (hn : (W.map (·.id)).Nodup) {k m i : Nat} (hi : i < W.length) (hk : k + m ≤ W.length) : W[i].id ∈ ((W.drop k).take m).map (·.id) ↔ k ≤ i ∧ i < k + m:=by
 have hp:=List.pairwise_iff_getElem.1 (List.pairwise_map.1 hn)
 constructor
 ·intro h
  obtain ⟨c,hc,e⟩:=List.mem_map.1 h
  obtain ⟨j,hj,rfl⟩:=List.getElem_of_mem hc
  rw [List.length_take,List.length_drop] at hj
  rw [List.getElem_take,List.getElem_drop] at e
  rcases Nat.lt_trichotomy (k + j) i with q | q | q
  ·exact absurd e (hp _ _ _ hi q)
  ·omega
  ·exact absurd e.symm (hp _ _ hi _ q)
 ·rintro ⟨h1,h2⟩
  refine List.mem_map.2 ⟨W[i], ?_,rfl⟩
  have e : ((W.drop k).take m)[i - k]'(by rw [List.length_take,List.length_drop]; omega) = W[i]:=by
   rw [List.getElem_take,List.getElem_drop]
   congr 1
   omega
  rw [← e]
  exact List.getElem_mem _
end Go.Proofs.YtblegbfgedeldaaGreat
namespace Go.Proofs.YtblegbfgedeldaaGreat
open Go Go.Ax
variable {fuel : Nat} {M : Mem} {Q : AV → Mem → Prop} {d : Nat} {l : List Op} {a : AV}
def wO (o : Op) : Int:=imax (imin (imax o.sp.n 0) 100) (imin (o.rs.length : Int) 1000)
def sumW (l : List Op) : Int:=(l.map wO).sum
def zLN (l : List Op) (many : Int) : Bool:=decide (many < l.length) || decide (300 < sumW (l.take 300))
theorem zPR (o : Op) : 0 ≤ wO o ∧ wO o ≤ 1000 ∧ ((o.rs.length : Int) ≤ wO o ∨ 1000 ≤ wO o):=by
 unfold wO imax imin
 repeat' split
 all_goals omega
theorem sumW_snoc (l : List Op) (o : Op) : sumW (l ++ [o]) = sumW l + wO o:=by unfold sumW; simp
theorem zL2 : ∀ (l : List Op),0 ≤ sumW l ∧ sumW l ≤ 1000 * l.length
 | []=>by simp [sumW]
 | o :: l=>by
  have h1:=zL2 l
  have h2:=zPR o
  unfold sumW at *
  simp only [List.map_cons,List.sum_cons,List.length_cons]
  omega
theorem zPN : ∀ (l : List Op) (o : Op),o ∈ l → wO o ≤ sumW l
 | [],_,h=>by cases h
 | p :: l,o,h=>by
  have h1:=zL2 l
  have h2:=zPR p
  rcases List.mem_cons.1 h with rfl | h
  ·unfold sumW at *; simp only [List.map_cons,List.sum_cons]; omega
  ·have:=zPN l o h
   unfold sumW at *; simp only [List.map_cons,List.sum_cons]; omega
theorem zNG {many : Int} (hm : many ≤ 300) (h : zLN l many = false) : (l.length : Int) ≤ many ∧ ∀ o ∈ l,o.rs.length ≤ 300:=by
 unfold zLN at h
 simp only [Bool.or_eq_false_iff,decide_eq_false_iff_not] at h
 refine ⟨by omega,fun o ho=>?_⟩
 have ht : l.take 300 = l:=List.take_of_length_le (by omega)
 rw [ht] at h
 have:=zPN l o ho
 have:=zPR o
 omega
set_option maxHeartbeats 4000000 in
theorem zSK {many : Int} (hS : Sl 17 isOp a l) (hf : 400 < fuel) (M : Mem) : zAE Tryz.prog (fsT tbl) fuel (d + 1) (.fn 7) [a,I64 many] M = some (BL (zLN l many),M):=by
 have ll:=hS.len
 apply zBM
 refine zAJ tf7 rfl (by simp only [icyL,fun M=>hS.icy M 12 (by omega),zGL]) (by simp [a7]) fun b' ht hx=>?_
 have h0:=hx 0 _ rfl
 have h1:=hx 1 _ rfl
 clear hx
 simp only [a7,c7,zzm,zzg] at ht ⊢
 unfold zLN
 simp (maxSteps:=2000000) (disch:=first | omega | assumption | (simp only [DS,Nat.reduceAdd, *]; done) | (simp only [DZ]; omega)) only [RUN,RU,zA2,zA1]
 refine zBF (I:=fun n t N => ∃ (i : Nat),n = 300 - i ∧ i ≤ 300 ∧ nth zA5 t 0 = a ∧ nth zA5 t 1 = I64 many ∧ nth zA5 t 5 = I64 (sumW (l.take i)) ∧ nth zA5 t 6 = I64 i ∧ N = mem0 ∧ i ≤ l.length) (n:=300) (by omega) ?_ ?_
 ·refine ⟨0,rfl,Nat.zero_le _, ?_, ?_, ?_, ?_,rfl,Nat.zero_le _⟩ <;> simp (maxSteps:=2000000) (disch:=first | omega | assumption | (simp only [DS,Nat.reduceAdd, *]; done) | (simp only [DZ]; omega)) only [RUN,RU,reduceIte,Nat.reduceEqDiff,h0,h1]
  all_goals first | rfl | assumption | done
 ·rintro n t N hlt ⟨i,rfl,hi,g0,g1,g5,g6,hm,hil⟩
  simp only [ht] at hlt ⊢
  subst hm
  by_cases hc : i < l.length
  ·have q1 : decide ((i : Int) < l.length) = true:=decide_eq_true (by omega)
   by_cases hc3 : i < 300
   ·have q2 : decide ((i : Int) < 300) = true:=decide_eq_true (by omega)
    have w1 : IntKind.i64.wrap ((i : Int) + 1) = ((i + 1 : Nat) : Int):=by rw [wrap_i64] <;> omega
    obtain ⟨r,hiad,hr,hrl⟩:=hS.iad i hc
    have hsn:=sumW_snoc (l.take i) l[i]
    rw [← take_snoc l i hc] at hsn
    have hps:=zL2 (l.take i)
    rw [List.length_take] at hps
    have hwo:=zPR l[i]
    generalize l[i] = e at *
    obtain ⟨ra,rfl,hra,hok⟩:=hr
    have lra:=hra.len
    have w2 : IntKind.i64.wrap (sumW (l.take i) + wO e) = sumW (l.take (i + 1)):=by rw [hsn]; exact wrap_i64 (by omega) (by omega)
    simp (maxSteps:=2000000) (disch:=first | omega | assumption | (simp only [DS,Nat.reduceAdd, *]; done) | (simp only [DZ]; omega)) only [RUN,RU,zA2,zA1,reduceIte,Nat.reduceEqDiff,Nat.reduceBEq,Nat.reduceAdd,g0,g1,g5,g6,ll,q1,q2,w1,hiad,lra,zBZ,BMM]
    refine ⟨hlt,300 - (i + 1),by omega,i + 1,rfl,by omega, ?_,rfl,by omega⟩
    show AV.sc (.int .i64 (IntKind.i64.wrap (sumW (l.take i) + wO e))) = I64 _
    rw [w2]
   ·have q2 : decide ((i : Int) < 300) = false:=decide_eq_false (by omega)
    obtain rfl : i = 300:=by omega
    cases q3 : decide (many < (l.length : Int))
    all_goals simp (maxSteps:=2000000) (disch:=first | omega | assumption | (simp only [DS,Nat.reduceAdd, *]; done) | (simp only [DZ]; omega)) only [RUN,RU,zA2,zA1,zA0,zAA,frzL,reduceIte,Nat.reduceEqDiff,Nat.reduceSub,g0,g1,g5,g6,ll,q1,q2,q3]
  ·have q1 : decide ((i : Int) < l.length) = false:=decide_eq_false (by omega)
   obtain rfl : i = l.length:=by omega
   have et : l.take 300 = l.take l.length:=by rw [List.take_of_length_le (Nat.le_refl _),List.take_of_length_le (by omega)]
   rw [et]
   cases q3 : decide (many < (l.length : Int))
   all_goals simp (maxSteps:=2000000) (disch:=first | omega | assumption | (simp only [DS,Nat.reduceAdd, *]; done) | (simp only [DZ]; omega)) only [RUN,RU,zA2,zA1,zA0,zAA,frzL,reduceIte,Nat.reduceEqDiff,g0,g1,g5,g6,ll,q3]
end Go.Proofs.YtblegbfgedeldaaGreat
