/-
  Texts joined: TrG TrH TrI TrJ TrK TrM TwA TwC VqE VqI VqJ VqK VpE VpF RuP RuG EdI VqM VqH SwG.
-/
import Derived.Test.YtebloodpblgncaaGreatEf
import Derived.Lib.RuneBytes
import Derived.Lib.TrimUEq
import Derived.Test.YtebloodpblgncaaGreatPb
set_option linter.unusedSimpArgs false
set_option linter.unusedVariables false
set_option maxRecDepth 100000
namespace Go.Proofs.YtebloodpblgncaaGreat
open Go Go.Ax
variable {fuel : Nat} {M : Mem} {Q : AV → Mem → Prop} {d : Nat}
def cO1 : ACode:=(.seq (.region [⟨some 5,.alloc 31 (.agg #[(.int .u8 0),(.int .u32 0),(.int .u8 0),(.int .i64 0)]),none,[]⟩,⟨none,.store 4 (.tmp 5) (.tmp 12),none,[]⟩] false) (.region [⟨some 6,.alloc 31 (.agg #[(.int .u8 0),(.int .u32 0),(.int .u8 0),(.int .i64 0)]),none,[]⟩,⟨none,.store 4 (.tmp 6) (.tmp 13),none,[]⟩] false))
def cO2 : ACode:=(.block 1 (.scope (.seq (.region [⟨some 7,.alloc 31 (.agg #[(.int .u8 0),(.int .u32 0),(.int .u8 0),(.int .i64 0)]),none,[]⟩] false) (.seq .label (.seq (.block 2 (.loop (.seq (.seq (.region [⟨some 14,.load 1 false (.tmp 3),none,[]⟩,⟨some 15,.len (.tmp 14),none,[]⟩,⟨some 16,.pur (mkO (.binOp .gtr 3 (.tmp 15) (.const (.int .i64 0)) 3) 4),none,[]⟩] false) (.cond (.tmp 16) .skip (.exit 2))) (.block 3 (.seq (.region [⟨some 17,.load 1 false (.tmp 3),none,[1,2,3,6]⟩,⟨some 18,.load 1 false (.tmp 3),none,[0,6]⟩,⟨some 19,.len (.tmp 18),none,[0,6]⟩,⟨some 20,.pur (mkO (.binOp .sub 3 (.tmp 19) (.const (.int .i64 1)) 3) 3),none,[0,6]⟩,⟨some 21,.iad 4 (.tmp 17) (.tmp 20),none,[6]⟩,⟨some 22,.load 4 true (.tmp 21),none,[6]⟩,⟨some 8,.alloc 31 (.agg #[(.int .u8 0),(.int .u32 0),(.int .u8 0),(.int .i64 0)]),none,[0,1,2,3,4,5]⟩,⟨none,.store 4 (.tmp 8) (.tmp 22),none,[]⟩] false) (.seq (.seq (.region [⟨some 23,.load 4 true (.tmp 8),none,[1]⟩,⟨some 24,.load 4 true (.tmp 6),none,[0]⟩,⟨some 25,.pur (mkO (.binOp .eql 31 (.tmp 23) (.tmp 24) 31) 4),none,[]⟩] false) (.cond (.tmp 25) (.exit 2) .skip)) (.region [⟨some 26,.load 4 true (.tmp 8),none,[1,2,3,4,5]⟩,⟨some 27,.load 1 false (.tmp 3),none,[0,2,3,4,6]⟩,⟨some 28,.load 1 false (.tmp 3),none,[0,1,6]⟩,⟨some 29,.len (.tmp 28),none,[0,1,6]⟩,⟨some 30,.pur (mkO (.binOp .sub 3 (.tmp 29) (.const (.int .i64 1)) 3) 3),none,[0,1,6]⟩,⟨some 31,.slc 4 (.tmp 27) none (some (.tmp 30)) none,none,[0,6]⟩,⟨none,.store 4 (.tmp 7) (.tmp 26),none,[1,2,3,4,5]⟩,⟨none,.store 1 (.tmp 3) (.tmp 31),none,[]⟩] true))))))) (.seq (.seq (.region [⟨some 32,.load 1 false (.tmp 3),none,[]⟩,⟨some 33,.len (.tmp 32),none,[]⟩,⟨some 34,.pur (mkO (.binOp .eql 3 (.tmp 33) (.const (.int .i64 0)) 3) 4),none,[]⟩,⟨some 35,.mov (.tmp 34),none,[]⟩,⟨some 36,.load 4 true (.tmp 6),some (35,true),[5]⟩,⟨some 37,.build (.agg #[(.int .u8 0),(.int .u32 0),(.int .u8 0),(.int .i64 0)]) [],some (35,true),[4]⟩,⟨some 38,.pur (mkO (.binOp .neq 31 (.tmp 36) (.tmp 37) 31) 4),some (35,true),[]⟩,⟨some 39,.pick (.tmp 35) (.tmp 38) (.const (.bool false)),none,[]⟩,⟨some 40,.mov (.tmp 39),none,[]⟩,⟨some 41,.load 4 true (.tmp 7),some (40,false),[10]⟩,⟨some 42,.build (.agg #[(.int .u8 0),(.int .u32 0),(.int .u8 0),(.int .i64 0)]) [],some (40,false),[9]⟩,⟨some 43,.pur (mkO (.binOp .neq 31 (.tmp 41) (.tmp 42) 31) 4),some (40,false),[]⟩,⟨some 44,.mov (.tmp 43),some (40,false),[]⟩,⟨some 45,.load 4 true (.tmp 5),some (44,true),[14]⟩,⟨some 46,.load 4 true (.tmp 7),some (44,true),[13]⟩,⟨some 47,.call (.func 64) [(.tmp 45),(.tmp 46)],some (44,true),[]⟩,⟨some 48,.pur (mkO (.unOp .not 4 (.tmp 47)) 4),some (44,true),[]⟩,⟨some 49,.pick (.tmp 44) (.tmp 48) (.const (.bool false)),some (40,false),[]⟩,⟨some 50,.pick (.tmp 40) (.const (.bool true)) (.tmp 49),none,[]⟩,⟨some 51,.mov (.tmp 50),none,[]⟩,⟨some 52,.load 1 false (.tmp 4),some (51,false),[21]⟩,⟨some 53,.load 4 true (.tmp 5),some (51,false),[20]⟩,⟨some 54,.lookup 31 (.int .i64 0) (.tmp 52) (.tmp 53) false,some (51,false),[]⟩,⟨some 55,.pur (mkO (.binOp .gtr 3 (.tmp 54) (.const (.int .i64 0)) 3) 4),some (51,false),[]⟩,⟨some 56,.pick (.tmp 51) (.const (.bool true)) (.tmp 55),none,[]⟩] false) (.cond (.tmp 56) (.seq (.region [⟨none,.store 1 (.tmp 2) (.const (.bool false)),none,[]⟩] false) .ret) .skip)) (.seq (.region [⟨some 57,.load 1 false (.tmp 4),none,[1]⟩,⟨some 58,.load 4 true (.tmp 5),none,[0]⟩,⟨none,.mupd 31 (.tmp 57) (.tmp 58) (.const (.int .i64 1)),none,[]⟩] false) (.region [⟨some 59,.load 1 false (.tmp 3),none,[1,2]⟩,⟨some 60,.load 4 true (.tmp 5),none,[0]⟩,⟨some 61,.bsl 31 4 (.agg #[(.int .u8 0),(.int .u32 0),(.int .u8 0),(.int .i64 0)]) 1 [(0,4,(.tmp 60))],none,[0]⟩,⟨some 62,.app 31 4 24 (.agg #[(.int .u8 0),(.int .u32 0),(.int .u8 0),(.int .i64 0)]) (.tmp 59) (.tmp 61),none,[]⟩,⟨none,.store 1 (.tmp 3) (.tmp 62),none,[]⟩] false))))))))
structure OI (tm : List AV) (pre : List (Eid × Eid)) (O : Nat → Prop) (N : Mem) : Prop where
 wf : Wf N
 sz : 7 ≤ N.size
 g0 : N.get 0 = some (.row false [BL false])
 g1 : ∃ o,N.get 1 = some (.row false [o]) ∧ SlP N 4 zKR o (stk pre).reverse ∧ ∀ j,rowOf o = some j → O j ∧ 7 ≤ j
 g2 : ∃ obj,N.get 2 = some obj ∧ zHL idA (I64 1) obj (pre.map (·.1))
 g3 : N.get 3 = some (.row false [.mp 2])
 g5 : N.get 5 = some (.dfr false)
 g6 : N.get 6 = some (.loop .ready none tm [12,13] cO1 cO2 5)
 o1 : O 1
 o2 : O 2
 o6 : O 6
 ol : ∀ j,O j → j < N.size ∧ (j = 1 ∨ j = 2 ∨ 6 ≤ j)
 od : Ord pre
theorem OI.keep {tm : List AV} {pre : List (Eid × Eid)} {O : Nat → Prop} {N N' : Mem} (h : OI tm pre O N) (wf : Wf N') (hs : N.size ≤ N'.size) (k : ∀ j,j < N.size → N'.get j = N.get j) : OI tm pre O N':=by
 have:=h.sz
 obtain ⟨o,h1,h2,h3⟩:=h.g1
 obtain ⟨obj,h4,h5⟩:=h.g2
 exact ⟨wf,by omega,(k 0 (by omega)).trans h.g0,⟨o,(k 1 (by omega)).trans h1,h2.keep fun j hj=>k j (h2.lt j hj),h3⟩,⟨obj,(k 2 (by omega)).trans h4,h5⟩,(k 3 (by omega)).trans h.g3,(k 5 (by omega)).trans h.g5,(k 6 (by omega)).trans h.g6,h.o1,h.o2,h.o6,fun j hj=>⟨by have:=(h.ol j hj).1; omega,(h.ol j hj).2⟩,h.od⟩
structure OS (tm : List AV) (N : Mem) : Prop where
 wf : Wf N
 sz : 7 ≤ N.size
 g0 : N.get 0 = some (.row false [BL false])
 g5 : N.get 5 = some (.dfr false)
 g6 : N.get 6 = some (.loop .done (some .ret) tm [12,13] cO1 cO2 5)
theorem zHH : FzT zKR:=fun r x h y hy=>by
 obtain ⟨rfl,_⟩:=h
 exact zEI x y hy
theorem zPV (af : Eid) : ∀ (s : List Eid) (el : Eid),(popT af s el).2.length ≤ s.length
 | [],_=>Nat.le_refl _
 | t :: s,el=>by
  rw [popT]
  split
  ·exact Nat.le_refl _
  ·exact Nat.le_trans (zPV af s t) (Nat.le_succ _)
theorem zcA (l : List (Eid × Eid)) : (stk l).length ≤ l.length:=by
 refine zCT (P:=fun l=>(stk l).length ≤ l.length) (Nat.le_refl _) (fun l x ih=>?_) l
 rw [zEE,List.length_cons,List.length_append]
 have:=zPV x.2 (stk l) Eid.z
 simp only [List.length_singleton]
 omega
set_option maxHeartbeats 16000000 in
theorem zeV {B : Nat} {tm : List AV} {pre : List (Eid × Eid)} {O : Nat → Prop} {x : Eid × Eid} (h : OI tm pre O M) (h2 : nth zA6 tm 2 = .ptr 0 0) (h3' : nth zA6 tm 3 = .ptr 1 0) (h4' : nth zA6 tm 4 = .ptr 3 0) (hlen : tm.length = 63) (hx : x.1.ok) (hn : pre.length ≤ 100000) (hf : pre.length + 10 < fuel) :
  W3 (zAE Tryz.prog (fsT tbl) fuel (d + 7) (.yl 6) [idA x.1,idA x.2] M) (fun v N'=>(v = BL true ∧ Yl (OI tm) (pre ++ [x]) O B M N') ∨ (v = BL false ∧ OS tm N' ∧ ordS x (stk pre) (pre.map (·.1)) = false)):=by
 obtain ⟨o,g1,sp,ro⟩:=h.g1
 obtain ⟨obj,gm2,hset⟩:=h.g2
 have wf:=h.wf
 have sz:=h.sz
 have hsl:=zcA pre
 have g0:=h.g0
 have g3:=h.g3
 have g6:=h.g6
 have oo:=sp.one
 refine zVV g6 rfl ?_
 have e1 : zFH tm [12,13] [idA x.1,idA x.2] = St tm [(13,idA x.2),(12,idA x.1)]:=rfl
 rw [e1]
 unfold cO1 cO2
 simp (maxSteps:=2000000) (disch:=first | omega | assumption | (simp only [DS,Nat.reduceAdd, *]; done) | (simp only [DZ]; omega)) only [RUN,RU,zA2,zA1,lay,reduceIte,Nat.reduceEqDiff,Nat.reduceAdd,wf]
 refine ⟨tm,[12,13],_,_,5,g6, ?_⟩
 generalize hX : ((((((M.add _).upd M.size _).add _).upd (M.size + 1) _).upd 6 _).add _) = X
 have wX : Wf X:=by rw [← hX]; exact ((((((wf.add _).upd _ _).add _).upd _ _).upd _ _).add _)
 have sX : X.size = M.size + 1 + 1 + 1:=by rw [← hX]; rfl
 have gX : ∀ j,j < M.size → j ≠ 6 → X.get j = M.get j:=fun j a b=>by
  rw [← hX,zAF (((((wf.add _).upd _ _).add _).upd _ _).upd _ _) _ _ (by simp only [zAC,zA7]; omega),zA4 ((((wf.add _).upd _ _).add _).upd _ _) _ _ _ (fun e=>b e.symm),zA4 (((wf.add _).upd _ _).add _) _ _ _ (by omega),zAF ((wf.add _).upd _ _) _ _ (by simp only [zAC,zA7]; omega),zA4 (wf.add _) _ _ _ (by omega),zAF wf _ _ a]
 have x6 : X.get 6 = some (.loop .busy none tm [12,13] cO1 cO2 5):=by
  rw [← hX,zAF (((((wf.add _).upd _ _).add _).upd _ _).upd _ _) _ _ (by simp only [zAC,zA7]; omega),zAG ((((wf.add _).upd _ _).add _).upd _ _) _ _ (by simp only [zAC,zA7]; omega)]
 have xa : X.get M.size = some (.row false (idR x.1)):=by
  rw [← hX,zAF (((((wf.add _).upd _ _).add _).upd _ _).upd _ _) _ _ (by simp only [zAC,zA7]; omega),zA4 ((((wf.add _).upd _ _).add _).upd _ _) _ _ _ (by omega),zA4 (((wf.add _).upd _ _).add _) _ _ _ (by omega),zAF ((wf.add _).upd _ _) _ _ (by simp only [zAC,zA7]; omega),zAG (wf.add _) _ _ (by simp only [zA7]; omega)]
 have xb : X.get (M.size + 1) = some (.row false (idR x.2)):=by
  rw [← hX,zAF (((((wf.add _).upd _ _).add _).upd _ _).upd _ _) _ _ (by simp only [zAC,zA7]; omega),zA4 ((((wf.add _).upd _ _).add _).upd _ _) _ _ _ (by omega),zAG (((wf.add _).upd _ _).add _) _ _ (by simp only [zAC,zA7]; omega)]
 have xc : X.get (M.size + 1 + 1) = some (.row false (idR Eid.z)):=by
  rw [← hX]
  exact zAH (((((wf.add _).upd _ _).add _).upd _ _).upd _ _) _ _ (by simp only [zAC,zA7]; omega) (by simp only [zAC,zA7]; omega)
 clear hX
 have spX : SlP X 4 zKR o (stk pre).reverse:=sp.keep fun j hj=>gX j (sp.lt j hj) (by have:=ro j hj; omega)
 refine zBF (I:=fun n t N => ∃ (i : Nat) (o' : AV),n = (stk pre).length - i ∧ i ≤ (stk pre).length ∧ nth zA6 t 2 = .ptr 0 0 ∧ nth zA6 t 3 = .ptr 1 0 ∧ nth zA6 t 4 = .ptr 3 0 ∧ nth zA6 t 5 = .ptr M.size 0 ∧ nth zA6 t 6 = .ptr (M.size + 1) 0 ∧ nth zA6 t 7 = .ptr (M.size + 1 + 1) 0 ∧ Wf N ∧ X.size ≤ N.size ∧ (∀ j,j < M.size → j ≠ 1 → N.get j = X.get j) ∧ N.get 1 = some (.row false [o']) ∧ SlP N 4 zKR o' ((stk pre).drop i).reverse ∧ rowOf o' = rowOf o ∧ N.get M.size = some (.row false (idR x.1)) ∧ N.get (M.size + 1) = some (.row false (idR x.2)) ∧ N.get (M.size + 1 + 1) = some (.row false (idR (((stk pre).take i).getLast?.getD Eid.z))) ∧ (∀ t ∈ (stk pre).take i,t ≠ x.2)) (n:=(stk pre).length) (by omega) ?_ ?_
 ·refine ⟨0,o,rfl,Nat.zero_le _, ?_, ?_, ?_, ?_, ?_, ?_,wX,Nat.le_refl _,(fun _ _ _=>rfl),((gX 1 (by omega) (by omega)).trans g1),(by rw [List.drop_zero]; exact spX),rfl,xa,xb,(by rw [List.take_zero]; exact xc),(fun t ht=>absurd ht (by simp))⟩ <;> simp (maxSteps:=2000000) (disch:=first | omega | assumption | (simp only [DS,Nat.reduceAdd, *]; done) | (simp only [DZ]; omega)) only [RUN,reduceIte,Nat.reduceEqDiff,h2,h3',h4']
  all_goals first | rfl | assumption | done
 ·rintro n t N hlt ⟨i,o',rfl,hi,g2,g3,g4,g5,g6,g7,w,le,kk,c1,spN,ro',ca,cb,cc,hm⟩
  simp only [hlen] at hlt ⊢
  have olen:=spN.len
  have oo':=spN.one
  rw [List.length_reverse,List.length_drop] at olen
  have l1:=Mem.get_lt c1
  have la:=Mem.get_lt ca
  have lb:=Mem.get_lt cb
  have lc:=Mem.get_lt cc
  by_cases hc : i < (stk pre).length
  ·have q1 : decide ((0 : Int) < ((stk pre).length - i : Nat)) = true:=decide_eq_true (by omega)
   have hil : (stk pre).length - i - 1 < ((stk pre).drop i).reverse.length:=by rw [List.length_reverse,List.length_drop]; omega
   obtain ⟨rid,cs,r,hrow,lrid,hgr,hiad,hr,hrl,hpt⟩:=spN.at hil
   have w1 : IntKind.i64.wrap (((stk pre).length - i : Nat) - 1) = ((stk pre).length - i - 1 : Nat):=by rw [wrap_i64] <;> omega
   obtain ⟨oc,hslc,spc,roc⟩:=spN.cut (by omega) (n:=(stk pre).length - i - 1) (by omega)
   have hel : ((stk pre).drop i).reverse[(stk pre).length - i - 1] = (stk pre)[i]:=by
    rw [List.getElem_reverse,List.getElem_drop]
    congr 1
    rw [List.length_drop]; omega
   rw [hel] at hr
   obtain ⟨rfl,hrok⟩:=hr
   simp (maxSteps:=2000000) (disch:=first | omega | assumption | (simp only [DS,Nat.reduceAdd, *]; done) | (simp only [DZ]; omega)) only [RUN,RU,zA2,zA1,slot,lay,reduceIte,Nat.reduceEqDiff,Nat.reduceAdd,g3,g6,olen,q1,w1,c1,hiad,hgr,hpt,cb,↓pIdE,zAZ,ETA]
   by_cases hte : (stk pre)[i] = x.2
   ·have q2 : decide ((stk pre)[i] = x.2) = true:=decide_eq_true hte
    have hpop:=zIM (el:=Eid.z) (q:=(stk pre).drop i) hm (.inr ⟨(stk pre).drop (i + 1),by rw [List.drop_eq_getElem_cons hc,hte]⟩)
    rw [List.take_append_drop] at hpop
    have hne : decide (((((stk pre).length - i : Nat) : Int)) = 0) = false:=decide_eq_false (by omega)
    have hqz : decide ((stk pre).drop i = []) = false:=decide_eq_false (fun e=>by have:=congrArg List.length e; rw [List.length_drop] at this; simp at this; omega)
    simp (maxSteps:=2000000) (disch:=first | omega | assumption | (simp only [DS,Nat.reduceAdd, *]; done) | (simp only [DZ]; omega)) only [RUN,RU,zA2,zA1,reduceIte,Nat.reduceEqDiff,g3,olen,q2,c1]
    generalize hY : (N.add _).upd N.size _ = Y
    have wY : Wf Y:=by rw [← hY]; exact (w.add _).upd _ _
    have lY : N.size ≤ Y.size:=by rw [← hY,zAC,zA7]; omega
    have kY : ∀ j,j < N.size → Y.get j = N.get j:=fun j hj=>by
     rw [← hY,zA4 (w.add _) _ _ _ (by omega),zAF w _ _ hj]
    clear hY
    have y0 : Y.get 0 = some (.row false [BL false]):=(kY 0 (by omega)).trans ((kk 0 (by omega) (by omega)).trans ((gX 0 (by omega) (by omega)).trans h.g0))
    have y1:=(kY 1 (by omega)).trans c1
    have y2:=(kY 2 (by omega)).trans ((kk 2 (by omega) (by omega)).trans ((gX 2 (by omega) (by omega)).trans gm2))
    have y3:=(kY 3 (by omega)).trans ((kk 3 (by omega) (by omega)).trans ((gX 3 (by omega) (by omega)).trans h.g3))
    have y6:=(kY 6 (by omega)).trans ((kk 6 (by omega) (by omega)).trans x6)
    have ya:=(kY _ (by omega)).trans ca
    have yb:=(kY _ (by omega)).trans cb
    have yc:=(kY _ (by omega)).trans cc
    have yj : ∀ j,j < M.size → j ≠ 1 → j ≠ 6 → Y.get j = M.get j:=fun j a b c=>(kY j (by omega)).trans ((kk j a b).trans (gX j a c))
    have spY : SlP Y 4 zKR o' ((stk pre).drop i).reverse:=spN.keep fun j hj=>kY j (spN.lt j hj)
    clear kY kk w c1 ca cb cc spN l1 la lb lc
    have l1:=Mem.get_lt y1
    have la:=Mem.get_lt ya
    have lb:=Mem.get_lt yb
    have lc:=Mem.get_lt yc
    have l2:=Mem.get_lt y2
    have l3:=Mem.get_lt y3
    have l0:=Mem.get_lt y0
    have hlk:=zPH zKM (z:=.int .i64 0) y2 hset x.1
    unfold ordS
    rw [hpop]
    simp only [hqz]
    have hql : ((stk pre).drop i).length ≤ pre.length:=by rw [List.length_drop]; omega
    generalize (stk pre).drop i = q at *
    generalize ((stk pre).take i).getLast?.getD Eid.z = el at *
    have hls:=fun M=>@zF4 fuel (d + 4) x.1 el M
    have c2 : True:=trivial
    cases c3 : decide (el = Eid.z)
    ·cases c4 : x.1.less el
     ·rw [c4] at hls
      simp (maxSteps:=2000000) (disch:=first | omega | assumption | (simp only [DS,Nat.reduceAdd, *]; done) | (simp only [DZ]; omega)) only [RUN,RU,zA2,zA1,slot,lay,zAI,reduceIte,Nat.reduceEqDiff,g2,g5,g7,hne,y0,ya,yc,wY,↓pIdN,zBC,ETA,c3,hls]
      have os : OS tm ((Y.upd 0 (.row false [BL false])).upd 6 (.loop .done (some .ret) tm [12,13] cO1 cO2 5)):=by
       refine ⟨(wY.upd _ _).upd _ _,by simp only [zAC]; omega, ?_, ?_, ?_⟩
       ·rw [zA4 (wY.upd _ _) _ _ _ (by omega)]
        exact zAG wY _ _ l0
       ·rw [zA4 (wY.upd _ _) _ _ _ (by omega),zA4 wY _ _ _ (by omega)]
        exact (yj 5 (by omega) (by omega) (by omega)).trans h.g5
       ·exact zAG (wY.upd _ _) _ _ (by simp only [zAC]; omega)
      refine ⟨_,_,_,_,_,_,_,y6,.inr (.inr ?_)⟩
      first
      | exact os
      | exact ⟨os,by simp [*]⟩
     ·rw [c4] at hls
      by_cases c5 : x.1 ∈ pre.map (·.1)
      ·simp only [c5,if_true] at hlk
       simp (maxSteps:=2000000) (disch:=first | omega | assumption | (simp only [DS,Nat.reduceAdd, *]; done) | (simp only [DZ]; omega)) only [RUN,RU,zA2,zA1,slot,lay,zAI,reduceIte,Nat.reduceEqDiff,Int.reduceLT,g2,g4,g5,g7,hne,y0,y3,ya,yc,wY,↓pIdN,zBC,ETA,c3,hls,x_lk,hlk]
       have os : OS tm ((Y.upd 0 (.row false [BL false])).upd 6 (.loop .done (some .ret) tm [12,13] cO1 cO2 5)):=by
        refine ⟨(wY.upd _ _).upd _ _,by simp only [zAC]; omega, ?_, ?_, ?_⟩
        ·rw [zA4 (wY.upd _ _) _ _ _ (by omega)]
         exact zAG wY _ _ l0
        ·rw [zA4 (wY.upd _ _) _ _ _ (by omega),zA4 wY _ _ _ (by omega)]
         exact (yj 5 (by omega) (by omega) (by omega)).trans h.g5
        ·exact zAG (wY.upd _ _) _ _ (by simp only [zAC]; omega)
       refine ⟨_,_,_,_,_,_,_,y6,.inr (.inr ?_)⟩
       first
       | exact os
       | exact ⟨os,by simp [*]⟩
      ·simp only [c5,if_false] at hlk
       simp (maxSteps:=2000000) (disch:=first | omega | assumption | (simp only [DS,Nat.reduceAdd, *]; done) | (simp only [DZ]; omega)) only [RUN,RU,zA2,zA1,slot,zAI,reduceIte,Nat.reduceEqDiff,g4,g5,g7,hne,y3,ya,yc,↓pIdN,zBC,ETA,c3,hls,x_lk,hlk,x_mu]
       refine zM8 zKM wY l2 y2 hset x.1 fun obj' hset'=>?_
       simp only [c5,if_false] at hset'
       simp (maxSteps:=2000000) (disch:=first | omega | assumption | (simp only [DS,Nat.reduceAdd, *]; done) | (simp only [DZ]; omega)) only [RUN,RU,zA2,zA1,slot,lay,zAI,zAB,reduceIte,Nat.reduceEqDiff,Nat.reduceBEq,Nat.reduceAdd,g3,g5,y1,ya]
       refine ⟨spY.rows (by omega),SlP.app1 (bytes:=24) (x:=x.1) (wY.upd 2 obj') (spY.keep fun j hj=>zA4 wY _ _ _ (by have:=(ro j (ro' ▸ hj)).2; omega)) zHH ⟨rfl,hx⟩ rfl (by omega) (by rw [List.length_reverse]; omega) (by rw [List.length_reverse]; omega) fun o2 M2 sp2 w2 le2 kp2 nw2 rl2 on2 oc2=>?_⟩
       rw [zAC] at le2 kp2 nw2
       have hS : ordS x (stk pre) (pre.map (·.1)) = true:=by
        unfold ordS
        rw [hpop]
        simp [*]
       have hst : (stk (pre ++ [x])).reverse = q.reverse ++ [x.1]:=by rw [zEE,hpop,List.reverse_cons]
       have ro2 : ∀ j,rowOf o' = some j → O j ∧ 7 ≤ j:=fun j hj=>ro j (ro' ▸ hj)
       have k2 : ∀ j,j < M.size → j ≠ 1 → j ≠ 2 → j ≠ 6 → rowOf o' ≠ some j → M2.get j = M.get j:=fun j a b c e f=>by
        rw [kp2 j (by omega) f,zA4 wY _ _ _ (fun e=>c e.symm)]
        exact yj j a b e
       have m6 : M2.get 6 = some (.loop .busy none tm [12,13] cO1 cO2 5):=by
        rw [kp2 6 (by omega) (fun e=>by have:=(ro2 6 e).2; omega),zA4 wY _ _ _ (by omega)]
        exact y6
       have m2 : M2.get 2 = some obj':=by
        rw [kp2 2 (by omega) (fun e=>by have:=(ro2 2 e).2; omega)]
        exact zAG wY _ _ l2
       have m1 : 1 < M2.size:=by omega
       have n1 : M2.get 1 = some (.row false [o']):=by
        rw [kp2 1 (by omega) (fun e=>by have:=(ro2 1 e).2; omega),zA4 wY _ _ _ (by omega)]
        exact y1
       simp (maxSteps:=2000000) (disch:=first | omega | assumption | (simp only [DS,Nat.reduceAdd, *]; done) | (simp only [DZ]; omega)) only [RUN,RU,zA2,zA1,lay,reduceIte,Nat.reduceEqDiff,g3,oc2,w2,m6,n1]
       have yl : Yl (OI tm) (pre ++ [x]) O B M ((M2.upd 1 (.row false [o2])).upd 6 (.loop .ready none tm [12,13] cO1 cO2 5)):=by
        have wZ:=w2.upd 1 (.row false [o2])
        have zk : ∀ j,j ≠ 1 → j ≠ 6 → ((M2.upd 1 (.row false [o2])).upd 6 (.loop .ready none tm [12,13] cO1 cO2 5)).get j = M2.get j:=fun j a b=>by
         rw [zA4 wZ _ _ _ (fun e=>b e.symm),zA4 w2 _ _ _ (fun e=>a e.symm)]
        have nro : ∀ j,j < 7 → rowOf o' ≠ some j:=fun j hj e=>by have:=(ro2 j e).2; omega
        have no2 : ∀ j,rowOf o2 = some j → 7 ≤ j ∧ (O j ∨ M.size ≤ j):=fun j hj=>by
         rcases nw2 j hj with e | e
         ·exact ⟨(ro2 j e).2,.inl (ro2 j e).1⟩
         ·exact ⟨by omega,.inr (by omega)⟩
        refine ⟨⟨fun j=>O j ∨ rowOf o2 = some j,⟨wZ.upd _ _,by simp only [zAC]; omega, ?_,⟨o2, ?_, ?_,fun j hj=>⟨.inr hj,(no2 j hj).1⟩⟩,⟨obj', ?_, ?_⟩, ?_, ?_, ?_,.inl h.o1,.inl h.o2,.inl h.o6, ?_,h.od.snoc hS⟩, ?_⟩,wZ.upd _ _,by simp only [zAC]; omega, ?_⟩
        ·rw [zk 0 (by omega) (by omega),k2 0 (by omega) (by omega) (by omega) (by omega) (nro 0 (by omega))]; exact h.g0
        ·rw [zA4 wZ _ _ _ (by omega)]; exact zAG w2 _ _ m1
        ·rw [hst]
         exact sp2.keep fun j hj=>zk j (by have:=(no2 j hj).1; omega) (by have:=(no2 j hj).1; omega)
        ·rw [zk 2 (by omega) (by omega)]; exact m2
        ·rw [List.map_append]; exact hset'
        ·rw [zk 3 (by omega) (by omega),k2 3 (by omega) (by omega) (by omega) (by omega) (nro 3 (by omega))]; exact h.g3
        ·rw [zk 5 (by omega) (by omega),k2 5 (by omega) (by omega) (by omega) (by omega) (nro 5 (by omega))]; exact h.g5
        ·exact zAG wZ _ _ (by simp only [zAC]; omega)
        ·intro j hj
         simp only [zAC]
         rcases hj with hj | hj
         ·exact ⟨by have:=(h.ol j hj).1; omega,(h.ol j hj).2⟩
         ·exact ⟨sp2.lt j hj,.inr (.inr (by have:=(no2 j hj).1; omega))⟩
        ·rintro j (hj | hj)
         ·exact .inl hj
         ·exact (no2 j hj).2
        ·intro j hj hO
         have h1 : j ≠ 1:=fun e=>hO (e ▸ h.o1)
         have h2 : j ≠ 2:=fun e=>hO (e ▸ h.o2)
         have h6 : j ≠ 6:=fun e=>hO (e ▸ h.o6)
         rw [zk j h1 h6]
         exact k2 j hj h1 h2 h6 fun e=>hO (ro2 j e).1
       exact ⟨_,_,_,_,_,_,_,rfl,.inl (.inl yl)⟩
    ·skip
     by_cases c5 : x.1 ∈ pre.map (·.1)
     ·simp only [c5,if_true] at hlk
      simp (maxSteps:=2000000) (disch:=first | omega | assumption | (simp only [DS,Nat.reduceAdd, *]; done) | (simp only [DZ]; omega)) only [RUN,RU,zA2,zA1,slot,lay,zAI,reduceIte,Nat.reduceEqDiff,Int.reduceLT,g2,g4,g5,g7,hne,y0,y3,ya,yc,wY,↓pIdN,zBC,ETA,c3,x_lk,hlk]
      have os : OS tm ((Y.upd 0 (.row false [BL false])).upd 6 (.loop .done (some .ret) tm [12,13] cO1 cO2 5)):=by
       refine ⟨(wY.upd _ _).upd _ _,by simp only [zAC]; omega, ?_, ?_, ?_⟩
       ·rw [zA4 (wY.upd _ _) _ _ _ (by omega)]
        exact zAG wY _ _ l0
       ·rw [zA4 (wY.upd _ _) _ _ _ (by omega),zA4 wY _ _ _ (by omega)]
        exact (yj 5 (by omega) (by omega) (by omega)).trans h.g5
       ·exact zAG (wY.upd _ _) _ _ (by simp only [zAC]; omega)
      refine ⟨_,_,_,_,_,_,_,y6,.inr (.inr ?_)⟩
      first
      | exact os
      | exact ⟨os,by simp [*]⟩
     ·simp only [c5,if_false] at hlk
      simp (maxSteps:=2000000) (disch:=first | omega | assumption | (simp only [DS,Nat.reduceAdd, *]; done) | (simp only [DZ]; omega)) only [RUN,RU,zA2,zA1,slot,zAI,reduceIte,Nat.reduceEqDiff,g4,g5,g7,hne,y3,ya,yc,↓pIdN,zBC,ETA,c3,x_lk,hlk,x_mu]
      refine zM8 zKM wY l2 y2 hset x.1 fun obj' hset'=>?_
      simp only [c5,if_false] at hset'
      simp (maxSteps:=2000000) (disch:=first | omega | assumption | (simp only [DS,Nat.reduceAdd, *]; done) | (simp only [DZ]; omega)) only [RUN,RU,zA2,zA1,slot,lay,zAI,zAB,reduceIte,Nat.reduceEqDiff,Nat.reduceBEq,Nat.reduceAdd,g3,g5,y1,ya]
      refine ⟨spY.rows (by omega),SlP.app1 (bytes:=24) (x:=x.1) (wY.upd 2 obj') (spY.keep fun j hj=>zA4 wY _ _ _ (by have:=(ro j (ro' ▸ hj)).2; omega)) zHH ⟨rfl,hx⟩ rfl (by omega) (by rw [List.length_reverse]; omega) (by rw [List.length_reverse]; omega) fun o2 M2 sp2 w2 le2 kp2 nw2 rl2 on2 oc2=>?_⟩
      rw [zAC] at le2 kp2 nw2
      have hS : ordS x (stk pre) (pre.map (·.1)) = true:=by
       unfold ordS
       rw [hpop]
       simp [*]
      have hst : (stk (pre ++ [x])).reverse = q.reverse ++ [x.1]:=by rw [zEE,hpop,List.reverse_cons]
      have ro2 : ∀ j,rowOf o' = some j → O j ∧ 7 ≤ j:=fun j hj=>ro j (ro' ▸ hj)
      have k2 : ∀ j,j < M.size → j ≠ 1 → j ≠ 2 → j ≠ 6 → rowOf o' ≠ some j → M2.get j = M.get j:=fun j a b c e f=>by
       rw [kp2 j (by omega) f,zA4 wY _ _ _ (fun e=>c e.symm)]
       exact yj j a b e
      have m6 : M2.get 6 = some (.loop .busy none tm [12,13] cO1 cO2 5):=by
       rw [kp2 6 (by omega) (fun e=>by have:=(ro2 6 e).2; omega),zA4 wY _ _ _ (by omega)]
       exact y6
      have m2 : M2.get 2 = some obj':=by
       rw [kp2 2 (by omega) (fun e=>by have:=(ro2 2 e).2; omega)]
       exact zAG wY _ _ l2
      have m1 : 1 < M2.size:=by omega
      have n1 : M2.get 1 = some (.row false [o']):=by
       rw [kp2 1 (by omega) (fun e=>by have:=(ro2 1 e).2; omega),zA4 wY _ _ _ (by omega)]
       exact y1
      simp (maxSteps:=2000000) (disch:=first | omega | assumption | (simp only [DS,Nat.reduceAdd, *]; done) | (simp only [DZ]; omega)) only [RUN,RU,zA2,zA1,lay,reduceIte,Nat.reduceEqDiff,g3,oc2,w2,m6,n1]
      have yl : Yl (OI tm) (pre ++ [x]) O B M ((M2.upd 1 (.row false [o2])).upd 6 (.loop .ready none tm [12,13] cO1 cO2 5)):=by
       have wZ:=w2.upd 1 (.row false [o2])
       have zk : ∀ j,j ≠ 1 → j ≠ 6 → ((M2.upd 1 (.row false [o2])).upd 6 (.loop .ready none tm [12,13] cO1 cO2 5)).get j = M2.get j:=fun j a b=>by
        rw [zA4 wZ _ _ _ (fun e=>b e.symm),zA4 w2 _ _ _ (fun e=>a e.symm)]
       have nro : ∀ j,j < 7 → rowOf o' ≠ some j:=fun j hj e=>by have:=(ro2 j e).2; omega
       have no2 : ∀ j,rowOf o2 = some j → 7 ≤ j ∧ (O j ∨ M.size ≤ j):=fun j hj=>by
        rcases nw2 j hj with e | e
        ·exact ⟨(ro2 j e).2,.inl (ro2 j e).1⟩
        ·exact ⟨by omega,.inr (by omega)⟩
       refine ⟨⟨fun j=>O j ∨ rowOf o2 = some j,⟨wZ.upd _ _,by simp only [zAC]; omega, ?_,⟨o2, ?_, ?_,fun j hj=>⟨.inr hj,(no2 j hj).1⟩⟩,⟨obj', ?_, ?_⟩, ?_, ?_, ?_,.inl h.o1,.inl h.o2,.inl h.o6, ?_,h.od.snoc hS⟩, ?_⟩,wZ.upd _ _,by simp only [zAC]; omega, ?_⟩
       ·rw [zk 0 (by omega) (by omega),k2 0 (by omega) (by omega) (by omega) (by omega) (nro 0 (by omega))]; exact h.g0
       ·rw [zA4 wZ _ _ _ (by omega)]; exact zAG w2 _ _ m1
       ·rw [hst]
        exact sp2.keep fun j hj=>zk j (by have:=(no2 j hj).1; omega) (by have:=(no2 j hj).1; omega)
       ·rw [zk 2 (by omega) (by omega)]; exact m2
       ·rw [List.map_append]; exact hset'
       ·rw [zk 3 (by omega) (by omega),k2 3 (by omega) (by omega) (by omega) (by omega) (nro 3 (by omega))]; exact h.g3
       ·rw [zk 5 (by omega) (by omega),k2 5 (by omega) (by omega) (by omega) (by omega) (nro 5 (by omega))]; exact h.g5
       ·exact zAG wZ _ _ (by simp only [zAC]; omega)
       ·intro j hj
        simp only [zAC]
        rcases hj with hj | hj
        ·exact ⟨by have:=(h.ol j hj).1; omega,(h.ol j hj).2⟩
        ·exact ⟨sp2.lt j hj,.inr (.inr (by have:=(no2 j hj).1; omega))⟩
       ·rintro j (hj | hj)
        ·exact .inl hj
        ·exact (no2 j hj).2
       ·intro j hj hO
        have h1 : j ≠ 1:=fun e=>hO (e ▸ h.o1)
        have h2 : j ≠ 2:=fun e=>hO (e ▸ h.o2)
        have h6 : j ≠ 6:=fun e=>hO (e ▸ h.o6)
        rw [zk j h1 h6]
        exact k2 j hj h1 h2 h6 fun e=>hO (ro2 j e).1
      exact ⟨_,_,_,_,_,_,_,rfl,.inl (.inl yl)⟩
   ·have q2 : decide ((stk pre)[i] = x.2) = false:=decide_eq_false hte
    simp (maxSteps:=2000000) (disch:=first | omega | assumption | (simp only [DS,Nat.reduceAdd, *]; done) | (simp only [DZ]; omega)) only [RUN,RU,zA2,slot,reduceIte,Nat.reduceEqDiff,Nat.reduceBEq,Nat.reduceAdd,g3,olen,q2,w1,c1]
    refine ⟨spN.rows (by omega), ?_⟩
    rw [hslc _ (fun id hid=>by
     have:=spN.lt id hid
     rw [zA4 (w.add _) _ _ _ (by omega),zAF w _ _ this])]
    have oco:=spc.one
    have occ:=spc.cells
    have ocr:=fun m hm=>spc.rows (m:=m) hm
    simp (maxSteps:=2000000) (disch:=first | omega | assumption | (simp only [DS,Nat.reduceAdd, *]; done) | (simp only [DZ]; omega)) only [RUN,RU,zA2,lay,reduceIte,Nat.reduceEqDiff,Nat.reduceBEq,Nat.reduceAdd,g2,g3,g4,g5,g6,g7,occ,c1,ca,cb,cc,w]
    have ror:=spN.row1 hrow
    have rid7 : 7 ≤ rid ∧ rid < M.size:=by
     have e : rowOf o = some rid:=ro' ▸ hrow
     exact ⟨(ro rid e).2,sp.lt rid e⟩
    refine ⟨?_,hlt,(stk pre).length - (i + 1),by omega,i + 1,oc,rfl,by omega,by omega,fun j a b=>?_,rfl, ?_,roc.trans ro', ?_, ?_⟩
    ·have e1 : ¬(M.size + 1 + 1 = 1):=by omega
     have e2 : ¬(M.size + 1 + 1 = rid):=by omega
     rw [ror]
     simp [FP.apart,disj,FP.reads,FP.writes,fpOf,e2]
    ·rw [zA4 (((w.add _).upd _ _).upd _ _) _ _ _ (by omega),zA4 ((w.add _).upd _ _) _ _ _ (by omega),zA4 (w.add _) _ _ _ (by omega),zAF w _ _ (by omega)]
     exact kk j a b
    ·have e : ((stk pre).drop i).reverse.take ((stk pre).length - i - 1) = ((stk pre).drop (i + 1)).reverse:=by
      rw [List.take_reverse,List.drop_drop,List.length_drop]
      congr 2
      omega
     rw [← e]
     refine spc.keep fun j hj=>?_
     rw [roc,hrow] at hj
     injection hj with hj
     subst hj
     rw [zA4 (((w.add _).upd _ _).upd _ _) _ _ _ (by omega),zA4 ((w.add _).upd _ _) _ _ _ (by omega),zA4 (w.add _) _ _ _ (by omega),zAF w _ _ (by omega)]
    ·have e : ((stk pre).take (i + 1)).getLast?.getD Eid.z = (stk pre)[i]:=by
      rw [zBL _ _ hc,List.getLast?_concat]; rfl
     rw [e]
    ·intro t ht
     rw [zBL _ _ hc] at ht
     rcases List.mem_append.1 ht with ht | ht
     ·exact hm t ht
     ·rw [List.mem_singleton] at ht; subst ht; exact hte
  ·obtain rfl : i = (stk pre).length:=by omega
   have q1 : decide ((0 : Int) < ((stk pre).length - (stk pre).length : Nat)) = false:=decide_eq_false (by omega)
   have hne : decide (((((stk pre).length - (stk pre).length : Nat) : Int)) = 0) = true:=decide_eq_true (by omega)
   have hqz : decide ((stk pre).drop (stk pre).length = []) = true:=decide_eq_true (List.drop_length)
   have hpop:=zIM (el:=Eid.z) (q:=(stk pre).drop (stk pre).length) hm (.inl List.drop_length)
   rw [List.take_append_drop] at hpop
   simp (maxSteps:=2000000) (disch:=first | omega | assumption | (simp only [DS,Nat.reduceAdd, *]; done) | (simp only [DZ]; omega)) only [RUN,RU,zA2,zA1,reduceIte,Nat.reduceEqDiff,g3,olen,q1,c1]
   obtain ⟨Y,hY⟩ : ∃ Y,Y = N:=⟨N,rfl⟩
   rw [← hY]
   have wY : Wf Y:=by rw [hY]; exact w
   have lY : N.size ≤ Y.size:=by rw [hY]; omega
   have kY : ∀ j,j < N.size → Y.get j = N.get j:=fun j hj=>by rw [hY]
   clear hY
   have y0 : Y.get 0 = some (.row false [BL false]):=(kY 0 (by omega)).trans ((kk 0 (by omega) (by omega)).trans ((gX 0 (by omega) (by omega)).trans h.g0))
   have y1:=(kY 1 (by omega)).trans c1
   have y2:=(kY 2 (by omega)).trans ((kk 2 (by omega) (by omega)).trans ((gX 2 (by omega) (by omega)).trans gm2))
   have y3:=(kY 3 (by omega)).trans ((kk 3 (by omega) (by omega)).trans ((gX 3 (by omega) (by omega)).trans h.g3))
   have y6:=(kY 6 (by omega)).trans ((kk 6 (by omega) (by omega)).trans x6)
   have ya:=(kY _ (by omega)).trans ca
   have yb:=(kY _ (by omega)).trans cb
   have yc:=(kY _ (by omega)).trans cc
   have yj : ∀ j,j < M.size → j ≠ 1 → j ≠ 6 → Y.get j = M.get j:=fun j a b c=>(kY j (by omega)).trans ((kk j a b).trans (gX j a c))
   have spY : SlP Y 4 zKR o' ((stk pre).drop (stk pre).length).reverse:=spN.keep fun j hj=>kY j (spN.lt j hj)
   clear kY kk w c1 ca cb cc spN l1 la lb lc
   have l1:=Mem.get_lt y1
   have la:=Mem.get_lt ya
   have lb:=Mem.get_lt yb
   have lc:=Mem.get_lt yc
   have l2:=Mem.get_lt y2
   have l3:=Mem.get_lt y3
   have l0:=Mem.get_lt y0
   have hlk:=zPH zKM (z:=.int .i64 0) y2 hset x.1
   unfold ordS
   rw [hpop]
   simp only [hqz]
   have hql : ((stk pre).drop (stk pre).length).length ≤ pre.length:=by rw [List.length_drop]; omega
   generalize (stk pre).drop (stk pre).length = q at *
   generalize ((stk pre).take (stk pre).length).getLast?.getD Eid.z = el at *
   have hls:=fun M=>@zF4 fuel (d + 4) x.1 el M
   cases c2 : decide (x.2 = Eid.z)
   ·simp (maxSteps:=2000000) (disch:=first | omega | assumption | (simp only [DS,Nat.reduceAdd, *]; done) | (simp only [DZ]; omega)) only [RUN,RU,zA2,zA1,slot,lay,zAI,reduceIte,Nat.reduceEqDiff,g2,g6,hne,y0,yb,wY,↓pIdN,zBC,ETA,c2]
    have os : OS tm ((Y.upd 0 (.row false [BL false])).upd 6 (.loop .done (some .ret) tm [12,13] cO1 cO2 5)):=by
     refine ⟨(wY.upd _ _).upd _ _,by simp only [zAC]; omega, ?_, ?_, ?_⟩
     ·rw [zA4 (wY.upd _ _) _ _ _ (by omega)]
      exact zAG wY _ _ l0
     ·rw [zA4 (wY.upd _ _) _ _ _ (by omega),zA4 wY _ _ _ (by omega)]
      exact (yj 5 (by omega) (by omega) (by omega)).trans h.g5
     ·exact zAG (wY.upd _ _) _ _ (by simp only [zAC]; omega)
    refine ⟨_,_,_,_,_,_,_,y6,.inr (.inr ?_)⟩
    first
    | exact os
    | exact ⟨os,by simp [*]⟩
   ·skip
    cases c3 : decide (el = Eid.z)
    ·cases c4 : x.1.less el
     ·rw [c4] at hls
      simp (maxSteps:=2000000) (disch:=first | omega | assumption | (simp only [DS,Nat.reduceAdd, *]; done) | (simp only [DZ]; omega)) only [RUN,RU,zA2,zA1,slot,lay,zAI,reduceIte,Nat.reduceEqDiff,g2,g5,g6,g7,hne,y0,ya,yb,yc,wY,↓pIdN,zBC,ETA,c2,c3,hls]
      have os : OS tm ((Y.upd 0 (.row false [BL false])).upd 6 (.loop .done (some .ret) tm [12,13] cO1 cO2 5)):=by
       refine ⟨(wY.upd _ _).upd _ _,by simp only [zAC]; omega, ?_, ?_, ?_⟩
       ·rw [zA4 (wY.upd _ _) _ _ _ (by omega)]
        exact zAG wY _ _ l0
       ·rw [zA4 (wY.upd _ _) _ _ _ (by omega),zA4 wY _ _ _ (by omega)]
        exact (yj 5 (by omega) (by omega) (by omega)).trans h.g5
       ·exact zAG (wY.upd _ _) _ _ (by simp only [zAC]; omega)
      refine ⟨_,_,_,_,_,_,_,y6,.inr (.inr ?_)⟩
      first
      | exact os
      | exact ⟨os,by simp [*]⟩
     ·rw [c4] at hls
      by_cases c5 : x.1 ∈ pre.map (·.1)
      ·simp only [c5,if_true] at hlk
       simp (maxSteps:=2000000) (disch:=first | omega | assumption | (simp only [DS,Nat.reduceAdd, *]; done) | (simp only [DZ]; omega)) only [RUN,RU,zA2,zA1,slot,lay,zAI,reduceIte,Nat.reduceEqDiff,Int.reduceLT,g2,g4,g5,g6,g7,hne,y0,y3,ya,yb,yc,wY,↓pIdN,zBC,ETA,c2,c3,hls,x_lk,hlk]
       have os : OS tm ((Y.upd 0 (.row false [BL false])).upd 6 (.loop .done (some .ret) tm [12,13] cO1 cO2 5)):=by
        refine ⟨(wY.upd _ _).upd _ _,by simp only [zAC]; omega, ?_, ?_, ?_⟩
        ·rw [zA4 (wY.upd _ _) _ _ _ (by omega)]
         exact zAG wY _ _ l0
        ·rw [zA4 (wY.upd _ _) _ _ _ (by omega),zA4 wY _ _ _ (by omega)]
         exact (yj 5 (by omega) (by omega) (by omega)).trans h.g5
        ·exact zAG (wY.upd _ _) _ _ (by simp only [zAC]; omega)
       refine ⟨_,_,_,_,_,_,_,y6,.inr (.inr ?_)⟩
       first
       | exact os
       | exact ⟨os,by simp [*]⟩
      ·simp only [c5,if_false] at hlk
       simp (maxSteps:=2000000) (disch:=first | omega | assumption | (simp only [DS,Nat.reduceAdd, *]; done) | (simp only [DZ]; omega)) only [RUN,RU,zA2,zA1,slot,zAI,reduceIte,Nat.reduceEqDiff,g4,g5,g6,g7,hne,y3,ya,yb,yc,↓pIdN,zBC,ETA,c2,c3,hls,x_lk,hlk,x_mu]
       refine zM8 zKM wY l2 y2 hset x.1 fun obj' hset'=>?_
       simp only [c5,if_false] at hset'
       simp (maxSteps:=2000000) (disch:=first | omega | assumption | (simp only [DS,Nat.reduceAdd, *]; done) | (simp only [DZ]; omega)) only [RUN,RU,zA2,zA1,slot,lay,zAI,zAB,reduceIte,Nat.reduceEqDiff,Nat.reduceBEq,Nat.reduceAdd,g3,g5,y1,ya]
       refine ⟨spY.rows (by omega),SlP.app1 (bytes:=24) (x:=x.1) (wY.upd 2 obj') (spY.keep fun j hj=>zA4 wY _ _ _ (by have:=(ro j (ro' ▸ hj)).2; omega)) zHH ⟨rfl,hx⟩ rfl (by omega) (by rw [List.length_reverse]; omega) (by rw [List.length_reverse]; omega) fun o2 M2 sp2 w2 le2 kp2 nw2 rl2 on2 oc2=>?_⟩
       rw [zAC] at le2 kp2 nw2
       have hS : ordS x (stk pre) (pre.map (·.1)) = true:=by
        unfold ordS
        rw [hpop]
        simp [*]
       have hst : (stk (pre ++ [x])).reverse = q.reverse ++ [x.1]:=by rw [zEE,hpop,List.reverse_cons]
       have ro2 : ∀ j,rowOf o' = some j → O j ∧ 7 ≤ j:=fun j hj=>ro j (ro' ▸ hj)
       have k2 : ∀ j,j < M.size → j ≠ 1 → j ≠ 2 → j ≠ 6 → rowOf o' ≠ some j → M2.get j = M.get j:=fun j a b c e f=>by
        rw [kp2 j (by omega) f,zA4 wY _ _ _ (fun e=>c e.symm)]
        exact yj j a b e
       have m6 : M2.get 6 = some (.loop .busy none tm [12,13] cO1 cO2 5):=by
        rw [kp2 6 (by omega) (fun e=>by have:=(ro2 6 e).2; omega),zA4 wY _ _ _ (by omega)]
        exact y6
       have m2 : M2.get 2 = some obj':=by
        rw [kp2 2 (by omega) (fun e=>by have:=(ro2 2 e).2; omega)]
        exact zAG wY _ _ l2
       have m1 : 1 < M2.size:=by omega
       have n1 : M2.get 1 = some (.row false [o']):=by
        rw [kp2 1 (by omega) (fun e=>by have:=(ro2 1 e).2; omega),zA4 wY _ _ _ (by omega)]
        exact y1
       simp (maxSteps:=2000000) (disch:=first | omega | assumption | (simp only [DS,Nat.reduceAdd, *]; done) | (simp only [DZ]; omega)) only [RUN,RU,zA2,zA1,lay,reduceIte,Nat.reduceEqDiff,g3,oc2,w2,m6,n1]
       have yl : Yl (OI tm) (pre ++ [x]) O B M ((M2.upd 1 (.row false [o2])).upd 6 (.loop .ready none tm [12,13] cO1 cO2 5)):=by
        have wZ:=w2.upd 1 (.row false [o2])
        have zk : ∀ j,j ≠ 1 → j ≠ 6 → ((M2.upd 1 (.row false [o2])).upd 6 (.loop .ready none tm [12,13] cO1 cO2 5)).get j = M2.get j:=fun j a b=>by
         rw [zA4 wZ _ _ _ (fun e=>b e.symm),zA4 w2 _ _ _ (fun e=>a e.symm)]
        have nro : ∀ j,j < 7 → rowOf o' ≠ some j:=fun j hj e=>by have:=(ro2 j e).2; omega
        have no2 : ∀ j,rowOf o2 = some j → 7 ≤ j ∧ (O j ∨ M.size ≤ j):=fun j hj=>by
         rcases nw2 j hj with e | e
         ·exact ⟨(ro2 j e).2,.inl (ro2 j e).1⟩
         ·exact ⟨by omega,.inr (by omega)⟩
        refine ⟨⟨fun j=>O j ∨ rowOf o2 = some j,⟨wZ.upd _ _,by simp only [zAC]; omega, ?_,⟨o2, ?_, ?_,fun j hj=>⟨.inr hj,(no2 j hj).1⟩⟩,⟨obj', ?_, ?_⟩, ?_, ?_, ?_,.inl h.o1,.inl h.o2,.inl h.o6, ?_,h.od.snoc hS⟩, ?_⟩,wZ.upd _ _,by simp only [zAC]; omega, ?_⟩
        ·rw [zk 0 (by omega) (by omega),k2 0 (by omega) (by omega) (by omega) (by omega) (nro 0 (by omega))]; exact h.g0
        ·rw [zA4 wZ _ _ _ (by omega)]; exact zAG w2 _ _ m1
        ·rw [hst]
         exact sp2.keep fun j hj=>zk j (by have:=(no2 j hj).1; omega) (by have:=(no2 j hj).1; omega)
        ·rw [zk 2 (by omega) (by omega)]; exact m2
        ·rw [List.map_append]; exact hset'
        ·rw [zk 3 (by omega) (by omega),k2 3 (by omega) (by omega) (by omega) (by omega) (nro 3 (by omega))]; exact h.g3
        ·rw [zk 5 (by omega) (by omega),k2 5 (by omega) (by omega) (by omega) (by omega) (nro 5 (by omega))]; exact h.g5
        ·exact zAG wZ _ _ (by simp only [zAC]; omega)
        ·intro j hj
         simp only [zAC]
         rcases hj with hj | hj
         ·exact ⟨by have:=(h.ol j hj).1; omega,(h.ol j hj).2⟩
         ·exact ⟨sp2.lt j hj,.inr (.inr (by have:=(no2 j hj).1; omega))⟩
        ·rintro j (hj | hj)
         ·exact .inl hj
         ·exact (no2 j hj).2
        ·intro j hj hO
         have h1 : j ≠ 1:=fun e=>hO (e ▸ h.o1)
         have h2 : j ≠ 2:=fun e=>hO (e ▸ h.o2)
         have h6 : j ≠ 6:=fun e=>hO (e ▸ h.o6)
         rw [zk j h1 h6]
         exact k2 j hj h1 h2 h6 fun e=>hO (ro2 j e).1
       exact ⟨_,_,_,_,_,_,_,rfl,.inl (.inl yl)⟩
    ·skip
     by_cases c5 : x.1 ∈ pre.map (·.1)
     ·simp only [c5,if_true] at hlk
      simp (maxSteps:=2000000) (disch:=first | omega | assumption | (simp only [DS,Nat.reduceAdd, *]; done) | (simp only [DZ]; omega)) only [RUN,RU,zA2,zA1,slot,lay,zAI,reduceIte,Nat.reduceEqDiff,Int.reduceLT,g2,g4,g5,g6,g7,hne,y0,y3,ya,yb,yc,wY,↓pIdN,zBC,ETA,c2,c3,x_lk,hlk]
      have os : OS tm ((Y.upd 0 (.row false [BL false])).upd 6 (.loop .done (some .ret) tm [12,13] cO1 cO2 5)):=by
       refine ⟨(wY.upd _ _).upd _ _,by simp only [zAC]; omega, ?_, ?_, ?_⟩
       ·rw [zA4 (wY.upd _ _) _ _ _ (by omega)]
        exact zAG wY _ _ l0
       ·rw [zA4 (wY.upd _ _) _ _ _ (by omega),zA4 wY _ _ _ (by omega)]
        exact (yj 5 (by omega) (by omega) (by omega)).trans h.g5
       ·exact zAG (wY.upd _ _) _ _ (by simp only [zAC]; omega)
      refine ⟨_,_,_,_,_,_,_,y6,.inr (.inr ?_)⟩
      first
      | exact os
      | exact ⟨os,by simp [*]⟩
     ·simp only [c5,if_false] at hlk
      simp (maxSteps:=2000000) (disch:=first | omega | assumption | (simp only [DS,Nat.reduceAdd, *]; done) | (simp only [DZ]; omega)) only [RUN,RU,zA2,zA1,slot,zAI,reduceIte,Nat.reduceEqDiff,g4,g5,g6,g7,hne,y3,ya,yb,yc,↓pIdN,zBC,ETA,c2,c3,x_lk,hlk,x_mu]
      refine zM8 zKM wY l2 y2 hset x.1 fun obj' hset'=>?_
      simp only [c5,if_false] at hset'
      simp (maxSteps:=2000000) (disch:=first | omega | assumption | (simp only [DS,Nat.reduceAdd, *]; done) | (simp only [DZ]; omega)) only [RUN,RU,zA2,zA1,slot,lay,zAI,zAB,reduceIte,Nat.reduceEqDiff,Nat.reduceBEq,Nat.reduceAdd,g3,g5,y1,ya]
      refine ⟨spY.rows (by omega),SlP.app1 (bytes:=24) (x:=x.1) (wY.upd 2 obj') (spY.keep fun j hj=>zA4 wY _ _ _ (by have:=(ro j (ro' ▸ hj)).2; omega)) zHH ⟨rfl,hx⟩ rfl (by omega) (by rw [List.length_reverse]; omega) (by rw [List.length_reverse]; omega) fun o2 M2 sp2 w2 le2 kp2 nw2 rl2 on2 oc2=>?_⟩
      rw [zAC] at le2 kp2 nw2
      have hS : ordS x (stk pre) (pre.map (·.1)) = true:=by
       unfold ordS
       rw [hpop]
       simp [*]
      have hst : (stk (pre ++ [x])).reverse = q.reverse ++ [x.1]:=by rw [zEE,hpop,List.reverse_cons]
      have ro2 : ∀ j,rowOf o' = some j → O j ∧ 7 ≤ j:=fun j hj=>ro j (ro' ▸ hj)
      have k2 : ∀ j,j < M.size → j ≠ 1 → j ≠ 2 → j ≠ 6 → rowOf o' ≠ some j → M2.get j = M.get j:=fun j a b c e f=>by
       rw [kp2 j (by omega) f,zA4 wY _ _ _ (fun e=>c e.symm)]
       exact yj j a b e
      have m6 : M2.get 6 = some (.loop .busy none tm [12,13] cO1 cO2 5):=by
       rw [kp2 6 (by omega) (fun e=>by have:=(ro2 6 e).2; omega),zA4 wY _ _ _ (by omega)]
       exact y6
      have m2 : M2.get 2 = some obj':=by
       rw [kp2 2 (by omega) (fun e=>by have:=(ro2 2 e).2; omega)]
       exact zAG wY _ _ l2
      have m1 : 1 < M2.size:=by omega
      have n1 : M2.get 1 = some (.row false [o']):=by
       rw [kp2 1 (by omega) (fun e=>by have:=(ro2 1 e).2; omega),zA4 wY _ _ _ (by omega)]
       exact y1
      simp (maxSteps:=2000000) (disch:=first | omega | assumption | (simp only [DS,Nat.reduceAdd, *]; done) | (simp only [DZ]; omega)) only [RUN,RU,zA2,zA1,lay,reduceIte,Nat.reduceEqDiff,g3,oc2,w2,m6,n1]
      have yl : Yl (OI tm) (pre ++ [x]) O B M ((M2.upd 1 (.row false [o2])).upd 6 (.loop .ready none tm [12,13] cO1 cO2 5)):=by
       have wZ:=w2.upd 1 (.row false [o2])
       have zk : ∀ j,j ≠ 1 → j ≠ 6 → ((M2.upd 1 (.row false [o2])).upd 6 (.loop .ready none tm [12,13] cO1 cO2 5)).get j = M2.get j:=fun j a b=>by
        rw [zA4 wZ _ _ _ (fun e=>b e.symm),zA4 w2 _ _ _ (fun e=>a e.symm)]
       have nro : ∀ j,j < 7 → rowOf o' ≠ some j:=fun j hj e=>by have:=(ro2 j e).2; omega
       have no2 : ∀ j,rowOf o2 = some j → 7 ≤ j ∧ (O j ∨ M.size ≤ j):=fun j hj=>by
        rcases nw2 j hj with e | e
        ·exact ⟨(ro2 j e).2,.inl (ro2 j e).1⟩
        ·exact ⟨by omega,.inr (by omega)⟩
       refine ⟨⟨fun j=>O j ∨ rowOf o2 = some j,⟨wZ.upd _ _,by simp only [zAC]; omega, ?_,⟨o2, ?_, ?_,fun j hj=>⟨.inr hj,(no2 j hj).1⟩⟩,⟨obj', ?_, ?_⟩, ?_, ?_, ?_,.inl h.o1,.inl h.o2,.inl h.o6, ?_,h.od.snoc hS⟩, ?_⟩,wZ.upd _ _,by simp only [zAC]; omega, ?_⟩
       ·rw [zk 0 (by omega) (by omega),k2 0 (by omega) (by omega) (by omega) (by omega) (nro 0 (by omega))]; exact h.g0
       ·rw [zA4 wZ _ _ _ (by omega)]; exact zAG w2 _ _ m1
       ·rw [hst]
        exact sp2.keep fun j hj=>zk j (by have:=(no2 j hj).1; omega) (by have:=(no2 j hj).1; omega)
       ·rw [zk 2 (by omega) (by omega)]; exact m2
       ·rw [List.map_append]; exact hset'
       ·rw [zk 3 (by omega) (by omega),k2 3 (by omega) (by omega) (by omega) (by omega) (nro 3 (by omega))]; exact h.g3
       ·rw [zk 5 (by omega) (by omega),k2 5 (by omega) (by omega) (by omega) (by omega) (nro 5 (by omega))]; exact h.g5
       ·exact zAG wZ _ _ (by simp only [zAC]; omega)
       ·intro j hj
        simp only [zAC]
        rcases hj with hj | hj
        ·exact ⟨by have:=(h.ol j hj).1; omega,(h.ol j hj).2⟩
        ·exact ⟨sp2.lt j hj,.inr (.inr (by have:=(no2 j hj).1; omega))⟩
       ·rintro j (hj | hj)
        ·exact .inl hj
        ·exact (no2 j hj).2
       ·intro j hj hO
        have h1 : j ≠ 1:=fun e=>hO (e ▸ h.o1)
        have h2 : j ≠ 2:=fun e=>hO (e ▸ h.o2)
        have h6 : j ≠ 6:=fun e=>hO (e ▸ h.o6)
        rw [zk j h1 h6]
        exact k2 j hj h1 h2 h6 fun e=>hO (ro2 j e).1
      exact ⟨_,_,_,_,_,_,_,rfl,.inl (.inl yl)⟩
end Go.Proofs.YtebloodpblgncaaGreat
namespace Go.Proofs.YtebloodpblgncaaGreat
open Go Go.Ax
variable {fuel : Nat} {M : Mem} {Q : AV → Mem → Prop} {d : Nat}
theorem zQP {a : AV} {l : List Rn} (hS : Sl 10 isRn a l) (wf : Wf M) (k : Q (.fn 123 [] [.ptr M.size 0]) (M.add (.row false [a]))) :
  W3 (zAE Tryz.prog (fsT tbl) fuel (d + 1) (.fn 112) [a] M) Q:=by
 have oa:=hS.one
 refine zB7 tf112 rfl (by simp [a112]) fun b' ht hx=>?_
 have h0:=hx 0 _ rfl
 clear hx
 simp only [a112,c112,zzm] at ht ⊢
 simp (maxSteps:=2000000) (disch:=first | omega | assumption | (simp only [DS,Nat.reduceAdd, *]; done) | (simp only [DZ]; omega)) only [RUN,RU,zA2,zA1,zA0,zAA,reduceIte,Nat.reduceEqDiff,h0,hS.fz.cells]
 exact k
theorem zbY {a : AV} {l : List Rn} (hS : Sl 10 isRn a l) : ∀ r ∈ l,r.ok:=by
 intro r hr
 obtain ⟨i,hi,rfl⟩:=List.getElem_of_mem hr
 obtain ⟨_,_,⟨_,_,_,hok⟩,_⟩:=hS.iad i hi
 exact hok
theorem zYW {l : List Rn} (h : ∀ r ∈ l,r.ok) (hm : ∀ r ∈ l,r.may = true) : ∀ x ∈ elsL l,x.1.ok:=by
 intro x hx
 obtain ⟨r,hr,hx⟩:=List.mem_flatMap.1 hx
 obtain ⟨i,hi,rfl⟩:=List.mem_map.1 hx
 rw [List.mem_range] at hi
 have hb:=Spn.may_le (Rn.may_sp (hm r hr))
 have hk:=h r hr
 refine ⟨hk.1.1.1, ?_⟩
 simp only [Spn.at,i64R]
 omega
theorem zJC {l : List Rn} (hm : ∀ r ∈ l,r.may = true) : (elsL l).length ≤ 64 * l.length:=by
 have:=zEO hm
 have e:=zDV hm
 rw [← zL4]
 unfold prs
 rw [List.length_map]
 omega
theorem zaE {X : Mem} {tm : List AV} {a : AV} {l : List Rn} (hS : Sl 10 isRn a l) (hl : l.length ≤ 1000) (hm : ∀ r ∈ l,r.may = true) (hf : 64 * l.length + 1000 < fuel) (w : Wf X) (h2 : nth zA6 tm 2 = .ptr 0 0) (h3 : nth zA6 tm 3 = .ptr 1 0) (h4 : nth zA6 tm 4 = .ptr 3 0) (hlen : tm.length = 63) (hX : X.size = 5) (g0 : X.get 0 = some (.row false [BL false])) (g1 : X.get 1 = some (.row false [NIL])) (g2 : X.get 2 = some (.map [] 0)) (g3 : X.get 3 = some (.row false [.mp 2])) (g4 : X.get 4 = some (.row false [a]))
  (kt : Ord (elsL l) → ∀ u O N,OI tm (elsL l) O N → Q u N) (ks : ¬Ord (elsL l) → ∀ u N,OS tm N → Q u N) :
  W3 (zAE Tryz.prog (fsT tbl) fuel (d + 8) (.fn 123) ([] ++ [.yl (X.size + 1)] ++ [.ptr 4 0]) ((X.add (.dfr false)).add (.loop .ready none tm [12,13] cO1 cO2 X.size))) Q:=by
 have w1:=w.add (.dfr false)
 have hel:=zJC hm
 have heo:=zYW (zbY hS) hm
 have e : X.size + 1 = 6:=by omega
 have u : ∀ j,j < 5 → ((X.add (.dfr false)).add (.loop .ready none tm [12,13] cO1 cO2 X.size)).get j = X.get j:=fun j hj=>by
  rw [zAF w1 _ _ (by rw [zA7]; omega),zAF w _ _ (by omega)]
 have hJ0 : OI tm [] (fun j=>j = 1 ∨ j = 2 ∨ j = 6) ((X.add (.dfr false)).add (.loop .ready none tm [12,13] cO1 cO2 X.size)):=by
  refine ⟨w1.add _,by simp only [zA7]; omega,(u 0 (by omega)).trans g0,⟨NIL,(u 1 (by omega)).trans g1,SlP.nil,fun j hj=>by cases hj⟩,⟨_,(u 2 (by omega)).trans g2,zHL.nil _ _⟩,(u 3 (by omega)).trans g3, ?_, ?_,.inl rfl,.inr (.inl rfl),.inr (.inr rfl), ?_,Ord.nil⟩
  ·rw [zAF w1 _ _ (by rw [zA7]; omega),← hX]
   exact zAH w _ _ (Nat.le_refl _) (Nat.lt_succ_self _)
  ·have:=zAH w1 (.loop .ready none tm [12,13] cO1 cO2 X.size) 6 (by rw [zA7]; omega) (by rw [zA7]; omega)
   rw [hX] at this ⊢
   exact this
  ·intro j hj
   simp only [zA7]
   rcases hj with rfl | rfl | rfl <;> omega
 have key:=zW7 (d:=d) (fuel:=fuel) (Q:=Q) (J:=OI tm) (S:=fun N=>OS tm N ∧ ¬Ord (elsL l)) (id:=6) (p:=4) hS (by omega) hm (by omega) (w1.add _) ((u 4 (by omega)).trans g4) hJ0 (fun pre O N N' h wf le k=>h.keep wf le k) (fun pre O N h j hj=>(h.ol j hj).1) (fun pre x post O N he h wf le=>?_) (fun u N O h _ _=>kt h.od u O N h) (fun u N h=>ks h.2 u N h.1)
 ·rw [← e] at key
  exact key
 ·have hxm : x ∈ elsL l:=by rw [he]; simp
  have hpl : pre.length ≤ (elsL l).length:=by rw [he]; simp
  obtain ⟨v,N',hc,hv⟩:=zeV (fuel:=fuel) (d:=d) (B:=((X.add (.dfr false)).add (.loop .ready none tm [12,13] cO1 cO2 X.size)).size) h h2 h3 h4 hlen (heo x hxm) (by omega) (by omega)
  refine ⟨v,N',hc, ?_⟩
  rcases hv with ⟨rfl,hv⟩ | ⟨rfl,hv,ho⟩
  ·exact .inl ⟨rfl,hv⟩
  ·refine .inr ⟨rfl,hv,fun k=>?_⟩
   rw [k pre x post he] at ho
   cases ho
open Classical in
set_option maxHeartbeats 4000000 in
theorem zO2 {a : AV} {l : List Rn} (hS : Sl 10 isRn a l) (hl : l.length ≤ 1000) (hm : ∀ r ∈ l,r.may = true) (hf : 64 * l.length + 1000 < fuel) (M : Mem) : zAE Tryz.prog (fsT tbl) fuel (d + 9) (.fn 83) [a] M = some (BL (decide (Ord (elsL l))),M):=by
 have oa:=hS.one
 have hel:=zJC hm
 have heo:=zYW (zbY hS) hm
 apply zBG
 refine zAJ tf83 rfl (by simp only [icyL,fun M=>hS.icy M 12 (by omega)]) (by simp [a83]) fun b' ht hx=>?_
 have h0:=hx 0 _ rfl
 clear hx
 simp only [a83,c83,zz3,zzm,zzg] at ht ⊢
 have cm : cellsA (.mp 2) = [.mp 2]:=rfl
 have om : oneA (.mp 2) = true:=rfl
 have sm : scs (.map none) = [.sc (.map none)]:=rfl
 simp (maxSteps:=2000000) (disch:=first | omega | assumption | (simp only [DS,Nat.reduceAdd, *]; done) | (simp only [DZ]; omega)) only [RUN,RU,zA2,zA1,lay,reduceIte,Nat.reduceEqDiff,Nat.reduceAdd,h0,zV8,cm,sm]
 refine zQP hS (by simp (maxSteps:=2000000) (disch:=first | omega | assumption | (simp only [DS,Nat.reduceAdd, *]; done) | (simp only [DZ]; omega)) only [RUN]) ?_
 simp (maxSteps:=2000000) (disch:=first | omega | assumption | (simp only [DS,Nat.reduceAdd, *]; done) | (simp only [DZ]; omega)) only [RUN,RU,Nat.reduceAdd]
 refine zYK (g:=123) (first:=[]) (cap:=[.ptr 4 0]) (by simp (maxSteps:=2000000) (disch:=first | omega | assumption | (simp only [DS,Nat.reduceAdd, *]; done) | (simp only [DZ]; omega)) only [RUN]) (by simp (maxSteps:=2000000) (disch:=first | omega | assumption | (simp only [DS,Nat.reduceAdd, *]; done) | (simp only [DZ]; omega)) only [RUN,reduceIte,Nat.reduceEqDiff]) ?_
 refine zaE (d:=d) hS hl hm hf ?_ ?_ ?_ ?_ ?_ ?_ ?_ ?_ ?_ ?_ ?_ (fun ho u O N h=>?_) (fun ho u N h=>?_)
 ·simp (maxSteps:=2000000) (disch:=first | omega | assumption | (simp only [DS,Nat.reduceAdd, *]; done) | (simp only [DZ]; omega)) only [RUN]
 ·simp (maxSteps:=2000000) (disch:=first | omega | assumption | (simp only [DS,Nat.reduceAdd, *]; done) | (simp only [DZ]; omega)) only [RUN,reduceIte,Nat.reduceEqDiff]
 ·simp (maxSteps:=2000000) (disch:=first | omega | assumption | (simp only [DS,Nat.reduceAdd, *]; done) | (simp only [DZ]; omega)) only [RUN,reduceIte,Nat.reduceEqDiff]
 ·simp (maxSteps:=2000000) (disch:=first | omega | assumption | (simp only [DS,Nat.reduceAdd, *]; done) | (simp only [DZ]; omega)) only [RUN,reduceIte,Nat.reduceEqDiff]
 ·rw [zLJ]; exact ht
 ·simp (maxSteps:=2000000) (disch:=first | omega | assumption | (simp only [DS,Nat.reduceAdd, *]; done) | (simp only [DZ]; omega)) only [RUN,RU,Nat.reduceAdd]
 ·simp (maxSteps:=2000000) (disch:=first | omega | assumption | (simp only [DS,Nat.reduceAdd, *]; done) | (simp only [DZ]; omega)) only [RUN]
 ·simp (maxSteps:=2000000) (disch:=first | omega | assumption | (simp only [DS,Nat.reduceAdd, *]; done) | (simp only [DZ]; omega)) only [RUN]
 ·simp (maxSteps:=2000000) (disch:=first | omega | assumption | (simp only [DS,Nat.reduceAdd, *]; done) | (simp only [DZ]; omega)) only [RUN]
 ·simp (maxSteps:=2000000) (disch:=first | omega | assumption | (simp only [DS,Nat.reduceAdd, *]; done) | (simp only [DZ]; omega)) only [RUN]
 ·simp (maxSteps:=2000000) (disch:=first | omega | assumption | (simp only [DS,Nat.reduceAdd, *]; done) | (simp only [DZ]; omega)) only [RUN]
 ·have wf:=h.wf
  have sz:=h.sz
  have l0:=Mem.get_lt h.g0
  have l5:=Mem.get_lt h.g5
  have e6 : (mem0.add (.row false [BL false])).size = 1:=rfl
  refine ⟨wf,by simp only [zA7,zAC,zBH]; omega,_,_,_,_,_,_,_,.inl rfl,h.g6, ?_⟩
  generalize hX : N.upd _ _ = X
  have wX : Wf X:=by rw [← hX]; exact wf.upd _ _
  have sX : X.size = N.size:=by rw [← hX]; rfl
  have gX : ∀ j,j ≠ 6 → X.get j = N.get j:=fun j hj=>by rw [← hX]; exact zA4 wf _ _ _ (fun e=>hj e.symm)
  have x0:=(gX 0 (by omega)).trans h.g0
  have x5:=(gX 5 (by omega)).trans h.g5
  have hd : decide (Ord (elsL l)) = true:=decide_eq_true ho
  rw [hd]
  simp (maxSteps:=2000000) (disch:=first | omega | assumption | (simp only [DS,Nat.reduceAdd, *]; done) | (simp only [DZ]; omega)) only [RUN,RU,zA2,zA1,lay,reduceIte,Nat.reduceEqDiff,Nat.reduceAdd,x0,Option.getD_none]
  refine zKC (by simp (maxSteps:=2000000) (disch:=first | omega | assumption | (simp only [DS,Nat.reduceAdd, *]; done) | (simp only [DZ]; omega)) only [RUN,wX]) (by simp (maxSteps:=2000000) (disch:=first | omega | assumption | (simp only [DS,Nat.reduceAdd, *]; done) | (simp only [DZ]; omega)) only [RUN,x5]) ?_
  simp (maxSteps:=2000000) (disch:=first | omega | assumption | (simp only [DS,Nat.reduceAdd, *]; done) | (simp only [DZ]; omega)) only [RUN,RU,zA0,zAA,frzL,reduceIte,Nat.reduceEqDiff]
 ·have wf:=h.wf
  have sz:=h.sz
  have l0:=Mem.get_lt h.g0
  have l5:=Mem.get_lt h.g5
  refine ⟨wf,by simp only [zA7,zAC,zBH]; omega,_,_,_,_,_,_,_,.inr rfl,h.g6, ?_⟩
  generalize hX : N.upd _ _ = X
  have wX : Wf X:=by rw [← hX]; exact wf.upd _ _
  have sX : X.size = N.size:=by rw [← hX]; rfl
  have gX : ∀ j,j ≠ 6 → X.get j = N.get j:=fun j hj=>by rw [← hX]; exact zA4 wf _ _ _ (fun e=>hj e.symm)
  have x0:=(gX 0 (by omega)).trans h.g0
  have x5:=(gX 5 (by omega)).trans h.g5
  have hd : decide (Ord (elsL l)) = false:=decide_eq_false ho
  rw [hd]
  simp (maxSteps:=2000000) (disch:=first | omega | assumption | (simp only [DS,Nat.reduceAdd, *]; done) | (simp only [DZ]; omega)) only [RUN,RU,Nat.reduceAdd,Option.getD_some]
  refine zKC (by simp (maxSteps:=2000000) (disch:=first | omega | assumption | (simp only [DS,Nat.reduceAdd, *]; done) | (simp only [DZ]; omega)) only [wX]) (by simp (maxSteps:=2000000) (disch:=first | omega | assumption | (simp only [DS,Nat.reduceAdd, *]; done) | (simp only [DZ]; omega)) only [x5]) ?_
  simp (maxSteps:=2000000) (disch:=first | omega | assumption | (simp only [DS,Nat.reduceAdd, *]; done) | (simp only [DZ]; omega)) only [RUN,RU,zA0,zAA,frzL,reduceIte,Nat.reduceEqDiff,x0]
end Go.Proofs.YtebloodpblgncaaGreat
namespace Go.Proofs.YtebloodpblgncaaGreat
open Go Go.Ax
variable {fuel : Nat} {M : Mem} {Q : AV → Mem → Prop} {d : Nat}
theorem zQL {o : Rn} {ra : AV} (hR : Sl 1 zB2 ra o.rs) (hf : 100 < fuel) (M : Mem) : zAE Tryz.prog (fsT tbl) fuel (d + 7) (.fn 82) [.agg (rnR o ra)] M = some (BL (!o.may),M):=by
 have ora:=hR.one
 have hck:=fun M=>@zC3 fuel d o ra hR hf M
 apply zBG
 refine zAJ tf82 rfl (by simp only [icyL,zCN hR.fz]) (by simp [a82]) fun b' ht hx=>?_
 have h0:=hx 0 _ rfl
 clear hx
 simp only [a82,c82,zzm] at ht ⊢
 cases hm : o.may <;> rw [hm] at hck <;> simp (maxSteps:=2000000) (disch:=first | omega | assumption | (simp only [DS,Nat.reduceAdd, *]; done) | (simp only [DZ]; omega)) only [RUN,RU,zA2,zA1,zA0,zAA,frzL,slot,reduceIte,Nat.reduceEqDiff,Int.reduceEq,h0,hck,zAV,zBE]
open Classical in
noncomputable def zFA (l : List Rn) : Bool:=decide (zDI l)
open Classical in
theorem zcC {l : List Rn} (h : zDI l) : zFA l = true:=by unfold zFA; exact decide_eq_true h
open Classical in
theorem zLE {l : List Rn} (h : ¬zDI l) : zFA l = false:=by unfold zFA; exact decide_eq_false h
open Classical in
theorem zMY {l : List Rn} : zFA l = true ↔ zDI l:=by unfold zFA; exact ⟨of_decide_eq_true,fun h=>decide_eq_true h⟩
theorem zFC {l : List Rn} (h : ∀ r ∈ l,r.may = true) : ∀ r ∈ l,r.rs.length ≤ 64:=fun r hr=>((Rn.may_iff.1 (h r hr)).2.2.2.1)
set_option maxHeartbeats 4000000 in
theorem zSC {a : AV} {l : List Rn} (hS : Sl 10 isRn a l) (hl : l.length ≤ 1000) (hf : 64 * l.length + 3001000 < fuel) (M : Mem) : zAE Tryz.prog (fsT tbl) fuel (d + 10) (.fn 59) [a] M = some (I64 (err (zFA l)),M):=by
 have oa:=hS.one
 have hh:=fun M=>zaV (P:=Tryz.prog) (fs:=fsT tbl) (fuel:=fuel) (l:=l) (ag:=true) (n:=d + 7) tf81 tf111 (fun h=>by cases h) zD4 hS (by omega) (by omega) (zZ1 82) (p:=fun x => !x.may) (fun r x hr _ M=>by
  obtain ⟨ra,rfl,hra,_⟩:=hr
  exact @zQL fuel d x ra hra (by omega) M) M
 rw [zRW] at hh
 apply zBG
 refine zAJ tf59 rfl (by simp only [icyL,fun M=>hS.icy M 12 (by omega)]) (by simp [a59]) fun b' ht hx=>?_
 have h0:=hx 0 _ rfl
 clear hx
 simp only [a59,c59,zzm,zzg] at ht ⊢
 cases hb : l.all Rn.may with
 | false =>
  rw [hb] at hh
  have hno : zFA l = false:=zLE fun k=>by
   rw [List.all_eq_true.2 k.1] at hb; cases hb
  rw [hno]
  simp (maxSteps:=2000000) (disch:=first | omega | assumption | (simp only [DS,Nat.reduceAdd, *]; done) | (simp only [DZ]; omega)) only [RUN,RU,zA2,zA1,zA0,zAA,frzL,reduceIte,Nat.reduceEqDiff,h0,hh,zBE]
 | true =>
  rw [hb] at hh
  have hm : ∀ r ∈ l,r.may = true:=List.all_eq_true.1 hb
  have hrs:=zFC hm
  have hct:=fun M=>@zHZ fuel (d + 8) a l hS hm (by omega) (by omega) M
  have hord:=fun M=>@zO2 fuel d a l hS hl hm (by omega) M
  obtain ⟨r,hr,hlong⟩:=zG7 (fuel:=fuel) (d:=d) hS (by omega) (fun r hr=>by have:=hrs r hr; omega) (by omega)
  have hmL:=(zC9 hm).2
  have hrsL:=zFC hmL
  have hlenL : (zBN l).length ≤ 64000:=by
   have e1:=zDV hmL
   have e2:=zEO hm
   have e3:=zDV hm
   rw [(zC9 hm).1,(zCV _).1] at e1
   have : (zBN l).length ≤ (zB3 (zBN l)):=by
    rw [(zC9 hm).1]
    have hh:=(zCV (elsR l)).2
    generalize zD3 (elsR l) = C at *
    clear e1
    induction C with
    | nil=>simp [zB3]
    | cons q C ih =>
     have:=ih (fun q hq=>hh q (List.mem_cons_of_mem _ hq))
     have:=(hh q List.mem_cons_self).1
     simp only [zB3,List.length_cons]
     omega
   rw [(zC9 hm).1] at this ⊢
   omega
  have hsame:=fun M=>@zUY fuel (d + 5) r a (zBN l) l hr hS (by omega) (fun e he=>⟨by have:=hrsL e he; omega,by have:=hrsL e he; omega⟩) (by omega) M
  have or:=hr.one
  by_cases h1 : zB3 l ≤ 8192
  ·have q1 : decide (8192 < zB3 l) = false:=decide_eq_false (by omega)
   by_cases h2 : Ord (elsL l)
   ·have ho:=@decide_eq_true _ (Classical.propDecidable (Ord (elsL l))) h2
    rw [ho] at hord
    by_cases h3 : zBN l = l
    ·have hyes : zFA l = true:=zcC ⟨hm,h1,h2,h3⟩
     have hs : zL8 (zBN l) l = true:=zMU.2 h3
     rw [hs] at hsame
     rw [hyes]
     simp (maxSteps:=2000000) (disch:=first | omega | assumption | (simp only [DS,Nat.reduceAdd, *]; done) | (simp only [DZ]; omega)) only [RUN,RU,zA2,zA1,zA0,zAA,frzL,reduceIte,Nat.reduceEqDiff,h0,hh,hct,q1,hord,hlong,hsame,zAV]
    ·have hno : zFA l = false:=zLE fun k=>h3 k.2.2.2
     have hs : zL8 (zBN l) l = false:=by
      cases hq : zL8 (zBN l) l with
      | false=>rfl
      | true=>exact absurd (zMU.1 hq) h3
     rw [hs] at hsame
     rw [hno]
     simp (maxSteps:=2000000) (disch:=first | omega | assumption | (simp only [DS,Nat.reduceAdd, *]; done) | (simp only [DZ]; omega)) only [RUN,RU,zA2,zA1,zA0,zAA,frzL,reduceIte,Nat.reduceEqDiff,h0,hh,hct,q1,hord,hlong,hsame,zBE]
   ·have ho:=@decide_eq_false _ (Classical.propDecidable (Ord (elsL l))) h2
    rw [ho] at hord
    have hno : zFA l = false:=zLE fun k=>h2 k.2.2.1
    rw [hno]
    simp (maxSteps:=2000000) (disch:=first | omega | assumption | (simp only [DS,Nat.reduceAdd, *]; done) | (simp only [DZ]; omega)) only [RUN,RU,zA2,zA1,zA0,zAA,frzL,reduceIte,Nat.reduceEqDiff,h0,hh,hct,q1,hord,zBE]
  ·have q1 : decide (8192 < zB3 l) = true:=decide_eq_true (by omega)
   have hno : zFA l = false:=zLE fun k=>h1 k.2.1
   rw [hno]
   simp (maxSteps:=2000000) (disch:=first | omega | assumption | (simp only [DS,Nat.reduceAdd, *]; done) | (simp only [DZ]; omega)) only [RUN,RU,zA2,zA1,zA0,zAA,frzL,reduceIte,Nat.reduceEqDiff,h0,hh,hct,q1,zBE]
end Go.Proofs.YtebloodpblgncaaGreat
namespace Go.Proofs.YtebloodpblgncaaGreat
open Go Go.Ax
variable {fuel : Nat} {M : Mem} {Q : AV → Mem → Prop} {d : Nat}
abbrev zRn : Value:=.agg #[.int .u8 0,.int .u32 0,.int .u8 0,.int .i64 0,.int .i64 0,.int .u8 0,.int .u32 0,.int .u8 0,.int .i64 0,.slice none 0 0]
theorem zdL {n : Nat} (wf : Wf M) (hn : 0 < n) (hb : n ≤ 1000000) (k : Q (.sl M.size 0 0 none 10) (M.add (.row false (zAB zRn n)))) :
  W3 (zAE Tryz.prog (fsT tbl) fuel (d + 1) (.fn 117) [NIL,I64 n] M) Q:=by
 have hz:=zVQ (X:=M) (st:=10) (bytes:=80) (z:=zRn) wf rfl rfl hn (by omega) (by omega) (by omega)
 have e0 : decide ((n : Int) < 0) = false:=decide_eq_false (by omega)
 have e1 : decide ((0 : Int) < n) = true:=decide_eq_true (by omega)
 have w0 : IntKind.i64.wrap 0 = 0:=by decide
 have w1 : IntKind.i64.wrap ((n : Int) - 0) = n:=by rw [wrap_i64] <;> omega
 refine zB7 tf117 rfl (by simp [a117]) fun b' ht hx=>?_
 have h0:=hx 0 _ rfl
 have h1:=hx 1 _ rfl
 clear hx
 simp only [a117,c117,zz1,zzm] at ht ⊢
 have hs:=zc7 (M:=M.add (.row false (zAB zRn n))) (st:=10) (n:=n) (zAH wf (.row false (zAB zRn n)) M.size (Nat.le_refl _) (Nat.lt_succ_self _))
 simp (maxSteps:=2000000) (disch:=first | omega | assumption | (simp only [DS,Nat.reduceAdd, *]; done) | (simp only [DZ]; omega)) only [RUN,RU,zA2,zA1,zA0,zAA,reduceIte,Nat.reduceEqDiff,Int.reduceSub,h0,h1,e0,e1,w0,w1,zfN,x_cap,za9,zYB,hz,hs]
 exact k
set_option maxHeartbeats 8000000 in
/-- One list of three. -/
theorem zSG {id : Nat} {a0 a1 a2 : AV} {l0 l1 l2 : List Rn} (wf : Wf M) (hg : M.get id = some (.row false [a0,a1,a2])) (h0' : Sl 10 isRn a0 l0) (h1' : SlM M 10 isRn a1 l1) (h2' : Sl 10 isRn a2 l2) (hn : 0 < l1.length) (hb0 : l0.length ≤ 10000) (hb1 : l1.length ≤ 10000) (hb2 : l2.length ≤ 10000) (hf : 100 < fuel) (hw : M.wm ≤ M.size)
  (k : ∀ o N,SlM N 10 isRn o (l0 ++ l1 ++ l2) → Kept M N → (∀ j,rowOf o = some j → M.size ≤ j) → oneA o = true → cellsA o = [o] → ((rowsOf o).all fun i=>Nat.blt i N.size) = true → Q o N) :
  W3 (zAE Tryz.prog (fsT tbl) fuel (d + 2) (.fn 86) [.sl id 0 3 (some 3) 1] M) Q:=by
 have x0:=h0'.len
 have x1:=h1'.len
 have x2:=h2'.len
 have o0:=h0'.one
 have o1:=h1'.one
 have o2:=h2'.one
 have li:=Mem.get_lt hg
 have c3 : ((3 : Nat) : Int) = 3:=rfl
 have t0 : zDC (I64 0) = some 0:=rfl
 have t1 : zDC (I64 1) = some 1:=rfl
 have t2 : zDC (I64 2) = some 2:=rfl
 have q03 : decide ((0 : Int) < 3) = true:=rfl
 have q13 : decide ((1 : Int) < 3) = true:=rfl
 have q23 : decide ((2 : Int) < 3) = true:=rfl
 have q33 : decide ((3 : Int) < 3) = false:=rfl
 have v1 : IntKind.i64.wrap 1 = 1:=by decide
 have v2 : IntKind.i64.wrap 2 = 2:=by decide
 have v3 : IntKind.i64.wrap 3 = 3:=by decide
 have w0 : IntKind.i64.wrap (0 + (l0.length : Int)) = (l0.length : Nat):=by rw [wrap_i64] <;> omega
 have w1 : IntKind.i64.wrap ((l0.length : Int) + (l1.length : Int)) = ((l0.length + l1.length : Nat) : Int):=by rw [wrap_i64] <;> omega
 have w2 : IntKind.i64.wrap (((l0.length + l1.length : Nat) : Int) + (l2.length : Int)) = ((l0.length + l1.length + l2.length : Nat) : Int):=by rw [wrap_i64] <;> omega
 have n0 : decide (((l0.length : Nat) : Int) < 0) = false:=decide_eq_false (by omega)
 have n1 : decide (((l0.length + l1.length : Nat) : Int) < 0) = false:=decide_eq_false (by omega)
 have n2 : decide (((l0.length + l1.length + l2.length : Nat) : Int) < 0) = false:=decide_eq_false (by omega)
 refine zB7 tf86 rfl (by simp [a86]) fun b' ht hx=>?_
 have h0:=hx 0 _ rfl
 clear hx
 simp only [a86,c86,zz1,zzm] at ht ⊢
 simp (maxSteps:=2000000) (disch:=first | omega | assumption | (simp only [DS,Nat.reduceAdd, *]; done) | (simp only [DZ]; omega)) only [RUN,RU,zA2,zA1,reduceIte,Nat.reduceEqDiff,h0]
 refine w_un (by omega) ?_
 simp (maxSteps:=2000000) (disch:=first | omega | assumption | (simp only [DS,Nat.reduceAdd, *]; done) | (simp only [DZ]; omega)) only [RUN,RU,zA2,zA1,reduceIte,Nat.reduceEqDiff,Nat.reduceMul,Int.reduceLT,Int.reduceAdd,hg,c3,t0,x0,w0,n0,v1,zE0]
 refine w_un (by omega) ?_
 simp (maxSteps:=2000000) (disch:=first | omega | assumption | (simp only [DS,Nat.reduceAdd, *]; done) | (simp only [DZ]; omega)) only [RUN,RU,zA2,zA1,reduceIte,Nat.reduceEqDiff,Nat.reduceMul,Int.reduceLT,Int.reduceAdd,hg,t1,x1,w1,n1,v2,zE0]
 refine w_un (by omega) ?_
 simp (maxSteps:=2000000) (disch:=first | omega | assumption | (simp only [DS,Nat.reduceAdd, *]; done) | (simp only [DZ]; omega)) only [RUN,RU,zA2,zA1,reduceIte,Nat.reduceEqDiff,Nat.reduceMul,Int.reduceLT,Int.reduceAdd,hg,t2,x2,w2,n2,v3,zE0]
 refine w_un (by omega) ?_
 simp (maxSteps:=2000000) (disch:=first | omega | assumption | (simp only [DS,Nat.reduceAdd, *]; done) | (simp only [DZ]; omega)) only [RUN,RU,zA2,zA1,reduceIte,Nat.reduceEqDiff,zTQ]
 refine zdL (d:=d) (n:=l0.length + l1.length + l2.length) wf (by omega) (by omega) ?_
 have sq0:=SlQ.fresh (X:=M) (st:=10) (T:=isRn) (n:=l0.length + l1.length + l2.length) (z:=zRn) wf rfl
 have wX:=wf.add (.row false (zAB zRn (l0.length + l1.length + l2.length)))
 have kX : ∀ j,j < M.size → (M.add (.row false (zAB zRn (l0.length + l1.length + l2.length)))).get j = M.get j:=fun j hj=>zAF wf _ _ hj
 have sX : (M.add (.row false (zAB zRn (l0.length + l1.length + l2.length)))).size = M.size + 1:=rfl
 have dX : (M.add (.row false (zAB zRn (l0.length + l1.length + l2.length)))).dirty = M.dirty:=rfl
 have vX : (M.add (.row false (zAB zRn (l0.length + l1.length + l2.length)))).wm = M.wm:=rfl
 generalize (M.add (.row false (zAB zRn (l0.length + l1.length + l2.length)))) = X at *
 have gX:=(kX id li).trans hg
 simp (maxSteps:=2000000) (disch:=first | omega | assumption | (simp only [DS,Nat.reduceAdd, *]; done) | (simp only [DZ]; omega)) only [RUN,RU,zA2,zA1,reduceIte,Nat.reduceEqDiff,h0,c3]
 refine w_un (by omega) ?_
 simp (maxSteps:=2000000) (disch:=first | omega | assumption | (simp only [DS,Nat.reduceAdd, *]; done) | (simp only [DZ]; omega)) only [RUN,RU,zA2,zA1,reduceIte,Nat.reduceEqDiff,Nat.reduceMul,Int.reduceLT,gX,t0,h0'.fz.rows]
 obtain ⟨r0,y0,z0,A0,R0⟩:=h0'.cells2 X
 refine SlQ.app (bytes:=80) wX sq0 y0 z0 A0 R0 zD4.cel (by omega) (by simp; omega) (by simp; omega) fun o' Y sq1 wY sY kY rY wmY diY=>?_
 have on1:=sq1.one
 have oc1:=sq1.cells
 have rl1:=sq1.rl (Nat.le_refl _)
 have ro1 : ∀ j,rowOf o' = some j → j = M.size:=fun j hj=>by rw [rY] at hj; cases hj; rfl
 have gY : Y.get id = some (.row false [a0,a1,a2]):=(kY id (fun e=>by cases e; omega)).trans gX
 have mY : ∀ j,j < M.size → Y.get j = M.get j:=fun j hj=>(kY j (fun e=>by cases e; omega)).trans (kX j hj)
 simp (maxSteps:=2000000) (disch:=first | omega | assumption | (simp only [DS,Nat.reduceAdd, *]; done) | (simp only [DZ]; omega)) only [RUN,RU,zA2,zA1,reduceIte,Nat.reduceEqDiff,Int.reduceAdd,v1,zE0]
 refine w_un (by omega) ?_
 have sm1 : SlM Y 10 isRn a1 l1:=h1'.keep fun j hj=>mY j (h1'.lt j hj)
 have rla:=zAT sm1.rl (Nat.le_refl _)
 simp (maxSteps:=2000000) (disch:=first | omega | assumption | (simp only [DS,Nat.reduceAdd, *]; done) | (simp only [DZ]; omega)) only [RUN,RU,zA2,zA1,reduceIte,Nat.reduceEqDiff,Nat.reduceMul,Int.reduceLT,gY,t1,rl1,rla]
 obtain ⟨r1,y1,z1,A1,R1⟩:=sm1.cells2
 refine SlQ.app (bytes:=80) wY sq1 y1 z1 A1 R1 zD4.cel (by omega) (by simp; omega) (by simp; omega) fun o2' Z sq2 wZ sZ kZ rZ wmZ diZ=>?_
 have on2:=sq2.one
 have oc2:=sq2.cells
 have rl2:=sq2.rl (Nat.le_refl _)
 have ro2 : ∀ j,rowOf o2' = some j → j = M.size:=fun j hj=>ro1 j (rZ ▸ hj)
 have gZ : Z.get id = some (.row false [a0,a1,a2]):=(kZ id (fun e=>by have:=ro1 _ e; omega)).trans gY
 have mZ : ∀ j,j < M.size → Z.get j = M.get j:=fun j hj=>(kZ j (fun e=>by have:=ro1 _ e; omega)).trans (mY j hj)
 simp (maxSteps:=2000000) (disch:=first | omega | assumption | (simp only [DS,Nat.reduceAdd, *]; done) | (simp only [DZ]; omega)) only [RUN,RU,zA2,zA1,reduceIte,Nat.reduceEqDiff,Int.reduceAdd,v2,zE0]
 refine w_un (by omega) ?_
 simp (maxSteps:=2000000) (disch:=first | omega | assumption | (simp only [DS,Nat.reduceAdd, *]; done) | (simp only [DZ]; omega)) only [RUN,RU,zA2,zA1,reduceIte,Nat.reduceEqDiff,Nat.reduceMul,Int.reduceLT,gZ,t2,rl2,h2'.fz.rows]
 obtain ⟨r2,y2,z2,A2,R2⟩:=h2'.cells2 Z
 refine SlQ.app (bytes:=80) wZ sq2 y2 z2 A2 R2 zD4.cel (by omega) (by simp; omega) (by simp; omega) fun o3' U sq3 wU sU kU rU wmU diU=>?_
 have on3:=sq3.one
 have oc3:=sq3.cells
 have rl3:=sq3.rl (Nat.le_refl _)
 have ro3 : ∀ j,rowOf o3' = some j → j = M.size:=fun j hj=>ro2 j (rU ▸ hj)
 have mU : ∀ j,j < M.size → U.get j = M.get j:=fun j hj=>(kU j (fun e=>by have:=ro2 _ e; omega)).trans (mZ j hj)
 simp (maxSteps:=2000000) (disch:=first | omega | assumption | (simp only [DS,Nat.reduceAdd, *]; done) | (simp only [DZ]; omega)) only [RUN,RU,zA2,zA1,reduceIte,Nat.reduceEqDiff,Int.reduceAdd,v3,zE0]
 refine w_un (by omega) ?_
 simp (maxSteps:=2000000) (disch:=first | omega | assumption | (simp only [DS,Nat.reduceAdd, *]; done) | (simp only [DZ]; omega)) only [RUN,RU,zA2,zA1,zA0,zAA,reduceIte,Nat.reduceEqDiff,zTQ]
 have e0 : l0.length + l1.length + l2.length - l0.length - l1.length - l2.length = 0:=by omega
 rw [e0] at sq3
 have d1:=diY (fun j hj=>by cases hj; omega)
 have d2:=diZ (fun j hj=>by have:=ro1 j hj; omega)
 have d3:=diU (fun j hj=>by have:=ro2 j hj; omega)
 exact k o3' U (by have:=sq3.slm; simpa using this) ⟨wU,by omega,mU,by omega,d3.trans (d2.trans (d1.trans dX))⟩ (fun j hj=>by have:=ro3 j hj; omega) on3 oc3 rl3
end Go.Proofs.YtebloodpblgncaaGreat
namespace Go.Proofs.YtebloodpblgncaaGreat
open Go Go.Ax
variable {fuel : Nat} {M : Mem} {Q : AV → Mem → Prop} {d : Nat}
set_option maxHeartbeats 16000000 in
theorem zMK {a : AV} {l : List Rn} {x : Eid} (hS : Sl 10 isRn a l) (hm : ∀ r ∈ l,r.may = true) (hx : x = Eid.z ∨ zBA l x ≠ none) (hl : l.length ≤ 9000) (hf : l.length + 100 < fuel) :
  ∃ r,Sl 10 isRn r (zB5 l x).1 ∧ ∀ M,zAE Tryz.prog (fsT tbl) fuel (d + 8) (.fn 63) [a,idA x] M = some (.tup [r,I64 (zB5 l x).2],M):=by
 have oa:=hS.one
 have la:=hS.len
 have hw:=fun M=>@zN6 fuel (d + 1) a l x hS (by omega) (by omega) M
 refine zF8 tf63 rfl (fun M=>by simp only [icyL,fun M=>hS.icy M 12 (by omega),zAY (zEI x) (show 1 < 12 by omega)]) ?_
 refine zAJ tf63 rfl (by simp only [icyL,fun M=>hS.icy M 12 (by omega),zAY (zEI x) (show 1 < 12 by omega)]) (by simp [a63]) fun b' ht hx=>?_
 have h0:=hx 0 _ rfl
 have h1:=hx 1 _ rfl
 clear hx
 simp only [a63,c63,zz1,zz3,zzm] at ht ⊢
 by_cases hz : x = Eid.z
 ·have q : decide (x = Eid.z) = true:=decide_eq_true hz
  have hpl : zB5 l x = (l,0):=by unfold zB5; rw [if_pos hz]
  rw [hpl]
  simp (maxSteps:=2000000) (disch:=first | omega | assumption | (simp only [DS,Nat.reduceAdd, *]; done) | (simp only [DZ]; omega)) only [RUN,RU,zA2,zA1,zA0,zAA,frzL,slot,zAI,reduceIte,Nat.reduceEqDiff,h0,h1,hS.fz.frz,↓pIdE,zAZ,ETA,q]
  exact ⟨_,hS,rfl⟩
 ·have q : decide (x = Eid.z) = false:=decide_eq_false hz
  rcases hx with hx | hx
  ·exact absurd hx hz
  cases hwl : zBA l x with
  | none=>exact absurd hwl hx
  | some p =>
   obtain ⟨n,k⟩:=p
   obtain ⟨L1,o,L2,hle,hln,h1',h2',h3',h4'⟩:=zGY hwl
   rw [hwl] at hw
   simp only [wN,wK] at hw
   have hnl : n < l.length:=by rw [hle,List.length_append,List.length_cons]; omega
   obtain ⟨r,hiad,hr,hrl⟩:=hS.iad n hnl
   have hgo : l.getD n Rn.z = l[n]:=by rw [List.getD_eq_getElem?_getD,List.getElem?_eq_getElem hnl]; rfl
   have hpl : zB5 l x = if (l.getD n Rn.z).cutE (k + 1) = 0 then (l.take n ++ [(l.getD n Rn.z).fst (k + 1),(l.getD n Rn.z).snd (k + 1)] ++ l.drop (n + 1),n + 1) else (l,n + 1):=by unfold zB5; rw [if_neg hz]; simp only [hwl]
   rw [hpl,hgo]
   clear hpl
   have hom:=hm l[n] (List.getElem_mem hnl)
   have hro:=zbY hS l[n] (List.getElem_mem hnl)
   have hon : o = l[n]:=by simp [hle,← hln]
   have hln':=hon ▸ h3'
   generalize l[n] = e at *
   obtain ⟨ra,rfl,hra,_⟩:=hr
   have ora:=hra.one
   have hb:=Spn.may_le (Rn.may_sp hom)
   have w1 : IntKind.i64.wrap (k + 1) = k + 1:=by rw [wrap_i64] <;> omega
   have w2 : IntKind.i64.wrap ((n : Int) + 1) = ((n + 1 : Nat) : Int):=by rw [wrap_i64] <;> omega
   obtain ⟨v,⟨ca,cb,rfl,hca,hcb⟩,hcut⟩:=zGU (fuel:=fuel) (d:=d) (n:=k + 1) hra (by omega)
   have oca:=hca.one
   have ocb:=hcb.one
   by_cases hc : e.cutE (k + 1) = 0
   ·have q2 : decide (e.cutE (k + 1) = 0) = true:=decide_eq_true hc
    rw [if_pos hc]
    obtain ⟨r1,s1,b1⟩:=zc6 hS (j:=n) (by omega)
    obtain ⟨r2,s2,b2⟩:=zUS hS (i:=n + 1) (by omega)
    have ob1:=b1.one
    have ob2:=b2.one
    have eA : e.cutA (k + 1) = e.fst (k + 1):=by unfold Rn.cutA; rw [if_pos hc]
    have eB : e.cutB (k + 1) = e.snd (k + 1):=by unfold Rn.cutB; rw [if_pos hc]
    have okA:=zZ0 hro hc
    have okB:=zZV hro hc
    rw [eA] at hca hcut
    rw [eB] at hcb hcut
    generalize e.fst (k + 1) = eF at *
    generalize e.snd (k + 1) = eS at *
    have oca:=hca.one
    have ocb:=hcb.one
    simp (maxSteps:=2000000) (disch:=first | omega | assumption | (simp only [DS,Nat.reduceAdd, *]; done) | (simp only [DZ]; omega)) only [RUN,RU,zA2,zA1,slot,lay,zAI,zAB,reduceIte,Nat.reduceEqDiff,Nat.reduceBEq,Nat.reduceAdd,h0,h1,hS.fz.rows,↓pIdE,zAZ,ETA,q,hw,hiad,w1,w2,hcut,q2,s1,s2,b1.fz.cells,b2.fz.cells,zCF]
    refine zSG (d:=d + 5) (id:=4) (a0:=r1) (a1:=.sl 3 0 2 (some 2) 10) (a2:=r2) (l1:=[eF,eS]) (by simp (maxSteps:=2000000) (disch:=first | omega | assumption | (simp only [DS,Nat.reduceAdd, *]; done) | (simp only [DZ]; omega)) only [RUN]) ?_ b1 (zOG (zPD hca hcb okA okB) (by simp) rfl (.inr rfl) ?_) b2 (by simp) (by rw [List.length_take]; omega) (by simp) (by rw [List.length_drop]; omega) (by omega) (Nat.le_refl _) fun o' N sm kN nr on oc rl=>?_
    ·simp (maxSteps:=2000000) (disch:=first | omega | assumption | (simp only [DS,Nat.reduceAdd, *]; done) | (simp only [DZ]; omega)) only [RUN]
    ·simp (maxSteps:=2000000) (disch:=first | omega | assumption | (simp only [DS,Nat.reduceAdd, *]; done) | (simp only [DZ]; omega)) only [RUN]
     rfl
    ·have wN:=kN.wf
     have dN : N.dirty = false:=kN.di
     simp (maxSteps:=2000000) (disch:=first | omega | assumption | (simp only [DS,Nat.reduceAdd, *]; done) | (simp only [DZ]; omega)) only [RUN,RU,zA2,zA1,zA0,zAA,frzL,reduceIte,Nat.reduceEqDiff,Nat.reduceAdd,dN]
     obtain ⟨ro,hro2,hfr⟩:=zF5 sm zD4.cel 12 (by omega)
     rw [hfr _ (fun id h=>by simp (maxSteps:=2000000) (disch:=first | omega | assumption | (simp only [DS,Nat.reduceAdd, *]; done) | (simp only [DZ]; omega)) only [RUN])]
     exact ⟨ro,hro2,by rw [w2]⟩
   ·have q2 : decide (e.cutE (k + 1) = 0) = false:=decide_eq_false hc
    rw [if_neg hc]
    simp (maxSteps:=2000000) (disch:=first | omega | assumption | (simp only [DS,Nat.reduceAdd, *]; done) | (simp only [DZ]; omega)) only [RUN,RU,zA2,zA1,zA0,zAA,frzL,slot,lay,zAI,reduceIte,Nat.reduceEqDiff,Nat.reduceAdd,h0,h1,hS.fz.frz,↓pIdE,zAZ,ETA,q,hw,hiad,w1,w2,hcut,q2]
    exact ⟨_,hS,rfl⟩
end Go.Proofs.YtebloodpblgncaaGreat
namespace Go.Proofs.YtebloodpblgncaaGreat
open Go Go.Ax
variable {fuel : Nat} {M : Mem} {Q : AV → Mem → Prop} {d : Nat}
theorem zPC {X : Mem} {o : AV} {r : List AV} {x : Rn} (wf : Wf X) (h : SlN X 10 isRn o []) (hx : isRn r x) (hr : r.length = 10)
  (k : ∀ o' M',SlM M' 10 isRn o' [x] → Wf M' → X.size ≤ M'.size → (∀ j,j < X.size → rowOf o ≠ some j → M'.get j = X.get j) → (∀ id,rowOf o' = some id → rowOf o = some id ∨ X.size ≤ id) → M'.wm = X.wm → Q o' M') :
  W3 (zAE Tryz.prog (fsT tbl) fuel (d + 1) (.fn 66) [o,I64 0,.sl X.size 0 1 (some 1) 10] (X.add (.row false r))) Q:=by
 have sm:=h.slm
 have oo:=sm.one
 have ol:=sm.len
 have z10 : decide ((1 : Int) = 0) = false:=rfl
 have ge : ∀ N,lenO N (.sl X.size 0 1 (some 1) 10) = some (I64 1,N):=fun _=>rfl
 have hs : ∀ N,(∀ j,rowOf o = some j → N.get j = X.get j) → ∃ v,slcO N 10 o (some (I64 0)) none none = some (v,N) ∧ oneA v = true:=fun N hN=>by
  rcases h with ⟨_,rfl | ⟨id,rfl,hg⟩⟩ | ⟨hn,_⟩
  ·exact ⟨_,rfl,rfl⟩
  ·exact ⟨_,rfl,rfl⟩
  ·exact absurd rfl hn
 obtain ⟨v,hsv,ov⟩:=hs (X.add (.row false r)) (fun j hj=>zAF wf _ _ (sm.lt j hj))
 refine zB7 tf66 rfl (by simp [a66]) fun b' ht hx=>?_
 have h0:=hx 0 _ rfl
 have h1:=hx 1 _ rfl
 have h2:=hx 2 _ rfl
 clear hx
 simp only [a66,c66,zz1,zzm] at ht ⊢
 have ol0 : ∀ N,lenO N o = some (I64 0,N):=ol
 have rlo:=zAT sm.rl (show X.size ≤ X.size + 1 by omega)
 simp (maxSteps:=2000000) (disch:=first | omega | assumption | (simp only [DS,Nat.reduceAdd, *]; done) | (simp only [DZ]; omega)) only [RUN,RU,zA2,zA1,reduceIte,Nat.reduceEqDiff,Int.reduceEq,h0,h1,h2,ol0,hsv,ge,rlo]
 refine app1 wf sm zD4 (x:=x) hx hr (by omega) (by simp) (by simp) fun o' M' sm' w' le' kp nw wm' rl on oc=>?_
 simp (maxSteps:=2000000) (disch:=first | omega | assumption | (simp only [DS,Nat.reduceAdd, *]; done) | (simp only [DZ]; omega)) only [RUN,RU,zA2,zA1,zA0,zAA,reduceIte,Nat.reduceEqDiff]
 exact k o' M' sm' w' le' kp nw wm'
theorem zPK {l : List Rn} {r : Rn} {n : Nat} (D : List Rn) (h : D = (l.drop n).takeWhile fun q=>r.sp.f.less q.sp.f) {i : Nat} (hi : i < D.length) (hn : n + i < l.length) : r.sp.f.less l[n + i].sp.f = true ∧ D[i] = l[n + i]:=by
 have h1 : D[i] ∈ (l.drop n).takeWhile fun q=>r.sp.f.less q.sp.f:=by rw [← h]; exact List.getElem_mem hi
 have h2:=List.all_eq_true.1 (List.all_takeWhile (l:=l.drop n) (p:=fun q=>r.sp.f.less q.sp.f)) _ h1
 have h3 : D[i] = l[n + i]:=by
  have hp : D <+: l.drop n:=by rw [h]; exact List.takeWhile_prefix _
  rw [hp.getElem hi,List.getElem_drop]
 rw [← h3]
 exact ⟨h2,rfl⟩
theorem zMW {l : List Rn} {x : Eid} {n : Nat} (h : zF9 l x n < l.length) : x.less l[zF9 l x n].sp.f = false:=by
 have hd : ((l.drop n).dropWhile fun q=>x.less q.sp.f) = l.drop (zF9 l x n):=by
  have e:=List.takeWhile_append_dropWhile (p:=fun q : Rn=>x.less q.sp.f) (l:=l.drop n)
  have e2:=congrArg (List.drop ((l.drop n).takeWhile fun q=>x.less q.sp.f).length) e
  rw [List.drop_left,List.drop_drop] at e2
  exact e2
 have:=List.head?_dropWhile_not (fun q : Rn=>x.less q.sp.f) (l.drop n)
 rw [hd,List.drop_eq_getElem_cons h] at this
 exact this
theorem zUR {l : List Rn} {x : Eid} {n : Nat} (hn : n ≤ l.length) : zF9 l x n ≤ l.length:=by
 unfold zF9
 have:=(List.takeWhile_sublist (l:=l.drop n) (fun q : Rn=>x.less q.sp.f)).length_le
 rw [List.length_drop] at this
 omega
theorem zL2 (l : List Rn) (x : Eid) : (zB5 l x).1.length ≤ l.length + 2:=by
 unfold zB5
 split
 ·simp
 ·split
  ·simp
  ·split
   ·simp; omega
   ·simp
theorem zTO (l : List Rn) : (zBN l).length ≤ l.length:=by
 refine zCT (P:=fun l=>(zBN l).length ≤ l.length) (Nat.le_refl _) (fun l r ih=>?_) l
 rw [zM4]
 have:=zOR (zBN l) r
 simp only [List.length_append,List.length_singleton]
 omega
theorem zWT (l : List Rn) (r : Rn) : (insL l r).length ≤ l.length + 3:=by
 unfold insL
 refine Nat.le_trans (zTO _) ?_
 have:=zL2 l r.af
 simp only [List.length_append,List.length_take,List.length_drop,List.length_singleton]
 omega
noncomputable def insR (l : List Rn) (r : Rn) : List Rn:=if putE l r = 0 then insL l r else []
open Classical in
set_option maxHeartbeats 16000000 in
theorem zR2 {a ra : AV} {l : List Rn} {x : Rn} (hS : Sl 10 isRn a l) (hR : Sl 1 zB2 ra x.rs) (hx : x.ok) (hl : l.length ≤ 900) (hf : 64 * l.length + 3011000 < fuel) : ∃ r,Sl 10 isRn r (insR l x) ∧ ∀ M,zAE Tryz.prog (fsT tbl) fuel (d + 11) (.fn 40) [a,.agg (rnR x ra)] M = some (.tup [r,I64 (putE l x)],M):=by
 have oa:=hS.one
 have ora:=hR.one
 have hck:=fun M=>@zSC fuel d a l hS (by omega) (by omega) M
 have hcx:=fun M=>@zC3 fuel (d + 4) x ra hR (by omega) M
 refine zF8 tf40 rfl (fun M=>by simp only [icyL,fun M=>hS.icy M 12 (by omega),zCN hR.fz]) ?_
 refine zAJ tf40 rfl (by simp only [icyL,fun M=>hS.icy M 12 (by omega),zCN hR.fz]) (by simp [a40]) fun b' ht hx=>?_
 have h0:=hx 0 _ rfl
 have h1:=hx 1 _ rfl
 clear hx
 simp only [a40,c40,zz1,zz3,zzm] at ht ⊢
 have hiE : putE l x = if zFA l = true ∧ x.may = true then (if x.af ≠ Eid.z ∧ zBA l x.af = none then 6 else if ∃ i : Nat,(i : Int) < x.sp.n ∧ zBA l (x.sp.at i) ≠ none then 2 else if 8192 < zB3 l + x.sp.n then 4 else 0) else 8:=by
  unfold putE
  simp only [zMY]
 by_cases h8 : zFA l = true ∧ x.may = true
 ·rw [if_pos h8] at hiE
  obtain ⟨htb,hxm⟩:=h8
  have hok:=zMY.1 htb
  rw [htb] at hck
  rw [hxm] at hcx
  have hwh:=fun y M=>@zN6 fuel (d + 4) a l y hS (by omega) (by omega) M
  have hwa:=fun M=>hwh x.af M
  have hb:=Spn.may_le (Rn.may_sp hxm)
  obtain ⟨m,hmn⟩ : ∃ m : Nat,x.sp.n = m:=⟨x.sp.n.toNat,by omega⟩
  have ia : ∀ i : Nat,i < m → ∀ M,zAE Tryz.prog (fsT tbl) fuel (d + 10) (.fn 61) [spA x.sp,I64 i] M = some (.tup [idA (x.sp.at i),I64 0],M):=fun i hi M=>by
   have:=@zI4 fuel (d + 5) x.sp i M
   rw [if_pos (Rn.may_sp hxm),if_neg (by omega)] at this
   exact this
  have qn1 : decide ((-1 : Int) < 0) = true:=rfl
  have qg1 : decide ((0 : Int) ≤ -1) = false:=rfl
  by_cases h6 : x.af ≠ Eid.z ∧ zBA l x.af = none
  ·have e6 : putE l x = 6:=by rw [hiE,if_pos h6]
   have er : insR l x = []:=by unfold insR; rw [e6]; rfl
   rw [e6,er]
   have q : decide (x.af = Eid.z) = false:=decide_eq_false h6.1
   rw [h6.2] at hwa
   simp (maxSteps:=2000000) (disch:=first | omega | assumption | (simp only [DS,Nat.reduceAdd, *]; done) | (simp only [DZ]; omega)) only [RUN,RU,zA2,zA1,zA0,zAA,frzL,slot,zAI,reduceIte,Nat.reduceEqDiff,Nat.reduceBEq,Nat.reduceAdd,Int.reduceLT,h0,h1,hck,hcx,IMX,zAV,zBX,BMM,hwa,wN,wK,↓pIdN,zBC,ETA,q]
   exact ⟨NIL,.inl ⟨rfl,rfl⟩,rfl⟩
  ·rw [if_neg h6] at hiE
   have hx6 : x.af = Eid.z ∨ zBA l x.af ≠ none:=by
    by_cases h : x.af = Eid.z
    ·exact .inl h
    ·exact .inr fun k=>h6 ⟨h,k⟩
   have step : ∃ b : Bool,(decide ((wN (zBA l x.af)) < 0) = b) ∧ (b = true → decide (x.af = Eid.z) = true):=by
    refine ⟨_,rfl,fun hb=>?_⟩
    rcases hx6 with h | h
    ·exact decide_eq_true h
    ·cases hw : zBA l x.af with
     | none=>exact absurd hw h
     | some p =>
      have hb:=of_decide_eq_true hb
      rw [hw] at hb
      simp only [wN] at hb
      omega
   obtain ⟨b6,hb6,hb6'⟩:=step
   have main : ∀ (b6 : Bool),decide ((wN (zBA l x.af)) < 0) = b6 → (b6 = true → decide (x.af = Eid.z) = true) → True:=fun _ _ _=>trivial
   clear main
   cases b6 with
   | true =>
    have q:=hb6' rfl
    simp (maxSteps:=2000000) (disch:=first | omega | assumption | (simp only [DS,Nat.reduceAdd, *]; done) | (simp only [DZ]; omega)) only [RUN,RU,zA2,zA1,slot,zAI,reduceIte,Nat.reduceEqDiff,Nat.reduceBEq,Nat.reduceAdd,h0,h1,hck,hcx,IMX,zAV,zBX,BMM,hwa,hb6,↓pIdN,zBC,ETA,q]
    refine zBF (I:=fun n t N => ∃ (i : Nat),n = m - i ∧ i ≤ m ∧ nth zA6 t 0 = a ∧ nth zA6 t 3 = .ptr 0 0 ∧ nth zA6 t 40 = I64 m ∧ nth zA6 t 41 = I64 i ∧ Wf N ∧ N.get 0 = some (.row false (rnR x ra)) ∧ (∀ j,j < i → zBA l (x.sp.at (j : Nat)) = none) ∧ N.size ≤ i + 1) (n:=m) (by omega) ?_ ?_
    ·refine ⟨0,rfl,Nat.zero_le _, ?_, ?_, ?_, ?_,Wf.mem0.add _,by simp (maxSteps:=2000000) (disch:=first | omega | assumption | (simp only [DS,Nat.reduceAdd, *]; done) | (simp only [DZ]; omega)) only [RUN],(fun _ h=>absurd h (by omega)),Nat.le_refl _⟩ <;> simp (maxSteps:=2000000) (disch:=first | omega | assumption | (simp only [DS,Nat.reduceAdd, *]; done) | (simp only [DZ]; omega)) only [RUN,reduceIte,Nat.reduceEqDiff,h0,hmn]
     all_goals first | rfl | assumption | done
    ·rintro n t N hlt ⟨i,rfl,hi,g0,g3,g40,g41,w,g,hj,sz⟩
     simp only [ht] at hlt ⊢
     have lg:=Mem.get_lt g
     by_cases hc : i < m
     ·have q1 : decide ((i : Int) < m) = true:=decide_eq_true (by omega)
      have w1 : IntKind.i64.wrap ((i : Int) + 1) = ((i + 1 : Nat) : Int):=by rw [wrap_i64] <;> omega
      have iai:=ia i hc
      have hwi:=hwh (x.sp.at (i : Nat))
      cases hwl : zBA l (x.sp.at (i : Nat)) with
      | some p =>
       have e2 : putE l x = 2:=by rw [hiE,if_pos ⟨i,by omega,by rw [hwl]; simp⟩]
       have er : insR l x = []:=by unfold insR; rw [e2]; rfl
       rw [hwl] at hwi
       have qp : decide ((0 : Int) ≤ ((p.1 : Nat) : Int)) = true:=decide_eq_true (by omega)
       rw [e2,er]
       simp (maxSteps:=2000000) (disch:=first | omega | assumption | (simp only [DS,Nat.reduceAdd, *]; done) | (simp only [DZ]; omega)) only [RUN,RU,zA2,zA1,zA0,zAA,frzL,slot,lay,reduceIte,Nat.reduceEqDiff,Nat.reduceAdd,g0,g3,g40,g41,q1,iai,g,hwi,wN,wK,qp]
       exact ⟨NIL,.inl ⟨rfl,rfl⟩,rfl⟩
      | none =>
       rw [hwl] at hwi
       simp (maxSteps:=2000000) (disch:=first | omega | assumption | (simp only [DS,Nat.reduceAdd, *]; done) | (simp only [DZ]; omega)) only [RUN,RU,zA2,zA1,slot,lay,reduceIte,Nat.reduceEqDiff,Nat.reduceAdd,Nat.reduceLeDiff,Int.reduceLE,g0,g3,g40,g41,q1,iai,g,w,hwi,wN,wK,w1]
       refine ⟨hlt,m - (i + 1),by omega,i + 1,rfl,by omega,rfl,fun j hj'=>?_,by omega⟩
       rcases Nat.lt_succ_iff_lt_or_eq.1 hj' with h | rfl
       ·exact hj j h
       ·exact hwl
     ·obtain rfl : i = m:=by omega
      have q1 : decide ((i : Int) < i) = false:=decide_eq_false (by omega)
      have hno : ¬∃ j : Nat,(j : Int) < x.sp.n ∧ zBA l (x.sp.at j) ≠ none:=fun ⟨j,h1,h2⟩=>h2 (hj j (by omega))
      rw [if_neg hno] at hiE
      have hct:=fun M=>@zHZ fuel (d + 9) a l hS hok.1 (by omega) (by omega) M
      have hcl:=zEO hok.1
      have w2 : IntKind.i64.wrap (zB3 l + x.sp.n) = zB3 l + x.sp.n:=by rw [wrap_i64] <;> omega
      by_cases h4 : 8192 < zB3 l + x.sp.n
      ·have e4 : putE l x = 4:=by rw [hiE,if_pos h4]
       have er : insR l x = []:=by unfold insR; rw [e4]; rfl
       have q4 : decide (8192 < zB3 l + x.sp.n) = true:=decide_eq_true h4
       rw [e4,er]
       simp (maxSteps:=2000000) (disch:=first | omega | assumption | (simp only [DS,Nat.reduceAdd, *]; done) | (simp only [DZ]; omega)) only [RUN,RU,zA2,zA1,zA0,zAA,frzL,reduceIte,Nat.reduceEqDiff,Nat.reduceBEq,Nat.reduceAdd,g0,g3,g40,g41,g,hct,w2,q4]
       exact ⟨NIL,.inl ⟨rfl,rfl⟩,rfl⟩
      ·have e0 : putE l x = 0:=by rw [hiE,if_neg h4]
       have er : insR l x = insL l x:=by unfold insR; rw [if_pos e0]
       have q4 : decide (8192 < zB3 l + x.sp.n) = false:=decide_eq_false h4
       obtain ⟨r',hr',hpart⟩:=zMK (fuel:=fuel) (d:=d + 2) hS hok.1 hx6 (by omega) (by omega)
       obtain ⟨p1,p2,p3,p4⟩:=zO3 hok.1 hx6
       have hpl:=zL2 l x.af
       have hsk:=zUR (x:=x.sp.f) p1
       have hss:=fun h=>@zMW (zB5 l x.af).1 x.sp.f (zB5 l x.af).2 h
       have hmt:=fun D hD i=>@zPK (zB5 l x.af).1 x (zB5 l x.af).2 D hD i
       have eL : insL l x = zBN ((zB5 l x.af).1.take (zF9 (zB5 l x.af).1 x.sp.f (zB5 l x.af).2) ++ [x] ++ (zB5 l x.af).1.drop (zF9 (zB5 l x.af).1 x.sp.f (zB5 l x.af).2)):=rfl
       unfold zF9 at hsk hss eL
       rw [e0,er,eL]
       generalize hD : ((zB5 l x.af).1.drop (zB5 l x.af).2).takeWhile (fun q=>x.sp.f.less q.sp.f) = D at *
       have hmt:=fun i=>hmt D rfl (i:=i)
       generalize (zB5 l x.af).1 = l' at *
       generalize (zB5 l x.af).2 = n0 at *
       have or':=hr'.one
       have lr':=hr'.len
       simp (maxSteps:=2000000) (disch:=first | omega | assumption | (simp only [DS,Nat.reduceAdd, *]; done) | (simp only [DZ]; omega)) only [RUN,RU,zA2,zA1,slot,reduceIte,Nat.reduceEqDiff,Nat.reduceBEq,Nat.reduceAdd,g0,g3,g40,g41,g,hct,w2,q4,hpart]
       refine zBF (I:=fun n2 t2 N2 => ∃ (i2 : Nat),n2 = l'.length - n0 - i2 ∧ i2 ≤ l'.length - n0 ∧ nth zA6 t2 0 = r' ∧ nth zA6 t2 3 = .ptr 0 0 ∧ nth zA6 t2 14 = I64 ((n0 + i2 : Nat) : Int) ∧ Wf N2 ∧ N2.size ≤ 70 ∧ N2.get 0 = some (.row false (rnR x ra)) ∧ i2 ≤ D.length) (n:=l'.length - n0) (by omega) ?_ ?_
       ·refine ⟨0,rfl,Nat.zero_le _, ?_, ?_, ?_,w,by omega,g,Nat.zero_le _⟩ <;> simp (maxSteps:=2000000) (disch:=first | omega | assumption | (simp only [DS,Nat.reduceAdd, *]; done) | (simp only [DZ]; omega)) only [RUN,RU,reduceIte,Nat.reduceEqDiff,g0,g3]
        all_goals first | rfl | assumption | done
       ·rintro n2 t2 N2 hlt2 ⟨i2,rfl,hi2,g20,g23,g214,wf2,sz2,gg,hi2⟩
        simp only [hlt] at hlt2 ⊢
        have lgg:=Mem.get_lt gg
        by_cases hc2 : n0 + i2 < l'.length
        ·have q2 : decide (((n0 + i2 : Nat) : Int) < l'.length) = true:=decide_eq_true (by omega)
         have w3 : IntKind.i64.wrap (((n0 + i2 : Nat) : Int) + 1) = ((n0 + (i2 + 1) : Nat) : Int):=by rw [wrap_i64] <;> omega
         obtain ⟨r2,hiad2,hre,hrl2⟩:=hr'.iad (n0 + i2) hc2
         by_cases hd2 : i2 < D.length
         ·have hlt3:=(hmt i2 hd2 hc2).1
          generalize l'[n0 + i2] = e2 at *
          obtain ⟨rb,rfl,hrb,_⟩:=hre
          have orb:=hrb.one
          have hls:=fun M=>@zF4 fuel (d + 8) x.sp.f e2.sp.f M
          rw [hlt3] at hls
          simp (maxSteps:=2000000) (disch:=first | omega | assumption | (simp only [DS,Nat.reduceAdd, *]; done) | (simp only [DZ]; omega)) only [RUN,RU,zA2,zA1,slot,reduceIte,Nat.reduceEqDiff,Nat.reduceBEq,Nat.reduceAdd,g20,g23,g214,q2,lr',hiad2,gg,wf2,hls,w3]
          exact ⟨hlt2,l'.length - n0 - (i2 + 1),by omega,i2 + 1,rfl,by omega,rfl,by omega⟩
         ·obtain rfl : i2 = D.length:=by omega
          have hlt3:=hss hc2
          generalize l'[n0 + D.length] = e2 at *
          obtain ⟨rb,rfl,hrb,_⟩:=hre
          have orb:=hrb.one
          have hls:=fun M=>@zF4 fuel (d + 8) x.sp.f e2.sp.f M
          rw [hlt3] at hls
          simp (maxSteps:=2000000) (disch:=first | omega | assumption | (simp only [DS,Nat.reduceAdd, *]; done) | (simp only [DZ]; omega)) only [RUN,RU,zA2,slot,reduceIte,Nat.reduceEqDiff,Nat.reduceBEq,Nat.reduceAdd,g20,g23,g214,q2,lr',hiad2,gg,hls]
          refine zK6 zD4.cel tf67 Tryz.underlying63 hr' (by omega) (by omega) (by simp (maxSteps:=2000000) (disch:=first | omega | assumption | (simp only [DS,Nat.reduceAdd, *]; done) | (simp only [DZ]; omega)) only [RUN,wf2]) fun o3 M3 wf3 le3 kp3 sn3 nr3 wm3 di3 sz3=>?_
          have hd3 : M3.dirty = false:=di3
          have z0 : M3.get 0 = some (.row false (rnR x ra)):=(kp3 0 lgg).trans gg
          have lz0:=Mem.get_lt z0
          have sm3:=sn3.slm
          have on3:=sm3.one
          have oc3:=sm3.cells
          have rl3:=zAT sm3.rl (Nat.le_refl M3.size)
          have rl3':=zAT sm3.rl (Nat.le_succ M3.size)
          simp (maxSteps:=2000000) (disch:=first | omega | assumption | (simp only [DS,Nat.reduceAdd, *]; done) | (simp only [DZ]; omega)) only [RUN,RU,zA2,slot,lay,zAI,zAB,reduceIte,Nat.reduceEqDiff,Nat.reduceBEq,Nat.reduceAdd,g23,g214,hd3,z0,zYN,zCF]
          have sz3' : M3.size ≤ N2.size + 2:=sz3
          have hb0 : Nat.ble N2.size 0 = false:=by
           cases hb : Nat.ble N2.size 0 with
           | false=>rfl
           | true=>have:=Nat.le_of_ble_eq_true hb; omega
          refine ⟨by simp [zBZ,FP.apart,FP.reads,FP.writes,hb0],by simp [zBZ,FP.apart,FP.reads,FP.writes], ?_⟩
          have eX : ((N2.bk M3).add (.row false (rnR x ra))).lo = (⟨M3.t,M3.size,M3.size + 1,false⟩ : Mem).add (.row false (rnR x ra)):=rfl
          show W3 (insO _ (((N2.bk M3).add (.row false (rnR x ra))).lo) 66 10 80 o3 (I64 ((n0 + D.length : Nat) : Int)) (.sl M3.size 0 1 (some 1) 10)) _
          rw [eX]
          have wX : Wf (⟨M3.t,M3.size,M3.size + 1,false⟩ : Mem):=wf3
          have sX : (⟨M3.t,M3.size,M3.size + 1,false⟩ : Mem).size = M3.size:=rfl
          have snX : SlN (⟨M3.t,M3.size,M3.size + 1,false⟩ : Mem) 10 isRn o3 l':=sn3
          generalize (⟨M3.t,M3.size,M3.size + 1,false⟩ : Mem) = X3 at *
          have key : W3 (insO (zAE Tryz.prog (fsT tbl) fuel (d + 10)) (X3.add (.row false (rnR x ra))) 66 10 80 o3 (I64 ((n0 + D.length : Nat) : Int)) (.sl M3.size 0 1 (some 1) 10)) (fun o4 M4=>SlM M4 10 isRn o4 (l'.take (n0 + D.length) ++ [x] ++ l'.drop (n0 + D.length)) ∧ Wf M4):=by
           rw [← sX]
           by_cases hz : l' = []
           ·subst hz
            have e0 : n0 + D.length = 0:=by simp only [List.length_nil] at hsk; omega
            rw [e0]
            have hc0 : ((0 : Nat) : Int) = 0:=rfl
            rw [hc0]
            have h0' : W3 (zAE Tryz.prog (fsT tbl) fuel (d + 10) (.fn 66) [o3,I64 0,.sl X3.size 0 1 (some 1) 10] (X3.add (.row false (rnR x ra)))) (fun o4 M4=>SlM M4 10 isRn o4 [x] ∧ Wf M4):=zPC (d:=d + 9) wX snX ⟨ra,rfl,hR,hx⟩ rfl (fun o' M' a b _ _ _ _=>⟨a,b⟩)
            have e1 : insO (zAE Tryz.prog (fsT tbl) fuel (d + 10)) (X3.add (.row false (rnR x ra))) 66 10 80 o3 (I64 0) (.sl X3.size 0 1 (some 1) 10) = zAE Tryz.prog (fsT tbl) fuel (d + 10) (.fn 66) [o3,I64 0,.sl X3.size 0 1 (some 1) 10] (X3.add (.row false (rnR x ra))):=by
             rcases snX with ⟨_,rfl | ⟨id,rfl,_⟩⟩ | ⟨hn,_⟩
             ·exact zKQ ..
             ·exact zKP ..
             ·exact absurd rfl hn
            rw [e1]
            exact h0'
           ·exact snX.ins (bytes:=80) (g:=66) wX hz zD4.cel ⟨ra,rfl,hR,hx⟩ rfl (by omega) (by omega) (by omega) (by omega) (by omega) fun o' M' a b _ _ _=>⟨a,b⟩
          obtain ⟨o4,M4,he4,sm4,wf4⟩:=key
          rw [he4]
          clear he4 eX hmt hss snX sn3 sm3 kp3 hno hwh hwa hck hcx hcl ia hj hpart hct
          have on4:=sm4.one
          have oc4:=sm4.cells
          have rl4:=zAT sm4.rl (Nat.le_refl M4.size)
          simp (maxSteps:=2000000) (disch:=first | omega | assumption | (simp only [DS,Nat.reduceAdd, *]; done) | (simp only [DZ]; omega)) only [RUN,RU,zA2,reduceIte,Nat.reduceEqDiff,Nat.reduceAdd]
          refine zLH (n:=d + 9) (R:=fun r=>Sl 10 isRn r (zBN (l'.take (n0 + D.length) ++ [x] ++ l'.drop (n0 + D.length)))) tf65 rfl (sm4.keep fun _ _=>rfl) (show Wf _ from wf4) zD4 (fun a' ha'=>?_) fun r X' hr wX' sX' kX'=>?_
          ·refine zG7 (d:=d + 1) ha' (by simp only [List.length_append,List.length_take,List.length_drop,List.length_singleton]; omega) (fun q hq=>?_) (by simp only [List.length_append,List.length_take,List.length_drop,List.length_singleton]; omega)
           have hq64 : q.rs.length ≤ 64:=by
            rcases List.mem_append.1 hq with hq | hq
            ·rcases List.mem_append.1 hq with hq | hq
             ·exact zFC p2 q (List.mem_of_mem_take hq)
             ·rw [List.mem_singleton] at hq; subst hq
              exact (Rn.may_iff.1 hxm).2.2.2.1
            ·exact zFC p2 q (List.mem_of_mem_drop hq)
           omega
          ·have orr:=hr.one
           simp (maxSteps:=2000000) (disch:=first | omega | assumption | (simp only [DS,Nat.reduceAdd, *]; done) | (simp only [DZ]; omega)) only [RUN,RU,zA2,zA0,zAA,frzL,reduceIte,Nat.reduceEqDiff,Nat.reduceAdd,hr.fz.frz,zCF]
           exact ⟨r,hr,rfl⟩
        ·obtain rfl : i2 = D.length:=by omega
         have q2 : decide (((n0 + D.length : Nat) : Int) < l'.length) = false:=decide_eq_false (by omega)
         simp (maxSteps:=2000000) (disch:=first | omega | assumption | (simp only [DS,Nat.reduceAdd, *]; done) | (simp only [DZ]; omega)) only [RUN,RU,zA2,reduceIte,Nat.reduceEqDiff,Nat.reduceBEq,Nat.reduceAdd,g20,g214,q2,lr']
         refine zK6 zD4.cel tf67 Tryz.underlying63 hr' (by omega) (by omega) (by simp (maxSteps:=2000000) (disch:=first | omega | assumption | (simp only [DS,Nat.reduceAdd, *]; done) | (simp only [DZ]; omega)) only [RUN,wf2]) fun o3 M3 wf3 le3 kp3 sn3 nr3 wm3 di3 sz3=>?_
         have hd3 : M3.dirty = false:=di3
         have z0 : M3.get 0 = some (.row false (rnR x ra)):=(kp3 0 lgg).trans gg
         have lz0:=Mem.get_lt z0
         have sm3:=sn3.slm
         have on3:=sm3.one
         have oc3:=sm3.cells
         have rl3:=zAT sm3.rl (Nat.le_refl M3.size)
         have rl3':=zAT sm3.rl (Nat.le_succ M3.size)
         simp (maxSteps:=2000000) (disch:=first | omega | assumption | (simp only [DS,Nat.reduceAdd, *]; done) | (simp only [DZ]; omega)) only [RUN,RU,zA2,slot,lay,zAI,zAB,reduceIte,Nat.reduceEqDiff,Nat.reduceBEq,Nat.reduceAdd,g23,g214,hd3,z0,zYN,zCF]
         have sz3' : M3.size ≤ N2.size + 2:=sz3
         have hb0 : Nat.ble N2.size 0 = false:=by
          cases hb : Nat.ble N2.size 0 with
          | false=>rfl
          | true=>have:=Nat.le_of_ble_eq_true hb; omega
         refine ⟨by simp [zBZ,FP.apart,FP.reads,FP.writes,hb0],by simp [zBZ,FP.apart,FP.reads,FP.writes], ?_⟩
         have eX : ((N2.bk M3).add (.row false (rnR x ra))).lo = (⟨M3.t,M3.size,M3.size + 1,false⟩ : Mem).add (.row false (rnR x ra)):=rfl
         show W3 (insO _ (((N2.bk M3).add (.row false (rnR x ra))).lo) 66 10 80 o3 (I64 ((n0 + D.length : Nat) : Int)) (.sl M3.size 0 1 (some 1) 10)) _
         rw [eX]
         have wX : Wf (⟨M3.t,M3.size,M3.size + 1,false⟩ : Mem):=wf3
         have sX : (⟨M3.t,M3.size,M3.size + 1,false⟩ : Mem).size = M3.size:=rfl
         have snX : SlN (⟨M3.t,M3.size,M3.size + 1,false⟩ : Mem) 10 isRn o3 l':=sn3
         generalize (⟨M3.t,M3.size,M3.size + 1,false⟩ : Mem) = X3 at *
         have key : W3 (insO (zAE Tryz.prog (fsT tbl) fuel (d + 10)) (X3.add (.row false (rnR x ra))) 66 10 80 o3 (I64 ((n0 + D.length : Nat) : Int)) (.sl M3.size 0 1 (some 1) 10)) (fun o4 M4=>SlM M4 10 isRn o4 (l'.take (n0 + D.length) ++ [x] ++ l'.drop (n0 + D.length)) ∧ Wf M4):=by
          rw [← sX]
          by_cases hz : l' = []
          ·subst hz
           have e0 : n0 + D.length = 0:=by simp only [List.length_nil] at hsk; omega
           rw [e0]
           have hc0 : ((0 : Nat) : Int) = 0:=rfl
           rw [hc0]
           have h0' : W3 (zAE Tryz.prog (fsT tbl) fuel (d + 10) (.fn 66) [o3,I64 0,.sl X3.size 0 1 (some 1) 10] (X3.add (.row false (rnR x ra)))) (fun o4 M4=>SlM M4 10 isRn o4 [x] ∧ Wf M4):=zPC (d:=d + 9) wX snX ⟨ra,rfl,hR,hx⟩ rfl (fun o' M' a b _ _ _ _=>⟨a,b⟩)
           have e1 : insO (zAE Tryz.prog (fsT tbl) fuel (d + 10)) (X3.add (.row false (rnR x ra))) 66 10 80 o3 (I64 0) (.sl X3.size 0 1 (some 1) 10) = zAE Tryz.prog (fsT tbl) fuel (d + 10) (.fn 66) [o3,I64 0,.sl X3.size 0 1 (some 1) 10] (X3.add (.row false (rnR x ra))):=by
            rcases snX with ⟨_,rfl | ⟨id,rfl,_⟩⟩ | ⟨hn,_⟩
            ·exact zKQ ..
            ·exact zKP ..
            ·exact absurd rfl hn
           rw [e1]
           exact h0'
          ·exact snX.ins (bytes:=80) (g:=66) wX hz zD4.cel ⟨ra,rfl,hR,hx⟩ rfl (by omega) (by omega) (by omega) (by omega) (by omega) fun o' M' a b _ _ _=>⟨a,b⟩
         obtain ⟨o4,M4,he4,sm4,wf4⟩:=key
         rw [he4]
         clear he4 eX hmt hss snX sn3 sm3 kp3 hno hwh hwa hck hcx hcl ia hj hpart hct
         have on4:=sm4.one
         have oc4:=sm4.cells
         have rl4:=zAT sm4.rl (Nat.le_refl M4.size)
         simp (maxSteps:=2000000) (disch:=first | omega | assumption | (simp only [DS,Nat.reduceAdd, *]; done) | (simp only [DZ]; omega)) only [RUN,RU,zA2,reduceIte,Nat.reduceEqDiff,Nat.reduceAdd]
         refine zLH (n:=d + 9) (R:=fun r=>Sl 10 isRn r (zBN (l'.take (n0 + D.length) ++ [x] ++ l'.drop (n0 + D.length)))) tf65 rfl (sm4.keep fun _ _=>rfl) (show Wf _ from wf4) zD4 (fun a' ha'=>?_) fun r X' hr wX' sX' kX'=>?_
         ·refine zG7 (d:=d + 1) ha' (by simp only [List.length_append,List.length_take,List.length_drop,List.length_singleton]; omega) (fun q hq=>?_) (by simp only [List.length_append,List.length_take,List.length_drop,List.length_singleton]; omega)
          have hq64 : q.rs.length ≤ 64:=by
           rcases List.mem_append.1 hq with hq | hq
           ·rcases List.mem_append.1 hq with hq | hq
            ·exact zFC p2 q (List.mem_of_mem_take hq)
            ·rw [List.mem_singleton] at hq; subst hq
             exact (Rn.may_iff.1 hxm).2.2.2.1
           ·exact zFC p2 q (List.mem_of_mem_drop hq)
          omega
         ·have orr:=hr.one
          simp (maxSteps:=2000000) (disch:=first | omega | assumption | (simp only [DS,Nat.reduceAdd, *]; done) | (simp only [DZ]; omega)) only [RUN,RU,zA2,zA0,zAA,frzL,reduceIte,Nat.reduceEqDiff,Nat.reduceAdd,hr.fz.frz,zCF]
          exact ⟨r,hr,rfl⟩
   | false =>
    simp (maxSteps:=2000000) (disch:=first | omega | assumption | (simp only [DS,Nat.reduceAdd, *]; done) | (simp only [DZ]; omega)) only [RUN,RU,zA2,zA1,slot,reduceIte,Nat.reduceEqDiff,Nat.reduceBEq,Nat.reduceAdd,h0,h1,hck,hcx,IMX,zAV,zBX,BMM,hwa,hb6]
    refine zBF (I:=fun n t N => ∃ (i : Nat),n = m - i ∧ i ≤ m ∧ nth zA6 t 0 = a ∧ nth zA6 t 3 = .ptr 0 0 ∧ nth zA6 t 40 = I64 m ∧ nth zA6 t 41 = I64 i ∧ Wf N ∧ N.get 0 = some (.row false (rnR x ra)) ∧ (∀ j,j < i → zBA l (x.sp.at (j : Nat)) = none) ∧ N.size ≤ i + 1) (n:=m) (by omega) ?_ ?_
    ·refine ⟨0,rfl,Nat.zero_le _, ?_, ?_, ?_, ?_,Wf.mem0.add _,by simp (maxSteps:=2000000) (disch:=first | omega | assumption | (simp only [DS,Nat.reduceAdd, *]; done) | (simp only [DZ]; omega)) only [RUN],(fun _ h=>absurd h (by omega)),Nat.le_refl _⟩ <;> simp (maxSteps:=2000000) (disch:=first | omega | assumption | (simp only [DS,Nat.reduceAdd, *]; done) | (simp only [DZ]; omega)) only [RUN,reduceIte,Nat.reduceEqDiff,h0,hmn]
     all_goals first | rfl | assumption | done
    ·rintro n t N hlt ⟨i,rfl,hi,g0,g3,g40,g41,w,g,hj,sz⟩
     simp only [ht] at hlt ⊢
     have lg:=Mem.get_lt g
     by_cases hc : i < m
     ·have q1 : decide ((i : Int) < m) = true:=decide_eq_true (by omega)
      have w1 : IntKind.i64.wrap ((i : Int) + 1) = ((i + 1 : Nat) : Int):=by rw [wrap_i64] <;> omega
      have iai:=ia i hc
      have hwi:=hwh (x.sp.at (i : Nat))
      cases hwl : zBA l (x.sp.at (i : Nat)) with
      | some p =>
       have e2 : putE l x = 2:=by rw [hiE,if_pos ⟨i,by omega,by rw [hwl]; simp⟩]
       have er : insR l x = []:=by unfold insR; rw [e2]; rfl
       rw [hwl] at hwi
       have qp : decide ((0 : Int) ≤ ((p.1 : Nat) : Int)) = true:=decide_eq_true (by omega)
       rw [e2,er]
       simp (maxSteps:=2000000) (disch:=first | omega | assumption | (simp only [DS,Nat.reduceAdd, *]; done) | (simp only [DZ]; omega)) only [RUN,RU,zA2,zA1,zA0,zAA,frzL,slot,lay,reduceIte,Nat.reduceEqDiff,Nat.reduceAdd,g0,g3,g40,g41,q1,iai,g,hwi,wN,wK,qp]
       exact ⟨NIL,.inl ⟨rfl,rfl⟩,rfl⟩
      | none =>
       rw [hwl] at hwi
       simp (maxSteps:=2000000) (disch:=first | omega | assumption | (simp only [DS,Nat.reduceAdd, *]; done) | (simp only [DZ]; omega)) only [RUN,RU,zA2,zA1,slot,lay,reduceIte,Nat.reduceEqDiff,Nat.reduceAdd,Nat.reduceLeDiff,Int.reduceLE,g0,g3,g40,g41,q1,iai,g,w,hwi,wN,wK,w1]
       refine ⟨hlt,m - (i + 1),by omega,i + 1,rfl,by omega,rfl,fun j hj'=>?_,by omega⟩
       rcases Nat.lt_succ_iff_lt_or_eq.1 hj' with h | rfl
       ·exact hj j h
       ·exact hwl
     ·obtain rfl : i = m:=by omega
      have q1 : decide ((i : Int) < i) = false:=decide_eq_false (by omega)
      have hno : ¬∃ j : Nat,(j : Int) < x.sp.n ∧ zBA l (x.sp.at j) ≠ none:=fun ⟨j,h1,h2⟩=>h2 (hj j (by omega))
      rw [if_neg hno] at hiE
      have hct:=fun M=>@zHZ fuel (d + 9) a l hS hok.1 (by omega) (by omega) M
      have hcl:=zEO hok.1
      have w2 : IntKind.i64.wrap (zB3 l + x.sp.n) = zB3 l + x.sp.n:=by rw [wrap_i64] <;> omega
      by_cases h4 : 8192 < zB3 l + x.sp.n
      ·have e4 : putE l x = 4:=by rw [hiE,if_pos h4]
       have er : insR l x = []:=by unfold insR; rw [e4]; rfl
       have q4 : decide (8192 < zB3 l + x.sp.n) = true:=decide_eq_true h4
       rw [e4,er]
       simp (maxSteps:=2000000) (disch:=first | omega | assumption | (simp only [DS,Nat.reduceAdd, *]; done) | (simp only [DZ]; omega)) only [RUN,RU,zA2,zA1,zA0,zAA,frzL,reduceIte,Nat.reduceEqDiff,Nat.reduceBEq,Nat.reduceAdd,g0,g3,g40,g41,g,hct,w2,q4]
       exact ⟨NIL,.inl ⟨rfl,rfl⟩,rfl⟩
      ·have e0 : putE l x = 0:=by rw [hiE,if_neg h4]
       have er : insR l x = insL l x:=by unfold insR; rw [if_pos e0]
       have q4 : decide (8192 < zB3 l + x.sp.n) = false:=decide_eq_false h4
       obtain ⟨r',hr',hpart⟩:=zMK (fuel:=fuel) (d:=d + 2) hS hok.1 hx6 (by omega) (by omega)
       obtain ⟨p1,p2,p3,p4⟩:=zO3 hok.1 hx6
       have hpl:=zL2 l x.af
       have hsk:=zUR (x:=x.sp.f) p1
       have hss:=fun h=>@zMW (zB5 l x.af).1 x.sp.f (zB5 l x.af).2 h
       have hmt:=fun D hD i=>@zPK (zB5 l x.af).1 x (zB5 l x.af).2 D hD i
       have eL : insL l x = zBN ((zB5 l x.af).1.take (zF9 (zB5 l x.af).1 x.sp.f (zB5 l x.af).2) ++ [x] ++ (zB5 l x.af).1.drop (zF9 (zB5 l x.af).1 x.sp.f (zB5 l x.af).2)):=rfl
       unfold zF9 at hsk hss eL
       rw [e0,er,eL]
       generalize hD : ((zB5 l x.af).1.drop (zB5 l x.af).2).takeWhile (fun q=>x.sp.f.less q.sp.f) = D at *
       have hmt:=fun i=>hmt D rfl (i:=i)
       generalize (zB5 l x.af).1 = l' at *
       generalize (zB5 l x.af).2 = n0 at *
       have or':=hr'.one
       have lr':=hr'.len
       simp (maxSteps:=2000000) (disch:=first | omega | assumption | (simp only [DS,Nat.reduceAdd, *]; done) | (simp only [DZ]; omega)) only [RUN,RU,zA2,zA1,slot,reduceIte,Nat.reduceEqDiff,Nat.reduceBEq,Nat.reduceAdd,g0,g3,g40,g41,g,hct,w2,q4,hpart]
       refine zBF (I:=fun n2 t2 N2 => ∃ (i2 : Nat),n2 = l'.length - n0 - i2 ∧ i2 ≤ l'.length - n0 ∧ nth zA6 t2 0 = r' ∧ nth zA6 t2 3 = .ptr 0 0 ∧ nth zA6 t2 14 = I64 ((n0 + i2 : Nat) : Int) ∧ Wf N2 ∧ N2.size ≤ 70 ∧ N2.get 0 = some (.row false (rnR x ra)) ∧ i2 ≤ D.length) (n:=l'.length - n0) (by omega) ?_ ?_
       ·refine ⟨0,rfl,Nat.zero_le _, ?_, ?_, ?_,w,by omega,g,Nat.zero_le _⟩ <;> simp (maxSteps:=2000000) (disch:=first | omega | assumption | (simp only [DS,Nat.reduceAdd, *]; done) | (simp only [DZ]; omega)) only [RUN,RU,reduceIte,Nat.reduceEqDiff,g0,g3]
        all_goals first | rfl | assumption | done
       ·rintro n2 t2 N2 hlt2 ⟨i2,rfl,hi2,g20,g23,g214,wf2,sz2,gg,hi2⟩
        simp only [hlt] at hlt2 ⊢
        have lgg:=Mem.get_lt gg
        by_cases hc2 : n0 + i2 < l'.length
        ·have q2 : decide (((n0 + i2 : Nat) : Int) < l'.length) = true:=decide_eq_true (by omega)
         have w3 : IntKind.i64.wrap (((n0 + i2 : Nat) : Int) + 1) = ((n0 + (i2 + 1) : Nat) : Int):=by rw [wrap_i64] <;> omega
         obtain ⟨r2,hiad2,hre,hrl2⟩:=hr'.iad (n0 + i2) hc2
         by_cases hd2 : i2 < D.length
         ·have hlt3:=(hmt i2 hd2 hc2).1
          generalize l'[n0 + i2] = e2 at *
          obtain ⟨rb,rfl,hrb,_⟩:=hre
          have orb:=hrb.one
          have hls:=fun M=>@zF4 fuel (d + 8) x.sp.f e2.sp.f M
          rw [hlt3] at hls
          simp (maxSteps:=2000000) (disch:=first | omega | assumption | (simp only [DS,Nat.reduceAdd, *]; done) | (simp only [DZ]; omega)) only [RUN,RU,zA2,zA1,slot,reduceIte,Nat.reduceEqDiff,Nat.reduceBEq,Nat.reduceAdd,g20,g23,g214,q2,lr',hiad2,gg,wf2,hls,w3]
          exact ⟨hlt2,l'.length - n0 - (i2 + 1),by omega,i2 + 1,rfl,by omega,rfl,by omega⟩
         ·obtain rfl : i2 = D.length:=by omega
          have hlt3:=hss hc2
          generalize l'[n0 + D.length] = e2 at *
          obtain ⟨rb,rfl,hrb,_⟩:=hre
          have orb:=hrb.one
          have hls:=fun M=>@zF4 fuel (d + 8) x.sp.f e2.sp.f M
          rw [hlt3] at hls
          simp (maxSteps:=2000000) (disch:=first | omega | assumption | (simp only [DS,Nat.reduceAdd, *]; done) | (simp only [DZ]; omega)) only [RUN,RU,zA2,slot,reduceIte,Nat.reduceEqDiff,Nat.reduceBEq,Nat.reduceAdd,g20,g23,g214,q2,lr',hiad2,gg,hls]
          refine zK6 zD4.cel tf67 Tryz.underlying63 hr' (by omega) (by omega) (by simp (maxSteps:=2000000) (disch:=first | omega | assumption | (simp only [DS,Nat.reduceAdd, *]; done) | (simp only [DZ]; omega)) only [RUN,wf2]) fun o3 M3 wf3 le3 kp3 sn3 nr3 wm3 di3 sz3=>?_
          have hd3 : M3.dirty = false:=di3
          have z0 : M3.get 0 = some (.row false (rnR x ra)):=(kp3 0 lgg).trans gg
          have lz0:=Mem.get_lt z0
          have sm3:=sn3.slm
          have on3:=sm3.one
          have oc3:=sm3.cells
          have rl3:=zAT sm3.rl (Nat.le_refl M3.size)
          have rl3':=zAT sm3.rl (Nat.le_succ M3.size)
          simp (maxSteps:=2000000) (disch:=first | omega | assumption | (simp only [DS,Nat.reduceAdd, *]; done) | (simp only [DZ]; omega)) only [RUN,RU,zA2,slot,lay,zAI,zAB,reduceIte,Nat.reduceEqDiff,Nat.reduceBEq,Nat.reduceAdd,g23,g214,hd3,z0,zYN,zCF]
          have sz3' : M3.size ≤ N2.size + 2:=sz3
          have hb0 : Nat.ble N2.size 0 = false:=by
           cases hb : Nat.ble N2.size 0 with
           | false=>rfl
           | true=>have:=Nat.le_of_ble_eq_true hb; omega
          refine ⟨by simp [zBZ,FP.apart,FP.reads,FP.writes,hb0],by simp [zBZ,FP.apart,FP.reads,FP.writes], ?_⟩
          have eX : ((N2.bk M3).add (.row false (rnR x ra))).lo = (⟨M3.t,M3.size,M3.size + 1,false⟩ : Mem).add (.row false (rnR x ra)):=rfl
          show W3 (insO _ (((N2.bk M3).add (.row false (rnR x ra))).lo) 66 10 80 o3 (I64 ((n0 + D.length : Nat) : Int)) (.sl M3.size 0 1 (some 1) 10)) _
          rw [eX]
          have wX : Wf (⟨M3.t,M3.size,M3.size + 1,false⟩ : Mem):=wf3
          have sX : (⟨M3.t,M3.size,M3.size + 1,false⟩ : Mem).size = M3.size:=rfl
          have snX : SlN (⟨M3.t,M3.size,M3.size + 1,false⟩ : Mem) 10 isRn o3 l':=sn3
          generalize (⟨M3.t,M3.size,M3.size + 1,false⟩ : Mem) = X3 at *
          have key : W3 (insO (zAE Tryz.prog (fsT tbl) fuel (d + 10)) (X3.add (.row false (rnR x ra))) 66 10 80 o3 (I64 ((n0 + D.length : Nat) : Int)) (.sl M3.size 0 1 (some 1) 10)) (fun o4 M4=>SlM M4 10 isRn o4 (l'.take (n0 + D.length) ++ [x] ++ l'.drop (n0 + D.length)) ∧ Wf M4):=by
           rw [← sX]
           by_cases hz : l' = []
           ·subst hz
            have e0 : n0 + D.length = 0:=by simp only [List.length_nil] at hsk; omega
            rw [e0]
            have hc0 : ((0 : Nat) : Int) = 0:=rfl
            rw [hc0]
            have h0' : W3 (zAE Tryz.prog (fsT tbl) fuel (d + 10) (.fn 66) [o3,I64 0,.sl X3.size 0 1 (some 1) 10] (X3.add (.row false (rnR x ra)))) (fun o4 M4=>SlM M4 10 isRn o4 [x] ∧ Wf M4):=zPC (d:=d + 9) wX snX ⟨ra,rfl,hR,hx⟩ rfl (fun o' M' a b _ _ _ _=>⟨a,b⟩)
            have e1 : insO (zAE Tryz.prog (fsT tbl) fuel (d + 10)) (X3.add (.row false (rnR x ra))) 66 10 80 o3 (I64 0) (.sl X3.size 0 1 (some 1) 10) = zAE Tryz.prog (fsT tbl) fuel (d + 10) (.fn 66) [o3,I64 0,.sl X3.size 0 1 (some 1) 10] (X3.add (.row false (rnR x ra))):=by
             rcases snX with ⟨_,rfl | ⟨id,rfl,_⟩⟩ | ⟨hn,_⟩
             ·exact zKQ ..
             ·exact zKP ..
             ·exact absurd rfl hn
            rw [e1]
            exact h0'
           ·exact snX.ins (bytes:=80) (g:=66) wX hz zD4.cel ⟨ra,rfl,hR,hx⟩ rfl (by omega) (by omega) (by omega) (by omega) (by omega) fun o' M' a b _ _ _=>⟨a,b⟩
          obtain ⟨o4,M4,he4,sm4,wf4⟩:=key
          rw [he4]
          clear he4 eX hmt hss snX sn3 sm3 kp3 hno hwh hwa hck hcx hcl ia hj hpart hct
          have on4:=sm4.one
          have oc4:=sm4.cells
          have rl4:=zAT sm4.rl (Nat.le_refl M4.size)
          simp (maxSteps:=2000000) (disch:=first | omega | assumption | (simp only [DS,Nat.reduceAdd, *]; done) | (simp only [DZ]; omega)) only [RUN,RU,zA2,reduceIte,Nat.reduceEqDiff,Nat.reduceAdd]
          refine zLH (n:=d + 9) (R:=fun r=>Sl 10 isRn r (zBN (l'.take (n0 + D.length) ++ [x] ++ l'.drop (n0 + D.length)))) tf65 rfl (sm4.keep fun _ _=>rfl) (show Wf _ from wf4) zD4 (fun a' ha'=>?_) fun r X' hr wX' sX' kX'=>?_
          ·refine zG7 (d:=d + 1) ha' (by simp only [List.length_append,List.length_take,List.length_drop,List.length_singleton]; omega) (fun q hq=>?_) (by simp only [List.length_append,List.length_take,List.length_drop,List.length_singleton]; omega)
           have hq64 : q.rs.length ≤ 64:=by
            rcases List.mem_append.1 hq with hq | hq
            ·rcases List.mem_append.1 hq with hq | hq
             ·exact zFC p2 q (List.mem_of_mem_take hq)
             ·rw [List.mem_singleton] at hq; subst hq
              exact (Rn.may_iff.1 hxm).2.2.2.1
            ·exact zFC p2 q (List.mem_of_mem_drop hq)
           omega
          ·have orr:=hr.one
           simp (maxSteps:=2000000) (disch:=first | omega | assumption | (simp only [DS,Nat.reduceAdd, *]; done) | (simp only [DZ]; omega)) only [RUN,RU,zA2,zA0,zAA,frzL,reduceIte,Nat.reduceEqDiff,Nat.reduceAdd,hr.fz.frz,zCF]
           exact ⟨r,hr,rfl⟩
        ·obtain rfl : i2 = D.length:=by omega
         have q2 : decide (((n0 + D.length : Nat) : Int) < l'.length) = false:=decide_eq_false (by omega)
         simp (maxSteps:=2000000) (disch:=first | omega | assumption | (simp only [DS,Nat.reduceAdd, *]; done) | (simp only [DZ]; omega)) only [RUN,RU,zA2,reduceIte,Nat.reduceEqDiff,Nat.reduceBEq,Nat.reduceAdd,g20,g214,q2,lr']
         refine zK6 zD4.cel tf67 Tryz.underlying63 hr' (by omega) (by omega) (by simp (maxSteps:=2000000) (disch:=first | omega | assumption | (simp only [DS,Nat.reduceAdd, *]; done) | (simp only [DZ]; omega)) only [RUN,wf2]) fun o3 M3 wf3 le3 kp3 sn3 nr3 wm3 di3 sz3=>?_
         have hd3 : M3.dirty = false:=di3
         have z0 : M3.get 0 = some (.row false (rnR x ra)):=(kp3 0 lgg).trans gg
         have lz0:=Mem.get_lt z0
         have sm3:=sn3.slm
         have on3:=sm3.one
         have oc3:=sm3.cells
         have rl3:=zAT sm3.rl (Nat.le_refl M3.size)
         have rl3':=zAT sm3.rl (Nat.le_succ M3.size)
         simp (maxSteps:=2000000) (disch:=first | omega | assumption | (simp only [DS,Nat.reduceAdd, *]; done) | (simp only [DZ]; omega)) only [RUN,RU,zA2,slot,lay,zAI,zAB,reduceIte,Nat.reduceEqDiff,Nat.reduceBEq,Nat.reduceAdd,g23,g214,hd3,z0,zYN,zCF]
         have sz3' : M3.size ≤ N2.size + 2:=sz3
         have hb0 : Nat.ble N2.size 0 = false:=by
          cases hb : Nat.ble N2.size 0 with
          | false=>rfl
          | true=>have:=Nat.le_of_ble_eq_true hb; omega
         refine ⟨by simp [zBZ,FP.apart,FP.reads,FP.writes,hb0],by simp [zBZ,FP.apart,FP.reads,FP.writes], ?_⟩
         have eX : ((N2.bk M3).add (.row false (rnR x ra))).lo = (⟨M3.t,M3.size,M3.size + 1,false⟩ : Mem).add (.row false (rnR x ra)):=rfl
         show W3 (insO _ (((N2.bk M3).add (.row false (rnR x ra))).lo) 66 10 80 o3 (I64 ((n0 + D.length : Nat) : Int)) (.sl M3.size 0 1 (some 1) 10)) _
         rw [eX]
         have wX : Wf (⟨M3.t,M3.size,M3.size + 1,false⟩ : Mem):=wf3
         have sX : (⟨M3.t,M3.size,M3.size + 1,false⟩ : Mem).size = M3.size:=rfl
         have snX : SlN (⟨M3.t,M3.size,M3.size + 1,false⟩ : Mem) 10 isRn o3 l':=sn3
         generalize (⟨M3.t,M3.size,M3.size + 1,false⟩ : Mem) = X3 at *
         have key : W3 (insO (zAE Tryz.prog (fsT tbl) fuel (d + 10)) (X3.add (.row false (rnR x ra))) 66 10 80 o3 (I64 ((n0 + D.length : Nat) : Int)) (.sl M3.size 0 1 (some 1) 10)) (fun o4 M4=>SlM M4 10 isRn o4 (l'.take (n0 + D.length) ++ [x] ++ l'.drop (n0 + D.length)) ∧ Wf M4):=by
          rw [← sX]
          by_cases hz : l' = []
          ·subst hz
           have e0 : n0 + D.length = 0:=by simp only [List.length_nil] at hsk; omega
           rw [e0]
           have hc0 : ((0 : Nat) : Int) = 0:=rfl
           rw [hc0]
           have h0' : W3 (zAE Tryz.prog (fsT tbl) fuel (d + 10) (.fn 66) [o3,I64 0,.sl X3.size 0 1 (some 1) 10] (X3.add (.row false (rnR x ra)))) (fun o4 M4=>SlM M4 10 isRn o4 [x] ∧ Wf M4):=zPC (d:=d + 9) wX snX ⟨ra,rfl,hR,hx⟩ rfl (fun o' M' a b _ _ _ _=>⟨a,b⟩)
           have e1 : insO (zAE Tryz.prog (fsT tbl) fuel (d + 10)) (X3.add (.row false (rnR x ra))) 66 10 80 o3 (I64 0) (.sl X3.size 0 1 (some 1) 10) = zAE Tryz.prog (fsT tbl) fuel (d + 10) (.fn 66) [o3,I64 0,.sl X3.size 0 1 (some 1) 10] (X3.add (.row false (rnR x ra))):=by
            rcases snX with ⟨_,rfl | ⟨id,rfl,_⟩⟩ | ⟨hn,_⟩
            ·exact zKQ ..
            ·exact zKP ..
            ·exact absurd rfl hn
           rw [e1]
           exact h0'
          ·exact snX.ins (bytes:=80) (g:=66) wX hz zD4.cel ⟨ra,rfl,hR,hx⟩ rfl (by omega) (by omega) (by omega) (by omega) (by omega) fun o' M' a b _ _ _=>⟨a,b⟩
         obtain ⟨o4,M4,he4,sm4,wf4⟩:=key
         rw [he4]
         clear he4 eX hmt hss snX sn3 sm3 kp3 hno hwh hwa hck hcx hcl ia hj hpart hct
         have on4:=sm4.one
         have oc4:=sm4.cells
         have rl4:=zAT sm4.rl (Nat.le_refl M4.size)
         simp (maxSteps:=2000000) (disch:=first | omega | assumption | (simp only [DS,Nat.reduceAdd, *]; done) | (simp only [DZ]; omega)) only [RUN,RU,zA2,reduceIte,Nat.reduceEqDiff,Nat.reduceAdd]
         refine zLH (n:=d + 9) (R:=fun r=>Sl 10 isRn r (zBN (l'.take (n0 + D.length) ++ [x] ++ l'.drop (n0 + D.length)))) tf65 rfl (sm4.keep fun _ _=>rfl) (show Wf _ from wf4) zD4 (fun a' ha'=>?_) fun r X' hr wX' sX' kX'=>?_
         ·refine zG7 (d:=d + 1) ha' (by simp only [List.length_append,List.length_take,List.length_drop,List.length_singleton]; omega) (fun q hq=>?_) (by simp only [List.length_append,List.length_take,List.length_drop,List.length_singleton]; omega)
          have hq64 : q.rs.length ≤ 64:=by
           rcases List.mem_append.1 hq with hq | hq
           ·rcases List.mem_append.1 hq with hq | hq
            ·exact zFC p2 q (List.mem_of_mem_take hq)
            ·rw [List.mem_singleton] at hq; subst hq
             exact (Rn.may_iff.1 hxm).2.2.2.1
           ·exact zFC p2 q (List.mem_of_mem_drop hq)
          omega
         ·have orr:=hr.one
          simp (maxSteps:=2000000) (disch:=first | omega | assumption | (simp only [DS,Nat.reduceAdd, *]; done) | (simp only [DZ]; omega)) only [RUN,RU,zA2,zA0,zAA,frzL,reduceIte,Nat.reduceEqDiff,Nat.reduceAdd,hr.fz.frz,zCF]
          exact ⟨r,hr,rfl⟩
 ·have e8 : putE l x = 8:=by rw [hiE,if_neg h8]
  have er : insR l x = []:=by unfold insR; rw [e8]; rfl
  have hz : imax (err (zFA l)) (err x.may) = 8:=by
   cases ma : zFA l <;> cases mb : x.may <;> first | rfl | exact absurd ⟨ma,mb⟩ h8
  rw [e8,er]
  simp (maxSteps:=2000000) (disch:=first | omega | assumption | (simp only [DS,Nat.reduceAdd, *]; done) | (simp only [DZ]; omega)) only [RUN,RU,zA2,zA1,zA0,zAA,frzL,slot,reduceIte,Nat.reduceEqDiff,Nat.reduceBEq,Nat.reduceAdd,Int.reduceEq,h0,h1,hck,hcx,hz,zBX,BMM]
  exact ⟨NIL,.inl ⟨rfl,rfl⟩,rfl⟩
end Go.Proofs.YtebloodpblgncaaGreat
namespace Go.Proofs.YtebloodpblgncaaGreat
open Go Go.Ax
variable {fuel : Nat} {M : Mem} {Q : AV → Mem → Prop} {d : Nat} {l : List Op} {a : AV}
theorem zGG (l : List Op) : (textOf l).length ≤ 3 * l.length:=by
 refine zCT (P:=fun l=>(textOf l).length ≤ 3 * l.length) (Nat.le_refl _) (fun l o ih=>?_) l
 rw [zEG]
 unfold stepT
 split
 ·have:=zWT (textOf l) o.rn
  simp only [List.length_append,List.length_singleton]
  omega
 ·simp only [List.length_append,List.length_singleton]
  omega
def zfD (l : List Op) (r : AV) : Prop:=∃ r1,r = .tup [r1,I64 (err (zAR [] l))] ∧ Sl 10 isRn r1 (if zAR [] l = true then textOf l else [])
theorem zf6 {o : Op} (h : o.ok) : o.rn.ok:=⟨h.2.2.2.1,h.2.2.2.2.1,h.2.2.2.2.2.2⟩
set_option maxHeartbeats 8000000 in
theorem zQ8 (hS : Sl 17 isOp a l) (hl : l.length ≤ 200) (hf : 3080000 < fuel) : ∃ r,zfD l r ∧ ∀ M,zAE Tryz.prog (fsT tbl) fuel (d + 15) (.fn 20) [a] M = some (r,M):=by
 have ll:=hS.len
 have hck:=fun M=>zDJ (fuel:=fuel) (d:=d) hS (by omega) (by omega) M
 refine zF8 tf20 rfl (fun M=>by simp only [icyL,fun M=>hS.icy M 12 (by omega)]) ?_
 refine zAJ tf20 rfl (by simp only [icyL,fun M=>hS.icy M 12 (by omega)]) (by simp [a20]) fun b' ht hx=>?_
 have h0:=hx 0 _ rfl
 clear hx
 simp only [a20,c20,zz1,zz5,zzm] at ht ⊢
 unfold zfD
 cases q1 : zAR [] l with
 | false =>
  rw [q1] at hck
  simp (maxSteps:=2000000) (disch:=first | omega | assumption | (simp only [DS,Nat.reduceAdd, *]; done) | (simp only [DZ]; omega)) only [RUN,RU,zA2,zA1,zA0,zAA,frzL,reduceIte,Nat.reduceEqDiff,Int.reduceEq,h0,hck,zBE]
  exact ⟨_,⟨NIL,rfl,.inl ⟨rfl,rfl⟩⟩,rfl⟩
 | true =>
  rw [q1] at hck
  simp only [if_true]
  simp (maxSteps:=2000000) (disch:=first | omega | assumption | (simp only [DS,Nat.reduceAdd, *]; done) | (simp only [DZ]; omega)) only [RUN,RU,zA2,zA1,reduceIte,Nat.reduceEqDiff,h0,hck,zAV,ll]
  refine zBF (I:=fun n t N => ∃ (i : Nat) (r : AV),n = l.length - i ∧ i ≤ l.length ∧ nth zA6 t 2 = r ∧ nth zA6 t 14 = a ∧ nth zA6 t 15 = I64 l.length ∧ nth zA6 t 16 = I64 i ∧ Wf N ∧ Sl 10 isRn r (textOf (l.take i))) (n:=l.length) (by omega) ?_ ?_
  ·refine ⟨0,NIL,rfl,Nat.zero_le _, ?_, ?_, ?_, ?_,Wf.mem0,.inl ⟨rfl,rfl⟩⟩ <;> simp (maxSteps:=2000000) (disch:=first | omega | assumption | (simp only [DS,Nat.reduceAdd, *]; done) | (simp only [DZ]; omega)) only [RUN,reduceIte,Nat.reduceEqDiff]
   all_goals first | rfl | assumption | done
  ·rintro n t N hlt ⟨i,r,rfl,hi,g2,g14,g15,g16,w,hA⟩
   simp only [ht] at hlt ⊢
   have or':=hA.one
   by_cases hc : i < l.length
   ·have q3 : decide ((i : Int) < l.length) = true:=decide_eq_true (by omega)
    have w1 : IntKind.i64.wrap ((i : Int) + 1) = ((i + 1 : Nat) : Int):=by rw [wrap_i64] <;> omega
    obtain ⟨r0,hiad,hr,hrl⟩:=hS.iad i hc
    have hts:=zEG (l.take i) l[i]
    rw [← take_snoc l i hc] at hts
    have htl:=zGG (l.take i)
    rw [List.length_take] at htl
    have hsp : l.take i ++ l[i] :: l.drop (i + 1) = l:=by rw [← List.drop_eq_getElem_cons hc,List.take_append_drop]
    have hput : rofE l[i] = 0 → putE (textOf (l.take i)) l[i].rn = 0:=zWQ (m:=l.drop (i + 1)) (by rw [hsp]; exact q1)
    clear hsp
    generalize l[i] = e at *
    obtain ⟨ra,rfl,hra,hok⟩:=hr
    have ora:=hra.one
    obtain ⟨rr,hk,hof⟩:=zMT (fuel:=fuel) (d:=d + 6) hra hok (by omega)
    by_cases q4 : rofE e = 0
    ·have q4' : decide (rofE e = 0) = true:=decide_eq_true q4
     unfold rofK at hk
     rw [if_pos q4] at hk
     obtain ⟨rb,rfl,hrb⟩:=hk
     have orb:=hrb.one
     obtain ⟨r2,hr2,hins⟩:=zR2 (fuel:=fuel) (d:=d + 3) (x:=e.rn) hA hrb (zf6 hok) (by omega) (by omega)
     have or2:=hr2.one
     rw [hput q4] at hins
     unfold insR at hr2
     rw [if_pos (hput q4)] at hr2
     unfold stepT at hts
     rw [if_pos q4] at hts
     simp (maxSteps:=2000000) (disch:=first | omega | assumption | (simp only [DS,Nat.reduceAdd, *]; done) | (simp only [DZ]; omega)) only [RUN,RU,zA2,zA1,slot,lay,reduceIte,Nat.reduceEqDiff,Nat.reduceAdd,g2,g14,g15,g16,q3,hiad,hof,hins,w,w1]
     exact ⟨hlt,l.length - (i + 1),by omega,i + 1,r2,rfl,by omega,rfl,rfl,by rw [hts]; exact hr2⟩
    ·have q4' : decide (rofE e = 0) = false:=decide_eq_false q4
     unfold rofK at hk
     rw [if_neg q4] at hk
     subst hk
     unfold stepT at hts
     rw [if_neg q4] at hts
     unfold rnZ at hof
     simp (maxSteps:=2000000) (disch:=first | omega | assumption | (simp only [DS,Nat.reduceAdd, *]; done) | (simp only [DZ]; omega)) only [RUN,RU,zA2,zA1,slot,lay,reduceIte,Nat.reduceEqDiff,Nat.reduceAdd,g2,g14,g15,g16,q3,hiad,hof,q4',w,w1]
     exact ⟨hlt,l.length - (i + 1),by omega,i + 1,r,rfl,by omega,rfl,rfl,by rw [hts]; exact hA⟩
   ·obtain rfl : i = l.length:=by omega
    have q3 : decide ((l.length : Int) < l.length) = false:=decide_eq_false (by omega)
    rw [List.take_length] at hA
    simp (maxSteps:=2000000) (disch:=first | omega | assumption | (simp only [DS,Nat.reduceAdd, *]; done) | (simp only [DZ]; omega)) only [RUN,RU,zA2,zA1,zA0,zAA,frzL,reduceIte,Nat.reduceEqDiff,g2,g15,g16,hA.fz.frz]
    exact ⟨_,⟨r,rfl,hA⟩,rfl⟩
theorem zeP (hS : Sl 17 isOp a l) : ∀ p ∈ l,p.ok:=by
 rcases hS with ⟨_,rfl⟩ | ⟨rows,cap,_,hA,_⟩
 ·intro p hp; cases hp
 ·intro p hp
  obtain ⟨i,hi,rfl⟩:=List.getElem_of_mem hp
  have hr : i < rows.length:=by rw [hA.length_eq]; exact hi
  obtain ⟨_,_,_,h⟩:=hA.get hr hi
  exact h
end Go.Proofs.YtebloodpblgncaaGreat
namespace Go.Ax
open Go
variable {α : Type} {M N : Mem} {st : Nat} {T : List AV → α → Prop} {v o : AV} {l : List α}
def SlR (M : Mem) (st : Nat) (T : List AV → α → Prop) (v : AV) (l : List α) : Prop :=
 (v = NIL ∧ l = []) ∨ ∃ (id : Nat) (rows : List (List AV)) (cap : Option Nat),v = .sl id 0 rows.length cap st ∧ M.rd id = some rows.flatten ∧ All2 T rows l ∧ ∀ r ∈ rows,r.length = st
theorem SlR.of (h : SlM M st T v l) : SlR M st T v l:=by
 rcases h with h | ⟨id,rows,cap,rfl,_,hg,hA,hr⟩
 ·exact .inl h
 ·exact .inr ⟨id,rows,cap,rfl,zBO hg,hA,hr⟩
theorem SlR.keep (h : SlR M st T v l) (k : ∀ j,N.rd j = M.rd j) : SlR N st T v l:=by
 rcases h with h | ⟨id,rows,cap,h1,h2,h3,h4⟩
 ·exact .inl h
 ·exact .inr ⟨id,rows,cap,h1,(k id).trans h2,h3,h4⟩
theorem SlR.icyk (h : SlR M st T v l) (wf : Wf M) (hT : FzT T) {k : Nat} (hk : 1 < k) : ∃ v' M',Go.Ax.icy k M v = some (v',M') ∧ Sl st T v' l ∧ Wf M' ∧ M'.size = M.size ∧ (∀ j,M'.rd j = M.rd j) ∧ ∀ j,rowOf v ≠ some j → M'.get j = M.get j:=by
 obtain ⟨k,rfl⟩ : ∃ j,k = j + 1:=⟨k - 1,by omega⟩
 rcases h with ⟨rfl,rfl⟩ | ⟨id,rows,cap,rfl,hg,hA,hr⟩
 ·exact ⟨NIL,M,rfl,.inl ⟨rfl,rfl⟩,wf,rfl,fun _=>rfl,fun _ _=>rfl⟩
 ·have hfl:=zAL hr
  have hcs : ∀ N,icyL (Go.Ax.icy k) N rows.flatten = some (rows.flatten,N):=zCY (by omega) fun x hx N=>hT.celI.flat hA x hx N k (by omega)
  have hble : Nat.ble (0 + rows.length * st) rows.flatten.length = true:=zBI (by omega)
  have hsl : slot rows.flatten 0 (rows.length * st) = rows.flatten:=zBU _ _ hfl.symm
  have hrd:=hg
  rw [zE4] at hrd
  cases ho : M.get id with
  | none=>rw [ho] at hrd; cases hrd
  | some x =>
   rw [ho] at hrd
   cases x with
   | row b ds =>
    have e : ds = rows.flatten:=by simpa [rd1] using hrd
    subst e
    exact ⟨_,M.upd id (.fro rows.flatten),by simp only [Go.Ax.icy,hg,hble,hcs,ho,zB6 wf (Mem.get_lt ho),hsl],.inr ⟨rows,cap,rfl,hA,hr⟩,wf.upd _ _,rfl,NK.rd_fro wf ho,fun j hj=>zA4 wf _ _ _ (fun e=>hj (by rw [e]; rfl))⟩
   | fro ds=>exact ⟨_,M,by simp only [Go.Ax.icy,hg,hble,hcs,ho,hsl],.inr ⟨rows,cap,rfl,hA,hr⟩,wf,rfl,fun _=>rfl,fun _ _=>rfl⟩
   | _=>simp [rd1] at hrd
theorem SlR.hand {P : Program} {fs : Nat → Option AFunc} {fuel f n : Nat} {af : AFunc} {rest : List AV} {R : AV → Prop} {Q : AV → Mem → Prop} (h : fs f = some af) (hg : af.gc = 1) (hN : SlR M st T o l) (wf : Wf M) (hT : FzT T) (hr : ∀ M,icyL (Go.Ax.icy 12) M rest = some (rest,M)) (hc : ∀ o',Sl st T o' l → ∃ r,R r ∧ ∀ M,zAE P fs fuel (n + 1) (.fn f) (o' :: rest) M = some (r,M))
  (k : ∀ r M',R r → Wf M' → M'.size = M.size → SlR M' st T o l → (∀ j,rowOf o ≠ some j → M'.get j = M.get j) → Q r M') : W3 (zAE P fs fuel (n + 1) (.fn f) (o :: rest) M) Q:=by
 obtain ⟨o',M',i1,s1,w1,z1,r1,g1⟩:=hN.icyk wf hT (k:=12) (by omega)
 obtain ⟨r,hR,hcall⟩:=hc o' s1
 refine ⟨r,M',zD2 (bs:=o' :: rest) h hg (hcall mem0) (M3:=mem0) ?_ ?_,k r M' hR w1 z1 (hN.keep r1) g1⟩
 ·simp only [icyL,s1.icy mem0 12 (by omega),hr]
 ·simp only [icyL,i1,hr]
end Go.Ax
namespace Go.Proofs.YtebloodpblgncaaGreat
open Go Go.Ax
variable {fuel : Nat} {M : Mem} {Q : AV → Mem → Prop} {d : Nat} {l : List Op} {a : AV} {v : Lb}
theorem zTI (l : List Op) (v : Lb) : zI7 (lowL l v) v (zCG (elsR (textOf (lowL l v)))) = zBS l v:=by
 unfold zI7 zCG zBS
 rw [List.filter_map,List.map_map]
 rfl
theorem zQA {l : List Op} (h : zAR [] l = true) (v : Lb) : (zBS l v).length ≤ 192 * l.length:=by
 have hT:=zBV (zDA v h)
 have h1:=zG1 hT.ok.1
 have h2:=zGG (lowL l v)
 have h3:=zKW l v
 unfold zBS
 rw [List.length_map]
 exact Nat.le_trans (List.length_filter_le _ _) (by omega)
def zYT (l : List Op) (v : Lb) (r : AV) : Prop:=∃ r1,r = .tup [r1,I64 (zFO l v)] ∧ Sl 5 zEK r1 (if zFO l v = 0 then zBS l v else [])
theorem zPP (h : zFO l v = 0) : zAR [] l = true ∧ v.may = true:=by
 unfold zFO err at h
 cases h1 : zAR [] l <;> cases h2 : v.may <;> rw [h1,h2] at h <;> first | exact ⟨rfl,rfl⟩ | cases h
set_option maxHeartbeats 8000000 in
theorem zHW (hS : Sl 17 isOp a l) (hl : l.length ≤ 200) (hf : 3200000 < fuel) (hd : ∀ o ∈ l,o.rs.length ≤ 1000000000) : ∃ r,zYT l v r ∧ ∀ M,zAE Tryz.prog (fsT tbl) fuel (d + 18) (.fn 7) [a,lbA v] M = some (r,M):=by
 obtain ⟨ro,⟨r2,rfl,hr2⟩,hon⟩:=zXK (fuel:=fuel) (d:=d + 2) (v:=v) hS (by omega) (by omega) hd
 have or2:=hr2.one
 refine zF8 tf7 rfl (fun M=>by simp only [icyL,fun M=>hS.icy M 12 (by omega),zAY (zEJ v) (show 1 < 12 by omega)]) ?_
 refine zAJ tf7 rfl (by simp only [icyL,fun M=>hS.icy M 12 (by omega),zAY (zEJ v) (show 1 < 12 by omega)]) (by simp [a7]) fun b' ht hx=>?_
 have h0:=hx 0 _ rfl
 have h1:=hx 1 _ rfl
 clear hx
 simp only [a7,c7,zzm] at ht ⊢
 unfold zYT
 by_cases q1 : zFO l v = 0
 ·rw [if_pos q1] at hr2
  obtain ⟨q2,q3⟩:=zPP q1
  have q4:=zDA v q2
  have hlow:=zKW l v
  obtain ⟨rt,⟨r3,rfl,hr3⟩,htx⟩:=zQ8 (fuel:=fuel) (d:=d + 2) hr2 (by omega) (by omega)
  rw [q4] at htx hr3
  simp only [if_true] at hr3
  have hT:=zBV q4
  have htl:=zGG (lowL l v)
  obtain ⟨r4,hr4,hal⟩:=zRU (fuel:=fuel) (d:=d + 9) hr3 hT.ok.1 (by omega) (by omega)
  have hel:=zG1 hT.ok.1
  rw [q1]
  rw [q1] at hon
  simp (maxSteps:=2000000) (disch:=first | omega | assumption | (simp only [DS,Nat.reduceAdd, *]; done) | (simp only [DZ]; omega)) only [RUN,RU,zA2,zA1,slot,lay,reduceIte,Nat.reduceEqDiff,Nat.reduceAdd,h0,h1,hon,htx,hal,zAV,hr2.fz.cells]
  refine zc5 (d:=d) (low:=lowL l v) (v:=v) hr4 (by rw [zDU]; omega) hr2 q4 (by omega) (by rw [zDU]; omega) ?_ ?_ ?_ ?_ fun o N wN leN kpN smN nwN wmN=>?_
  ·simp (maxSteps:=2000000) (disch:=first | omega | assumption | (simp only [DS,Nat.reduceAdd, *]; done) | (simp only [DZ]; omega)) only [RUN]
  ·exact Nat.zero_le _
  ·simp (maxSteps:=2000000) (disch:=first | omega | assumption | (simp only [DS,Nat.reduceAdd, *]; done) | (simp only [DZ]; omega)) only [RUN]
  ·simp (maxSteps:=2000000) (disch:=first | omega | assumption | (simp only [DS,Nat.reduceAdd, *]; done) | (simp only [DZ]; omega)) only [RUN]
  ·rw [zTI] at smN
   obtain ⟨ro,hz,hs⟩:=smN.frz zKH.cel (k:=12) (by omega)
   have oo:=smN.one
   simp (maxSteps:=2000000) (disch:=first | omega | assumption | (simp only [DS,Nat.reduceAdd, *]; done) | (simp only [DZ]; omega)) only [RUN,RU,zA2,zA1,zA0,zAA,frzL,reduceIte,Nat.reduceEqDiff,hz]
   exact ⟨_,⟨ro,rfl,by simpa using hs⟩,rfl⟩
 ·have q1':=decide_eq_false q1
  simp (maxSteps:=2000000) (disch:=first | omega | assumption | (simp only [DS,Nat.reduceAdd, *]; done) | (simp only [DZ]; omega)) only [RUN,RU,zA2,zA1,zA0,zAA,frzL,slot,lay,reduceIte,Nat.reduceEqDiff,Nat.reduceAdd,h0,h1,hon,q1',hr2.fz.cells]
  exact ⟨_,⟨NIL,rfl,by rw [if_neg q1]; exact .inl ⟨rfl,rfl⟩⟩,rfl⟩
end Go.Proofs.YtebloodpblgncaaGreat
namespace Go.Proofs.YtebloodpblgncaaGreat
open Go Go.Ax
variable {fuel : Nat} {M : Mem} {Q : AV → Mem → Prop} {d : Nat} {l : List Op} {a : AV} {v : Lb}
def zKU (l : List Op) (v : Lb) (k : Int) : Int:=if zFO l v = 0 then (if k < 0 ∨ ((zBS l v).length : Int) < k then 2 else 0) else zFO l v
def zDH (l : List Op) (v : Lb) (k : Int) : Eid:=if zKU l v k = 0 ∧ 0 < k then (((zBS l v)[(k - 1).toNat]?).map (·.id)).getD Eid.z else Eid.z
set_option maxHeartbeats 8000000 in
theorem zX4 {k : Int} (hS : Sl 17 isOp a l) (hl : l.length ≤ 200) (hf : 3200000 < fuel) (hd : ∀ o ∈ l,o.rs.length ≤ 1000000000) (M : Mem) : zAE Tryz.prog (fsT tbl) fuel (d + 19) (.fn 17) [a,lbA v,I64 k] M = some (.tup [idA (zDH l v k),I64 (zKU l v k)],M):=by
 obtain ⟨rc,⟨r2,rfl,hr2⟩,hce⟩:=zHW (fuel:=fuel) (d:=d) (v:=v) hS hl hf hd
 apply zBG
 refine zAJ tf17 rfl (by simp only [icyL,fun M=>hS.icy M 12 (by omega),zAY (zEJ v) (show 1 < 12 by omega),zJ6]) (by simp [a17]) fun b' ht hx=>?_
 have h0:=hx 0 _ rfl
 have h1:=hx 1 _ rfl
 have h2:=hx 2 _ rfl
 clear hx
 simp only [a17,c17,zz3,zzm] at ht ⊢
 unfold zDH zKU
 by_cases q1 : zFO l v = 0
 ·rw [q1] at hr2 hce
  simp only [if_true] at hr2
  have hvl:=zQA (zPP q1).1 v
  have lr2:=hr2.len
  by_cases q2 : k < 0
  ·have q2':=decide_eq_true q2
   simp only [q1,if_true,q2,true_or]
   simp (maxSteps:=2000000) (disch:=first | omega | assumption | (simp only [DS,Nat.reduceAdd, *]; done) | (simp only [DZ]; omega)) only [RUN,RU,zA2,zA1,zA0,zAA,frzL,slot,lay,zAI,reduceIte,Nat.reduceEqDiff,Nat.reduceAdd,Nat.reduceSub,Int.reduceEq,h0,h1,h2,hce,q2']
   rfl
  ·have q2':=decide_eq_false q2
   by_cases q3 : ((zBS l v).length : Int) < k
   ·have q3':=decide_eq_true q3
    simp only [q1,if_true,q3,or_true]
    simp (maxSteps:=2000000) (disch:=first | omega | assumption | (simp only [DS,Nat.reduceAdd, *]; done) | (simp only [DZ]; omega)) only [RUN,RU,zA2,zA1,zA0,zAA,frzL,slot,lay,zAI,reduceIte,Nat.reduceEqDiff,Nat.reduceAdd,Nat.reduceSub,Int.reduceEq,h0,h1,h2,hce,q2',q3',lr2]
    rfl
   ·have q3':=decide_eq_false q3
    have q4 : ¬(k < 0 ∨ ((zBS l v).length : Int) < k):=by omega
    simp only [q1,if_true,q4,if_false,true_and]
    by_cases q5 : k = 0
    ·subst q5
     simp (maxSteps:=2000000) (disch:=first | omega | assumption | (simp only [DS,Nat.reduceAdd, *]; done) | (simp only [DZ]; omega)) only [RUN,RU,zA2,zA1,zA0,zAA,frzL,slot,lay,zAI,reduceIte,Nat.reduceEqDiff,Nat.reduceAdd,Nat.reduceSub,Int.reduceSub,h0,h1,h2,hce,q3',lr2]
    ·have q5':=decide_eq_false q5
     have q6 : 0 < k:=by omega
     obtain ⟨m,rfl⟩ : ∃ m : Nat,k = (m : Int) + 1:=⟨(k - 1).toNat,by omega⟩
     have hm : m < (zBS l v).length:=by omega
     have w1 : IntKind.i64.wrap ((m : Int) + 1 - 1) = (m : Int):=by rw [wrap_i64] <;> omega
     obtain ⟨r,hiad,⟨rfl,hok⟩,hrl⟩:=hr2.iad m hm
     have e : (((zBS l v)[((m : Int) + 1 - 1).toNat]?).map (·.id)).getD Eid.z = (zBS l v)[m].id:=by
      rw [show ((m : Int) + 1 - 1).toNat = m by omega,List.getElem?_eq_getElem hm]
      rfl
     simp only [q6,if_true,e]
     simp (maxSteps:=2000000) (disch:=first | omega | assumption | (simp only [DS,Nat.reduceAdd, *]; done) | (simp only [DZ]; omega)) only [RUN,RU,zA2,zA1,zA0,zAA,frzL,slot,lay,reduceIte,Nat.reduceEqDiff,Nat.reduceAdd,Nat.reduceSub,h0,h1,h2,hce,q2',q3',q5',lr2,w1,hiad]
 ·have q1':=decide_eq_false q1
  simp only [q1,if_false,false_and]
  simp (maxSteps:=2000000) (disch:=first | omega | assumption | (simp only [DS,Nat.reduceAdd, *]; done) | (simp only [DZ]; omega)) only [RUN,RU,zA2,zA1,zA0,zAA,frzL,slot,lay,zAI,reduceIte,Nat.reduceEqDiff,Nat.reduceAdd,Nat.reduceSub,h0,h1,hce,q1']
end Go.Proofs.YtebloodpblgncaaGreat
namespace Go.Proofs.YtebloodpblgncaaGreat
open Go Go.Ax
variable {fuel : Nat} {M : Mem} {Q : AV → Mem → Prop} {d : Nat} {l : List Op} {a : AV} {v : Lb}
def topC (cs : List CellV) (v : Lb) : Int:=cs.foldl (fun m c=>if c.id.hd.lb.leq v = true then imax m c.id.c else m) 0
theorem zN0 (cs : List CellV) (v : Lb) (c : CellV) : topC (cs ++ [c]) v = if c.id.hd.lb.leq v = true then imax (topC cs v) c.id.c else topC cs v:=by simp [topC]
theorem zOI {cs : List CellV} {v : Lb} : 0 ≤ topC cs v ∧ ∀ c ∈ cs,c.id.hd.lb.leq v = true → c.id.c ≤ topC cs v:=by
 refine zCT (P:=fun cs=>0 ≤ topC cs v ∧ ∀ c ∈ cs,c.id.hd.lb.leq v = true → c.id.c ≤ topC cs v) ⟨Int.le_refl 0,fun c h=>absurd h (by simp)⟩ (fun cs x ih=>?_) cs
 rw [zN0]
 unfold imax
 refine ⟨?_,fun c hc hq=>?_⟩
 ·split
  ·split <;> omega
  ·exact ih.1
 ·rcases List.mem_append.1 hc with hc | hc
  ·have:=ih.2 c hc hq
   split
   ·split <;> omega
   ·exact this
  ·rw [List.mem_singleton] at hc
   subst hc
   rw [if_pos hq]
   split <;> omega
def topH (l : List Op) (h : Hd) : Int:=topC (zCG (elsR (textOf l))) h.lb
def zHB (l : List Op) (h : Hd) : Int:=if zAR [] l = true then (if h.may = true then (if 1099511627776 ≤ topH l h then 9 else 0) else 8) else 8
def zBW (l : List Op) (h : Hd) : Int:=if zHB l h = 0 then topH l h + 1 else 0
theorem zdB (x : Hd) : ∀ y ∈ hdR x,Fz y:=fun y hy=>by
 simp only [hdR,List.mem_cons,List.not_mem_nil,or_false] at hy
 rcases hy with rfl | rfl | rfl <;> exact zC7 _ _
set_option maxHeartbeats 8000000 in
theorem zV0 {h : Hd} (hS : Sl 17 isOp a l) (hl : l.length ≤ 200) (hf : 3200000 < fuel) (M : Mem) : zAE Tryz.prog (fsT tbl) fuel (d + 19) (.fn 18) [a,hdA h] M = some (.tup [I64 (zBW l h),I64 (zHB l h)],M):=by
 obtain ⟨rt,⟨r3,rfl,hr3⟩,htx⟩:=zQ8 (fuel:=fuel) (d:=d + 3) hS (by omega) (by omega)
 have hch:=fun M=>@zEA fuel (d + 16) h M
 apply zBG
 refine zAJ tf18 rfl (by simp only [icyL,fun M=>hS.icy M 12 (by omega),zAY (zdB h) (show 1 < 12 by omega)]) (by simp [a18]) fun b' ht hx=>?_
 have h0:=hx 0 _ rfl
 have h1:=hx 1 _ rfl
 clear hx
 simp only [a18,c18,zz0,zzm] at ht ⊢
 unfold zBW zHB
 cases q1 : zAR [] l with
 | false =>
  rw [q1] at htx
  simp (maxSteps:=2000000) (disch:=first | omega | assumption | (simp only [DS,Nat.reduceAdd, *]; done) | (simp only [DZ]; omega)) only [RUN,RU,zA2,zA1,zA0,zAA,frzL,reduceIte,Nat.reduceEqDiff,Int.reduceEq,h0,h1,htx,zBE]
  rfl
 | true =>
  rw [q1] at htx hr3
  simp only [if_true] at hr3
  have hT:=zBV q1
  have htl:=zGG l
  have hel:=zG1 hT.ok.1
  cases q2 : h.may with
  | false =>
   rw [q2] at hch
   simp (maxSteps:=2000000) (disch:=first | omega | assumption | (simp only [DS,Nat.reduceAdd, *]; done) | (simp only [DZ]; omega)) only [RUN,RU,zA2,zA1,zA0,zAA,frzL,slot,reduceIte,Nat.reduceEqDiff,Int.reduceEq,h0,h1,htx,hch,zAV,zBE]
   rfl
  | true =>
   rw [q2] at hch
   obtain ⟨r4,hr4,hal⟩:=zRU (fuel:=fuel) (d:=d + 10) hr3 hT.ok.1 (by omega) (by omega)
   have lr4:=hr4.len
   have hcl:=zDU (elsR (textOf l))
   unfold topH
   generalize zCG (elsR (textOf l)) = cs at *
   simp (maxSteps:=2000000) (disch:=first | omega | assumption | (simp only [DS,Nat.reduceAdd, *]; done) | (simp only [DZ]; omega)) only [RUN,RU,zA2,zA1,slot,reduceIte,Nat.reduceEqDiff,h0,h1,htx,hch,hal,zAV,lr4]
   refine zBF (I:=fun n t N => ∃ (i : Nat),n = cs.length - i ∧ i ≤ cs.length ∧ nth zA6 t 3 = .ptr 0 0 ∧ nth zA6 t 9 = I64 (topC (cs.take i) h.lb) ∧ nth zA6 t 26 = r4 ∧ nth zA6 t 27 = I64 cs.length ∧ nth zA6 t 28 = I64 i ∧ Wf N ∧ 1 ≤ N.size ∧ N.get 0 = some (.row false (hdR h))) (n:=cs.length) (by omega) ?_ ?_
   ·refine ⟨0,rfl,Nat.zero_le _, ?_, ?_, ?_, ?_, ?_,Wf.mem0.add _,Nat.le_refl 1,by simp (maxSteps:=2000000) (disch:=first | omega | assumption | (simp only [DS,Nat.reduceAdd, *]; done) | (simp only [DZ]; omega)) only [RUN]⟩ <;> simp (maxSteps:=2000000) (disch:=first | omega | assumption | (simp only [DS,Nat.reduceAdd, *]; done) | (simp only [DZ]; omega)) only [RUN,RU,reduceIte,Nat.reduceEqDiff]
    all_goals first | rfl | assumption | done
   ·rintro n t N hlt ⟨i,rfl,hi,g3,g9,g26,g27,g28,w,le,m0⟩
    simp only [ht] at hlt ⊢
    have l0 : 0 < N.size:=by omega
    by_cases hc : i < cs.length
    ·have q3 : decide ((i : Int) < cs.length) = true:=decide_eq_true (by omega)
     have w1 : IntKind.i64.wrap ((i : Int) + 1) = ((i + 1 : Nat) : Int):=by rw [wrap_i64] <;> omega
     obtain ⟨r,hiad,hr,hrl⟩:=hr4.iad i hc
     have hts:=zN0 (cs.take i) h.lb cs[i]
     rw [← take_snoc cs i hc] at hts
     generalize cs[i] = c at *
     obtain ⟨rfl,hok⟩:=hr
     have hle:=fun M=>zGR (fuel:=fuel) (d:=d + 17) c.id.hd.lb h.lb M
     have gY : ∀ z r,((N.add z).upd N.size r).get 0 = some (.row false (hdR h)):=fun z r=>by
      rw [zA4 (w.add _) _ _ _ (by omega),zAF w _ _ l0]; exact m0
     cases q4 : c.id.hd.lb.leq h.lb with
     | true =>
      rw [q4,if_pos rfl] at hts
      simp only [q4] at hle
      simp (maxSteps:=2000000) (disch:=first | omega | assumption | (simp only [DS,Nat.reduceAdd, *]; done) | (simp only [DZ]; omega)) only [RUN,RU,zA2,zA1,slot,lay,reduceIte,Nat.reduceEqDiff,Nat.reduceAdd,Nat.reduceLeDiff,g3,g9,g26,g27,g28,q3,hiad,w,m0,hle,w1,zBX,BMM]
      exact ⟨hlt,cs.length - (i + 1),by omega,i + 1,rfl,by omega,by rw [hts],rfl⟩
     | false =>
      rw [q4,if_neg (by decide)] at hts
      simp only [q4] at hle
      simp (maxSteps:=2000000) (disch:=first | omega | assumption | (simp only [DS,Nat.reduceAdd, *]; done) | (simp only [DZ]; omega)) only [RUN,RU,zA2,zA1,slot,lay,reduceIte,Nat.reduceEqDiff,Nat.reduceAdd,Nat.reduceLeDiff,g3,g9,g26,g27,g28,q3,hiad,w,m0,hle,w1]
      exact ⟨hlt,cs.length - (i + 1),by omega,i + 1,rfl,by omega,by rw [hts],rfl⟩
    ·obtain rfl : i = cs.length:=by omega
     have q3 : decide ((cs.length : Int) < cs.length) = false:=decide_eq_false (by omega)
     rw [List.take_length] at g9
     have htp:=(zOI (cs:=cs) (v:=h.lb)).1
     by_cases q5 : 1099511627776 ≤ topC cs h.lb
     ·have q5':=decide_eq_true q5
      rw [if_pos q5]
      simp (maxSteps:=2000000) (disch:=first | omega | assumption | (simp only [DS,Nat.reduceAdd, *]; done) | (simp only [DZ]; omega)) only [RUN,RU,zA2,zA1,zA0,zAA,frzL,reduceIte,Nat.reduceEqDiff,Int.reduceEq,g9,g27,g28,q5']
     ·have q5':=decide_eq_false q5
      have w2 : IntKind.i64.wrap (topC cs h.lb + 1) = topC cs h.lb + 1:=by rw [wrap_i64] <;> omega
      rw [if_neg q5]
      simp (maxSteps:=2000000) (disch:=first | omega | assumption | (simp only [DS,Nat.reduceAdd, *]; done) | (simp only [DZ]; omega)) only [RUN,RU,zA2,zA1,zA0,zAA,frzL,reduceIte,Nat.reduceEqDiff,g9,g27,g28,q5',w2]
end Go.Proofs.YtebloodpblgncaaGreat
namespace Go.Ax
open Go
variable {P : Program} {call : Tg → List AV → Mem → Option (AV × Mem)} {t : List AV} {M : Mem}
abbrev zOp6 : Value:=.agg #[(.int .u8 0),(.int .u8 0),(.int .u32 0),(.int .u8 0),(.int .i64 0),(.int .u8 0),(.int .u32 0),(.int .u8 0),(.int .i64 0),(.int .i64 0),(.int .u8 0),(.int .u32 0),(.int .u8 0),(.int .i64 0),(.int .u8 0),(.int .u32 0),(.slice none 0 0)]
def bldO (P : Program) (call : Tg → List AV → Mem → Option (AV × Mem)) (t : List AV) (M : Mem) (x0 x1 x2 x3 x4 x5 : Operand) (a b c d e f : List AV) : OR:=match a,b,c,d,e,f with
 | [a],[b1,b2,b3],[c],[d1,d2,d3,d4,d5],[e1,e2,e3,e4],[f]=>some (.agg [a,b1,b2,b3,c,d1,d2,d3,d4,d5,e1,e2,e3,e4,.sc (.int .u8 0),.sc (.int .u32 0),f],M)
 | _,_,_,_,_,_=>zA8 P call t M (.build zOp6 [(0,1,x0),(1,3,x1),(4,1,x2),(5,5,x3),(10,4,x4),(16,1,x5)])
theorem zd0 (x0 x1 x2 x3 x4 x5 : Operand) : zA8 P call t M (.build (.agg #[(.int .u8 0),(.int .u8 0),(.int .u32 0),(.int .u8 0),(.int .i64 0),(.int .u8 0),(.int .u32 0),(.int .u8 0),(.int .i64 0),(.int .i64 0),(.int .u8 0),(.int .u32 0),(.int .u8 0),(.int .i64 0),(.int .u8 0),(.int .u32 0),(.slice none 0 0)]) [(0,1,x0),(1,3,x1),(4,1,x2),(5,5,x3),(10,4,x4),(16,1,x5)]) = bldO P call t M x0 x1 x2 x3 x4 x5 (cellsA (zA9 t x0)) (cellsA (zA9 t x1)) (cellsA (zA9 t x2)) (cellsA (zA9 t x3)) (cellsA (zA9 t x4)) (cellsA (zA9 t x5)):=by
 unfold bldO
 split
 ·rename_i h0 h1 h2 h3 h4 h5
  rw [zV7]
  simp only [zAI,h0,h1,h2,h3,h4,h5]
  rfl
 ·rfl
theorem za4 (x0 x1 x2 x3 x4 x5 : Operand) (a b1 b2 b3 c d1 d2 d3 d4 d5 e1 e2 e3 e4 f : AV) : bldO P call t M x0 x1 x2 x3 x4 x5 [a] [b1,b2,b3] [c] [d1,d2,d3,d4,d5] [e1,e2,e3,e4] [f] = some (.agg [a,b1,b2,b3,c,d1,d2,d3,d4,d5,e1,e2,e3,e4,.sc (.int .u8 0),.sc (.int .u32 0),f],M):=rfl
end Go.Ax
namespace Go.Proofs.YtebloodpblgncaaGreat
open Go Go.Ax
theorem zUX (l m : List Op) : zAP (l ++ m) = zAP l ++ zAP m:=by simp [zAP]
theorem zRV {l : List Op} {o : Op} (h : allB l o = true) {x : Eid} (hx : x ∈ o.sp.ids) : x ∈ zAP l:=by
 have:=List.all_eq_true.1 h x hx
 unfold zEV at this
 simp only [Bool.and_eq_true,decide_eq_true_eq] at this
 exact this.1
theorem zN1 {l : List Op} (h : zAR [] l = true) {o : Op} (ho : o ∈ l) {x : Eid} (hk : o.kd ≠ 1) (hx : (o.sp.has x).isSome = true) : x ∈ zAP l:=by
 obtain ⟨a,b,rfl⟩:=List.append_of_mem ho
 have e : a ++ o :: b = (a ++ [o]) ++ b:=by simp
 rw [e] at h
 have h:=zP9 h
 rw [zDZ] at h
 simp only [Bool.and_eq_true,decide_eq_true_eq] at h
 have hr:=zHE h.2.2
 unfold zDQ at hr
 rw [if_neg hk] at hr
 have ha : allB a o = true:=by
  split at hr
  ·unfold remE at hr
   split at hr
   ·assumption
   ·cases hr
  ·unfold raiE at hr
   split at hr
   ·assumption
   ·cases hr
 rw [zUX]
 exact List.mem_append_left _ (zRV ha (zaW hx))
theorem zQZ {l : List Op} (h : zAR [] l = true) {x : Eid} (hg : zCP l x = true) : x ∈ zAP l:=by
 obtain ⟨o,ho,hc⟩:=List.any_eq_true.1 hg
 simp only [Bool.and_eq_true,decide_eq_true_eq] at hc
 exact zN1 h ho (by omega) hc.2
def zCD (h : Hd) (s n : Int) (af : Eid) (row : List Int) : Op:=⟨1,h,s,⟨⟨h,n⟩,row.length⟩,af,Lb.z,row⟩
theorem zSK {l : List Op} (h : zAR [] l = true) {v : Lb} : ∀ x ∈ elsR (textOf (lowL l v)),x.id.hd.lb.leq v = true ∧ 1 ≤ x.id.c ∧ x.id.may = true:=by
 intro x hx
 have hT:=zBV (zDA v h)
 obtain ⟨o,ho,hr,hxo⟩:=(hT.mem x).1 hx
 have hm:=zOY hT.ok.1 x hx
 have hmi:=(El.may_iff.1 hm).1
 refine ⟨?_,(Eid.may_iff.1 hmi).2.1,hmi⟩
 have hid : x.id ∈ o.sp.ids:=by rw [← zI0]; exact List.mem_map.2 ⟨x,hxo,rfl⟩
 rw [zKY hid]
 obtain ⟨hom,hk,_⟩:=zIU hr
 rw [(zFN hom hk).1]
 exact (List.mem_filter.1 ho).2
theorem zYJ {l : List Op} (h : zAR [] l = true) (v : Lb) : ((zBS l v).map (·.id)).Nodup:=by
 have hT:=zBV (zDA v h)
 have hn:=(zE7 hT.ok).1.t.s1.nd
 have e : (zBS l v).map (·.id) = ((elsR (textOf (lowL l v))).filter fun x => !zCP (lowL l v) x.id).map (·.id):=by
  unfold zBS
  rw [List.map_map]
  rfl
 rw [e]
 exact hn.sublist (List.Sublist.map _ List.filter_sublist)
theorem zOK {l : List Op} {v : Lb} {c : CellV} (hc : c ∈ zBS l v) : ∃ x ∈ elsR (textOf (lowL l v)),x.id = c.id ∧ zCP (lowL l v) c.id = false:=by
 unfold zBS at hc
 obtain ⟨x,hx,rfl⟩:=List.mem_map.1 hc
 obtain ⟨h1,h2⟩:=List.mem_filter.1 hx
 exact ⟨x,h1,rfl,by have h2 : (!zCP (lowL l v) x.id) = true:=h2; simpa [cellV] using h2⟩
theorem zUP {l : List Op} {o : Op} (h : zAR [] l = true) (h2 : zAR [] (l ++ [o]) = true) (hk : o.kd = 1) (x : Eid) (v : Lb) : zEW (l ++ [o]) x v = zEW l x v:=by
 unfold zEW askE made zC2
 rw [zDY h,zDY h2,List.filter_append]
 have e : [o].filter (zCA x v) = []:=by
  rw [List.filter_cons_of_neg]
  ·rfl
  ·unfold zCA; simp [hk]
 rw [e,List.append_nil]
theorem zWN {l : List Op} {o : Op} (hk : o.kd = 1) (x : Eid) : zCP (l ++ [o]) x = zCP l x:=by
 rw [zWM]
 unfold zCP
 simp [hk]
def newC (h : Hd) (n : Int) (row : List Int) : List CellV:=(List.range row.length).map fun (j : Nat)=>⟨⟨h,n + j⟩,row.getD j 0⟩
theorem zWY {l : List Op} (hl : zAR [] l = true) {h : Hd} {s n : Int} {af : Eid} {row : List Int} {k : Nat} (hm : (zCD h s n af row).may = true) (hf : fitE l (zCD h s n af row) = 0) (htop : ∀ x ∈ elsR (textOf (lowL l h.lb)),x.id.c < n) (hk : k ≤ (zBS l h.lb).length) (haf : (k = 0 ∧ af = Eid.z) ∨ (0 < k ∧ ∃ c,(zBS l h.lb)[k - 1]? = some c ∧ c.id = af)) :
  zBS (l ++ [zCD h s n af row]) h.lb = (zBS l h.lb).take k ++ newC h n row ++ (zBS l h.lb).drop k:=by
 generalize ho : zCD h s n af row = o at *
 have okd : o.kd = 1:=by rw [← ho]; rfl
 have ohd : o.hd = h:=by rw [← ho]; rfl
 have osp : o.sp = ⟨⟨h,n⟩,row.length⟩:=by rw [← ho]; rfl
 have oaf : o.af = af:=by rw [← ho]; rfl
 have ors : o.rs = row:=by rw [← ho]; rfl
 clear ho
 have h2 : zAR [] (l ++ [o]) = true:=by rw [zDZ,hl,hm,hf]; rfl
 have elow : lowL (l ++ [o]) h.lb = lowL l h.lb ++ [o]:=by rw [zKX,ohd,zG6,if_pos rfl]
 have hL:=zDA h.lb hl
 have hL2:=zDA h.lb h2
 rw [elow] at hL2
 have hlab:=zSK hl (v:=h.lb)
 have hids:=zYJ hl h.lb
 have hvat:=fun c (hc : c ∈ zBS l h.lb)=>zOK hc
 unfold zBS at *
 rw [elow]
 generalize lowL l h.lb = L at *
 have hfL : fitE L o = 0:=by
  rw [zDZ] at hL2
  simp only [Bool.and_eq_true,decide_eq_true_eq] at hL2
  exact hL2.2.2
 have hT:=zBV hL
 obtain ⟨hput,hrof⟩:=(hT.step hfL hm).2 okd
 have et : textOf (L ++ [o]) = insL (textOf L) o.rn:=by rw [zEG]; unfold stepT; rw [if_pos hrof]
 obtain ⟨A0,A1,B,P⟩:=put_ok hput
 have hA1 : A1 = []:=by
  cases A1 with
  | nil=>rfl
  | cons x A1 =>
   have h1:=P.g x List.mem_cons_self
   have h3:=htop x (by rw [P.e]; simp)
   have e : o.rn.sp.f.c = n:=by show o.sp.f.c = n; rw [osp]
   unfold Eid.less at h1
   rw [e,if_neg (by omega)] at h1
   have:=of_decide_eq_true h1
   omega
 subst hA1
 have e1 : elsR (textOf L) = A0 ++ B:=by rw [P.e,List.append_nil]
 have e2 : elsR (textOf (L ++ [o])) = A0 ++ o.rn.elR ++ B:=by rw [et,P.i,(zCV _).1,List.append_nil]
 -- what is there is known
 have hnew : ∀ x : Eid,n ≤ x.c → x ∉ zAP L:=fun x hx hin=>by
  obtain ⟨e,he,rfl⟩:=(hT.ids x).1 hin
  have:=htop e he
  omega
 have hcell : ∀ x : El,cellV (L ++ [o]) h.lb x = cellV L h.lb x:=fun x=>by
  unfold cellV
  rw [zUP hL hL2 okd]
 have hgone : ∀ x : Eid,zCP (L ++ [o]) x = zCP L x:=zWN okd
 simp only [e1,e2,hgone,List.filter_append,List.map_append] at *
 have hc1 : ∀ E : List El,E.map (cellV (L ++ [o]) h.lb) = E.map (cellV L h.lb):=fun E=>List.map_congr_left fun x _=>hcell x
 simp only [hc1]
 -- the new ones
 have hN : (o.rn.elR.filter fun x => !zCP L x.id).map (cellV L h.lb) = newC h n row:=by
  have hid : ∀ x ∈ o.rn.elR,∃ j : Nat,x.id = ⟨h,n + j⟩ ∧ j < row.length:=fun x hx=>by
   unfold Rn.elR at hx
   obtain ⟨j,hj,rfl⟩:=List.mem_map.1 hx
   rw [List.mem_range] at hj
   have e : o.rn.sp = o.sp:=rfl
   rw [e,osp] at hj
   exact ⟨j,by show o.sp.at j = _; rw [osp]; rfl,by simpa using hj⟩
  have e3 : (o.rn.elR.filter fun x => !zCP L x.id) = o.rn.elR:=List.filter_eq_self.2 fun x hx=>by
   obtain ⟨j,hj,_⟩:=hid x hx
   cases hg : zCP L x.id with
   | false=>rfl
   | true=>exact absurd (zQZ hL hg) (hnew _ (by rw [hj]; show n ≤ n + (j : Int); omega))
  rw [e3]
  unfold newC Rn.elR
  rw [List.map_map]
  have e4 : o.rn.sp.n.toNat = row.length:=by show o.sp.n.toNat = _; rw [osp]; exact Int.toNat_natCast _
  rw [e4]
  apply List.map_congr_left
  intro j hj
  rw [List.mem_range] at hj
  have e5 : o.rn.sp.at (j : Int) = ⟨h,n + j⟩:=by show o.sp.at j = _; rw [osp]; rfl
  have hxm : (⟨h,n + j⟩ : Eid).may = true:=by
   have hmr:=zK9 (zIU hrof).2.2 ⟨o.rn.sp.at (j : Int),o.rn.afAt j,o.rn.rs.getD j 0⟩ (List.mem_map.2 ⟨j,List.mem_range.2 (by rw [e4]; exact hj),rfl⟩)
   have:=(El.may_iff.1 hmr).1
   rwa [e5] at this
  have hsh : zEW L ⟨h,n + j⟩ h.lb = true:=by
   refine (zUO hL).2 ⟨⟨hxm, ?_⟩,zG6 _,fun p hp hc=>?_⟩
   ·have:=(Eid.may_iff.1 hxm).1
    unfold Hd.may at this
    exact (Bool.and_eq_true _ _ ▸ this).1
   ·obtain ⟨c1,c2,_⟩:=zR9.1 hc
    exact absurd (zN1 hL hp (by omega) c2) (hnew _ (by show n ≤ n + (j : Int); omega))
  simp only [Function.comp_apply,cellV,e5,hsh,if_true]
  congr 1
  show o.rs.getD j 0 = _
  rw [ors]
 rw [hN]
 -- where they stand
 generalize hG0 : (A0.filter fun x => !zCP L x.id).map (cellV L h.lb) = G0 at *
 generalize hG1 : (B.filter fun x => !zCP L x.id).map (cellV L h.lb) = G1 at *
 have hlen : G0.length = k:=by
  rcases haf with ⟨rfl,hz⟩ | ⟨hk0,c,hc,hz⟩
  ·have hA0 : A0 = []:=by
    rcases P.a with ⟨_,h1⟩ | ⟨A,w,h1,h3⟩
    ·exact h1
    ·have h4:=(hlab w (by rw [h1]; simp)).2.1
     have e : o.rn.af = af:=oaf
     rw [h3,e,hz] at h4
     exact absurd h4 (by decide)
   rw [← hG0,hA0]
   rfl
  ·have e : o.rn.af = af:=oaf
   obtain ⟨hk1,hc⟩:=List.getElem?_eq_some_iff.1 hc
   obtain ⟨x,hx,hxe,hxg⟩:=hvat c (hc ▸ List.getElem_mem hk1)
   rcases P.a with ⟨h1,_⟩ | ⟨A,w,h1,h3⟩
   ·have h4:=(hlab x hx).2.1
    rw [hxe,hz,← e,h1] at h4
    exact absurd h4 (by decide)
   ·rw [e,← hz] at h3
    have hwg : zCP L w.id = false:=by rw [h3]; exact hxg
    have e6 : G0 = (A.filter fun x => !zCP L x.id).map (cellV L h.lb) ++ [cellV L h.lb w]:=by
     rw [← hG0,h1,List.filter_append,List.map_append]
     simp [hwg]
    have hl0 : 0 < G0.length:=by rw [e6]; simp
    have hlt : G0.length - 1 < (G0 ++ G1).length:=by rw [List.length_append]; omega
    have e7 : ((G0 ++ G1)[G0.length - 1]'hlt).id = w.id:=by
     rw [List.getElem_append_left (by omega)]
     simp only [e6,List.length_append,List.length_singleton,Nat.add_sub_cancel]
     rw [List.getElem_append_right (Nat.le_refl _)]
     simp [cellV]
    have e8 : ((G0 ++ G1)[G0.length - 1]'hlt).id = ((G0 ++ G1)[k - 1]'hk1).id:=e7.trans (h3.trans (by rw [hc]))
    have e9 : G0.length - 1 = k - 1:=by
     rw [← List.map_append] at hids
     have hp:=List.pairwise_iff_getElem.1 (List.pairwise_map.1 hids)
     rcases Nat.lt_trichotomy (G0.length - 1) (k - 1) with h | h | h
     ·exact absurd e8 (hp _ _ hlt hk1 h)
     ·exact h
     ·exact absurd e8.symm (hp _ _ hk1 hlt h)
    omega
 rw [List.take_append_of_le_length (by omega),List.take_of_length_le (by omega),List.drop_append_of_le_length (by omega),List.drop_of_length_le (by omega),List.nil_append]
end Go.Proofs.YtebloodpblgncaaGreat
namespace Go.Proofs.YtebloodpblgncaaGreat
open Go Go.Ax
theorem zb3 {h : Hd} {s n : Int} {af : Eid} {row : List Int} (hh : h.may = true) (hs : 1 ≤ s ∧ s < 16777216) (hn : 1 ≤ n ∧ n + row.length ≤ 1099511627777) (hr : 1 ≤ row.length) (hc : chkR row = 0) (ha : af = Eid.z ∨ (af.may = true ∧ af.c < n)) : (zCD h s n af row).may = true ∧ rofE (zCD h s n af row) = 0:=by
 have h64:=zSD hc
 have hf : (⟨h,n⟩ : Eid).may = true:=Eid.may_iff.2 ⟨hh,hn.1,by show n ≤ 1099511627776; omega⟩
 have hsp : (⟨⟨h,n⟩,row.length⟩ : Spn).may = true:=by
  unfold Spn.may
  rw [hf]
  simp only [Bool.true_and,Bool.and_eq_true,decide_eq_true_eq]
  show (1 ≤ (row.length : Int) ∧ (row.length : Int) ≤ 64) ∧ n + (row.length : Int) ≤ 1099511627777
  omega
 have hm : (zCD h s n af row).may = true:=by
  unfold Op.may Op.part zCD
  have e1 : decide (s < 1) = false:=decide_eq_false (by omega)
  have e2 : decide (16777216 ≤ s) = false:=decide_eq_false (by omega)
  simp only [hh,hsp,hc,e1,e2]
  rcases ha with rfl | ⟨h1,_⟩
  ·simp
  ·simp [h1]
 have hrn : (zCD h s n af row).rn.may = true:=by
  unfold Rn.may
  show ((⟨⟨h,n⟩,row.length⟩ : Spn).may && (decide (af = Eid.z) || (af.may && decide (af.c < n))) && decide ((row.length : Int) = row.length) && decide (chkR row = 0)) = true
  rw [hsp,hc]
  rcases ha with rfl | ⟨h1,h2⟩
  ·simp
  ·simp [h1,h2]
 refine ⟨hm, ?_⟩
 unfold rofE
 rw [if_pos hm,if_pos ⟨rfl,hrn⟩]
theorem zNW {l : List Op} (h : zAR [] l = true) (hok : ∀ o ∈ l,o.ok) (v : Lb) : elsR (textOf (lowL l v)) = (elsR (textOf l)).filter (lowE v):=by
 rw [(zYH h hok v).1,zQ9 (zBV h).ok.1,(zCV _).1]
theorem zYI (l : List Op) (h : zAR [] l = true) : (zAP l).length ≤ 192 * l.length:=by
 have hT:=zBV h
 have h1:=zG1 hT.ok.1
 have h2:=zGG l
 have:=hT.len
 omega
theorem zWV {l : List Op} (hl : zAR [] l = true) (hok : ∀ o ∈ l,o.ok) (hlen : l.length ≤ 25) {h : Hd} {s n : Int} {af : Eid} {row : List Int} (hm : (zCD h s n af row).may = true) (hr : rofE (zCD h s n af row) = 0) (h64 : row.length ≤ 64) (htop : ∀ x ∈ elsR (textOf (lowL l h.lb)),x.id.c < n) (ha : af = Eid.z ∨ ∃ c ∈ zBS l h.lb,c.id = af) : fitE l (zCD h s n af row) = 0:=by
 have hT:=zBV hl
 have hk : zDQ l (zCD h s n af row) = 0:=by
  unfold zDQ
  have e0 : (zCD h s n af row).kd = 1:=rfl
  rw [e0,if_pos rfl]
  unfold insE
  have hnew : ((zCD h s n af row).sp.ids.any fun x=>decide (x ∈ zAP l)) = false:=by
   rw [List.any_eq_false]
   intro x hx hin
   have hin:=of_decide_eq_true hin
   unfold Spn.ids at hx
   obtain ⟨j,hj,rfl⟩:=List.mem_map.1 hx
   obtain ⟨e,he,hid⟩:=(hT.ids _).1 hin
   have hlow : lowE h.lb e = true:=by
    unfold lowE
    rw [hid]
    exact zG6 _
   have:=htop e (by rw [zNW hl hok]; exact List.mem_filter.2 ⟨he,hlow⟩)
   rw [hid] at this
   have : n + (j : Int) < n:=this
   omega
  have hsee : ¬(af ≠ Eid.z ∧ zEV l (zCD h s n af row) af = false):=by
   rintro ⟨hz,hs⟩
   rcases ha with h | ⟨c,hc,rfl⟩
   ·exact hz h
   ·obtain ⟨x,hx,hxe,_⟩:=zOK hc
    rw [zNW hl hok] at hx
    obtain ⟨h1,h2⟩:=List.mem_filter.1 hx
    unfold zEV at hs
    have h3 : c.id ∈ zAP l:=(hT.ids _).2 ⟨x,h1,hxe⟩
    have h4 : c.id.hd.lb.leq h.lb = true:=by rw [← hxe]; exact h2
    have h5 : c.id.hd.lb.leq (zCD h s n c.id row).hd.lb = true:=h4
    rw [decide_eq_true h3,h5] at hs
    cases hs
  have ea : (zCD h s n af row).af = af:=rfl
  rw [ea,if_neg hsee,if_neg (by rintro (h | h); exact h hr; rw [hnew] at h; cases h)]
  have:=zYI l hl
  have e : (zCD h s n af row).sp.n = (row.length : Int):=rfl
  rw [e,if_neg (by omega)]
 unfold fitE
 rw [if_pos hk,if_neg (by omega)]
end Go.Proofs.YtebloodpblgncaaGreat
namespace Go.Proofs.YtebloodpblgncaaGreat
open Go Go.Ax
def isR (n : Nat) : Bool:=decide (n ≤ 1114111) && (decide (n < 55296) || decide (57343 < n))
def zDP (c : Nat) : Nat × Nat:=if c < 128 then (1,c) else if 192 ≤ c ∧ c < 224 then (2,c - 192) else if 224 ≤ c ∧ c < 240 then (3,c - 224) else if 240 ≤ c ∧ c < 248 then (4,c - 240) else (0,0)
def numN (n : Nat) : List UInt8 → Nat
 | []=>n
 | b :: l=>numN (64 * n + b.toNat % 64) l
def zJA (n : Nat) : List Nat:=if n < 128 then [n] else if n < 2048 then [192 + n / 64,128 + n % 64] else if n < 65536 then [224 + n / 4096,128 + n / 64 % 64,128 + n % 64] else [240 + n / 262144,128 + n / 4096 % 64,128 + n / 64 % 64,128 + n % 64]
def zEH (n : Nat) : List UInt8:=(zJA n).map UInt8.ofNat
def zCX (l : List UInt8) : Option (Nat × Nat):=match l with
 | []=>none
 | c :: tl=>if (zDP c.toNat).1 = 0 ∨ (c :: tl).length < (zDP c.toNat).1 then none
  else if isR (numN (zDP c.toNat).2 (tl.take ((zDP c.toNat).1 - 1))) = true ∧ zEH (numN (zDP c.toNat).2 (tl.take ((zDP c.toNat).1 - 1))) = (c :: tl).take (zDP c.toNat).1 then
   some (numN (zDP c.toNat).2 (tl.take ((zDP c.toNat).1 - 1)),(zDP c.toNat).1) else none
theorem zHI (a : Nat) (x : UInt8) : UInt8.ofNat a = x ↔ a % 256 = x.toNat:=by
 constructor
 ·rintro rfl; simp
 ·intro h
  apply UInt8.toNat_inj.1
  simp [h]
theorem zd1 (n : Nat) (c : UInt8) : zEH n = [c] ↔ n < 128 ∧ n = c.toNat:=by
 unfold zEH zJA
 split
 ·simp [zHI]; omega
 ·split
  ·simp; omega
  ·split <;> simp <;> omega
theorem zd2 (n : Nat) (c x : UInt8) : zEH n = [c,x] ↔ 128 ≤ n ∧ n < 2048 ∧ 192 + n / 64 = c.toNat ∧ 128 + n % 64 = x.toNat:=by
 unfold zEH zJA
 split
 ·simp; omega
 ·split
  ·simp only [List.map_cons,List.map_nil,List.cons.injEq,zHI,and_true]; omega
  ·split <;> simp <;> omega
theorem bytes3 (n : Nat) (c x y : UInt8) : zEH n = [c,x,y] ↔ 2048 ≤ n ∧ n < 65536 ∧ 224 + n / 4096 = c.toNat ∧ 128 + n / 64 % 64 = x.toNat ∧ 128 + n % 64 = y.toNat:=by
 unfold zEH zJA
 split
 ·simp; omega
 ·split
  ·simp; omega
  ·split
   ·simp only [List.map_cons,List.map_nil,List.cons.injEq,zHI,and_true]; omega
   ·simp; omega
theorem bytes4 (n : Nat) (c x y z : UInt8) (hn : n < 2097152) : zEH n = [c,x,y,z] ↔ 65536 ≤ n ∧ 240 + n / 262144 = c.toNat ∧ 128 + n / 4096 % 64 = x.toNat ∧ 128 + n / 64 % 64 = y.toNat ∧ 128 + n % 64 = z.toNat:=by
 unfold zEH zJA
 split
 ·simp; omega
 ·split
  ·simp; omega
  ·split
   ·simp; omega
   ·simp only [List.map_cons,List.map_nil,List.cons.injEq,zHI,and_true]; omega
theorem zDO {n b0 b1 b2 b3 : Nat} (h1 : 128 ≤ b0) (h2 : ¬ (b0 / 32 = 6 ∧ (1 < n ∧ b1 / 64 = 2))) (h3 : ¬ (b0 / 16 = 14 ∧ (1 < n ∧ b1 / 64 = 2) ∧ (2 < n ∧ b2 / 64 = 2))) (h4 : ¬ (b0 / 8 = 30 ∧ (1 < n ∧ b1 / 64 = 2) ∧ (2 < n ∧ b2 / 64 = 2) ∧ (3 < n ∧ b3 / 64 = 2))) : Lib.decodeN n b0 b1 b2 b3 = (65533,1):=by
 unfold Lib.decodeN
 rw [if_neg (by omega),if_neg h2,if_neg h3,if_neg h4]
set_option maxHeartbeats 4000000 in
/-- The model's way and the document's. -/
theorem zLS (c : UInt8) (tl : List UInt8) : Lib.decodeL (c :: tl) = (zCX (c :: tl)).getD (65533,1):=by
 rw [Lib.decodeL_N]
 have hc:=c.toNat_lt
 simp only [List.getD_cons_zero,List.length_cons]
 by_cases a1 : c.toNat < 128
 ·have hh : zDP c.toNat = (1,c.toNat):=by simp [zDP,a1]
  simp only [zCX,hh,List.length_cons,Nat.sub_self,List.take_zero,numN,List.take_succ_cons]
  rw [if_neg (by omega),if_pos ⟨by simp [isR]; omega,(zd1 _ _).2 ⟨a1,rfl⟩⟩]
  unfold Lib.decodeN
  rw [if_pos a1]; rfl
 by_cases a2 : 192 ≤ c.toNat ∧ c.toNat < 224
 ·have hh : zDP c.toNat = (2,c.toNat - 192):=by simp [zDP,a1,a2]
  simp only [zCX,hh,List.length_cons]
  match tl with
  | []=>rw [if_pos (by simp),zDO (by omega) (by simp) (by simp) (by simp)]; rfl
  | x :: tl =>
   have hx:=x.toNat_lt
   rw [if_neg (by simp)]
   simp only [Nat.reduceSub,List.take_succ_cons,List.take_zero,numN,zd2,List.getD_cons_succ,List.getD_cons_zero,List.length_cons]
   by_cases a3 : x.toNat / 64 = 2
   ·unfold Lib.decodeN
    rw [if_neg a1,if_pos (by omega)]
    by_cases a4 : c.toNat % 32 * 64 + x.toNat % 64 ≥ 128
    ·rw [if_pos a4,if_pos ⟨by simp [isR]; omega,by omega⟩]
     simp; omega
    ·rw [if_neg a4,if_neg (by rintro ⟨_,h⟩; omega)]; rfl
   ·rw [if_neg (by rintro ⟨_,h⟩; omega),zDO (by omega) (by omega) (by omega) (by omega)]; rfl
 by_cases b2 : 224 ≤ c.toNat ∧ c.toNat < 240
 ·have hh : zDP c.toNat = (3,c.toNat - 224):=by unfold zDP; rw [if_neg a1,if_neg a2,if_pos b2]
  simp only [zCX,hh,List.length_cons]
  match tl with
  | []=>rw [if_pos (by simp),zDO (by omega) (by simp) (by simp) (by simp)]; rfl
  | [x]=>rw [if_pos (by simp),zDO (by omega) (by omega) (by simp) (by simp)]; rfl
  | x :: y :: tl =>
   have hx:=x.toNat_lt
   have hy:=y.toNat_lt
   rw [if_neg (by simp)]
   simp only [Nat.reduceSub,List.take_succ_cons,List.take_zero,numN,bytes3,List.getD_cons_succ,List.getD_cons_zero,List.length_cons]
   by_cases a3 : x.toNat / 64 = 2 ∧ y.toNat / 64 = 2
   ·obtain ⟨a3,a5⟩:=a3
    unfold Lib.decodeN
    rw [if_neg a1,if_neg (by omega),if_pos (by omega)]
    have e : 64 * (64 * (c.toNat - 224) + x.toNat % 64) + y.toNat % 64 = c.toNat % 16 * 4096 + x.toNat % 64 * 64 + y.toNat % 64:=by omega
    rw [e]
    by_cases a4 : c.toNat % 16 * 4096 + x.toNat % 64 * 64 + y.toNat % 64 ≥ 2048 ∧ (c.toNat % 16 * 4096 + x.toNat % 64 * 64 + y.toNat % 64 < 55296 ∨ (57344 ≤ c.toNat % 16 * 4096 + x.toNat % 64 * 64 + y.toNat % 64 ∧ c.toNat % 16 * 4096 + x.toNat % 64 * 64 + y.toNat % 64 ≤ 1114111))
    ·rw [if_pos a4,if_pos ⟨by simp [isR]; omega,by omega⟩]; rfl
    ·rw [if_neg a4,if_neg (by rintro ⟨h',h⟩; simp [isR] at h'; omega)]; rfl
   ·rw [if_neg (by rintro ⟨_,h⟩; omega),zDO (by omega) (by omega) (by omega) (by omega)]; rfl
 by_cases c2 : 240 ≤ c.toNat ∧ c.toNat < 248
 ·have hh : zDP c.toNat = (4,c.toNat - 240):=by unfold zDP; rw [if_neg a1,if_neg a2,if_neg b2,if_pos c2]
  simp only [zCX,hh,List.length_cons]
  match tl with
  | []=>rw [if_pos (by simp),zDO (by omega) (by simp) (by simp) (by simp)]; rfl
  | [x]=>rw [if_pos (by simp),zDO (by omega) (by omega) (by simp) (by simp)]; rfl
  | [x,y]=>rw [if_pos (by simp),zDO (by omega) (by omega) (by omega) (by simp)]; rfl
  | x :: y :: z :: tl =>
   have hx:=x.toNat_lt
   have hy:=y.toNat_lt
   have hz:=z.toNat_lt
   rw [if_neg (by simp)]
   have e : 64 * (64 * (64 * (c.toNat - 240) + x.toNat % 64) + y.toNat % 64) + z.toNat % 64 = c.toNat % 8 * 262144 + x.toNat % 64 * 4096 + y.toNat % 64 * 64 + z.toNat % 64:=by omega
   have hb:=bytes4 (c.toNat % 8 * 262144 + x.toNat % 64 * 4096 + y.toNat % 64 * 64 + z.toNat % 64) c x y z (by omega)
   simp only [Nat.reduceSub,List.take_succ_cons,List.take_zero,numN,List.getD_cons_succ,List.getD_cons_zero,List.length_cons]
   rw [e]; simp only [hb]
   by_cases a3 : x.toNat / 64 = 2 ∧ y.toNat / 64 = 2 ∧ z.toNat / 64 = 2
   ·obtain ⟨a3,a5,a6⟩:=a3
    unfold Lib.decodeN
    rw [if_neg a1,if_neg (by omega),if_neg (by omega),if_pos (by omega)]
    by_cases a4 : c.toNat % 8 * 262144 + x.toNat % 64 * 4096 + y.toNat % 64 * 64 + z.toNat % 64 ≥ 65536 ∧ (c.toNat % 8 * 262144 + x.toNat % 64 * 4096 + y.toNat % 64 * 64 + z.toNat % 64 < 55296 ∨ (57344 ≤ c.toNat % 8 * 262144 + x.toNat % 64 * 4096 + y.toNat % 64 * 64 + z.toNat % 64 ∧ c.toNat % 8 * 262144 + x.toNat % 64 * 4096 + y.toNat % 64 * 64 + z.toNat % 64 ≤ 1114111))
    ·rw [if_pos a4,if_pos ⟨by simp [isR]; omega,by omega⟩]; rfl
    ·rw [if_neg a4,if_neg (by rintro ⟨h',h⟩; simp [isR] at h'; omega)]; rfl
   ·rw [if_neg (by rintro ⟨_,h⟩; omega),zDO (by omega) (by omega) (by omega) (by omega)]; rfl
 ·have hh : zDP c.toNat = (0,0):=by simp [zDP,a1,a2,b2,c2]
  simp only [zCX,hh]
  rw [if_pos (by simp),zDO (by omega) (by omega) (by omega) (by omega)]; rfl
def oddL : List UInt8:=[239,191,189]
theorem zTY : zEH 65533 = oddL:=by decide
theorem zDK {l : List UInt8} {n k : Nat} (h : zCX l = some (n,k)) : isR n = true ∧ zEH n = l.take k ∧ 0 < k ∧ k ≤ l.length:=by
 unfold zCX at h
 split at h
 ·cases h
 ·split at h
  ·cases h
  ·rename_i c tl h1
   split at h
   ·rename_i h2
    simp only [Option.some.injEq,Prod.mk.injEq] at h
    obtain ⟨rfl,rfl⟩:=h
    exact ⟨h2.1,h2.2,by omega,by omega⟩
   ·cases h
theorem zLT (tl : List UInt8) : zCX (239 :: 191 :: 189 :: tl) = some (65533,3):=by
 simp [zCX,zDP,numN,isR,zEH,zJA]
end Go.Proofs.YtebloodpblgncaaGreat
namespace Go.Proofs.YtebloodpblgncaaGreat
open Go Go.Ax
variable {fuel : Nat} {M : Mem} {Q : AV → Mem → Prop} {d : Nat}
def ofF : Nat → List UInt8 → Option (List Int)
 | 0,_=>some []
 | f + 1,l=>match l with
  | []=>some []
  | c :: tl=>match zCX (c :: tl) with
   | none=>none
   | some (n,k)=>(ofF f ((c :: tl).drop k)).map ((n : Int) :: ·)
def ofL (l : List UInt8) : Option (List Int):=ofF l.length l
def ofM (l : List UInt8) : List Int:=match ofL l with | none=>[] | some m=>if 64 < m.length then [] else m
def ofE (l : List UInt8) : Int:=match ofL l with | none=>3 | some m=>if 64 < m.length then 4 else 0
theorem zPN : ∀ (f g : Nat) (l : List UInt8),l.length ≤ f → l.length ≤ g → ofF f l = ofF g l
 | 0,g,l,h,_=>by
  have : l = []:=List.eq_nil_of_length_eq_zero (by omega)
  subst this
  cases g <;> rfl
 | f + 1,0,l,_,h=>by
  have : l = []:=List.eq_nil_of_length_eq_zero (by omega)
  subst this; rfl
 | f + 1,g + 1,[],_,_=>rfl
 | f + 1,g + 1,c :: tl,h1,h2=>by
  cases hf : zCX (c :: tl) with
  | none=>simp only [ofF,hf]
  | some p =>
   obtain ⟨n,k⟩:=p
   have:=(zDK hf).2.2.1
   simp only [ofF,hf]
   rw [zPN f g _ (by rw [List.length_drop]; simp only [List.length_cons] at h1 ⊢; omega) (by rw [List.length_drop]; simp only [List.length_cons] at h2 ⊢; omega)]
theorem zO0 : ofL [] = some []:=rfl
theorem zZO (l : List UInt8) (h : l ≠ []) : ofL l = match zCX l with | none=>none | some (n,k)=>(ofL (l.drop k)).map ((n : Int) :: ·):=by
 cases l with
 | nil=>exact absurd rfl h
 | cons c tl =>
  show ofF (tl.length + 1) (c :: tl) = _
  cases hf : zCX (c :: tl) with
  | none=>simp only [ofF,hf]
  | some p =>
   obtain ⟨n,k⟩:=p
   have:=(zDK hf).2.2.1
   simp only [ofF,hf,ofL]
   rw [zPN tl.length _ _ (by rw [List.length_drop]; simp only [List.length_cons]; omega) (Nat.le_refl _)]
def pre (s p : List UInt8) : Bool:=decide (s.take p.length = p)
theorem zNX (s p : List UInt8) : ∀ M,zAE Tryz.prog (fsT tbl) fuel (d + 1) (.fn 52) [STR s,STR p] M = some (BL (pre s p),M):=by
 intro M
 apply zBG
 refine zAJ tf52 rfl (by simp (maxSteps:=2000000) (disch:=first | omega | assumption | (simp only [DS,Nat.reduceAdd, *]; done) | (simp only [DZ]; omega)) only [RUN,icyL]) (by simp [a52]) fun b ht hx=>?_
 have h0:=hx 0 _ rfl
 have h1:=hx 1 _ rfl
 clear hx
 simp only [a52,c52,zzm] at ht ⊢
 have sl:=fun t lo hi r x=>zeX (P:=Tryz.prog) (t:=t) Tryz.underlying9 x lo hi r
 have ln:=fun t x r=>zeW (P:=Tryz.prog) (t:=t) Tryz.underlying9 x r
 by_cases hp : p.length ≤ s.length
 ·have q1 : decide ((p.length : Int) ≤ s.length) = true:=decide_eq_true (by omega)
  have st:=fun d=>zfB (d:=d) hp
  simp (maxSteps:=2000000) (disch:=first | omega | assumption | (simp only [DS,Nat.reduceAdd, *]; done) | (simp only [DZ]; omega)) only [RUN,RU,zA2,zA1,zA0,zAA,frzL,reduceIte,Nat.reduceEqDiff,h0,h1,sl,ln,zEF,q1,st]
  rfl
 ·have q1 : decide ((p.length : Int) ≤ s.length) = false:=decide_eq_false (by omega)
  have : pre s p = false:=by
   simp only [pre,decide_eq_false_iff_not]
   intro h
   have:=congrArg List.length h
   rw [List.length_take] at this; omega
  rw [this]
  simp (maxSteps:=2000000) (disch:=first | omega | assumption | (simp only [DS,Nat.reduceAdd, *]; done) | (simp only [DZ]; omega)) only [RUN,RU,zA2,zA1,zA0,zAA,frzL,reduceIte,Nat.reduceEqDiff,h0,h1,ln,zEF,q1]
theorem zOJ (s p : List UInt8) : ∀ M,zAE Tryz.prog (fsT tbl) fuel (d + 2) (.fn 27) [STR s,STR p] M = some (BL (pre s p),M):=by
 intro M
 apply zBG
 refine zAJ tf27 rfl (by simp (maxSteps:=2000000) (disch:=first | omega | assumption | (simp only [DS,Nat.reduceAdd, *]; done) | (simp only [DZ]; omega)) only [RUN,icyL]) (by simp [a27]) fun b ht hx=>?_
 have h0:=hx 0 _ rfl
 have h1:=hx 1 _ rfl
 clear hx
 simp only [a27,c27,zzm] at ht ⊢
 have lr:=zNX (fuel:=fuel) (d:=d) s p
 simp (maxSteps:=2000000) (disch:=first | omega | assumption | (simp only [DS,Nat.reduceAdd, *]; done) | (simp only [DZ]; omega)) only [RUN,RU,zA2,zA1,zA0,zAA,frzL,reduceIte,Nat.reduceEqDiff,h0,h1,lr]
set_option maxHeartbeats 8000000 in
theorem zIX (l : List UInt8) (hl : l.length ≤ 100000) (hf : l.length + 10 < fuel) : ∃ r,Sl 1 zB2 r (ofM l) ∧ ∀ M,zAE Tryz.prog (fsT tbl) fuel (d + 3) (.fn 9) [STR l] M = some (.tup [r,I64 (ofE l)],M):=by
 have ic : ∀ M,icyL (icy 12) M [STR l] = some ([STR l],M):=fun M=>by simp (maxSteps:=2000000) (disch:=first | omega | assumption | (simp only [DS,Nat.reduceAdd, *]; done) | (simp only [DZ]; omega)) only [RUN,icyL]
 have key : W3 (zAE Tryz.prog (fsT tbl) fuel (d + 3) (.fn 9) [STR l] mem0) (fun r _ => ∃ r',r = .tup [r',I64 (ofE l)] ∧ Sl 1 zB2 r' (ofM l)):=by
  refine zAJ tf9 rfl (ic mem0) (by simp [a9]) fun b ht hx=>?_
  have h0:=hx 0 _ rfl
  clear hx
  simp only [a9,c9,zzm,zze] at ht ⊢
  simp (maxSteps:=2000000) (disch:=first | omega | assumption | (simp only [DS,Nat.reduceAdd, *]; done) | (simp only [DZ]; omega)) only [RUN,RU,zA2,zA1,reduceIte,Nat.reduceEqDiff,h0,@x_rng,zbZ]
  refine zBF (I:=fun n t N => ∃ (i : Nat) (o : AV) (acc : List Int),n = l.length - i ∧ i ≤ l.length ∧ nth zA6 t 0 = STR l ∧ nth zA6 t 2 = o ∧ nth zA6 t 7 = .ptr 0 0 ∧ Wf N ∧ N.get 0 = some (.siter ⟨l.toArray⟩ i) ∧ SlM N 1 zB2 o acc ∧ rowOf o ≠ some 0 ∧ acc.length ≤ i ∧ ofL l = (ofL (l.drop i)).map (acc ++ ·)) (n:=l.length) (by omega) ?_ ?_
  ·refine ⟨0,NIL,[],by omega,by omega, ?_, ?_, ?_,by simp (maxSteps:=2000000) (disch:=first | omega | assumption | (simp only [DS,Nat.reduceAdd, *]; done) | (simp only [DZ]; omega)) only [RUN],by simp (maxSteps:=2000000) (disch:=first | omega | assumption | (simp only [DS,Nat.reduceAdd, *]; done) | (simp only [DZ]; omega)) only [RUN],SlM.nil,(fun h=>by cases h),by simp, ?_⟩
   ·simp (maxSteps:=2000000) (disch:=first | omega | assumption | (simp only [DS,Nat.reduceAdd, *]; done) | (simp only [DZ]; omega)) only [RUN,reduceIte,Nat.reduceEqDiff,h0]
   ·simp (maxSteps:=2000000) (disch:=first | omega | assumption | (simp only [DS,Nat.reduceAdd, *]; done) | (simp only [DZ]; omega)) only [RUN,reduceIte,Nat.reduceEqDiff]
   ·simp (maxSteps:=2000000) (disch:=first | omega | assumption | (simp only [DS,Nat.reduceAdd, *]; done) | (simp only [DZ]; omega)) only [RUN,reduceIte,Nat.reduceEqDiff]
   ·simp
  ·rintro n t N hl' ⟨i,o,acc,rfl,hi,t0,t2,t7,wfN,g0,hN,ho0,hacc,hof⟩
   simp only [ht] at hl' ⊢
   clear h0 ht b
   have lN:=Mem.get_lt g0
   by_cases hlt : i < l.length
   ·have hne : l.drop i ≠ []:=by
     intro h; have:=congrArg List.length h; rw [List.length_drop] at this; simp at this; omega
    have hdec : Utf8.decode ⟨l.toArray⟩ i = (zCX (l.drop i)).getD (65533,1):=by
     have:=Lib.decodeL_drop ⟨l.toArray⟩ i
     rw [← this]
     show Lib.decodeL (l.drop i) = _
     cases hd : l.drop i with
     | nil=>exact absurd hd hne
     | cons c tl=>exact zLS c tl
    have nx:=ze3 (s:=⟨l.toArray⟩) wfN g0 lN (by rw [zEF]; exact hlt)
    rw [hdec] at nx
    rw [zZO _ hne] at hof
    have sl:=fun t lo hi r x=>zeX (P:=Tryz.prog) (t:=t) Tryz.underlying9 x lo hi r
    have sf:=fun d=>zYE (d:=d) (show i ≤ l.length by omega)
    have pr:=zOJ (fuel:=fuel) (d:=d) (l.drop i) [239,191,189]
    cases hfi : zCX (l.drop i) with
    | none =>
     rw [hfi] at nx hof
     simp only [Option.getD_none,goInt] at nx
     have hp : pre (l.drop i) [239,191,189] = false:=by
      simp only [pre,decide_eq_false_iff_not]
      intro h
      match hd : l.drop i,h with
      | 239 :: 191 :: 189 :: tl,_=>rw [hd,zLT] at hfi; cases hfi
      | [],h=>simp at h
      | [a],h=>simp at h
      | [a,b],h=>simp at h
      | a :: b :: c :: tl,h =>
       simp only [List.length_cons,List.length_nil,Nat.zero_add,Nat.reduceAdd,List.take_succ_cons,List.take_zero,List.cons.injEq,and_true] at h
       obtain ⟨rfl,rfl,rfl⟩:=h
       rw [hd,zLT] at hfi; cases hfi
     rw [hp] at pr
     have q1 : ofE l = 3:=by simp [ofE,hof]
     have q2 : ofM l = []:=by simp [ofM,hof]
     rw [q1,q2]
     have qq : decide (((65533 : Nat) : Int) = 65533) = true:=by decide
     simp (maxSteps:=2000000) (disch:=first | omega | assumption | (simp only [DS,Nat.reduceAdd, *]; done) | (simp only [DZ]; omega)) only [RUN,RU,zA2,zA1,zA0,zAA,frzL,reduceIte,Nat.reduceEqDiff,t0,t2,t7,@zYO,nx,sl,sf,pr,qq]
     exact ⟨_,rfl,.inl ⟨rfl,rfl⟩⟩
    | some p =>
     obtain ⟨n,k⟩:=p
     obtain ⟨b1,b2,b3,b4⟩:=zDK hfi
     rw [hfi] at nx hof
     rw [List.length_drop] at b4
     simp only [Option.getD_some,goInt] at nx
     simp only at hof
     have hn : (n : Int) ≤ 1114111:=by simp [isR] at b1; omega
     have hp : decide ((n : Int) = 65533) = true → pre (l.drop i) [239,191,189] = true:=fun h=>by
      have : n = 65533:=by have:=of_decide_eq_true h; omega
      subst this
      rw [zTY] at b2
      simp only [pre,decide_eq_true_eq]
      have h3 : k = 3:=by
       rcases Nat.lt_or_ge k (l.length - i + 1) with hk | hk
       ·have:=congrArg List.length b2
        rw [List.length_take,List.length_drop,Nat.min_eq_left b4] at this
        exact this.symm
       ·omega
      subst h3
      exact b2.symm
     have fin : ∀ (o' : AV) (N' : Mem),Wf N' → N'.get 0 = some (.siter ⟨l.toArray⟩ (i + k)) → SlM N' 1 zB2 o' (acc ++ [(n : Int)]) → rowOf o' ≠ some 0 →
       ∃ m,m < l.length - i ∧ ∃ (i' : Nat) (o'' : AV) (acc' : List Int),m = l.length - i' ∧ i' ≤ l.length ∧ o' = o'' ∧ Wf N' ∧ N'.get 0 = some (.siter ⟨l.toArray⟩ i') ∧ SlM N' 1 zB2 o'' acc' ∧ rowOf o'' ≠ some 0 ∧ acc'.length ≤ i' ∧ ofL l = (ofL (l.drop i')).map (acc' ++ ·):=by
      intro o' N' w1 w2 w3 w4
      refine ⟨l.length - (i + k),by omega,i + k,o',acc ++ [(n : Int)],rfl,by omega,rfl,w1,w2,w3,w4,by simp; omega, ?_⟩
      rw [hof,List.drop_drop]
      cases ofL (l.drop (i + k)) <;> simp
     have oo:=hN.one
     have oco:=hN.cells
     have rlo:=zAT hN.rl (show N.size ≤ N.size + 1 by omega)
     cases hq : decide ((n : Int) = 65533)
     all_goals
      try rw [hp hq] at pr
      simp (maxSteps:=2000000) (disch:=first | omega | assumption | (simp only [DS,Nat.reduceAdd, *]; done) | (simp only [DZ]; omega)) only [RUN,RU,zA2,zA1,lay,zAI,zAB,reduceIte,Nat.reduceEqDiff,Nat.reduceBEq,t0,t2,t7,@zYO,nx,sl,sf,pr,hq,rlo]
      refine zV1 (by simp (maxSteps:=2000000) (disch:=first | omega | assumption | (simp only [DS,Nat.reduceAdd, *]; done) | (simp only [DZ]; omega)) only [RUN,wfN]) (hN.keep fun j hj=>?kp) zFB.cel (l':=[(n : Int)]) (new:=[[I32 n]]) (zCH (cs:=[I32 n]) (n:=1) (st:=1) (zAH (wfN.upd _ _) _ _ (Nat.le_refl _) (Nat.lt_succ_self _)) rfl) rfl (.cons rfl .nil) (by simp) (by omega) (by simp; omega) (by simp; omega) fun o4 M4 m4 wf4 le4 sz4 kp4 nw4 wm4 rl4 on4 oc4=>?_
      case kp =>
       have:=hN.lt j hj
       have : 0 ≠ j:=fun e=>ho0 (by rw [e]; exact hj)
       simp (maxSteps:=2000000) (disch:=first | omega | assumption | (simp only [DS,Nat.reduceAdd, *]; done) | (simp only [DZ]; omega)) only [RUN]
      simp only [zA7,zAC] at le4 sz4
      have g4:=kp4 0 (by simp only [zA7,zAC]; omega) ho0
      simp (maxSteps:=2000000) (disch:=first | omega | assumption | (simp only [DS,Nat.reduceAdd, *]; done) | (simp only [DZ]; omega)) only [RUN] at g4
      simp (maxSteps:=2000000) (disch:=first | omega | assumption | (simp only [DS,Nat.reduceAdd, *]; done) | (simp only [DZ]; omega)) only [RUN,RU,zA2,zA1,reduceIte,Nat.reduceEqDiff,t0,t2,t7]
      exact ⟨hl',fin o4 M4 wf4 g4 m4 (fun h=>(nw4 0 h).elim (fun h=>ho0 h) (fun h=>by simp only [zA7,zAC] at h; omega))⟩
   ·have : i = l.length:=by omega
    subst this
    rw [List.drop_length,zO0] at hof
    simp only [Option.map_some,List.append_nil] at hof
    have nx:=zbC (s:=⟨l.toArray⟩) g0 (by rw [zEF]; exact Nat.le_refl _)
    have ln:=hN.len
    obtain ⟨r,hSr,hfz⟩:=zF5 hN zFB.cel 12 (by omega)
    have hfz:=hfz N (fun _ _=>rfl)
    by_cases h64 : 64 < acc.length
    ·have q1 : decide ((64 : Int) < acc.length) = true:=decide_eq_true (by omega)
     have q2 : ofE l = 4:=by simp [ofE,hof,h64]
     have q3 : ofM l = []:=by simp [ofM,hof,h64]
     rw [q2,q3]
     simp (maxSteps:=2000000) (disch:=first | omega | assumption | (simp only [DS,Nat.reduceAdd, *]; done) | (simp only [DZ]; omega)) only [RUN,RU,zA2,zA1,zA0,zAA,frzL,reduceIte,Nat.reduceEqDiff,t2,t7,@zYO,nx,ln,q1]
     exact ⟨_,rfl,.inl ⟨rfl,rfl⟩⟩
    ·have q1 : decide ((64 : Int) < acc.length) = false:=decide_eq_false (by omega)
     have q2 : ofE l = 0:=by simp [ofE,hof,h64]
     have q3 : ofM l = acc:=by simp [ofM,hof,h64]
     rw [q2,q3]
     simp (maxSteps:=2000000) (disch:=first | omega | assumption | (simp only [DS,Nat.reduceAdd, *]; done) | (simp only [DZ]; omega)) only [RUN,RU,zA2,zA1,zA0,zAA,frzL,reduceIte,Nat.reduceEqDiff,t2,t7,@zYO,nx,ln,q1,hfz]
     exact ⟨_,rfl,hSr⟩
 obtain ⟨r,N,hcl,r',rfl,hSr⟩:=key
 exact ⟨r',hSr,fun M=>zD2 tf9 rfl hcl (ic mem0) (ic M)⟩
theorem zdS {n : Nat} (h : isR n = true) : okR (n : Int) = true:=by
 unfold isR at h
 unfold okR zN2
 simp at h ⊢
 omega
theorem zZP : ∀ (f : Nat) (l : List UInt8) (m : List Int),l.length ≤ f → ofL l = some m → ∀ x ∈ m,okR x = true
 | 0,l,m,h,e,x,hx=>by
  have : l = []:=List.eq_nil_of_length_eq_zero (by omega)
  subst this
  rw [zO0] at e
  cases e
  cases hx
 | f + 1,[],m,h,e,x,hx=>by
  rw [zO0] at e
  cases e
  cases hx
 | f + 1,c :: tl,m,h,e,x,hx=>by
  rw [zZO _ (by simp)] at e
  cases hf : zCX (c :: tl) with
  | none=>rw [hf] at e; cases e
  | some p =>
   obtain ⟨n,k⟩:=p
   rw [hf] at e
   obtain ⟨b1,_,b3,b4⟩:=zDK hf
   simp only at e
   cases ho : ofL ((c :: tl).drop k) with
   | none=>rw [ho] at e; cases e
   | some m' =>
    rw [ho] at e
    simp only [Option.map_some,Option.some.injEq] at e
    subst e
    rcases List.mem_cons.1 hx with rfl | hx
    ·exact zdS b1
    ·exact zZP f _ m' (by rw [List.length_drop]; simp only [List.length_cons] at h ⊢; omega) ho x hx
theorem zO1 {l : List UInt8} (h : ofE l = 0) : chkR (ofM l) = 0 ∧ (ofM l).length ≤ 64 ∧ i32s (ofM l):=by
 unfold ofE at h
 unfold ofM
 cases ho : ofL l with
 | none=>rw [ho] at h; cases h
 | some m =>
  rw [ho] at h
  simp only at h ⊢
  split at h
  ·cases h
  ·rename_i hl
   rw [if_neg hl]
   have hok:=zZP l.length l m (Nat.le_refl _) ho
   refine ⟨?_,by omega,fun x hx=>?_⟩
   ·unfold chkR
    rw [if_neg hl,List.all_eq_true.2 hok]
    rfl
   ·have:=hok x hx
    unfold okR zN2 at this
    simp at this
    omega
end Go.Proofs.YtebloodpblgncaaGreat
namespace Go.Proofs.YtebloodpblgncaaGreat
open Go Go.Ax
variable {fuel : Nat} {M : Mem} {Q : AV → Mem → Prop} {d : Nat} {l : List Op} {a : AV} {v : Lb}
def inE (l : List Op) (h : Hd) (s k : Int) (t : List UInt8) : Int:=if edE l h s = 0 then (if ofE t = 0 then (if zKU l h.lb k = 0 then (if (ofM t).length = 0 then 2 else (if zHB l h = 0 then (if 1099511627776 < zBW l h + (ofM t).length - 1 then 9 else 0) else zHB l h)) else 2) else ofE t) else edE l h s
def opZ : Op:=⟨0,Hd.z,0,⟨Eid.z,0⟩,Eid.z,Lb.z,[]⟩
def inO (l : List Op) (h : Hd) (s k : Int) (t : List UInt8) : Op:=if inE l h s k t = 0 then zCD h s (zBW l h) (zDH l h.lb k) (ofM t) else opZ
def inK (l : List Op) (h : Hd) (s k : Int) (t : List UInt8) (r : AV) : Prop:=∃ ra,r = .tup [.agg (opR (inO l h s k t) ra),I64 (inE l h s k t)] ∧ Sl 1 zB2 ra (inO l h s k t).rs
theorem zGP {h : Hd} {s k : Int} {t : List UInt8} {e : Int} (he : inE l h s k t = e) (hn : e ≠ 0) : inK l h s k t (.tup [.agg (opR opZ NIL),I64 e]):=by
 refine ⟨NIL, ?_, ?_⟩
 ·unfold inO; rw [he,if_neg hn]
 ·unfold inO; rw [he,if_neg hn]; exact .inl ⟨rfl,rfl⟩
theorem ze4 {t : List UInt8} : ofE t = 0 ∨ ofE t = 3 ∨ ofE t = 4:=by
 unfold ofE
 split
 ·exact .inr (.inl rfl)
 ·split
  ·exact .inr (.inr rfl)
  ·exact .inl rfl
theorem zL0 (l : List Op) (h : Hd) (hn : zHB l h = 0) : 1 ≤ zBW l h ∧ zBW l h ≤ 1099511627776:=by
 have h0:=(zOI (cs:=zCG (elsR (textOf l))) (v:=h.lb)).1
 have h0 : 0 ≤ topH l h:=h0
 have hn':=hn
 unfold zHB at hn
 unfold zBW
 rw [if_pos hn']
 split at hn
 ·split at hn
  ·split at hn
   ·cases hn
   ·omega
  ·cases hn
 ·cases hn
set_option maxHeartbeats 16000000 in
theorem zNH {h : Hd} {s k : Int} {t : List UInt8} (hS : Sl 17 isOp a l) (ht1 : t.length ≤ 2000) (hl : l.length ≤ 200) (hf : 3200000 < fuel) (hd : ∀ o ∈ l,o.rs.length ≤ 1000000000) : ∃ r,inK l h s k t r ∧ ∀ M,zAE Tryz.prog (fsT tbl) fuel (d + 21) (.fn 6) [a,hdA h,I64 s,I64 k,STR t] M = some (r,M):=by
 have hask:=fun M=>zQO (fuel:=fuel) (d:=d + 5) (h:=h) (s:=s) hS (by omega) (by omega) M
 obtain ⟨ro,hro,hof⟩:=zIX (fuel:=fuel) (d:=d + 17) t (by omega) (by omega)
 have hlf:=fun M=>zX4 (fuel:=fuel) (d:=d + 1) (v:=h.lb) (k:=k) hS hl (by omega) hd M
 have hnx:=fun M=>zV0 (fuel:=fuel) (d:=d + 1) (h:=h) hS hl (by omega) M
 have lro:=hro.len
 have oro:=hro.one
 refine zF8 tf6 rfl (fun M=>by simp only [icyL,fun M=>hS.icy M 12 (by omega),zAY (zP5 h) (show 1 < 12 by omega),zJ6]) ?_
 refine zAJ tf6 rfl (by simp only [icyL,fun M=>hS.icy M 12 (by omega),zAY (zP5 h) (show 1 < 12 by omega),zJ6]) (by simp [a6]) fun b' ht hx=>?_
 have h0:=hx 0 _ rfl
 have h1:=hx 1 _ rfl
 have h2:=hx 2 _ rfl
 have h3:=hx 3 _ rfl
 have h4:=hx 4 _ rfl
 clear hx
 simp only [a6,c6,zz2,zz3,zz5,zzm,zzg] at ht ⊢
 by_cases q1 : edE l h s = 0
 ·have q1':=decide_eq_true q1
  rcases ze4 (t:=t) with q2 | q2 | q2
  ·have hk:=zO1 q2
   rw [q2] at hof
   by_cases q3 : zKU l h.lb k = 0
   ·have q3':=decide_eq_true q3
    rw [q3] at hlf
    by_cases q4 : (ofM t).length = 0
    ·have q4' : decide (((ofM t).length : Int) = 0) = true:=decide_eq_true (by omega)
     have he : inE l h s k t = 2:=by unfold inE; rw [if_pos q1,if_pos q2,if_pos q3,if_pos q4]
     have:=zGP he (by decide)
     simp (maxSteps:=2000000) (disch:=first | omega | assumption | (simp only [DS,Nat.reduceAdd, *]; done) | (simp only [DZ]; omega)) only [RUN,RU,zA2,zA1,zA0,zAA,frzL,slot,lay,zAI,reduceIte,Nat.reduceEqDiff,Nat.reduceAdd,Nat.reduceSub,h0,h1,h2,h3,h4,hask,q1',hof,hlf,lro,q4']
     exact ⟨_,this,rfl⟩
    ·have q4' : decide (((ofM t).length : Int) = 0) = false:=decide_eq_false (by omega)
     by_cases q5 : zHB l h = 0
     ·have q5':=decide_eq_true q5
      have nb:=zL0 l h q5
      rw [q5] at hnx
      have w1 : IntKind.i64.wrap (zBW l h + ((ofM t).length : Int)) = zBW l h + (ofM t).length:=by rw [wrap_i64] <;> omega
      have w2 : IntKind.i64.wrap (zBW l h + ((ofM t).length : Int) - 1) = zBW l h + (ofM t).length - 1:=by rw [wrap_i64] <;> omega
      by_cases q6 : 1099511627776 < zBW l h + (ofM t).length - 1
      ·have q6':=decide_eq_true q6
       have he : inE l h s k t = 9:=by unfold inE; rw [if_pos q1,if_pos q2,if_pos q3,if_neg q4,if_pos q5,if_pos q6]
       have:=zGP he (by decide)
       simp (maxSteps:=2000000) (disch:=first | omega | assumption | (simp only [DS,Nat.reduceAdd, *]; done) | (simp only [DZ]; omega)) only [RUN,RU,zA2,zA1,slot,lay,reduceIte,Nat.reduceEqDiff,Nat.reduceAdd,h0,h1,h2,h3,h4,hask,q1',hof,hlf,lro,q4']
       simp (maxSteps:=2000000) (disch:=first | omega | assumption | (simp only [DS,Nat.reduceAdd, *]; done) | (simp only [DZ]; omega)) only [RUN,RU,zA2,zA1,zA0,zAA,frzL,slot,lay,zAI,reduceIte,Nat.reduceEqDiff,Nat.reduceAdd,Nat.reduceSub,Int.reduceEq,lro,hnx,w1,w2,q6']
       exact ⟨_,this,rfl⟩
      ·have q6':=decide_eq_false q6
       have he : inE l h s k t = 0:=by unfold inE; rw [if_pos q1,if_pos q2,if_pos q3,if_neg q4,if_pos q5,if_neg q6]
       unfold inK inO
       rw [he,if_pos rfl]
       simp (maxSteps:=2000000) (disch:=first | omega | assumption | (simp only [DS,Nat.reduceAdd, *]; done) | (simp only [DZ]; omega)) only [RUN,RU,zA2,zA1,slot,lay,reduceIte,Nat.reduceEqDiff,Nat.reduceAdd,h0,h1,h2,h3,h4,hask,q1',hof,hlf,lro,q4']
       simp (maxSteps:=2000000) (disch:=first | omega | assumption | (simp only [DS,Nat.reduceAdd, *]; done) | (simp only [DZ]; omega)) only [RUN,RU,zA2,zA1,zA0,zAA,frzL,slot,lay,zAI,reduceIte,Nat.reduceEqDiff,Nat.reduceBEq,Nat.reduceAdd,Nat.reduceSub,h2,hro.fz.cells,hro.fz.frz,lro,hnx,w1,w2,q6',↓zd0,za4]
       exact ⟨_,⟨ro,rfl,hro⟩,rfl⟩
     ·have q5':=decide_eq_false q5
      have he : inE l h s k t = zHB l h:=by unfold inE; rw [if_pos q1,if_pos q2,if_pos q3,if_neg q4,if_neg q5]
      have:=zGP he q5
      simp (maxSteps:=2000000) (disch:=first | omega | assumption | (simp only [DS,Nat.reduceAdd, *]; done) | (simp only [DZ]; omega)) only [RUN,RU,zA2,zA1,slot,lay,reduceIte,Nat.reduceEqDiff,Nat.reduceAdd,h0,h1,h2,h3,h4,hask,q1',hof,hlf,lro,q4']
      simp (maxSteps:=2000000) (disch:=first | omega | assumption | (simp only [DS,Nat.reduceAdd, *]; done) | (simp only [DZ]; omega)) only [RUN,RU,zA2,zA1,zA0,zAA,frzL,slot,lay,zAI,reduceIte,Nat.reduceEqDiff,Nat.reduceAdd,Nat.reduceSub,hnx,q5']
      exact ⟨_,this,rfl⟩
   ·have q3':=decide_eq_false q3
    have he : inE l h s k t = 2:=by unfold inE; rw [if_pos q1,if_pos q2,if_neg q3]
    have:=zGP he (by decide)
    simp (maxSteps:=2000000) (disch:=first | omega | assumption | (simp only [DS,Nat.reduceAdd, *]; done) | (simp only [DZ]; omega)) only [RUN,RU,zA2,zA1,zA0,zAA,frzL,slot,lay,zAI,reduceIte,Nat.reduceEqDiff,Nat.reduceAdd,Nat.reduceSub,h0,h1,h2,h3,h4,hask,q1',hof,hlf,q3']
    exact ⟨_,this,rfl⟩
  all_goals
   rw [q2] at hof
   have he : inE l h s k t = ofE t:=by unfold inE; rw [if_pos q1,if_neg (by rw [q2]; decide)]
   rw [q2] at he
   have:=zGP he (by decide)
   simp (maxSteps:=2000000) (disch:=first | omega | assumption | (simp only [DS,Nat.reduceAdd, *]; done) | (simp only [DZ]; omega)) only [RUN,RU,zA2,zA1,zA0,zAA,frzL,slot,lay,zAI,reduceIte,Nat.reduceEqDiff,Nat.reduceAdd,Nat.reduceSub,Int.reduceEq,h0,h1,h2,h4,hask,q1',hof]
   exact ⟨_,this,rfl⟩
 ·have q1':=decide_eq_false q1
  have he : inE l h s k t = edE l h s:=by unfold inE; rw [if_neg q1]
  have:=zGP he q1
  simp (maxSteps:=2000000) (disch:=first | omega | assumption | (simp only [DS,Nat.reduceAdd, *]; done) | (simp only [DZ]; omega)) only [RUN,RU,zA2,zA1,zA0,zAA,frzL,slot,lay,zAI,reduceIte,Nat.reduceEqDiff,Nat.reduceAdd,Nat.reduceSub,h0,h1,h2,hask,q1']
  exact ⟨_,this,rfl⟩
end Go.Proofs.YtebloodpblgncaaGreat
namespace Go.Proofs.YtebloodpblgncaaGreat
open Go Go.Ax
variable {l : List Op} {v : Lb}
theorem left_of {k : Int} (h : zKU l v k = 0) : zFO l v = 0 ∧ 0 ≤ k ∧ k ≤ (zBS l v).length:=by
 unfold zKU at h
 split at h
 ·rename_i h1
  split at h
  ·cases h
  ·exact ⟨h1,by omega,by omega⟩
 ·rename_i h1
  exact absurd h h1
theorem zbA {h : Hd} (hn : zHB l h = 0) : h.may = true ∧ topH l h < 1099511627776 ∧ zBW l h = topH l h + 1:=by
 have h0:=hn
 unfold zHB at hn
 unfold zBW
 rw [if_pos h0]
 split at hn
 ·split at hn
  ·split at hn
   ·cases hn
   ·exact ⟨by assumption,by omega,rfl⟩
  ·cases hn
 ·cases hn
theorem left_at {k : Int} (h : zKU l v k = 0) : (k.toNat = 0 ∧ zDH l v k = Eid.z) ∨ (0 < k.toNat ∧ ∃ c,(zBS l v)[k.toNat - 1]? = some c ∧ c.id = zDH l v k):=by
 obtain ⟨h1,h2,h3⟩:=left_of h
 unfold zDH
 by_cases hk : 0 < k
 ·right
  have e : (k - 1).toNat = k.toNat - 1:=by omega
  have hlt : k.toNat - 1 < (zBS l v).length:=by omega
  rw [if_pos ⟨h,hk⟩,e,List.getElem?_eq_getElem hlt]
  exact ⟨by omega,_,rfl,rfl⟩
 ·left
  rw [if_neg (fun h=>hk h.2)]
  exact ⟨by omega,rfl⟩
theorem cells_ok {r : AV} {cs : List CellV} (h : Sl 5 zEK r cs) : ∀ c ∈ cs,c.id.ok:=by
 intro c hc
 obtain ⟨i,hi,rfl⟩:=List.getElem_of_mem hc
 obtain ⟨_,_,⟨_,hok⟩,_⟩:=h.iad i hi
 exact hok
end Go.Proofs.YtebloodpblgncaaGreat
namespace Go.Ax
open Go
variable {α : Type} {M N : Mem} {st : Nat} {T : List AV → α → Prop} {v o : AV} {l : List α}
theorem SlR.hand2 {P : Program} {fs : Nat → Option AFunc} {fuel f n : Nat} {af : AFunc} {y : AV} {R : AV → Prop} {Q : AV → Mem → Prop} (h : fs f = some af) (hg : af.gc = 1) (hN : SlR M st T o l) (wf : Wf M) (hT : FzT T) (hy : ∀ M,Go.Ax.icy 12 M y = some (y,M)) (hc : ∀ o',Sl st T o' l → ∃ r,R r ∧ ∀ M,zAE P fs fuel (n + 1) (.fn f) [y,o'] M = some (r,M))
  (k : ∀ r M',R r → Wf M' → M'.size = M.size → SlR M' st T o l → (∀ j,rowOf o ≠ some j → M'.get j = M.get j) → Q r M') : W3 (zAE P fs fuel (n + 1) (.fn f) [y,o] M) Q:=by
 obtain ⟨o',M',i1,s1,w1,z1,r1,g1⟩:=hN.icyk wf hT (k:=12) (by omega)
 obtain ⟨r,hR,hcall⟩:=hc o' s1
 refine ⟨r,M',zD2 (bs:=[y,o']) h hg (hcall mem0) (M3:=mem0) ?_ ?_,k r M' hR w1 z1 (hN.keep r1) g1⟩
 ·simp only [icyL,hy,s1.icy mem0 12 (by omega)]
 ·simp only [icyL,hy,i1]
end Go.Ax
namespace Go.Proofs.YtebloodpblgncaaGreat
open Go Go.Ax
variable {fuel : Nat} {M : Mem} {Q : AV → Mem → Prop} {d : Nat} {l : List Op} {a : AV}
def wO (o : Op) : Int:=imax (imin (imax o.sp.n 0) 100) (imin (o.rs.length : Int) 1000)
def sumW (l : List Op) : Int:=(l.map wO).sum
def zLW (l : List Op) (many : Int) : Bool:=decide (many < l.length) || decide (300 < sumW (l.take 300))
theorem zQB (o : Op) : 0 ≤ wO o ∧ wO o ≤ 1000 ∧ ((o.rs.length : Int) ≤ wO o ∨ 1000 ≤ wO o):=by
 unfold wO imax imin
 repeat' split
 all_goals omega
theorem sumW_snoc (l : List Op) (o : Op) : sumW (l ++ [o]) = sumW l + wO o:=by unfold sumW; simp
theorem zLD : ∀ (l : List Op),0 ≤ sumW l ∧ sumW l ≤ 1000 * l.length
 | []=>by simp [sumW]
 | o :: l=>by
  have h1:=zLD l
  have h2:=zQB o
  unfold sumW at *
  simp only [List.map_cons,List.sum_cons,List.length_cons]
  omega
theorem zQ7 : ∀ (l : List Op) (o : Op),o ∈ l → wO o ≤ sumW l
 | [],_,h=>by cases h
 | p :: l,o,h=>by
  have h1:=zLD l
  have h2:=zQB p
  rcases List.mem_cons.1 h with rfl | h
  ·unfold sumW at *; simp only [List.map_cons,List.sum_cons]; omega
  ·have:=zQ7 l o h
   unfold sumW at *; simp only [List.map_cons,List.sum_cons]; omega
theorem zNR {many : Int} (hm : many ≤ 300) (h : zLW l many = false) : (l.length : Int) ≤ many ∧ ∀ o ∈ l,o.rs.length ≤ 300:=by
 unfold zLW at h
 simp only [Bool.or_eq_false_iff,decide_eq_false_iff_not] at h
 refine ⟨by omega,fun o ho=>?_⟩
 have ht : l.take 300 = l:=List.take_of_length_le (by omega)
 rw [ht] at h
 have:=zQ7 l o ho
 have:=zQB o
 omega
set_option maxHeartbeats 4000000 in
theorem zT4 {many : Int} (hS : Sl 17 isOp a l) (hf : 400 < fuel) (M : Mem) : zAE Tryz.prog (fsT tbl) fuel (d + 1) (.fn 5) [a,I64 many] M = some (BL (zLW l many),M):=by
 have ll:=hS.len
 apply zBG
 refine zAJ tf5 rfl (by simp only [icyL,fun M=>hS.icy M 12 (by omega),zJ6]) (by simp [a5]) fun b' ht hx=>?_
 have h0:=hx 0 _ rfl
 have h1:=hx 1 _ rfl
 clear hx
 simp only [a5,c5,zzm,zzg] at ht ⊢
 unfold zLW
 simp (maxSteps:=2000000) (disch:=first | omega | assumption | (simp only [DS,Nat.reduceAdd, *]; done) | (simp only [DZ]; omega)) only [RUN,RU,zA2,zA1]
 refine zBF (I:=fun n t N => ∃ (i : Nat),n = 300 - i ∧ i ≤ 300 ∧ nth zA6 t 0 = a ∧ nth zA6 t 1 = I64 many ∧ nth zA6 t 5 = I64 (sumW (l.take i)) ∧ nth zA6 t 6 = I64 i ∧ N = mem0 ∧ i ≤ l.length) (n:=300) (by omega) ?_ ?_
 ·refine ⟨0,rfl,Nat.zero_le _, ?_, ?_, ?_, ?_,rfl,Nat.zero_le _⟩ <;> simp (maxSteps:=2000000) (disch:=first | omega | assumption | (simp only [DS,Nat.reduceAdd, *]; done) | (simp only [DZ]; omega)) only [RUN,RU,reduceIte,Nat.reduceEqDiff,h0,h1]
  all_goals first | rfl | assumption | done
 ·rintro n t N hlt ⟨i,rfl,hi,g0,g1,g5,g6,hm,hil⟩
  simp only [ht] at hlt ⊢
  subst hm
  by_cases hc : i < l.length
  ·have q1 : decide ((i : Int) < l.length) = true:=decide_eq_true (by omega)
   by_cases hc3 : i < 300
   ·have q2 : decide ((i : Int) < 300) = true:=decide_eq_true (by omega)
    have w1 : IntKind.i64.wrap ((i : Int) + 1) = ((i + 1 : Nat) : Int):=by rw [wrap_i64] <;> omega
    obtain ⟨r,hiad,hr,hrl⟩:=hS.iad i hc
    have hsn:=sumW_snoc (l.take i) l[i]
    rw [← take_snoc l i hc] at hsn
    have hps:=zLD (l.take i)
    rw [List.length_take] at hps
    have hwo:=zQB l[i]
    generalize l[i] = e at *
    obtain ⟨ra,rfl,hra,hok⟩:=hr
    have lra:=hra.len
    have w2 : IntKind.i64.wrap (sumW (l.take i) + wO e) = sumW (l.take (i + 1)):=by rw [hsn]; exact wrap_i64 (by omega) (by omega)
    simp (maxSteps:=2000000) (disch:=first | omega | assumption | (simp only [DS,Nat.reduceAdd, *]; done) | (simp only [DZ]; omega)) only [RUN,RU,zA2,zA1,reduceIte,Nat.reduceEqDiff,Nat.reduceBEq,Nat.reduceAdd,g0,g1,g5,g6,ll,q1,q2,w1,hiad,lra,zBX,BMM]
    refine ⟨hlt,300 - (i + 1),by omega,i + 1,rfl,by omega, ?_,rfl,by omega⟩
    show AV.sc (.int .i64 (IntKind.i64.wrap (sumW (l.take i) + wO e))) = I64 _
    rw [w2]
   ·have q2 : decide ((i : Int) < 300) = false:=decide_eq_false (by omega)
    obtain rfl : i = 300:=by omega
    cases q3 : decide (many < (l.length : Int))
    all_goals simp (maxSteps:=2000000) (disch:=first | omega | assumption | (simp only [DS,Nat.reduceAdd, *]; done) | (simp only [DZ]; omega)) only [RUN,RU,zA2,zA1,zA0,zAA,frzL,reduceIte,Nat.reduceEqDiff,Nat.reduceSub,g0,g1,g5,g6,ll,q1,q2,q3]
  ·have q1 : decide ((i : Int) < l.length) = false:=decide_eq_false (by omega)
   obtain rfl : i = l.length:=by omega
   have et : l.take 300 = l.take l.length:=by rw [List.take_of_length_le (Nat.le_refl _),List.take_of_length_le (by omega)]
   rw [et]
   cases q3 : decide (many < (l.length : Int))
   all_goals simp (maxSteps:=2000000) (disch:=first | omega | assumption | (simp only [DS,Nat.reduceAdd, *]; done) | (simp only [DZ]; omega)) only [RUN,RU,zA2,zA1,zA0,zAA,frzL,reduceIte,Nat.reduceEqDiff,g0,g1,g5,g6,ll,q3]
end Go.Proofs.YtebloodpblgncaaGreat
