/-
  Texts joined: TrG TrH TrI TrJ TrK TrM TwA VqE VqI VqJ VqK VpE VpF SwG SbF ViT SwV ViU.
-/
import Derived.Test.YtakefgebklfhpaaGreatEf
import Derived.Test.YtakefgebklfhpaaGreatVtA
import Derived.Test.YtakefgebklfhpaaGreatPb
set_option linter.unusedSimpArgs false
set_option linter.unusedVariables false
set_option maxRecDepth 100000
namespace Go.Proofs.YtakefgebklfhpaaGreat
open Go Go.Ax
variable {fuel : Nat} {M : Mem} {Q : AV → Mem → Prop} {d : Nat}
def cO1 : ACode:=(.seq (.region [⟨some 5,.alloc 37 (.agg #[(.int .u8 0),(.int .u32 0),(.int .u8 0),(.int .i64 0)]),none,[]⟩,⟨none,.store 4 (.tmp 5) (.tmp 12),none,[]⟩] false) (.region [⟨some 6,.alloc 37 (.agg #[(.int .u8 0),(.int .u32 0),(.int .u8 0),(.int .i64 0)]),none,[]⟩,⟨none,.store 4 (.tmp 6) (.tmp 13),none,[]⟩] false))
def cO2 : ACode:=(.block 1 (.scope (.seq (.region [⟨some 7,.alloc 37 (.agg #[(.int .u8 0),(.int .u32 0),(.int .u8 0),(.int .i64 0)]),none,[]⟩] false) (.seq .label (.seq (.block 2 (.loop (.seq (.seq (.region [⟨some 14,.load 1 false (.tmp 3),none,[]⟩,⟨some 15,.len (.tmp 14),none,[]⟩,⟨some 16,.pur (mkO (.binOp .gtr 3 (.tmp 15) (.const (.int .i64 0)) 3) 4),none,[]⟩] false) (.cond (.tmp 16) .skip (.exit 2))) (.block 3 (.seq (.region [⟨some 17,.load 1 false (.tmp 3),none,[1,2,3,6]⟩,⟨some 18,.load 1 false (.tmp 3),none,[0,6]⟩,⟨some 19,.len (.tmp 18),none,[0,6]⟩,⟨some 20,.pur (mkO (.binOp .sub 3 (.tmp 19) (.const (.int .i64 1)) 3) 3),none,[0,6]⟩,⟨some 21,.iad 4 (.tmp 17) (.tmp 20),none,[6]⟩,⟨some 22,.load 4 true (.tmp 21),none,[6]⟩,⟨some 8,.alloc 37 (.agg #[(.int .u8 0),(.int .u32 0),(.int .u8 0),(.int .i64 0)]),none,[0,1,2,3,4,5]⟩,⟨none,.store 4 (.tmp 8) (.tmp 22),none,[]⟩] false) (.seq (.seq (.region [⟨some 23,.load 4 true (.tmp 8),none,[1]⟩,⟨some 24,.load 4 true (.tmp 6),none,[0]⟩,⟨some 25,.pur (mkO (.binOp .eql 37 (.tmp 23) (.tmp 24) 37) 4),none,[]⟩] false) (.cond (.tmp 25) (.exit 2) .skip)) (.region [⟨some 26,.load 4 true (.tmp 8),none,[1,2,3,4,5]⟩,⟨some 27,.load 1 false (.tmp 3),none,[0,2,3,4,6]⟩,⟨some 28,.load 1 false (.tmp 3),none,[0,1,6]⟩,⟨some 29,.len (.tmp 28),none,[0,1,6]⟩,⟨some 30,.pur (mkO (.binOp .sub 3 (.tmp 29) (.const (.int .i64 1)) 3) 3),none,[0,1,6]⟩,⟨some 31,.slc 4 (.tmp 27) none (some (.tmp 30)) none,none,[0,6]⟩,⟨none,.store 4 (.tmp 7) (.tmp 26),none,[1,2,3,4,5]⟩,⟨none,.store 1 (.tmp 3) (.tmp 31),none,[]⟩] true))))))) (.seq (.seq (.region [⟨some 32,.load 1 false (.tmp 3),none,[]⟩,⟨some 33,.len (.tmp 32),none,[]⟩,⟨some 34,.pur (mkO (.binOp .eql 3 (.tmp 33) (.const (.int .i64 0)) 3) 4),none,[]⟩,⟨some 35,.mov (.tmp 34),none,[]⟩,⟨some 36,.load 4 true (.tmp 6),some (35,true),[5]⟩,⟨some 37,.build (.agg #[(.int .u8 0),(.int .u32 0),(.int .u8 0),(.int .i64 0)]) [],some (35,true),[4]⟩,⟨some 38,.pur (mkO (.binOp .neq 37 (.tmp 36) (.tmp 37) 37) 4),some (35,true),[]⟩,⟨some 39,.pick (.tmp 35) (.tmp 38) (.const (.bool false)),none,[]⟩,⟨some 40,.mov (.tmp 39),none,[]⟩,⟨some 41,.load 4 true (.tmp 7),some (40,false),[10]⟩,⟨some 42,.build (.agg #[(.int .u8 0),(.int .u32 0),(.int .u8 0),(.int .i64 0)]) [],some (40,false),[9]⟩,⟨some 43,.pur (mkO (.binOp .neq 37 (.tmp 41) (.tmp 42) 37) 4),some (40,false),[]⟩,⟨some 44,.mov (.tmp 43),some (40,false),[]⟩,⟨some 45,.load 4 true (.tmp 5),some (44,true),[14]⟩,⟨some 46,.load 4 true (.tmp 7),some (44,true),[13]⟩,⟨some 47,.call (.func 58) [(.tmp 45),(.tmp 46)],some (44,true),[]⟩,⟨some 48,.pur (mkO (.unOp .not 4 (.tmp 47)) 4),some (44,true),[]⟩,⟨some 49,.pick (.tmp 44) (.tmp 48) (.const (.bool false)),some (40,false),[]⟩,⟨some 50,.pick (.tmp 40) (.const (.bool true)) (.tmp 49),none,[]⟩,⟨some 51,.mov (.tmp 50),none,[]⟩,⟨some 52,.load 1 false (.tmp 4),some (51,false),[21]⟩,⟨some 53,.load 4 true (.tmp 5),some (51,false),[20]⟩,⟨some 54,.lookup 37 (.int .i64 0) (.tmp 52) (.tmp 53) false,some (51,false),[]⟩,⟨some 55,.pur (mkO (.binOp .gtr 3 (.tmp 54) (.const (.int .i64 0)) 3) 4),some (51,false),[]⟩,⟨some 56,.pick (.tmp 51) (.const (.bool true)) (.tmp 55),none,[]⟩] false) (.cond (.tmp 56) (.seq (.region [⟨none,.store 1 (.tmp 2) (.const (.bool false)),none,[]⟩] false) .ret) .skip)) (.seq (.region [⟨some 57,.load 1 false (.tmp 4),none,[1]⟩,⟨some 58,.load 4 true (.tmp 5),none,[0]⟩,⟨none,.mupd 37 (.tmp 57) (.tmp 58) (.const (.int .i64 1)),none,[]⟩] false) (.region [⟨some 59,.load 1 false (.tmp 3),none,[1,2]⟩,⟨some 60,.load 4 true (.tmp 5),none,[0]⟩,⟨some 61,.bsl 37 4 (.agg #[(.int .u8 0),(.int .u32 0),(.int .u8 0),(.int .i64 0)]) 1 [(0,4,(.tmp 60))],none,[0]⟩,⟨some 62,.app 37 4 24 (.agg #[(.int .u8 0),(.int .u32 0),(.int .u8 0),(.int .i64 0)]) (.tmp 59) (.tmp 61),none,[]⟩,⟨none,.store 1 (.tmp 3) (.tmp 62),none,[]⟩] false))))))))
structure OI (tm : List AV) (pre : List (Eid × Eid)) (O : Nat → Prop) (N : Mem) : Prop where
 wf : Wf N
 sz : 7 ≤ N.size
 g0 : N.get 0 = some (.row false [BL false])
 g1 : ∃ o,N.get 1 = some (.row false [o]) ∧ SlP N 4 zKB o (stk pre).reverse ∧ ∀ j,rowOf o = some j → O j ∧ 7 ≤ j
 g2 : ∃ obj,N.get 2 = some obj ∧ zHD idA (I64 1) obj (pre.map (·.1))
 g3 : N.get 3 = some (.row false [.mp 2])
 g5 : N.get 5 = some (.dfr false)
 g6 : N.get 6 = some (.loop .ready none tm [12,13] cO1 cO2 5)
 o1 : O 1
 o2 : O 2
 o6 : O 6
 ol : ∀ j,O j → j < N.size ∧ (j = 1 ∨ j = 2 ∨ 6 ≤ j)
 od : Ord pre
theorem OI.keep {tm : List AV} {pre : List (Eid × Eid)} {O : Nat → Prop} {N N' : Mem} (h : OI tm pre O N) (wf : Wf N') (hs : N.size ≤ N'.size) (k : ∀ j,j < N.size → N'.get j = N.get j) : OI tm pre O N':=by
 have:=h.sz
 obtain ⟨o,h1,h2,h3⟩:=h.g1
 obtain ⟨obj,h4,h5⟩:=h.g2
 exact ⟨wf,by omega,(k 0 (by omega)).trans h.g0,⟨o,(k 1 (by omega)).trans h1,h2.keep fun j hj=>k j (h2.lt j hj),h3⟩,⟨obj,(k 2 (by omega)).trans h4,h5⟩,(k 3 (by omega)).trans h.g3,(k 5 (by omega)).trans h.g5,(k 6 (by omega)).trans h.g6,h.o1,h.o2,h.o6,fun j hj=>⟨by have:=(h.ol j hj).1; omega,(h.ol j hj).2⟩,h.od⟩
structure OS (tm : List AV) (N : Mem) : Prop where
 wf : Wf N
 sz : 7 ≤ N.size
 g0 : N.get 0 = some (.row false [BL false])
 g5 : N.get 5 = some (.dfr false)
 g6 : N.get 6 = some (.loop .done (some .ret) tm [12,13] cO1 cO2 5)
theorem zHA : FzT zKB:=fun r x h y hy=>by
 obtain ⟨rfl,_⟩:=h
 exact zEA x y hy
theorem zPB (af : Eid) : ∀ (s : List Eid) (el : Eid),(popT af s el).2.length ≤ s.length
 | [],_=>Nat.le_refl _
 | t :: s,el=>by
  rw [popT]
  split
  ·exact Nat.le_refl _
  ·exact Nat.le_trans (zPB af s t) (Nat.le_succ _)
theorem zbF (l : List (Eid × Eid)) : (stk l).length ≤ l.length:=by
 refine zCP (P:=fun l=>(stk l).length ≤ l.length) (Nat.le_refl _) (fun l x ih=>?_) l
 rw [zE8,List.length_cons,List.length_append]
 have:=zPB x.2 (stk l) Eid.z
 simp only [List.length_singleton]
 omega
set_option maxHeartbeats 16000000 in
theorem zdU {B : Nat} {tm : List AV} {pre : List (Eid × Eid)} {O : Nat → Prop} {x : Eid × Eid} (h : OI tm pre O M) (h2 : nth zA5 tm 2 = .ptr 0 0) (h3' : nth zA5 tm 3 = .ptr 1 0) (h4' : nth zA5 tm 4 = .ptr 3 0) (hlen : tm.length = 63) (hx : x.1.ok) (hn : pre.length ≤ 100000) (hf : pre.length + 10 < fuel) :
  W3 (zAE Tryz.prog (fsT tbl) fuel (d + 7) (.yl 6) [idA x.1,idA x.2] M) (fun v N'=>(v = BL true ∧ Yl (OI tm) (pre ++ [x]) O B M N') ∨ (v = BL false ∧ OS tm N' ∧ ordS x (stk pre) (pre.map (·.1)) = false)):=by
 obtain ⟨o,g1,sp,ro⟩:=h.g1
 obtain ⟨obj,gm2,hset⟩:=h.g2
 have wf:=h.wf
 have sz:=h.sz
 have hsl:=zbF pre
 have g0:=h.g0
 have g3:=h.g3
 have g6:=h.g6
 have oo:=sp.one
 refine zV9 g6 rfl ?_
 have e1 : zF5 tm [12,13] [idA x.1,idA x.2] = St tm [(13,idA x.2),(12,idA x.1)]:=rfl
 rw [e1]
 unfold cO1 cO2
 simp (maxSteps:=2000000) (disch:=first | omega | assumption | (simp only [DS,Nat.reduceAdd, *]; done) | (simp only [DZ]; omega)) only [RUN,RU,zA2,zA1,lay,reduceIte,Nat.reduceEqDiff,Nat.reduceAdd,wf]
 refine ⟨tm,[12,13],_,_,5,g6, ?_⟩
 generalize hX : ((((((M.add _).upd M.size _).add _).upd (M.size + 1) _).upd 6 _).add _) = X
 have wX : Wf X:=by rw [← hX]; exact ((((((wf.add _).upd _ _).add _).upd _ _).upd _ _).add _)
 have sX : X.size = M.size + 1 + 1 + 1:=by rw [← hX]; rfl
 have gX : ∀ j,j < M.size → j ≠ 6 → X.get j = M.get j:=fun j a b=>by
  rw [← hX,zAF (((((wf.add _).upd _ _).add _).upd _ _).upd _ _) _ _ (by simp only [zA9,zA6]; omega),zA4 ((((wf.add _).upd _ _).add _).upd _ _) _ _ _ (fun e=>b e.symm),zA4 (((wf.add _).upd _ _).add _) _ _ _ (by omega),zAF ((wf.add _).upd _ _) _ _ (by simp only [zA9,zA6]; omega),zA4 (wf.add _) _ _ _ (by omega),zAF wf _ _ a]
 have x6 : X.get 6 = some (.loop .busy none tm [12,13] cO1 cO2 5):=by
  rw [← hX,zAF (((((wf.add _).upd _ _).add _).upd _ _).upd _ _) _ _ (by simp only [zA9,zA6]; omega),zAG ((((wf.add _).upd _ _).add _).upd _ _) _ _ (by simp only [zA9,zA6]; omega)]
 have xa : X.get M.size = some (.row false (idR x.1)):=by
  rw [← hX,zAF (((((wf.add _).upd _ _).add _).upd _ _).upd _ _) _ _ (by simp only [zA9,zA6]; omega),zA4 ((((wf.add _).upd _ _).add _).upd _ _) _ _ _ (by omega),zA4 (((wf.add _).upd _ _).add _) _ _ _ (by omega),zAF ((wf.add _).upd _ _) _ _ (by simp only [zA9,zA6]; omega),zAG (wf.add _) _ _ (by simp only [zA6]; omega)]
 have xb : X.get (M.size + 1) = some (.row false (idR x.2)):=by
  rw [← hX,zAF (((((wf.add _).upd _ _).add _).upd _ _).upd _ _) _ _ (by simp only [zA9,zA6]; omega),zA4 ((((wf.add _).upd _ _).add _).upd _ _) _ _ _ (by omega),zAG (((wf.add _).upd _ _).add _) _ _ (by simp only [zA9,zA6]; omega)]
 have xc : X.get (M.size + 1 + 1) = some (.row false (idR Eid.z)):=by
  rw [← hX]
  exact zAH (((((wf.add _).upd _ _).add _).upd _ _).upd _ _) _ _ (by simp only [zA9,zA6]; omega) (by simp only [zA9,zA6]; omega)
 clear hX
 have spX : SlP X 4 zKB o (stk pre).reverse:=sp.keep fun j hj=>gX j (sp.lt j hj) (by have:=ro j hj; omega)
 refine zBG (I:=fun n t N => ∃ (i : Nat) (o' : AV),n = (stk pre).length - i ∧ i ≤ (stk pre).length ∧ nth zA5 t 2 = .ptr 0 0 ∧ nth zA5 t 3 = .ptr 1 0 ∧ nth zA5 t 4 = .ptr 3 0 ∧ nth zA5 t 5 = .ptr M.size 0 ∧ nth zA5 t 6 = .ptr (M.size + 1) 0 ∧ nth zA5 t 7 = .ptr (M.size + 1 + 1) 0 ∧ Wf N ∧ X.size ≤ N.size ∧ (∀ j,j < M.size → j ≠ 1 → N.get j = X.get j) ∧ N.get 1 = some (.row false [o']) ∧ SlP N 4 zKB o' ((stk pre).drop i).reverse ∧ rowOf o' = rowOf o ∧ N.get M.size = some (.row false (idR x.1)) ∧ N.get (M.size + 1) = some (.row false (idR x.2)) ∧ N.get (M.size + 1 + 1) = some (.row false (idR (((stk pre).take i).getLast?.getD Eid.z))) ∧ (∀ t ∈ (stk pre).take i,t ≠ x.2)) (n:=(stk pre).length) (by omega) ?_ ?_
 ·refine ⟨0,o,rfl,Nat.zero_le _, ?_, ?_, ?_, ?_, ?_, ?_,wX,Nat.le_refl _,(fun _ _ _=>rfl),((gX 1 (by omega) (by omega)).trans g1),(by rw [List.drop_zero]; exact spX),rfl,xa,xb,(by rw [List.take_zero]; exact xc),(fun t ht=>absurd ht (by simp))⟩ <;> simp (maxSteps:=2000000) (disch:=first | omega | assumption | (simp only [DS,Nat.reduceAdd, *]; done) | (simp only [DZ]; omega)) only [RUN,reduceIte,Nat.reduceEqDiff,h2,h3',h4']
  all_goals first | rfl | assumption | done
 ·rintro n t N hlt ⟨i,o',rfl,hi,g2,g3,g4,g5,g6,g7,w,le,kk,c1,spN,ro',ca,cb,cc,hm⟩
  simp only [hlen] at hlt ⊢
  have olen:=spN.len
  have oo':=spN.one
  rw [List.length_reverse,List.length_drop] at olen
  have l1:=Mem.get_lt c1
  have la:=Mem.get_lt ca
  have lb:=Mem.get_lt cb
  have lc:=Mem.get_lt cc
  by_cases hc : i < (stk pre).length
  ·have q1 : decide ((0 : Int) < ((stk pre).length - i : Nat)) = true:=decide_eq_true (by omega)
   have hil : (stk pre).length - i - 1 < ((stk pre).drop i).reverse.length:=by rw [List.length_reverse,List.length_drop]; omega
   obtain ⟨rid,cs,r,hrow,lrid,hgr,hiad,hr,hrl,hpt⟩:=spN.at hil
   have w1 : IntKind.i64.wrap (((stk pre).length - i : Nat) - 1) = ((stk pre).length - i - 1 : Nat):=by rw [wrap_i64] <;> omega
   obtain ⟨oc,hslc,spc,roc⟩:=spN.cut (by omega) (n:=(stk pre).length - i - 1) (by omega)
   have hel : ((stk pre).drop i).reverse[(stk pre).length - i - 1] = (stk pre)[i]:=by
    rw [List.getElem_reverse,List.getElem_drop]
    congr 1
    rw [List.length_drop]; omega
   rw [hel] at hr
   obtain ⟨rfl,hrok⟩:=hr
   simp (maxSteps:=2000000) (disch:=first | omega | assumption | (simp only [DS,Nat.reduceAdd, *]; done) | (simp only [DZ]; omega)) only [RUN,RU,zA2,zA1,slot,lay,reduceIte,Nat.reduceEqDiff,Nat.reduceAdd,g3,g6,olen,q1,w1,c1,hiad,hgr,hpt,cb,↓pIdE,zAW,ETA]
   by_cases hte : (stk pre)[i] = x.2
   ·have q2 : decide ((stk pre)[i] = x.2) = true:=decide_eq_true hte
    have hpop:=zID (el:=Eid.z) (q:=(stk pre).drop i) hm (.inr ⟨(stk pre).drop (i + 1),by rw [List.drop_eq_getElem_cons hc,hte]⟩)
    rw [List.take_append_drop] at hpop
    have hne : decide (((((stk pre).length - i : Nat) : Int)) = 0) = false:=decide_eq_false (by omega)
    have hqz : decide ((stk pre).drop i = []) = false:=decide_eq_false (fun e=>by have:=congrArg List.length e; rw [List.length_drop] at this; simp at this; omega)
    simp (maxSteps:=2000000) (disch:=first | omega | assumption | (simp only [DS,Nat.reduceAdd, *]; done) | (simp only [DZ]; omega)) only [RUN,RU,zA2,zA1,reduceIte,Nat.reduceEqDiff,g3,olen,q2,c1]
    generalize hY : (N.add _).upd N.size _ = Y
    have wY : Wf Y:=by rw [← hY]; exact (w.add _).upd _ _
    have lY : N.size ≤ Y.size:=by rw [← hY,zA9,zA6]; omega
    have kY : ∀ j,j < N.size → Y.get j = N.get j:=fun j hj=>by
     rw [← hY,zA4 (w.add _) _ _ _ (by omega),zAF w _ _ hj]
    clear hY
    have y0 : Y.get 0 = some (.row false [BL false]):=(kY 0 (by omega)).trans ((kk 0 (by omega) (by omega)).trans ((gX 0 (by omega) (by omega)).trans h.g0))
    have y1:=(kY 1 (by omega)).trans c1
    have y2:=(kY 2 (by omega)).trans ((kk 2 (by omega) (by omega)).trans ((gX 2 (by omega) (by omega)).trans gm2))
    have y3:=(kY 3 (by omega)).trans ((kk 3 (by omega) (by omega)).trans ((gX 3 (by omega) (by omega)).trans h.g3))
    have y6:=(kY 6 (by omega)).trans ((kk 6 (by omega) (by omega)).trans x6)
    have ya:=(kY _ (by omega)).trans ca
    have yb:=(kY _ (by omega)).trans cb
    have yc:=(kY _ (by omega)).trans cc
    have yj : ∀ j,j < M.size → j ≠ 1 → j ≠ 6 → Y.get j = M.get j:=fun j a b c=>(kY j (by omega)).trans ((kk j a b).trans (gX j a c))
    have spY : SlP Y 4 zKB o' ((stk pre).drop i).reverse:=spN.keep fun j hj=>kY j (spN.lt j hj)
    clear kY kk w c1 ca cb cc spN l1 la lb lc
    have l1:=Mem.get_lt y1
    have la:=Mem.get_lt ya
    have lb:=Mem.get_lt yb
    have lc:=Mem.get_lt yc
    have l2:=Mem.get_lt y2
    have l3:=Mem.get_lt y3
    have l0:=Mem.get_lt y0
    have hlk:=zOX zK6 (z:=.int .i64 0) y2 hset x.1
    unfold ordS
    rw [hpop]
    simp only [hqz]
    have hql : ((stk pre).drop i).length ≤ pre.length:=by rw [List.length_drop]; omega
    generalize (stk pre).drop i = q at *
    generalize ((stk pre).take i).getLast?.getD Eid.z = el at *
    have hls:=fun M=>@zEV fuel (d + 4) x.1 el M
    have c2 : True:=trivial
    cases c3 : decide (el = Eid.z)
    ·cases c4 : x.1.less el
     ·rw [c4] at hls
      simp (maxSteps:=2000000) (disch:=first | omega | assumption | (simp only [DS,Nat.reduceAdd, *]; done) | (simp only [DZ]; omega)) only [RUN,RU,zA2,zA1,slot,lay,zAI,reduceIte,Nat.reduceEqDiff,g2,g5,g7,hne,y0,ya,yc,wY,↓pIdN,zBD,ETA,c3,hls]
      have os : OS tm ((Y.upd 0 (.row false [BL false])).upd 6 (.loop .done (some .ret) tm [12,13] cO1 cO2 5)):=by
       refine ⟨(wY.upd _ _).upd _ _,by simp only [zA9]; omega, ?_, ?_, ?_⟩
       ·rw [zA4 (wY.upd _ _) _ _ _ (by omega)]
        exact zAG wY _ _ l0
       ·rw [zA4 (wY.upd _ _) _ _ _ (by omega),zA4 wY _ _ _ (by omega)]
        exact (yj 5 (by omega) (by omega) (by omega)).trans h.g5
       ·exact zAG (wY.upd _ _) _ _ (by simp only [zA9]; omega)
      refine ⟨_,_,_,_,_,_,_,y6,.inr (.inr ?_)⟩
      first
      | exact os
      | exact ⟨os,by simp [*]⟩
     ·rw [c4] at hls
      by_cases c5 : x.1 ∈ pre.map (·.1)
      ·simp only [c5,if_true] at hlk
       simp (maxSteps:=2000000) (disch:=first | omega | assumption | (simp only [DS,Nat.reduceAdd, *]; done) | (simp only [DZ]; omega)) only [RUN,RU,zA2,zA1,slot,lay,zAI,reduceIte,Nat.reduceEqDiff,Int.reduceLT,g2,g4,g5,g7,hne,y0,y3,ya,yc,wY,↓pIdN,zBD,ETA,c3,hls,x_lk,hlk]
       have os : OS tm ((Y.upd 0 (.row false [BL false])).upd 6 (.loop .done (some .ret) tm [12,13] cO1 cO2 5)):=by
        refine ⟨(wY.upd _ _).upd _ _,by simp only [zA9]; omega, ?_, ?_, ?_⟩
        ·rw [zA4 (wY.upd _ _) _ _ _ (by omega)]
         exact zAG wY _ _ l0
        ·rw [zA4 (wY.upd _ _) _ _ _ (by omega),zA4 wY _ _ _ (by omega)]
         exact (yj 5 (by omega) (by omega) (by omega)).trans h.g5
        ·exact zAG (wY.upd _ _) _ _ (by simp only [zA9]; omega)
       refine ⟨_,_,_,_,_,_,_,y6,.inr (.inr ?_)⟩
       first
       | exact os
       | exact ⟨os,by simp [*]⟩
      ·simp only [c5,if_false] at hlk
       simp (maxSteps:=2000000) (disch:=first | omega | assumption | (simp only [DS,Nat.reduceAdd, *]; done) | (simp only [DZ]; omega)) only [RUN,RU,zA2,zA1,slot,zAI,reduceIte,Nat.reduceEqDiff,g4,g5,g7,hne,y3,ya,yc,↓pIdN,zBD,ETA,c3,hls,x_lk,hlk,x_mu]
       refine zLP zK6 wY l2 y2 hset x.1 fun obj' hset'=>?_
       simp only [c5,if_false] at hset'
       simp (maxSteps:=2000000) (disch:=first | omega | assumption | (simp only [DS,Nat.reduceAdd, *]; done) | (simp only [DZ]; omega)) only [RUN,RU,zA2,zA1,slot,lay,zAI,zAB,reduceIte,Nat.reduceEqDiff,Nat.reduceBEq,Nat.reduceAdd,g3,g5,y1,ya]
       refine ⟨spY.rows (by omega),SlP.app1 (bytes:=24) (x:=x.1) (wY.upd 2 obj') (spY.keep fun j hj=>zA4 wY _ _ _ (by have:=(ro j (ro' ▸ hj)).2; omega)) zHA ⟨rfl,hx⟩ rfl (by omega) (by rw [List.length_reverse]; omega) (by rw [List.length_reverse]; omega) fun o2 M2 sp2 w2 le2 kp2 nw2 rl2 on2 oc2=>?_⟩
       rw [zA9] at le2 kp2 nw2
       have hS : ordS x (stk pre) (pre.map (·.1)) = true:=by
        unfold ordS
        rw [hpop]
        simp [*]
       have hst : (stk (pre ++ [x])).reverse = q.reverse ++ [x.1]:=by rw [zE8,hpop,List.reverse_cons]
       have ro2 : ∀ j,rowOf o' = some j → O j ∧ 7 ≤ j:=fun j hj=>ro j (ro' ▸ hj)
       have k2 : ∀ j,j < M.size → j ≠ 1 → j ≠ 2 → j ≠ 6 → rowOf o' ≠ some j → M2.get j = M.get j:=fun j a b c e f=>by
        rw [kp2 j (by omega) f,zA4 wY _ _ _ (fun e=>c e.symm)]
        exact yj j a b e
       have m6 : M2.get 6 = some (.loop .busy none tm [12,13] cO1 cO2 5):=by
        rw [kp2 6 (by omega) (fun e=>by have:=(ro2 6 e).2; omega),zA4 wY _ _ _ (by omega)]
        exact y6
       have m2 : M2.get 2 = some obj':=by
        rw [kp2 2 (by omega) (fun e=>by have:=(ro2 2 e).2; omega)]
        exact zAG wY _ _ l2
       have m1 : 1 < M2.size:=by omega
       have n1 : M2.get 1 = some (.row false [o']):=by
        rw [kp2 1 (by omega) (fun e=>by have:=(ro2 1 e).2; omega),zA4 wY _ _ _ (by omega)]
        exact y1
       simp (maxSteps:=2000000) (disch:=first | omega | assumption | (simp only [DS,Nat.reduceAdd, *]; done) | (simp only [DZ]; omega)) only [RUN,RU,zA2,zA1,lay,reduceIte,Nat.reduceEqDiff,g3,oc2,w2,m6,n1]
       have yl : Yl (OI tm) (pre ++ [x]) O B M ((M2.upd 1 (.row false [o2])).upd 6 (.loop .ready none tm [12,13] cO1 cO2 5)):=by
        have wZ:=w2.upd 1 (.row false [o2])
        have zk : ∀ j,j ≠ 1 → j ≠ 6 → ((M2.upd 1 (.row false [o2])).upd 6 (.loop .ready none tm [12,13] cO1 cO2 5)).get j = M2.get j:=fun j a b=>by
         rw [zA4 wZ _ _ _ (fun e=>b e.symm),zA4 w2 _ _ _ (fun e=>a e.symm)]
        have nro : ∀ j,j < 7 → rowOf o' ≠ some j:=fun j hj e=>by have:=(ro2 j e).2; omega
        have no2 : ∀ j,rowOf o2 = some j → 7 ≤ j ∧ (O j ∨ M.size ≤ j):=fun j hj=>by
         rcases nw2 j hj with e | e
         ·exact ⟨(ro2 j e).2,.inl (ro2 j e).1⟩
         ·exact ⟨by omega,.inr (by omega)⟩
        refine ⟨⟨fun j=>O j ∨ rowOf o2 = some j,⟨wZ.upd _ _,by simp only [zA9]; omega, ?_,⟨o2, ?_, ?_,fun j hj=>⟨.inr hj,(no2 j hj).1⟩⟩,⟨obj', ?_, ?_⟩, ?_, ?_, ?_,.inl h.o1,.inl h.o2,.inl h.o6, ?_,h.od.snoc hS⟩, ?_⟩,wZ.upd _ _,by simp only [zA9]; omega, ?_⟩
        ·rw [zk 0 (by omega) (by omega),k2 0 (by omega) (by omega) (by omega) (by omega) (nro 0 (by omega))]; exact h.g0
        ·rw [zA4 wZ _ _ _ (by omega)]; exact zAG w2 _ _ m1
        ·rw [hst]
         exact sp2.keep fun j hj=>zk j (by have:=(no2 j hj).1; omega) (by have:=(no2 j hj).1; omega)
        ·rw [zk 2 (by omega) (by omega)]; exact m2
        ·rw [List.map_append]; exact hset'
        ·rw [zk 3 (by omega) (by omega),k2 3 (by omega) (by omega) (by omega) (by omega) (nro 3 (by omega))]; exact h.g3
        ·rw [zk 5 (by omega) (by omega),k2 5 (by omega) (by omega) (by omega) (by omega) (nro 5 (by omega))]; exact h.g5
        ·exact zAG wZ _ _ (by simp only [zA9]; omega)
        ·intro j hj
         simp only [zA9]
         rcases hj with hj | hj
         ·exact ⟨by have:=(h.ol j hj).1; omega,(h.ol j hj).2⟩
         ·exact ⟨sp2.lt j hj,.inr (.inr (by have:=(no2 j hj).1; omega))⟩
        ·rintro j (hj | hj)
         ·exact .inl hj
         ·exact (no2 j hj).2
        ·intro j hj hO
         have h1 : j ≠ 1:=fun e=>hO (e ▸ h.o1)
         have h2 : j ≠ 2:=fun e=>hO (e ▸ h.o2)
         have h6 : j ≠ 6:=fun e=>hO (e ▸ h.o6)
         rw [zk j h1 h6]
         exact k2 j hj h1 h2 h6 fun e=>hO (ro2 j e).1
       exact ⟨_,_,_,_,_,_,_,rfl,.inl (.inl yl)⟩
    ·skip
     by_cases c5 : x.1 ∈ pre.map (·.1)
     ·simp only [c5,if_true] at hlk
      simp (maxSteps:=2000000) (disch:=first | omega | assumption | (simp only [DS,Nat.reduceAdd, *]; done) | (simp only [DZ]; omega)) only [RUN,RU,zA2,zA1,slot,lay,zAI,reduceIte,Nat.reduceEqDiff,Int.reduceLT,g2,g4,g5,g7,hne,y0,y3,ya,yc,wY,↓pIdN,zBD,ETA,c3,x_lk,hlk]
      have os : OS tm ((Y.upd 0 (.row false [BL false])).upd 6 (.loop .done (some .ret) tm [12,13] cO1 cO2 5)):=by
       refine ⟨(wY.upd _ _).upd _ _,by simp only [zA9]; omega, ?_, ?_, ?_⟩
       ·rw [zA4 (wY.upd _ _) _ _ _ (by omega)]
        exact zAG wY _ _ l0
       ·rw [zA4 (wY.upd _ _) _ _ _ (by omega),zA4 wY _ _ _ (by omega)]
        exact (yj 5 (by omega) (by omega) (by omega)).trans h.g5
       ·exact zAG (wY.upd _ _) _ _ (by simp only [zA9]; omega)
      refine ⟨_,_,_,_,_,_,_,y6,.inr (.inr ?_)⟩
      first
      | exact os
      | exact ⟨os,by simp [*]⟩
     ·simp only [c5,if_false] at hlk
      simp (maxSteps:=2000000) (disch:=first | omega | assumption | (simp only [DS,Nat.reduceAdd, *]; done) | (simp only [DZ]; omega)) only [RUN,RU,zA2,zA1,slot,zAI,reduceIte,Nat.reduceEqDiff,g4,g5,g7,hne,y3,ya,yc,↓pIdN,zBD,ETA,c3,x_lk,hlk,x_mu]
      refine zLP zK6 wY l2 y2 hset x.1 fun obj' hset'=>?_
      simp only [c5,if_false] at hset'
      simp (maxSteps:=2000000) (disch:=first | omega | assumption | (simp only [DS,Nat.reduceAdd, *]; done) | (simp only [DZ]; omega)) only [RUN,RU,zA2,zA1,slot,lay,zAI,zAB,reduceIte,Nat.reduceEqDiff,Nat.reduceBEq,Nat.reduceAdd,g3,g5,y1,ya]
      refine ⟨spY.rows (by omega),SlP.app1 (bytes:=24) (x:=x.1) (wY.upd 2 obj') (spY.keep fun j hj=>zA4 wY _ _ _ (by have:=(ro j (ro' ▸ hj)).2; omega)) zHA ⟨rfl,hx⟩ rfl (by omega) (by rw [List.length_reverse]; omega) (by rw [List.length_reverse]; omega) fun o2 M2 sp2 w2 le2 kp2 nw2 rl2 on2 oc2=>?_⟩
      rw [zA9] at le2 kp2 nw2
      have hS : ordS x (stk pre) (pre.map (·.1)) = true:=by
       unfold ordS
       rw [hpop]
       simp [*]
      have hst : (stk (pre ++ [x])).reverse = q.reverse ++ [x.1]:=by rw [zE8,hpop,List.reverse_cons]
      have ro2 : ∀ j,rowOf o' = some j → O j ∧ 7 ≤ j:=fun j hj=>ro j (ro' ▸ hj)
      have k2 : ∀ j,j < M.size → j ≠ 1 → j ≠ 2 → j ≠ 6 → rowOf o' ≠ some j → M2.get j = M.get j:=fun j a b c e f=>by
       rw [kp2 j (by omega) f,zA4 wY _ _ _ (fun e=>c e.symm)]
       exact yj j a b e
      have m6 : M2.get 6 = some (.loop .busy none tm [12,13] cO1 cO2 5):=by
       rw [kp2 6 (by omega) (fun e=>by have:=(ro2 6 e).2; omega),zA4 wY _ _ _ (by omega)]
       exact y6
      have m2 : M2.get 2 = some obj':=by
       rw [kp2 2 (by omega) (fun e=>by have:=(ro2 2 e).2; omega)]
       exact zAG wY _ _ l2
      have m1 : 1 < M2.size:=by omega
      have n1 : M2.get 1 = some (.row false [o']):=by
       rw [kp2 1 (by omega) (fun e=>by have:=(ro2 1 e).2; omega),zA4 wY _ _ _ (by omega)]
       exact y1
      simp (maxSteps:=2000000) (disch:=first | omega | assumption | (simp only [DS,Nat.reduceAdd, *]; done) | (simp only [DZ]; omega)) only [RUN,RU,zA2,zA1,lay,reduceIte,Nat.reduceEqDiff,g3,oc2,w2,m6,n1]
      have yl : Yl (OI tm) (pre ++ [x]) O B M ((M2.upd 1 (.row false [o2])).upd 6 (.loop .ready none tm [12,13] cO1 cO2 5)):=by
       have wZ:=w2.upd 1 (.row false [o2])
       have zk : ∀ j,j ≠ 1 → j ≠ 6 → ((M2.upd 1 (.row false [o2])).upd 6 (.loop .ready none tm [12,13] cO1 cO2 5)).get j = M2.get j:=fun j a b=>by
        rw [zA4 wZ _ _ _ (fun e=>b e.symm),zA4 w2 _ _ _ (fun e=>a e.symm)]
       have nro : ∀ j,j < 7 → rowOf o' ≠ some j:=fun j hj e=>by have:=(ro2 j e).2; omega
       have no2 : ∀ j,rowOf o2 = some j → 7 ≤ j ∧ (O j ∨ M.size ≤ j):=fun j hj=>by
        rcases nw2 j hj with e | e
        ·exact ⟨(ro2 j e).2,.inl (ro2 j e).1⟩
        ·exact ⟨by omega,.inr (by omega)⟩
       refine ⟨⟨fun j=>O j ∨ rowOf o2 = some j,⟨wZ.upd _ _,by simp only [zA9]; omega, ?_,⟨o2, ?_, ?_,fun j hj=>⟨.inr hj,(no2 j hj).1⟩⟩,⟨obj', ?_, ?_⟩, ?_, ?_, ?_,.inl h.o1,.inl h.o2,.inl h.o6, ?_,h.od.snoc hS⟩, ?_⟩,wZ.upd _ _,by simp only [zA9]; omega, ?_⟩
       ·rw [zk 0 (by omega) (by omega),k2 0 (by omega) (by omega) (by omega) (by omega) (nro 0 (by omega))]; exact h.g0
       ·rw [zA4 wZ _ _ _ (by omega)]; exact zAG w2 _ _ m1
       ·rw [hst]
        exact sp2.keep fun j hj=>zk j (by have:=(no2 j hj).1; omega) (by have:=(no2 j hj).1; omega)
       ·rw [zk 2 (by omega) (by omega)]; exact m2
       ·rw [List.map_append]; exact hset'
       ·rw [zk 3 (by omega) (by omega),k2 3 (by omega) (by omega) (by omega) (by omega) (nro 3 (by omega))]; exact h.g3
       ·rw [zk 5 (by omega) (by omega),k2 5 (by omega) (by omega) (by omega) (by omega) (nro 5 (by omega))]; exact h.g5
       ·exact zAG wZ _ _ (by simp only [zA9]; omega)
       ·intro j hj
        simp only [zA9]
        rcases hj with hj | hj
        ·exact ⟨by have:=(h.ol j hj).1; omega,(h.ol j hj).2⟩
        ·exact ⟨sp2.lt j hj,.inr (.inr (by have:=(no2 j hj).1; omega))⟩
       ·rintro j (hj | hj)
        ·exact .inl hj
        ·exact (no2 j hj).2
       ·intro j hj hO
        have h1 : j ≠ 1:=fun e=>hO (e ▸ h.o1)
        have h2 : j ≠ 2:=fun e=>hO (e ▸ h.o2)
        have h6 : j ≠ 6:=fun e=>hO (e ▸ h.o6)
        rw [zk j h1 h6]
        exact k2 j hj h1 h2 h6 fun e=>hO (ro2 j e).1
      exact ⟨_,_,_,_,_,_,_,rfl,.inl (.inl yl)⟩
   ·have q2 : decide ((stk pre)[i] = x.2) = false:=decide_eq_false hte
    simp (maxSteps:=2000000) (disch:=first | omega | assumption | (simp only [DS,Nat.reduceAdd, *]; done) | (simp only [DZ]; omega)) only [RUN,RU,zA2,slot,reduceIte,Nat.reduceEqDiff,Nat.reduceBEq,Nat.reduceAdd,g3,olen,q2,w1,c1]
    refine ⟨spN.rows (by omega), ?_⟩
    rw [hslc _ (fun id hid=>by
     have:=spN.lt id hid
     rw [zA4 (w.add _) _ _ _ (by omega),zAF w _ _ this])]
    have oco:=spc.one
    have occ:=spc.cells
    have ocr:=fun m hm=>spc.rows (m:=m) hm
    simp (maxSteps:=2000000) (disch:=first | omega | assumption | (simp only [DS,Nat.reduceAdd, *]; done) | (simp only [DZ]; omega)) only [RUN,RU,zA2,lay,reduceIte,Nat.reduceEqDiff,Nat.reduceBEq,Nat.reduceAdd,g2,g3,g4,g5,g6,g7,occ,c1,ca,cb,cc,w]
    have ror:=spN.row1 hrow
    have rid7 : 7 ≤ rid ∧ rid < M.size:=by
     have e : rowOf o = some rid:=ro' ▸ hrow
     exact ⟨(ro rid e).2,sp.lt rid e⟩
    refine ⟨?_,hlt,(stk pre).length - (i + 1),by omega,i + 1,oc,rfl,by omega,by omega,fun j a b=>?_,rfl, ?_,roc.trans ro', ?_, ?_⟩
    ·have e1 : ¬(M.size + 1 + 1 = 1):=by omega
     have e2 : ¬(M.size + 1 + 1 = rid):=by omega
     rw [ror]
     simp [FP.apart,disj,FP.reads,FP.writes,fpOf,e2]
    ·rw [zA4 (((w.add _).upd _ _).upd _ _) _ _ _ (by omega),zA4 ((w.add _).upd _ _) _ _ _ (by omega),zA4 (w.add _) _ _ _ (by omega),zAF w _ _ (by omega)]
     exact kk j a b
    ·have e : ((stk pre).drop i).reverse.take ((stk pre).length - i - 1) = ((stk pre).drop (i + 1)).reverse:=by
      rw [List.take_reverse,List.drop_drop,List.length_drop]
      congr 2
      omega
     rw [← e]
     refine spc.keep fun j hj=>?_
     rw [roc,hrow] at hj
     injection hj with hj
     subst hj
     rw [zA4 (((w.add _).upd _ _).upd _ _) _ _ _ (by omega),zA4 ((w.add _).upd _ _) _ _ _ (by omega),zA4 (w.add _) _ _ _ (by omega),zAF w _ _ (by omega)]
    ·have e : ((stk pre).take (i + 1)).getLast?.getD Eid.z = (stk pre)[i]:=by
      rw [zBL _ _ hc,List.getLast?_concat]; rfl
     rw [e]
    ·intro t ht
     rw [zBL _ _ hc] at ht
     rcases List.mem_append.1 ht with ht | ht
     ·exact hm t ht
     ·rw [List.mem_singleton] at ht; subst ht; exact hte
  ·obtain rfl : i = (stk pre).length:=by omega
   have q1 : decide ((0 : Int) < ((stk pre).length - (stk pre).length : Nat)) = false:=decide_eq_false (by omega)
   have hne : decide (((((stk pre).length - (stk pre).length : Nat) : Int)) = 0) = true:=decide_eq_true (by omega)
   have hqz : decide ((stk pre).drop (stk pre).length = []) = true:=decide_eq_true (List.drop_length)
   have hpop:=zID (el:=Eid.z) (q:=(stk pre).drop (stk pre).length) hm (.inl List.drop_length)
   rw [List.take_append_drop] at hpop
   simp (maxSteps:=2000000) (disch:=first | omega | assumption | (simp only [DS,Nat.reduceAdd, *]; done) | (simp only [DZ]; omega)) only [RUN,RU,zA2,zA1,reduceIte,Nat.reduceEqDiff,g3,olen,q1,c1]
   obtain ⟨Y,hY⟩ : ∃ Y,Y = N:=⟨N,rfl⟩
   rw [← hY]
   have wY : Wf Y:=by rw [hY]; exact w
   have lY : N.size ≤ Y.size:=by rw [hY]; omega
   have kY : ∀ j,j < N.size → Y.get j = N.get j:=fun j hj=>by rw [hY]
   clear hY
   have y0 : Y.get 0 = some (.row false [BL false]):=(kY 0 (by omega)).trans ((kk 0 (by omega) (by omega)).trans ((gX 0 (by omega) (by omega)).trans h.g0))
   have y1:=(kY 1 (by omega)).trans c1
   have y2:=(kY 2 (by omega)).trans ((kk 2 (by omega) (by omega)).trans ((gX 2 (by omega) (by omega)).trans gm2))
   have y3:=(kY 3 (by omega)).trans ((kk 3 (by omega) (by omega)).trans ((gX 3 (by omega) (by omega)).trans h.g3))
   have y6:=(kY 6 (by omega)).trans ((kk 6 (by omega) (by omega)).trans x6)
   have ya:=(kY _ (by omega)).trans ca
   have yb:=(kY _ (by omega)).trans cb
   have yc:=(kY _ (by omega)).trans cc
   have yj : ∀ j,j < M.size → j ≠ 1 → j ≠ 6 → Y.get j = M.get j:=fun j a b c=>(kY j (by omega)).trans ((kk j a b).trans (gX j a c))
   have spY : SlP Y 4 zKB o' ((stk pre).drop (stk pre).length).reverse:=spN.keep fun j hj=>kY j (spN.lt j hj)
   clear kY kk w c1 ca cb cc spN l1 la lb lc
   have l1:=Mem.get_lt y1
   have la:=Mem.get_lt ya
   have lb:=Mem.get_lt yb
   have lc:=Mem.get_lt yc
   have l2:=Mem.get_lt y2
   have l3:=Mem.get_lt y3
   have l0:=Mem.get_lt y0
   have hlk:=zOX zK6 (z:=.int .i64 0) y2 hset x.1
   unfold ordS
   rw [hpop]
   simp only [hqz]
   have hql : ((stk pre).drop (stk pre).length).length ≤ pre.length:=by rw [List.length_drop]; omega
   generalize (stk pre).drop (stk pre).length = q at *
   generalize ((stk pre).take (stk pre).length).getLast?.getD Eid.z = el at *
   have hls:=fun M=>@zEV fuel (d + 4) x.1 el M
   cases c2 : decide (x.2 = Eid.z)
   ·simp (maxSteps:=2000000) (disch:=first | omega | assumption | (simp only [DS,Nat.reduceAdd, *]; done) | (simp only [DZ]; omega)) only [RUN,RU,zA2,zA1,slot,lay,zAI,reduceIte,Nat.reduceEqDiff,g2,g6,hne,y0,yb,wY,↓pIdN,zBD,ETA,c2]
    have os : OS tm ((Y.upd 0 (.row false [BL false])).upd 6 (.loop .done (some .ret) tm [12,13] cO1 cO2 5)):=by
     refine ⟨(wY.upd _ _).upd _ _,by simp only [zA9]; omega, ?_, ?_, ?_⟩
     ·rw [zA4 (wY.upd _ _) _ _ _ (by omega)]
      exact zAG wY _ _ l0
     ·rw [zA4 (wY.upd _ _) _ _ _ (by omega),zA4 wY _ _ _ (by omega)]
      exact (yj 5 (by omega) (by omega) (by omega)).trans h.g5
     ·exact zAG (wY.upd _ _) _ _ (by simp only [zA9]; omega)
    refine ⟨_,_,_,_,_,_,_,y6,.inr (.inr ?_)⟩
    first
    | exact os
    | exact ⟨os,by simp [*]⟩
   ·skip
    cases c3 : decide (el = Eid.z)
    ·cases c4 : x.1.less el
     ·rw [c4] at hls
      simp (maxSteps:=2000000) (disch:=first | omega | assumption | (simp only [DS,Nat.reduceAdd, *]; done) | (simp only [DZ]; omega)) only [RUN,RU,zA2,zA1,slot,lay,zAI,reduceIte,Nat.reduceEqDiff,g2,g5,g6,g7,hne,y0,ya,yb,yc,wY,↓pIdN,zBD,ETA,c2,c3,hls]
      have os : OS tm ((Y.upd 0 (.row false [BL false])).upd 6 (.loop .done (some .ret) tm [12,13] cO1 cO2 5)):=by
       refine ⟨(wY.upd _ _).upd _ _,by simp only [zA9]; omega, ?_, ?_, ?_⟩
       ·rw [zA4 (wY.upd _ _) _ _ _ (by omega)]
        exact zAG wY _ _ l0
       ·rw [zA4 (wY.upd _ _) _ _ _ (by omega),zA4 wY _ _ _ (by omega)]
        exact (yj 5 (by omega) (by omega) (by omega)).trans h.g5
       ·exact zAG (wY.upd _ _) _ _ (by simp only [zA9]; omega)
      refine ⟨_,_,_,_,_,_,_,y6,.inr (.inr ?_)⟩
      first
      | exact os
      | exact ⟨os,by simp [*]⟩
     ·rw [c4] at hls
      by_cases c5 : x.1 ∈ pre.map (·.1)
      ·simp only [c5,if_true] at hlk
       simp (maxSteps:=2000000) (disch:=first | omega | assumption | (simp only [DS,Nat.reduceAdd, *]; done) | (simp only [DZ]; omega)) only [RUN,RU,zA2,zA1,slot,lay,zAI,reduceIte,Nat.reduceEqDiff,Int.reduceLT,g2,g4,g5,g6,g7,hne,y0,y3,ya,yb,yc,wY,↓pIdN,zBD,ETA,c2,c3,hls,x_lk,hlk]
       have os : OS tm ((Y.upd 0 (.row false [BL false])).upd 6 (.loop .done (some .ret) tm [12,13] cO1 cO2 5)):=by
        refine ⟨(wY.upd _ _).upd _ _,by simp only [zA9]; omega, ?_, ?_, ?_⟩
        ·rw [zA4 (wY.upd _ _) _ _ _ (by omega)]
         exact zAG wY _ _ l0
        ·rw [zA4 (wY.upd _ _) _ _ _ (by omega),zA4 wY _ _ _ (by omega)]
         exact (yj 5 (by omega) (by omega) (by omega)).trans h.g5
        ·exact zAG (wY.upd _ _) _ _ (by simp only [zA9]; omega)
       refine ⟨_,_,_,_,_,_,_,y6,.inr (.inr ?_)⟩
       first
       | exact os
       | exact ⟨os,by simp [*]⟩
      ·simp only [c5,if_false] at hlk
       simp (maxSteps:=2000000) (disch:=first | omega | assumption | (simp only [DS,Nat.reduceAdd, *]; done) | (simp only [DZ]; omega)) only [RUN,RU,zA2,zA1,slot,zAI,reduceIte,Nat.reduceEqDiff,g4,g5,g6,g7,hne,y3,ya,yb,yc,↓pIdN,zBD,ETA,c2,c3,hls,x_lk,hlk,x_mu]
       refine zLP zK6 wY l2 y2 hset x.1 fun obj' hset'=>?_
       simp only [c5,if_false] at hset'
       simp (maxSteps:=2000000) (disch:=first | omega | assumption | (simp only [DS,Nat.reduceAdd, *]; done) | (simp only [DZ]; omega)) only [RUN,RU,zA2,zA1,slot,lay,zAI,zAB,reduceIte,Nat.reduceEqDiff,Nat.reduceBEq,Nat.reduceAdd,g3,g5,y1,ya]
       refine ⟨spY.rows (by omega),SlP.app1 (bytes:=24) (x:=x.1) (wY.upd 2 obj') (spY.keep fun j hj=>zA4 wY _ _ _ (by have:=(ro j (ro' ▸ hj)).2; omega)) zHA ⟨rfl,hx⟩ rfl (by omega) (by rw [List.length_reverse]; omega) (by rw [List.length_reverse]; omega) fun o2 M2 sp2 w2 le2 kp2 nw2 rl2 on2 oc2=>?_⟩
       rw [zA9] at le2 kp2 nw2
       have hS : ordS x (stk pre) (pre.map (·.1)) = true:=by
        unfold ordS
        rw [hpop]
        simp [*]
       have hst : (stk (pre ++ [x])).reverse = q.reverse ++ [x.1]:=by rw [zE8,hpop,List.reverse_cons]
       have ro2 : ∀ j,rowOf o' = some j → O j ∧ 7 ≤ j:=fun j hj=>ro j (ro' ▸ hj)
       have k2 : ∀ j,j < M.size → j ≠ 1 → j ≠ 2 → j ≠ 6 → rowOf o' ≠ some j → M2.get j = M.get j:=fun j a b c e f=>by
        rw [kp2 j (by omega) f,zA4 wY _ _ _ (fun e=>c e.symm)]
        exact yj j a b e
       have m6 : M2.get 6 = some (.loop .busy none tm [12,13] cO1 cO2 5):=by
        rw [kp2 6 (by omega) (fun e=>by have:=(ro2 6 e).2; omega),zA4 wY _ _ _ (by omega)]
        exact y6
       have m2 : M2.get 2 = some obj':=by
        rw [kp2 2 (by omega) (fun e=>by have:=(ro2 2 e).2; omega)]
        exact zAG wY _ _ l2
       have m1 : 1 < M2.size:=by omega
       have n1 : M2.get 1 = some (.row false [o']):=by
        rw [kp2 1 (by omega) (fun e=>by have:=(ro2 1 e).2; omega),zA4 wY _ _ _ (by omega)]
        exact y1
       simp (maxSteps:=2000000) (disch:=first | omega | assumption | (simp only [DS,Nat.reduceAdd, *]; done) | (simp only [DZ]; omega)) only [RUN,RU,zA2,zA1,lay,reduceIte,Nat.reduceEqDiff,g3,oc2,w2,m6,n1]
       have yl : Yl (OI tm) (pre ++ [x]) O B M ((M2.upd 1 (.row false [o2])).upd 6 (.loop .ready none tm [12,13] cO1 cO2 5)):=by
        have wZ:=w2.upd 1 (.row false [o2])
        have zk : ∀ j,j ≠ 1 → j ≠ 6 → ((M2.upd 1 (.row false [o2])).upd 6 (.loop .ready none tm [12,13] cO1 cO2 5)).get j = M2.get j:=fun j a b=>by
         rw [zA4 wZ _ _ _ (fun e=>b e.symm),zA4 w2 _ _ _ (fun e=>a e.symm)]
        have nro : ∀ j,j < 7 → rowOf o' ≠ some j:=fun j hj e=>by have:=(ro2 j e).2; omega
        have no2 : ∀ j,rowOf o2 = some j → 7 ≤ j ∧ (O j ∨ M.size ≤ j):=fun j hj=>by
         rcases nw2 j hj with e | e
         ·exact ⟨(ro2 j e).2,.inl (ro2 j e).1⟩
         ·exact ⟨by omega,.inr (by omega)⟩
        refine ⟨⟨fun j=>O j ∨ rowOf o2 = some j,⟨wZ.upd _ _,by simp only [zA9]; omega, ?_,⟨o2, ?_, ?_,fun j hj=>⟨.inr hj,(no2 j hj).1⟩⟩,⟨obj', ?_, ?_⟩, ?_, ?_, ?_,.inl h.o1,.inl h.o2,.inl h.o6, ?_,h.od.snoc hS⟩, ?_⟩,wZ.upd _ _,by simp only [zA9]; omega, ?_⟩
        ·rw [zk 0 (by omega) (by omega),k2 0 (by omega) (by omega) (by omega) (by omega) (nro 0 (by omega))]; exact h.g0
        ·rw [zA4 wZ _ _ _ (by omega)]; exact zAG w2 _ _ m1
        ·rw [hst]
         exact sp2.keep fun j hj=>zk j (by have:=(no2 j hj).1; omega) (by have:=(no2 j hj).1; omega)
        ·rw [zk 2 (by omega) (by omega)]; exact m2
        ·rw [List.map_append]; exact hset'
        ·rw [zk 3 (by omega) (by omega),k2 3 (by omega) (by omega) (by omega) (by omega) (nro 3 (by omega))]; exact h.g3
        ·rw [zk 5 (by omega) (by omega),k2 5 (by omega) (by omega) (by omega) (by omega) (nro 5 (by omega))]; exact h.g5
        ·exact zAG wZ _ _ (by simp only [zA9]; omega)
        ·intro j hj
         simp only [zA9]
         rcases hj with hj | hj
         ·exact ⟨by have:=(h.ol j hj).1; omega,(h.ol j hj).2⟩
         ·exact ⟨sp2.lt j hj,.inr (.inr (by have:=(no2 j hj).1; omega))⟩
        ·rintro j (hj | hj)
         ·exact .inl hj
         ·exact (no2 j hj).2
        ·intro j hj hO
         have h1 : j ≠ 1:=fun e=>hO (e ▸ h.o1)
         have h2 : j ≠ 2:=fun e=>hO (e ▸ h.o2)
         have h6 : j ≠ 6:=fun e=>hO (e ▸ h.o6)
         rw [zk j h1 h6]
         exact k2 j hj h1 h2 h6 fun e=>hO (ro2 j e).1
       exact ⟨_,_,_,_,_,_,_,rfl,.inl (.inl yl)⟩
    ·skip
     by_cases c5 : x.1 ∈ pre.map (·.1)
     ·simp only [c5,if_true] at hlk
      simp (maxSteps:=2000000) (disch:=first | omega | assumption | (simp only [DS,Nat.reduceAdd, *]; done) | (simp only [DZ]; omega)) only [RUN,RU,zA2,zA1,slot,lay,zAI,reduceIte,Nat.reduceEqDiff,Int.reduceLT,g2,g4,g5,g6,g7,hne,y0,y3,ya,yb,yc,wY,↓pIdN,zBD,ETA,c2,c3,x_lk,hlk]
      have os : OS tm ((Y.upd 0 (.row false [BL false])).upd 6 (.loop .done (some .ret) tm [12,13] cO1 cO2 5)):=by
       refine ⟨(wY.upd _ _).upd _ _,by simp only [zA9]; omega, ?_, ?_, ?_⟩
       ·rw [zA4 (wY.upd _ _) _ _ _ (by omega)]
        exact zAG wY _ _ l0
       ·rw [zA4 (wY.upd _ _) _ _ _ (by omega),zA4 wY _ _ _ (by omega)]
        exact (yj 5 (by omega) (by omega) (by omega)).trans h.g5
       ·exact zAG (wY.upd _ _) _ _ (by simp only [zA9]; omega)
      refine ⟨_,_,_,_,_,_,_,y6,.inr (.inr ?_)⟩
      first
      | exact os
      | exact ⟨os,by simp [*]⟩
     ·simp only [c5,if_false] at hlk
      simp (maxSteps:=2000000) (disch:=first | omega | assumption | (simp only [DS,Nat.reduceAdd, *]; done) | (simp only [DZ]; omega)) only [RUN,RU,zA2,zA1,slot,zAI,reduceIte,Nat.reduceEqDiff,g4,g5,g6,g7,hne,y3,ya,yb,yc,↓pIdN,zBD,ETA,c2,c3,x_lk,hlk,x_mu]
      refine zLP zK6 wY l2 y2 hset x.1 fun obj' hset'=>?_
      simp only [c5,if_false] at hset'
      simp (maxSteps:=2000000) (disch:=first | omega | assumption | (simp only [DS,Nat.reduceAdd, *]; done) | (simp only [DZ]; omega)) only [RUN,RU,zA2,zA1,slot,lay,zAI,zAB,reduceIte,Nat.reduceEqDiff,Nat.reduceBEq,Nat.reduceAdd,g3,g5,y1,ya]
      refine ⟨spY.rows (by omega),SlP.app1 (bytes:=24) (x:=x.1) (wY.upd 2 obj') (spY.keep fun j hj=>zA4 wY _ _ _ (by have:=(ro j (ro' ▸ hj)).2; omega)) zHA ⟨rfl,hx⟩ rfl (by omega) (by rw [List.length_reverse]; omega) (by rw [List.length_reverse]; omega) fun o2 M2 sp2 w2 le2 kp2 nw2 rl2 on2 oc2=>?_⟩
      rw [zA9] at le2 kp2 nw2
      have hS : ordS x (stk pre) (pre.map (·.1)) = true:=by
       unfold ordS
       rw [hpop]
       simp [*]
      have hst : (stk (pre ++ [x])).reverse = q.reverse ++ [x.1]:=by rw [zE8,hpop,List.reverse_cons]
      have ro2 : ∀ j,rowOf o' = some j → O j ∧ 7 ≤ j:=fun j hj=>ro j (ro' ▸ hj)
      have k2 : ∀ j,j < M.size → j ≠ 1 → j ≠ 2 → j ≠ 6 → rowOf o' ≠ some j → M2.get j = M.get j:=fun j a b c e f=>by
       rw [kp2 j (by omega) f,zA4 wY _ _ _ (fun e=>c e.symm)]
       exact yj j a b e
      have m6 : M2.get 6 = some (.loop .busy none tm [12,13] cO1 cO2 5):=by
       rw [kp2 6 (by omega) (fun e=>by have:=(ro2 6 e).2; omega),zA4 wY _ _ _ (by omega)]
       exact y6
      have m2 : M2.get 2 = some obj':=by
       rw [kp2 2 (by omega) (fun e=>by have:=(ro2 2 e).2; omega)]
       exact zAG wY _ _ l2
      have m1 : 1 < M2.size:=by omega
      have n1 : M2.get 1 = some (.row false [o']):=by
       rw [kp2 1 (by omega) (fun e=>by have:=(ro2 1 e).2; omega),zA4 wY _ _ _ (by omega)]
       exact y1
      simp (maxSteps:=2000000) (disch:=first | omega | assumption | (simp only [DS,Nat.reduceAdd, *]; done) | (simp only [DZ]; omega)) only [RUN,RU,zA2,zA1,lay,reduceIte,Nat.reduceEqDiff,g3,oc2,w2,m6,n1]
      have yl : Yl (OI tm) (pre ++ [x]) O B M ((M2.upd 1 (.row false [o2])).upd 6 (.loop .ready none tm [12,13] cO1 cO2 5)):=by
       have wZ:=w2.upd 1 (.row false [o2])
       have zk : ∀ j,j ≠ 1 → j ≠ 6 → ((M2.upd 1 (.row false [o2])).upd 6 (.loop .ready none tm [12,13] cO1 cO2 5)).get j = M2.get j:=fun j a b=>by
        rw [zA4 wZ _ _ _ (fun e=>b e.symm),zA4 w2 _ _ _ (fun e=>a e.symm)]
       have nro : ∀ j,j < 7 → rowOf o' ≠ some j:=fun j hj e=>by have:=(ro2 j e).2; omega
       have no2 : ∀ j,rowOf o2 = some j → 7 ≤ j ∧ (O j ∨ M.size ≤ j):=fun j hj=>by
        rcases nw2 j hj with e | e
        ·exact ⟨(ro2 j e).2,.inl (ro2 j e).1⟩
        ·exact ⟨by omega,.inr (by omega)⟩
       refine ⟨⟨fun j=>O j ∨ rowOf o2 = some j,⟨wZ.upd _ _,by simp only [zA9]; omega, ?_,⟨o2, ?_, ?_,fun j hj=>⟨.inr hj,(no2 j hj).1⟩⟩,⟨obj', ?_, ?_⟩, ?_, ?_, ?_,.inl h.o1,.inl h.o2,.inl h.o6, ?_,h.od.snoc hS⟩, ?_⟩,wZ.upd _ _,by simp only [zA9]; omega, ?_⟩
       ·rw [zk 0 (by omega) (by omega),k2 0 (by omega) (by omega) (by omega) (by omega) (nro 0 (by omega))]; exact h.g0
       ·rw [zA4 wZ _ _ _ (by omega)]; exact zAG w2 _ _ m1
       ·rw [hst]
        exact sp2.keep fun j hj=>zk j (by have:=(no2 j hj).1; omega) (by have:=(no2 j hj).1; omega)
       ·rw [zk 2 (by omega) (by omega)]; exact m2
       ·rw [List.map_append]; exact hset'
       ·rw [zk 3 (by omega) (by omega),k2 3 (by omega) (by omega) (by omega) (by omega) (nro 3 (by omega))]; exact h.g3
       ·rw [zk 5 (by omega) (by omega),k2 5 (by omega) (by omega) (by omega) (by omega) (nro 5 (by omega))]; exact h.g5
       ·exact zAG wZ _ _ (by simp only [zA9]; omega)
       ·intro j hj
        simp only [zA9]
        rcases hj with hj | hj
        ·exact ⟨by have:=(h.ol j hj).1; omega,(h.ol j hj).2⟩
        ·exact ⟨sp2.lt j hj,.inr (.inr (by have:=(no2 j hj).1; omega))⟩
       ·rintro j (hj | hj)
        ·exact .inl hj
        ·exact (no2 j hj).2
       ·intro j hj hO
        have h1 : j ≠ 1:=fun e=>hO (e ▸ h.o1)
        have h2 : j ≠ 2:=fun e=>hO (e ▸ h.o2)
        have h6 : j ≠ 6:=fun e=>hO (e ▸ h.o6)
        rw [zk j h1 h6]
        exact k2 j hj h1 h2 h6 fun e=>hO (ro2 j e).1
      exact ⟨_,_,_,_,_,_,_,rfl,.inl (.inl yl)⟩
end Go.Proofs.YtakefgebklfhpaaGreat
namespace Go.Proofs.YtakefgebklfhpaaGreat
open Go Go.Ax
variable {fuel : Nat} {M : Mem} {Q : AV → Mem → Prop} {d : Nat}
theorem zQ5 {a : AV} {l : List Rn} (hS : Sl 10 isRn a l) (wf : Wf M) (k : Q (.fn 109 [] [.ptr M.size 0]) (M.add (.row false [a]))) :
  W3 (zAE Tryz.prog (fsT tbl) fuel (d + 1) (.fn 101) [a] M) Q:=by
 have oa:=hS.one
 refine zB6 tf101 rfl (by simp [a101]) fun b' ht hx=>?_
 have h0:=hx 0 _ rfl
 clear hx
 simp only [a101,c101] at ht ⊢
 simp (maxSteps:=2000000) (disch:=first | omega | assumption | (simp only [DS,Nat.reduceAdd, *]; done) | (simp only [DZ]; omega)) only [RUN,RU,zA2,zA1,zA0,zAA,reduceIte,Nat.reduceEqDiff,h0,hS.fz.cells]
 exact k
theorem zb5 {a : AV} {l : List Rn} (hS : Sl 10 isRn a l) : ∀ r ∈ l,r.ok:=by
 intro r hr
 obtain ⟨i,hi,rfl⟩:=List.getElem_of_mem hr
 obtain ⟨_,_,⟨_,_,_,hok⟩,_⟩:=hS.iad i hi
 exact hok
theorem zY9 {l : List Rn} (h : ∀ r ∈ l,r.ok) (hm : ∀ r ∈ l,r.may = true) : ∀ x ∈ elsL l,x.1.ok:=by
 intro x hx
 obtain ⟨r,hr,hx⟩:=List.mem_flatMap.1 hx
 obtain ⟨i,hi,rfl⟩:=List.mem_map.1 hx
 rw [List.mem_range] at hi
 have hb:=Spn.may_le (Rn.may_sp (hm r hr))
 have hk:=h r hr
 refine ⟨hk.1.1.1, ?_⟩
 simp only [Spn.at,i64R]
 omega
theorem zJ0 {l : List Rn} (hm : ∀ r ∈ l,r.may = true) : (elsL l).length ≤ 64 * l.length:=by
 have:=zEE hm
 have e:=zDP hm
 rw [← zKM]
 unfold prs
 rw [List.length_map]
 omega
theorem zZN {X : Mem} {tm : List AV} {a : AV} {l : List Rn} (hS : Sl 10 isRn a l) (hl : l.length ≤ 1000) (hm : ∀ r ∈ l,r.may = true) (hf : 64 * l.length + 1000 < fuel) (w : Wf X) (h2 : nth zA5 tm 2 = .ptr 0 0) (h3 : nth zA5 tm 3 = .ptr 1 0) (h4 : nth zA5 tm 4 = .ptr 3 0) (hlen : tm.length = 63) (hX : X.size = 5) (g0 : X.get 0 = some (.row false [BL false])) (g1 : X.get 1 = some (.row false [NIL])) (g2 : X.get 2 = some (.map [] 0)) (g3 : X.get 3 = some (.row false [.mp 2])) (g4 : X.get 4 = some (.row false [a]))
  (kt : Ord (elsL l) → ∀ u O N,OI tm (elsL l) O N → Q u N) (ks : ¬Ord (elsL l) → ∀ u N,OS tm N → Q u N) :
  W3 (zAE Tryz.prog (fsT tbl) fuel (d + 8) (.fn 109) ([] ++ [.yl (X.size + 1)] ++ [.ptr 4 0]) ((X.add (.dfr false)).add (.loop .ready none tm [12,13] cO1 cO2 X.size))) Q:=by
 have w1:=w.add (.dfr false)
 have hel:=zJ0 hm
 have heo:=zY9 (zb5 hS) hm
 have e : X.size + 1 = 6:=by omega
 have u : ∀ j,j < 5 → ((X.add (.dfr false)).add (.loop .ready none tm [12,13] cO1 cO2 X.size)).get j = X.get j:=fun j hj=>by
  rw [zAF w1 _ _ (by rw [zA6]; omega),zAF w _ _ (by omega)]
 have hJ0 : OI tm [] (fun j=>j = 1 ∨ j = 2 ∨ j = 6) ((X.add (.dfr false)).add (.loop .ready none tm [12,13] cO1 cO2 X.size)):=by
  refine ⟨w1.add _,by simp only [zA6]; omega,(u 0 (by omega)).trans g0,⟨NIL,(u 1 (by omega)).trans g1,SlP.nil,fun j hj=>by cases hj⟩,⟨_,(u 2 (by omega)).trans g2,zHD.nil _ _⟩,(u 3 (by omega)).trans g3, ?_, ?_,.inl rfl,.inr (.inl rfl),.inr (.inr rfl), ?_,Ord.nil⟩
  ·rw [zAF w1 _ _ (by rw [zA6]; omega),← hX]
   exact zAH w _ _ (Nat.le_refl _) (Nat.lt_succ_self _)
  ·have:=zAH w1 (.loop .ready none tm [12,13] cO1 cO2 X.size) 6 (by rw [zA6]; omega) (by rw [zA6]; omega)
   rw [hX] at this ⊢
   exact this
  ·intro j hj
   simp only [zA6]
   rcases hj with rfl | rfl | rfl <;> omega
 have key:=zVM (d:=d) (fuel:=fuel) (Q:=Q) (J:=OI tm) (S:=fun N=>OS tm N ∧ ¬Ord (elsL l)) (id:=6) (p:=4) hS (by omega) hm (by omega) (w1.add _) ((u 4 (by omega)).trans g4) hJ0 (fun pre O N N' h wf le k=>h.keep wf le k) (fun pre O N h j hj=>(h.ol j hj).1) (fun pre x post O N he h wf le=>?_) (fun u N O h _ _=>kt h.od u O N h) (fun u N h=>ks h.2 u N h.1)
 ·rw [← e] at key
  exact key
 ·have hxm : x ∈ elsL l:=by rw [he]; simp
  have hpl : pre.length ≤ (elsL l).length:=by rw [he]; simp
  obtain ⟨v,N',hc,hv⟩:=zdU (fuel:=fuel) (d:=d) (B:=((X.add (.dfr false)).add (.loop .ready none tm [12,13] cO1 cO2 X.size)).size) h h2 h3 h4 hlen (heo x hxm) (by omega) (by omega)
  refine ⟨v,N',hc, ?_⟩
  rcases hv with ⟨rfl,hv⟩ | ⟨rfl,hv,ho⟩
  ·exact .inl ⟨rfl,hv⟩
  ·refine .inr ⟨rfl,hv,fun k=>?_⟩
   rw [k pre x post he] at ho
   cases ho
open Classical in
set_option maxHeartbeats 4000000 in
theorem zNJ {a : AV} {l : List Rn} (hS : Sl 10 isRn a l) (hl : l.length ≤ 1000) (hm : ∀ r ∈ l,r.may = true) (hf : 64 * l.length + 1000 < fuel) (M : Mem) : zAE Tryz.prog (fsT tbl) fuel (d + 9) (.fn 85) [a] M = some (BL (decide (Ord (elsL l))),M):=by
 have oa:=hS.one
 have hel:=zJ0 hm
 have heo:=zY9 (zb5 hS) hm
 apply zBI
 refine zAJ tf85 rfl (by simp only [icyL,fun M=>hS.icy M 12 (by omega)]) (by simp [a85]) fun b' ht hx=>?_
 have h0:=hx 0 _ rfl
 clear hx
 simp only [a85,c85] at ht ⊢
 have cm : cellsA (.mp 2) = [.mp 2]:=rfl
 have om : oneA (.mp 2) = true:=rfl
 have sm : scs (.map none) = [.sc (.map none)]:=rfl
 simp (maxSteps:=2000000) (disch:=first | omega | assumption | (simp only [DS,Nat.reduceAdd, *]; done) | (simp only [DZ]; omega)) only [RUN,RU,zA2,zA1,lay,reduceIte,Nat.reduceEqDiff,Nat.reduceAdd,h0,zUL,cm,sm]
 refine zQ5 hS (by simp (maxSteps:=2000000) (disch:=first | omega | assumption | (simp only [DS,Nat.reduceAdd, *]; done) | (simp only [DZ]; omega)) only [RUN]) ?_
 simp (maxSteps:=2000000) (disch:=first | omega | assumption | (simp only [DS,Nat.reduceAdd, *]; done) | (simp only [DZ]; omega)) only [RUN,RU,Nat.reduceAdd]
 refine zXY (g:=109) (first:=[]) (cap:=[.ptr 4 0]) (by simp (maxSteps:=2000000) (disch:=first | omega | assumption | (simp only [DS,Nat.reduceAdd, *]; done) | (simp only [DZ]; omega)) only [RUN]) (by simp (maxSteps:=2000000) (disch:=first | omega | assumption | (simp only [DS,Nat.reduceAdd, *]; done) | (simp only [DZ]; omega)) only [RUN,reduceIte,Nat.reduceEqDiff]) ?_
 refine zZN (d:=d) hS hl hm hf ?_ ?_ ?_ ?_ ?_ ?_ ?_ ?_ ?_ ?_ ?_ (fun ho u O N h=>?_) (fun ho u N h=>?_)
 ·simp (maxSteps:=2000000) (disch:=first | omega | assumption | (simp only [DS,Nat.reduceAdd, *]; done) | (simp only [DZ]; omega)) only [RUN]
 ·simp (maxSteps:=2000000) (disch:=first | omega | assumption | (simp only [DS,Nat.reduceAdd, *]; done) | (simp only [DZ]; omega)) only [RUN,reduceIte,Nat.reduceEqDiff]
 ·simp (maxSteps:=2000000) (disch:=first | omega | assumption | (simp only [DS,Nat.reduceAdd, *]; done) | (simp only [DZ]; omega)) only [RUN,reduceIte,Nat.reduceEqDiff]
 ·simp (maxSteps:=2000000) (disch:=first | omega | assumption | (simp only [DS,Nat.reduceAdd, *]; done) | (simp only [DZ]; omega)) only [RUN,reduceIte,Nat.reduceEqDiff]
 ·rw [zL2]; exact ht
 ·simp (maxSteps:=2000000) (disch:=first | omega | assumption | (simp only [DS,Nat.reduceAdd, *]; done) | (simp only [DZ]; omega)) only [RUN,RU,Nat.reduceAdd]
 ·simp (maxSteps:=2000000) (disch:=first | omega | assumption | (simp only [DS,Nat.reduceAdd, *]; done) | (simp only [DZ]; omega)) only [RUN]
 ·simp (maxSteps:=2000000) (disch:=first | omega | assumption | (simp only [DS,Nat.reduceAdd, *]; done) | (simp only [DZ]; omega)) only [RUN]
 ·simp (maxSteps:=2000000) (disch:=first | omega | assumption | (simp only [DS,Nat.reduceAdd, *]; done) | (simp only [DZ]; omega)) only [RUN]
 ·simp (maxSteps:=2000000) (disch:=first | omega | assumption | (simp only [DS,Nat.reduceAdd, *]; done) | (simp only [DZ]; omega)) only [RUN]
 ·simp (maxSteps:=2000000) (disch:=first | omega | assumption | (simp only [DS,Nat.reduceAdd, *]; done) | (simp only [DZ]; omega)) only [RUN]
 ·have wf:=h.wf
  have sz:=h.sz
  have l0:=Mem.get_lt h.g0
  have l5:=Mem.get_lt h.g5
  have e6 : (mem0.add (.row false [BL false])).size = 1:=rfl
  refine ⟨wf,by simp only [zA6,zA9,zB1]; omega,_,_,_,_,_,_,_,.inl rfl,h.g6, ?_⟩
  generalize hX : N.upd _ _ = X
  have wX : Wf X:=by rw [← hX]; exact wf.upd _ _
  have sX : X.size = N.size:=by rw [← hX]; rfl
  have gX : ∀ j,j ≠ 6 → X.get j = N.get j:=fun j hj=>by rw [← hX]; exact zA4 wf _ _ _ (fun e=>hj e.symm)
  have x0:=(gX 0 (by omega)).trans h.g0
  have x5:=(gX 5 (by omega)).trans h.g5
  have hd : decide (Ord (elsL l)) = true:=decide_eq_true ho
  rw [hd]
  simp (maxSteps:=2000000) (disch:=first | omega | assumption | (simp only [DS,Nat.reduceAdd, *]; done) | (simp only [DZ]; omega)) only [RUN,RU,zA2,zA1,lay,reduceIte,Nat.reduceEqDiff,Nat.reduceAdd,x0,Option.getD_none]
  refine zJY (by simp (maxSteps:=2000000) (disch:=first | omega | assumption | (simp only [DS,Nat.reduceAdd, *]; done) | (simp only [DZ]; omega)) only [RUN,wX]) (by simp (maxSteps:=2000000) (disch:=first | omega | assumption | (simp only [DS,Nat.reduceAdd, *]; done) | (simp only [DZ]; omega)) only [RUN,x5]) ?_
  simp (maxSteps:=2000000) (disch:=first | omega | assumption | (simp only [DS,Nat.reduceAdd, *]; done) | (simp only [DZ]; omega)) only [RUN,RU,zA0,zAA,frzL,reduceIte,Nat.reduceEqDiff]
 ·have wf:=h.wf
  have sz:=h.sz
  have l0:=Mem.get_lt h.g0
  have l5:=Mem.get_lt h.g5
  refine ⟨wf,by simp only [zA6,zA9,zB1]; omega,_,_,_,_,_,_,_,.inr rfl,h.g6, ?_⟩
  generalize hX : N.upd _ _ = X
  have wX : Wf X:=by rw [← hX]; exact wf.upd _ _
  have sX : X.size = N.size:=by rw [← hX]; rfl
  have gX : ∀ j,j ≠ 6 → X.get j = N.get j:=fun j hj=>by rw [← hX]; exact zA4 wf _ _ _ (fun e=>hj e.symm)
  have x0:=(gX 0 (by omega)).trans h.g0
  have x5:=(gX 5 (by omega)).trans h.g5
  have hd : decide (Ord (elsL l)) = false:=decide_eq_false ho
  rw [hd]
  simp (maxSteps:=2000000) (disch:=first | omega | assumption | (simp only [DS,Nat.reduceAdd, *]; done) | (simp only [DZ]; omega)) only [RUN,RU,Nat.reduceAdd,Option.getD_some]
  refine zJY (by simp (maxSteps:=2000000) (disch:=first | omega | assumption | (simp only [DS,Nat.reduceAdd, *]; done) | (simp only [DZ]; omega)) only [wX]) (by simp (maxSteps:=2000000) (disch:=first | omega | assumption | (simp only [DS,Nat.reduceAdd, *]; done) | (simp only [DZ]; omega)) only [x5]) ?_
  simp (maxSteps:=2000000) (disch:=first | omega | assumption | (simp only [DS,Nat.reduceAdd, *]; done) | (simp only [DZ]; omega)) only [RUN,RU,zA0,zAA,frzL,reduceIte,Nat.reduceEqDiff,x0]
end Go.Proofs.YtakefgebklfhpaaGreat
namespace Go.Proofs.YtakefgebklfhpaaGreat
open Go Go.Ax
variable {fuel : Nat} {M : Mem} {Q : AV → Mem → Prop} {d : Nat}
theorem zQ2 {o : Rn} {ra : AV} (hR : Sl 1 zB4 ra o.rs) (hf : 100 < fuel) (M : Mem) : zAE Tryz.prog (fsT tbl) fuel (d + 7) (.fn 84) [.agg (rnR o ra)] M = some (BL (!o.may),M):=by
 have ora:=hR.one
 have hck:=fun M=>@zC0 fuel d o ra hR hf M
 apply zBI
 refine zAJ tf84 rfl (by simp only [icyL,zCI hR.fz]) (by simp [a84]) fun b' ht hx=>?_
 have h0:=hx 0 _ rfl
 clear hx
 simp only [a84,c84] at ht ⊢
 cases hm : o.may <;> rw [hm] at hck <;> simp (maxSteps:=2000000) (disch:=first | omega | assumption | (simp only [DS,Nat.reduceAdd, *]; done) | (simp only [DZ]; omega)) only [RUN,RU,zA2,zA1,zA0,zAA,frzL,slot,reduceIte,Nat.reduceEqDiff,Int.reduceEq,h0,hck,zB0,zBF]
open Classical in
noncomputable def zEZ (l : List Rn) : Bool:=decide (zDE l)
open Classical in
theorem zbH {l : List Rn} (h : zDE l) : zEZ l = true:=by unfold zEZ; exact decide_eq_true h
open Classical in
theorem zKX {l : List Rn} (h : ¬zDE l) : zEZ l = false:=by unfold zEZ; exact decide_eq_false h
open Classical in
theorem zMF {l : List Rn} : zEZ l = true ↔ zDE l:=by unfold zEZ; exact ⟨of_decide_eq_true,fun h=>decide_eq_true h⟩
theorem zF0 {l : List Rn} (h : ∀ r ∈ l,r.may = true) : ∀ r ∈ l,r.rs.length ≤ 64:=fun r hr=>((Rn.may_iff.1 (h r hr)).2.2.2.1)
set_option maxHeartbeats 4000000 in
theorem zRS {a : AV} {l : List Rn} (hS : Sl 10 isRn a l) (hl : l.length ≤ 1000) (hf : 64 * l.length + 3001000 < fuel) (M : Mem) : zAE Tryz.prog (fsT tbl) fuel (d + 10) (.fn 53) [a] M = some (I64 (err (zEZ l)),M):=by
 have oa:=hS.one
 have hh:=fun M=>za4 (P:=Tryz.prog) (fs:=fsT tbl) (fuel:=fuel) (l:=l) (ag:=true) (n:=d + 7) tf83 tf100 (fun h=>by cases h) zCZ hS (by omega) (by omega) (zYE 84) (p:=fun x => !x.may) (fun r x hr _ M=>by
  obtain ⟨ra,rfl,hra,_⟩:=hr
  exact @zQ2 fuel d x ra hra (by omega) M) M
 rw [zRC] at hh
 apply zBI
 refine zAJ tf53 rfl (by simp only [icyL,fun M=>hS.icy M 12 (by omega)]) (by simp [a53]) fun b' ht hx=>?_
 have h0:=hx 0 _ rfl
 clear hx
 simp only [a53,c53] at ht ⊢
 cases hb : l.all Rn.may with
 | false =>
  rw [hb] at hh
  have hno : zEZ l = false:=zKX fun k=>by
   rw [List.all_eq_true.2 k.1] at hb; cases hb
  rw [hno]
  simp (maxSteps:=2000000) (disch:=first | omega | assumption | (simp only [DS,Nat.reduceAdd, *]; done) | (simp only [DZ]; omega)) only [RUN,RU,zA2,zA1,zA0,zAA,frzL,reduceIte,Nat.reduceEqDiff,h0,hh,zBF]
 | true =>
  rw [hb] at hh
  have hm : ∀ r ∈ l,r.may = true:=List.all_eq_true.1 hb
  have hrs:=zF0 hm
  have hct:=fun M=>@zHR fuel (d + 8) a l hS hm (by omega) (by omega) M
  have hord:=fun M=>@zNJ fuel d a l hS hl hm (by omega) M
  obtain ⟨r,hr,hlong⟩:=zFY (fuel:=fuel) (d:=d) hS (by omega) (fun r hr=>by have:=hrs r hr; omega) (by omega)
  have hmL:=(zC7 hm).2
  have hrsL:=zF0 hmL
  have hlenL : (zBO l).length ≤ 64000:=by
   have e1:=zDP hmL
   have e2:=zEE hm
   have e3:=zDP hm
   rw [(zC7 hm).1,(zCR _).1] at e1
   have : (zBO l).length ≤ (zB3 (zBO l)):=by
    rw [(zC7 hm).1]
    have hh:=(zCR (elsR l)).2
    generalize zCY (elsR l) = C at *
    clear e1
    induction C with
    | nil=>simp [zB3]
    | cons q C ih =>
     have:=ih (fun q hq=>hh q (List.mem_cons_of_mem _ hq))
     have:=(hh q List.mem_cons_self).1
     simp only [zB3,List.length_cons]
     omega
   rw [(zC7 hm).1] at this ⊢
   omega
  have hsame:=fun M=>@zUB fuel (d + 5) r a (zBO l) l hr hS (by omega) (fun e he=>⟨by have:=hrsL e he; omega,by have:=hrsL e he; omega⟩) (by omega) M
  have or:=hr.one
  by_cases h1 : zB3 l ≤ 8192
  ·have q1 : decide (8192 < zB3 l) = false:=decide_eq_false (by omega)
   by_cases h2 : Ord (elsL l)
   ·have ho:=@decide_eq_true _ (Classical.propDecidable (Ord (elsL l))) h2
    rw [ho] at hord
    by_cases h3 : zBO l = l
    ·have hyes : zEZ l = true:=zbH ⟨hm,h1,h2,h3⟩
     have hs : zKQ (zBO l) l = true:=zMB.2 h3
     rw [hs] at hsame
     rw [hyes]
     simp (maxSteps:=2000000) (disch:=first | omega | assumption | (simp only [DS,Nat.reduceAdd, *]; done) | (simp only [DZ]; omega)) only [RUN,RU,zA2,zA1,zA0,zAA,frzL,reduceIte,Nat.reduceEqDiff,h0,hh,hct,q1,hord,hlong,hsame,zB0]
    ·have hno : zEZ l = false:=zKX fun k=>h3 k.2.2.2
     have hs : zKQ (zBO l) l = false:=by
      cases hq : zKQ (zBO l) l with
      | false=>rfl
      | true=>exact absurd (zMB.1 hq) h3
     rw [hs] at hsame
     rw [hno]
     simp (maxSteps:=2000000) (disch:=first | omega | assumption | (simp only [DS,Nat.reduceAdd, *]; done) | (simp only [DZ]; omega)) only [RUN,RU,zA2,zA1,zA0,zAA,frzL,reduceIte,Nat.reduceEqDiff,h0,hh,hct,q1,hord,hlong,hsame,zBF]
   ·have ho:=@decide_eq_false _ (Classical.propDecidable (Ord (elsL l))) h2
    rw [ho] at hord
    have hno : zEZ l = false:=zKX fun k=>h2 k.2.2.1
    rw [hno]
    simp (maxSteps:=2000000) (disch:=first | omega | assumption | (simp only [DS,Nat.reduceAdd, *]; done) | (simp only [DZ]; omega)) only [RUN,RU,zA2,zA1,zA0,zAA,frzL,reduceIte,Nat.reduceEqDiff,h0,hh,hct,q1,hord,zBF]
  ·have q1 : decide (8192 < zB3 l) = true:=decide_eq_true (by omega)
   have hno : zEZ l = false:=zKX fun k=>h1 k.2.1
   rw [hno]
   simp (maxSteps:=2000000) (disch:=first | omega | assumption | (simp only [DS,Nat.reduceAdd, *]; done) | (simp only [DZ]; omega)) only [RUN,RU,zA2,zA1,zA0,zAA,frzL,reduceIte,Nat.reduceEqDiff,h0,hh,hct,q1,zBF]
end Go.Proofs.YtakefgebklfhpaaGreat
namespace Go.Proofs.YtakefgebklfhpaaGreat
open Go Go.Ax
variable {fuel : Nat} {M : Mem} {Q : AV → Mem → Prop} {d : Nat}
abbrev zRn : Value:=.agg #[.int .u8 0,.int .u32 0,.int .u8 0,.int .i64 0,.int .i64 0,.int .u8 0,.int .u32 0,.int .u8 0,.int .i64 0,.slice none 0 0]
theorem zcM {n : Nat} (wf : Wf M) (hn : 0 < n) (hb : n ≤ 1000000) (k : Q (.sl M.size 0 0 none 10) (M.add (.row false (zAB zRn n)))) :
  W3 (zAE Tryz.prog (fsT tbl) fuel (d + 1) (.fn 106) [NIL,I64 n] M) Q:=by
 have hz:=zV4 (X:=M) (st:=10) (bytes:=80) (z:=zRn) wf rfl rfl hn (by omega) (by omega) (by omega)
 have e0 : decide ((n : Int) < 0) = false:=decide_eq_false (by omega)
 have e1 : decide ((0 : Int) < n) = true:=decide_eq_true (by omega)
 have w0 : IntKind.i64.wrap 0 = 0:=by decide
 have w1 : IntKind.i64.wrap ((n : Int) - 0) = n:=by rw [wrap_i64] <;> omega
 refine zB6 tf106 rfl (by simp [a106]) fun b' ht hx=>?_
 have h0:=hx 0 _ rfl
 have h1:=hx 1 _ rfl
 clear hx
 simp only [a106,c106] at ht ⊢
 have hs:=zbC (M:=M.add (.row false (zAB zRn n))) (st:=10) (n:=n) (zAH wf (.row false (zAB zRn n)) M.size (Nat.le_refl _) (Nat.lt_succ_self _))
 simp (maxSteps:=2000000) (disch:=first | omega | assumption | (simp only [DS,Nat.reduceAdd, *]; done) | (simp only [DZ]; omega)) only [RUN,RU,zA2,zA1,zA0,zAA,reduceIte,Nat.reduceEqDiff,Int.reduceSub,h0,h1,e0,e1,w0,w1,zeJ,x_cap,zZI,zXP,hz,hs]
 exact k
set_option maxHeartbeats 8000000 in
/-- One list of three. -/
theorem zRW {id : Nat} {a0 a1 a2 : AV} {l0 l1 l2 : List Rn} (wf : Wf M) (hg : M.get id = some (.row false [a0,a1,a2])) (h0' : Sl 10 isRn a0 l0) (h1' : SlM M 10 isRn a1 l1) (h2' : Sl 10 isRn a2 l2) (hn : 0 < l1.length) (hb0 : l0.length ≤ 10000) (hb1 : l1.length ≤ 10000) (hb2 : l2.length ≤ 10000) (hf : 100 < fuel) (hw : M.wm ≤ M.size)
  (k : ∀ o N,SlM N 10 isRn o (l0 ++ l1 ++ l2) → Kept M N → (∀ j,rowOf o = some j → M.size ≤ j) → oneA o = true → cellsA o = [o] → ((rowsOf o).all fun i=>Nat.blt i N.size) = true → Q o N) :
  W3 (zAE Tryz.prog (fsT tbl) fuel (d + 2) (.fn 88) [.sl id 0 3 (some 3) 1] M) Q:=by
 have x0:=h0'.len
 have x1:=h1'.len
 have x2:=h2'.len
 have o0:=h0'.one
 have o1:=h1'.one
 have o2:=h2'.one
 have li:=Mem.get_lt hg
 have c3 : ((3 : Nat) : Int) = 3:=rfl
 have t0 : zD8 (I64 0) = some 0:=rfl
 have t1 : zD8 (I64 1) = some 1:=rfl
 have t2 : zD8 (I64 2) = some 2:=rfl
 have q03 : decide ((0 : Int) < 3) = true:=rfl
 have q13 : decide ((1 : Int) < 3) = true:=rfl
 have q23 : decide ((2 : Int) < 3) = true:=rfl
 have q33 : decide ((3 : Int) < 3) = false:=rfl
 have v1 : IntKind.i64.wrap 1 = 1:=by decide
 have v2 : IntKind.i64.wrap 2 = 2:=by decide
 have v3 : IntKind.i64.wrap 3 = 3:=by decide
 have w0 : IntKind.i64.wrap (0 + (l0.length : Int)) = (l0.length : Nat):=by rw [wrap_i64] <;> omega
 have w1 : IntKind.i64.wrap ((l0.length : Int) + (l1.length : Int)) = ((l0.length + l1.length : Nat) : Int):=by rw [wrap_i64] <;> omega
 have w2 : IntKind.i64.wrap (((l0.length + l1.length : Nat) : Int) + (l2.length : Int)) = ((l0.length + l1.length + l2.length : Nat) : Int):=by rw [wrap_i64] <;> omega
 have n0 : decide (((l0.length : Nat) : Int) < 0) = false:=decide_eq_false (by omega)
 have n1 : decide (((l0.length + l1.length : Nat) : Int) < 0) = false:=decide_eq_false (by omega)
 have n2 : decide (((l0.length + l1.length + l2.length : Nat) : Int) < 0) = false:=decide_eq_false (by omega)
 refine zB6 tf88 rfl (by simp [a88]) fun b' ht hx=>?_
 have h0:=hx 0 _ rfl
 clear hx
 simp only [a88,c88] at ht ⊢
 simp (maxSteps:=2000000) (disch:=first | omega | assumption | (simp only [DS,Nat.reduceAdd, *]; done) | (simp only [DZ]; omega)) only [RUN,RU,zA2,zA1,reduceIte,Nat.reduceEqDiff,h0]
 refine w_un (by omega) ?_
 simp (maxSteps:=2000000) (disch:=first | omega | assumption | (simp only [DS,Nat.reduceAdd, *]; done) | (simp only [DZ]; omega)) only [RUN,RU,zA2,zA1,reduceIte,Nat.reduceEqDiff,Nat.reduceMul,Int.reduceLT,Int.reduceAdd,hg,c3,t0,x0,w0,n0,v1,zDV]
 refine w_un (by omega) ?_
 simp (maxSteps:=2000000) (disch:=first | omega | assumption | (simp only [DS,Nat.reduceAdd, *]; done) | (simp only [DZ]; omega)) only [RUN,RU,zA2,zA1,reduceIte,Nat.reduceEqDiff,Nat.reduceMul,Int.reduceLT,Int.reduceAdd,hg,t1,x1,w1,n1,v2,zDV]
 refine w_un (by omega) ?_
 simp (maxSteps:=2000000) (disch:=first | omega | assumption | (simp only [DS,Nat.reduceAdd, *]; done) | (simp only [DZ]; omega)) only [RUN,RU,zA2,zA1,reduceIte,Nat.reduceEqDiff,Nat.reduceMul,Int.reduceLT,Int.reduceAdd,hg,t2,x2,w2,n2,v3,zDV]
 refine w_un (by omega) ?_
 simp (maxSteps:=2000000) (disch:=first | omega | assumption | (simp only [DS,Nat.reduceAdd, *]; done) | (simp only [DZ]; omega)) only [RUN,RU,zA2,zA1,reduceIte,Nat.reduceEqDiff,zT3]
 refine zcM (d:=d) (n:=l0.length + l1.length + l2.length) wf (by omega) (by omega) ?_
 have sq0:=SlQ.fresh (X:=M) (st:=10) (T:=isRn) (n:=l0.length + l1.length + l2.length) (z:=zRn) wf rfl
 have wX:=wf.add (.row false (zAB zRn (l0.length + l1.length + l2.length)))
 have kX : ∀ j,j < M.size → (M.add (.row false (zAB zRn (l0.length + l1.length + l2.length)))).get j = M.get j:=fun j hj=>zAF wf _ _ hj
 have sX : (M.add (.row false (zAB zRn (l0.length + l1.length + l2.length)))).size = M.size + 1:=rfl
 have dX : (M.add (.row false (zAB zRn (l0.length + l1.length + l2.length)))).dirty = M.dirty:=rfl
 have vX : (M.add (.row false (zAB zRn (l0.length + l1.length + l2.length)))).wm = M.wm:=rfl
 generalize (M.add (.row false (zAB zRn (l0.length + l1.length + l2.length)))) = X at *
 have gX:=(kX id li).trans hg
 simp (maxSteps:=2000000) (disch:=first | omega | assumption | (simp only [DS,Nat.reduceAdd, *]; done) | (simp only [DZ]; omega)) only [RUN,RU,zA2,zA1,reduceIte,Nat.reduceEqDiff,h0,c3]
 refine w_un (by omega) ?_
 simp (maxSteps:=2000000) (disch:=first | omega | assumption | (simp only [DS,Nat.reduceAdd, *]; done) | (simp only [DZ]; omega)) only [RUN,RU,zA2,zA1,reduceIte,Nat.reduceEqDiff,Nat.reduceMul,Int.reduceLT,gX,t0,h0'.fz.rows]
 obtain ⟨r0,y0,z0,A0,R0⟩:=h0'.cells2 X
 refine SlQ.app (bytes:=80) wX sq0 y0 z0 A0 R0 zCZ.cel (by omega) (by simp; omega) (by simp; omega) fun o' Y sq1 wY sY kY rY wmY diY=>?_
 have on1:=sq1.one
 have oc1:=sq1.cells
 have rl1:=sq1.rl (Nat.le_refl _)
 have ro1 : ∀ j,rowOf o' = some j → j = M.size:=fun j hj=>by rw [rY] at hj; cases hj; rfl
 have gY : Y.get id = some (.row false [a0,a1,a2]):=(kY id (fun e=>by cases e; omega)).trans gX
 have mY : ∀ j,j < M.size → Y.get j = M.get j:=fun j hj=>(kY j (fun e=>by cases e; omega)).trans (kX j hj)
 simp (maxSteps:=2000000) (disch:=first | omega | assumption | (simp only [DS,Nat.reduceAdd, *]; done) | (simp only [DZ]; omega)) only [RUN,RU,zA2,zA1,reduceIte,Nat.reduceEqDiff,Int.reduceAdd,v1,zDV]
 refine w_un (by omega) ?_
 have sm1 : SlM Y 10 isRn a1 l1:=h1'.keep fun j hj=>mY j (h1'.lt j hj)
 have rla:=zAT sm1.rl (Nat.le_refl _)
 simp (maxSteps:=2000000) (disch:=first | omega | assumption | (simp only [DS,Nat.reduceAdd, *]; done) | (simp only [DZ]; omega)) only [RUN,RU,zA2,zA1,reduceIte,Nat.reduceEqDiff,Nat.reduceMul,Int.reduceLT,gY,t1,rl1,rla]
 obtain ⟨r1,y1,z1,A1,R1⟩:=sm1.cells2
 refine SlQ.app (bytes:=80) wY sq1 y1 z1 A1 R1 zCZ.cel (by omega) (by simp; omega) (by simp; omega) fun o2' Z sq2 wZ sZ kZ rZ wmZ diZ=>?_
 have on2:=sq2.one
 have oc2:=sq2.cells
 have rl2:=sq2.rl (Nat.le_refl _)
 have ro2 : ∀ j,rowOf o2' = some j → j = M.size:=fun j hj=>ro1 j (rZ ▸ hj)
 have gZ : Z.get id = some (.row false [a0,a1,a2]):=(kZ id (fun e=>by have:=ro1 _ e; omega)).trans gY
 have mZ : ∀ j,j < M.size → Z.get j = M.get j:=fun j hj=>(kZ j (fun e=>by have:=ro1 _ e; omega)).trans (mY j hj)
 simp (maxSteps:=2000000) (disch:=first | omega | assumption | (simp only [DS,Nat.reduceAdd, *]; done) | (simp only [DZ]; omega)) only [RUN,RU,zA2,zA1,reduceIte,Nat.reduceEqDiff,Int.reduceAdd,v2,zDV]
 refine w_un (by omega) ?_
 simp (maxSteps:=2000000) (disch:=first | omega | assumption | (simp only [DS,Nat.reduceAdd, *]; done) | (simp only [DZ]; omega)) only [RUN,RU,zA2,zA1,reduceIte,Nat.reduceEqDiff,Nat.reduceMul,Int.reduceLT,gZ,t2,rl2,h2'.fz.rows]
 obtain ⟨r2,y2,z2,A2,R2⟩:=h2'.cells2 Z
 refine SlQ.app (bytes:=80) wZ sq2 y2 z2 A2 R2 zCZ.cel (by omega) (by simp; omega) (by simp; omega) fun o3' U sq3 wU sU kU rU wmU diU=>?_
 have on3:=sq3.one
 have oc3:=sq3.cells
 have rl3:=sq3.rl (Nat.le_refl _)
 have ro3 : ∀ j,rowOf o3' = some j → j = M.size:=fun j hj=>ro2 j (rU ▸ hj)
 have mU : ∀ j,j < M.size → U.get j = M.get j:=fun j hj=>(kU j (fun e=>by have:=ro2 _ e; omega)).trans (mZ j hj)
 simp (maxSteps:=2000000) (disch:=first | omega | assumption | (simp only [DS,Nat.reduceAdd, *]; done) | (simp only [DZ]; omega)) only [RUN,RU,zA2,zA1,reduceIte,Nat.reduceEqDiff,Int.reduceAdd,v3,zDV]
 refine w_un (by omega) ?_
 simp (maxSteps:=2000000) (disch:=first | omega | assumption | (simp only [DS,Nat.reduceAdd, *]; done) | (simp only [DZ]; omega)) only [RUN,RU,zA2,zA1,zA0,zAA,reduceIte,Nat.reduceEqDiff,zT3]
 have e0 : l0.length + l1.length + l2.length - l0.length - l1.length - l2.length = 0:=by omega
 rw [e0] at sq3
 have d1:=diY (fun j hj=>by cases hj; omega)
 have d2:=diZ (fun j hj=>by have:=ro1 j hj; omega)
 have d3:=diU (fun j hj=>by have:=ro2 j hj; omega)
 exact k o3' U (by have:=sq3.slm; simpa using this) ⟨wU,by omega,mU,by omega,d3.trans (d2.trans (d1.trans dX))⟩ (fun j hj=>by have:=ro3 j hj; omega) on3 oc3 rl3
end Go.Proofs.YtakefgebklfhpaaGreat
namespace Go.Proofs.YtakefgebklfhpaaGreat
open Go Go.Ax
variable {fuel : Nat} {M : Mem} {Q : AV → Mem → Prop} {d : Nat}
set_option maxHeartbeats 16000000 in
theorem zM1 {a : AV} {l : List Rn} {x : Eid} (hS : Sl 10 isRn a l) (hm : ∀ r ∈ l,r.may = true) (hx : x = Eid.z ∨ zBB l x ≠ none) (hl : l.length ≤ 9000) (hf : l.length + 100 < fuel) :
  ∃ r,Sl 10 isRn r (zB5 l x).1 ∧ ∀ M,zAE Tryz.prog (fsT tbl) fuel (d + 8) (.fn 57) [a,idA x] M = some (.tup [r,I64 (zB5 l x).2],M):=by
 have oa:=hS.one
 have la:=hS.len
 have hw:=fun M=>@zMM fuel (d + 1) a l x hS (by omega) (by omega) M
 refine zFT tf57 rfl (fun M=>by simp only [icyL,fun M=>hS.icy M 12 (by omega),zB2 (zEA x) (show 1 < 12 by omega)]) ?_
 refine zAJ tf57 rfl (by simp only [icyL,fun M=>hS.icy M 12 (by omega),zB2 (zEA x) (show 1 < 12 by omega)]) (by simp [a57]) fun b' ht hx=>?_
 have h0:=hx 0 _ rfl
 have h1:=hx 1 _ rfl
 clear hx
 simp only [a57,c57] at ht ⊢
 by_cases hz : x = Eid.z
 ·have q : decide (x = Eid.z) = true:=decide_eq_true hz
  have hpl : zB5 l x = (l,0):=by unfold zB5; rw [if_pos hz]
  rw [hpl]
  simp (maxSteps:=2000000) (disch:=first | omega | assumption | (simp only [DS,Nat.reduceAdd, *]; done) | (simp only [DZ]; omega)) only [RUN,RU,zA2,zA1,zA0,zAA,frzL,slot,zAI,reduceIte,Nat.reduceEqDiff,h0,h1,hS.fz.frz,↓pIdE,zAW,ETA,q]
  exact ⟨_,hS,rfl⟩
 ·have q : decide (x = Eid.z) = false:=decide_eq_false hz
  rcases hx with hx | hx
  ·exact absurd hx hz
  cases hwl : zBB l x with
  | none=>exact absurd hwl hx
  | some p =>
   obtain ⟨n,k⟩:=p
   obtain ⟨L1,o,L2,hle,hln,h1',h2',h3',h4'⟩:=zGQ hwl
   rw [hwl] at hw
   simp only [wN,wK] at hw
   have hnl : n < l.length:=by rw [hle,List.length_append,List.length_cons]; omega
   obtain ⟨r,hiad,hr,hrl⟩:=hS.iad n hnl
   have hgo : l.getD n Rn.z = l[n]:=by rw [List.getD_eq_getElem?_getD,List.getElem?_eq_getElem hnl]; rfl
   have hpl : zB5 l x = if (l.getD n Rn.z).cutE (k + 1) = 0 then (l.take n ++ [(l.getD n Rn.z).fst (k + 1),(l.getD n Rn.z).snd (k + 1)] ++ l.drop (n + 1),n + 1) else (l,n + 1):=by unfold zB5; rw [if_neg hz]; simp only [hwl]
   rw [hpl,hgo]
   clear hpl
   have hom:=hm l[n] (List.getElem_mem hnl)
   have hro:=zb5 hS l[n] (List.getElem_mem hnl)
   have hon : o = l[n]:=by simp [hle,← hln]
   have hln':=hon ▸ h3'
   generalize l[n] = e at *
   obtain ⟨ra,rfl,hra,_⟩:=hr
   have ora:=hra.one
   have hb:=Spn.may_le (Rn.may_sp hom)
   have w1 : IntKind.i64.wrap (k + 1) = k + 1:=by rw [wrap_i64] <;> omega
   have w2 : IntKind.i64.wrap ((n : Int) + 1) = ((n + 1 : Nat) : Int):=by rw [wrap_i64] <;> omega
   obtain ⟨v,⟨ca,cb,rfl,hca,hcb⟩,hcut⟩:=zGM (fuel:=fuel) (d:=d) (n:=k + 1) hra (by omega)
   have oca:=hca.one
   have ocb:=hcb.one
   by_cases hc : e.cutE (k + 1) = 0
   ·have q2 : decide (e.cutE (k + 1) = 0) = true:=decide_eq_true hc
    rw [if_pos hc]
    obtain ⟨r1,s1,b1⟩:=zXO hS (j:=n) (by omega)
    obtain ⟨r2,s2,b2⟩:=zNX hS (i:=n + 1) (by omega)
    have ob1:=b1.one
    have ob2:=b2.one
    have eA : e.cutA (k + 1) = e.fst (k + 1):=by unfold Rn.cutA; rw [if_pos hc]
    have eB : e.cutB (k + 1) = e.snd (k + 1):=by unfold Rn.cutB; rw [if_pos hc]
    have okA:=zYD hro hc
    have okB:=zZ5 hro hc
    rw [eA] at hca hcut
    rw [eB] at hcb hcut
    generalize e.fst (k + 1) = eF at *
    generalize e.snd (k + 1) = eS at *
    have oca:=hca.one
    have ocb:=hcb.one
    simp (maxSteps:=2000000) (disch:=first | omega | assumption | (simp only [DS,Nat.reduceAdd, *]; done) | (simp only [DZ]; omega)) only [RUN,RU,zA2,zA1,slot,lay,zAI,zAB,reduceIte,Nat.reduceEqDiff,Nat.reduceBEq,Nat.reduceAdd,h0,h1,hS.fz.rows,↓pIdE,zAW,ETA,q,hw,hiad,w1,w2,hcut,q2,s1,s2,b1.fz.cells,b2.fz.cells,zC5]
    refine zRW (d:=d + 5) (id:=4) (a0:=r1) (a1:=.sl 3 0 2 (some 2) 10) (a2:=r2) (l1:=[eF,eS]) (by simp (maxSteps:=2000000) (disch:=first | omega | assumption | (simp only [DS,Nat.reduceAdd, *]; done) | (simp only [DZ]; omega)) only [RUN]) ?_ b1 (zU5 (zOT hca hcb okA okB) (by simp) rfl (.inr rfl) ?_) b2 (by simp) (by rw [List.length_take]; omega) (by simp) (by rw [List.length_drop]; omega) (by omega) (Nat.le_refl _) fun o' N sm kN nr on oc rl=>?_
    ·simp (maxSteps:=2000000) (disch:=first | omega | assumption | (simp only [DS,Nat.reduceAdd, *]; done) | (simp only [DZ]; omega)) only [RUN]
    ·simp (maxSteps:=2000000) (disch:=first | omega | assumption | (simp only [DS,Nat.reduceAdd, *]; done) | (simp only [DZ]; omega)) only [RUN]
     rfl
    ·have wN:=kN.wf
     have dN : N.dirty = false:=kN.di
     simp (maxSteps:=2000000) (disch:=first | omega | assumption | (simp only [DS,Nat.reduceAdd, *]; done) | (simp only [DZ]; omega)) only [RUN,RU,zA2,zA1,zA0,zAA,frzL,reduceIte,Nat.reduceEqDiff,Nat.reduceAdd,dN]
     obtain ⟨ro,hro2,hfr⟩:=zG7 sm zCZ.cel 12 (by omega)
     rw [hfr _ (fun id h=>by simp (maxSteps:=2000000) (disch:=first | omega | assumption | (simp only [DS,Nat.reduceAdd, *]; done) | (simp only [DZ]; omega)) only [RUN])]
     exact ⟨ro,hro2,by rw [w2]⟩
   ·have q2 : decide (e.cutE (k + 1) = 0) = false:=decide_eq_false hc
    rw [if_neg hc]
    simp (maxSteps:=2000000) (disch:=first | omega | assumption | (simp only [DS,Nat.reduceAdd, *]; done) | (simp only [DZ]; omega)) only [RUN,RU,zA2,zA1,zA0,zAA,frzL,slot,lay,zAI,reduceIte,Nat.reduceEqDiff,Nat.reduceAdd,h0,h1,hS.fz.frz,↓pIdE,zAW,ETA,q,hw,hiad,w1,w2,hcut,q2]
    exact ⟨_,hS,rfl⟩
end Go.Proofs.YtakefgebklfhpaaGreat
namespace Go.Proofs.YtakefgebklfhpaaGreat
open Go Go.Ax
variable {fuel : Nat} {M : Mem} {Q : AV → Mem → Prop} {d : Nat}
theorem zOS {X : Mem} {o : AV} {r : List AV} {x : Rn} (wf : Wf X) (h : SlN X 10 isRn o []) (hx : isRn r x) (hr : r.length = 10)
  (k : ∀ o' M',SlM M' 10 isRn o' [x] → Wf M' → X.size ≤ M'.size → (∀ j,j < X.size → rowOf o ≠ some j → M'.get j = X.get j) → (∀ id,rowOf o' = some id → rowOf o = some id ∨ X.size ≤ id) → M'.wm = X.wm → Q o' M') :
  W3 (zAE Tryz.prog (fsT tbl) fuel (d + 1) (.fn 60) [o,I64 0,.sl X.size 0 1 (some 1) 10] (X.add (.row false r))) Q:=by
 have sm:=h.slm
 have oo:=sm.one
 have ol:=sm.len
 have z10 : decide ((1 : Int) = 0) = false:=rfl
 have ge : ∀ N,lenO N (.sl X.size 0 1 (some 1) 10) = some (I64 1,N):=fun _=>rfl
 have hs : ∀ N,(∀ j,rowOf o = some j → N.get j = X.get j) → ∃ v,slcO N 10 o (some (I64 0)) none none = some (v,N) ∧ oneA v = true:=fun N hN=>by
  rcases h with ⟨_,rfl | ⟨id,rfl,hg⟩⟩ | ⟨hn,_⟩
  ·exact ⟨_,rfl,rfl⟩
  ·exact ⟨_,rfl,rfl⟩
  ·exact absurd rfl hn
 obtain ⟨v,hsv,ov⟩:=hs (X.add (.row false r)) (fun j hj=>zAF wf _ _ (sm.lt j hj))
 refine zB6 tf60 rfl (by simp [a60]) fun b' ht hx=>?_
 have h0:=hx 0 _ rfl
 have h1:=hx 1 _ rfl
 have h2:=hx 2 _ rfl
 clear hx
 simp only [a60,c60] at ht ⊢
 have ol0 : ∀ N,lenO N o = some (I64 0,N):=ol
 have rlo:=zAT sm.rl (show X.size ≤ X.size + 1 by omega)
 simp (maxSteps:=2000000) (disch:=first | omega | assumption | (simp only [DS,Nat.reduceAdd, *]; done) | (simp only [DZ]; omega)) only [RUN,RU,zA2,zA1,reduceIte,Nat.reduceEqDiff,Int.reduceEq,h0,h1,h2,ol0,hsv,ge,rlo]
 refine app1 wf sm zCZ (x:=x) hx hr (by omega) (by simp) (by simp) fun o' M' sm' w' le' kp nw wm' rl on oc=>?_
 simp (maxSteps:=2000000) (disch:=first | omega | assumption | (simp only [DS,Nat.reduceAdd, *]; done) | (simp only [DZ]; omega)) only [RUN,RU,zA2,zA1,zA0,zAA,reduceIte,Nat.reduceEqDiff]
 exact k o' M' sm' w' le' kp nw wm'
theorem zP0 {l : List Rn} {r : Rn} {n : Nat} (D : List Rn) (h : D = (l.drop n).takeWhile fun q=>r.sp.f.less q.sp.f) {i : Nat} (hi : i < D.length) (hn : n + i < l.length) : r.sp.f.less l[n + i].sp.f = true ∧ D[i] = l[n + i]:=by
 have h1 : D[i] ∈ (l.drop n).takeWhile fun q=>r.sp.f.less q.sp.f:=by rw [← h]; exact List.getElem_mem hi
 have h2:=List.all_eq_true.1 (List.all_takeWhile (l:=l.drop n) (p:=fun q=>r.sp.f.less q.sp.f)) _ h1
 have h3 : D[i] = l[n + i]:=by
  have hp : D <+: l.drop n:=by rw [h]; exact List.takeWhile_prefix _
  rw [hp.getElem hi,List.getElem_drop]
 rw [← h3]
 exact ⟨h2,rfl⟩
theorem zMD {l : List Rn} {x : Eid} {n : Nat} (h : zEY l x n < l.length) : x.less l[zEY l x n].sp.f = false:=by
 have hd : ((l.drop n).dropWhile fun q=>x.less q.sp.f) = l.drop (zEY l x n):=by
  have e:=List.takeWhile_append_dropWhile (p:=fun q : Rn=>x.less q.sp.f) (l:=l.drop n)
  have e2:=congrArg (List.drop ((l.drop n).takeWhile fun q=>x.less q.sp.f).length) e
  rw [List.drop_left,List.drop_drop] at e2
  exact e2
 have:=List.head?_dropWhile_not (fun q : Rn=>x.less q.sp.f) (l.drop n)
 rw [hd,List.drop_eq_getElem_cons h] at this
 exact this
theorem zU3 {l : List Rn} {x : Eid} {n : Nat} (hn : n ≤ l.length) : zEY l x n ≤ l.length:=by
 unfold zEY
 have:=(List.takeWhile_sublist (l:=l.drop n) (fun q : Rn=>x.less q.sp.f)).length_le
 rw [List.length_drop] at this
 omega
theorem zKK (l : List Rn) (x : Eid) : (zB5 l x).1.length ≤ l.length + 2:=by
 unfold zB5
 split
 ·simp
 ·split
  ·simp
  ·split
   ·simp; omega
   ·simp
theorem zT1 (l : List Rn) : (zBO l).length ≤ l.length:=by
 refine zCP (P:=fun l=>(zBO l).length ≤ l.length) (Nat.le_refl _) (fun l r ih=>?_) l
 rw [zLL]
 have:=zO6 (zBO l) r
 simp only [List.length_append,List.length_singleton]
 omega
theorem zW8 (l : List Rn) (r : Rn) : (insL l r).length ≤ l.length + 3:=by
 unfold insL
 refine Nat.le_trans (zT1 _) ?_
 have:=zKK l r.af
 simp only [List.length_append,List.length_take,List.length_drop,List.length_singleton]
 omega
noncomputable def insR (l : List Rn) (r : Rn) : List Rn:=if putE l r = 0 then insL l r else []
open Classical in
set_option maxHeartbeats 16000000 in
theorem zQI {a ra : AV} {l : List Rn} {x : Rn} (hS : Sl 10 isRn a l) (hR : Sl 1 zB4 ra x.rs) (hx : x.ok) (hl : l.length ≤ 900) (hf : 64 * l.length + 3011000 < fuel) : ∃ r,Sl 10 isRn r (insR l x) ∧ ∀ M,zAE Tryz.prog (fsT tbl) fuel (d + 11) (.fn 35) [a,.agg (rnR x ra)] M = some (.tup [r,I64 (putE l x)],M):=by
 have oa:=hS.one
 have ora:=hR.one
 have hck:=fun M=>@zRS fuel d a l hS (by omega) (by omega) M
 have hcx:=fun M=>@zC0 fuel (d + 4) x ra hR (by omega) M
 refine zFT tf35 rfl (fun M=>by simp only [icyL,fun M=>hS.icy M 12 (by omega),zCI hR.fz]) ?_
 refine zAJ tf35 rfl (by simp only [icyL,fun M=>hS.icy M 12 (by omega),zCI hR.fz]) (by simp [a35]) fun b' ht hx=>?_
 have h0:=hx 0 _ rfl
 have h1:=hx 1 _ rfl
 clear hx
 simp only [a35,c35] at ht ⊢
 have hiE : putE l x = if zEZ l = true ∧ x.may = true then (if x.af ≠ Eid.z ∧ zBB l x.af = none then 6 else if ∃ i : Nat,(i : Int) < x.sp.n ∧ zBB l (x.sp.at i) ≠ none then 2 else if 8192 < zB3 l + x.sp.n then 4 else 0) else 8:=by
  unfold putE
  simp only [zMF]
 by_cases h8 : zEZ l = true ∧ x.may = true
 ·rw [if_pos h8] at hiE
  obtain ⟨htb,hxm⟩:=h8
  have hok:=zMF.1 htb
  rw [htb] at hck
  rw [hxm] at hcx
  have hwh:=fun y M=>@zMM fuel (d + 4) a l y hS (by omega) (by omega) M
  have hwa:=fun M=>hwh x.af M
  have hb:=Spn.may_le (Rn.may_sp hxm)
  obtain ⟨m,hmn⟩ : ∃ m : Nat,x.sp.n = m:=⟨x.sp.n.toNat,by omega⟩
  have ia : ∀ i : Nat,i < m → ∀ M,zAE Tryz.prog (fsT tbl) fuel (d + 10) (.fn 55) [spA x.sp,I64 i] M = some (.tup [idA (x.sp.at i),I64 0],M):=fun i hi M=>by
   have:=@zHW fuel (d + 5) x.sp i M
   rw [if_pos (Rn.may_sp hxm),if_neg (by omega)] at this
   exact this
  have qn1 : decide ((-1 : Int) < 0) = true:=rfl
  have qg1 : decide ((0 : Int) ≤ -1) = false:=rfl
  by_cases h6 : x.af ≠ Eid.z ∧ zBB l x.af = none
  ·have e6 : putE l x = 6:=by rw [hiE,if_pos h6]
   have er : insR l x = []:=by unfold insR; rw [e6]; rfl
   rw [e6,er]
   have q : decide (x.af = Eid.z) = false:=decide_eq_false h6.1
   rw [h6.2] at hwa
   simp (maxSteps:=2000000) (disch:=first | omega | assumption | (simp only [DS,Nat.reduceAdd, *]; done) | (simp only [DZ]; omega)) only [RUN,RU,zA2,zA1,zA0,zAA,frzL,slot,zAI,reduceIte,Nat.reduceEqDiff,Nat.reduceBEq,Nat.reduceAdd,Int.reduceLT,h0,h1,hck,hcx,IMX,zB0,zCW,BMM,hwa,wN,wK,↓pIdN,zBD,ETA,q]
   exact ⟨NIL,.inl ⟨rfl,rfl⟩,rfl⟩
  ·rw [if_neg h6] at hiE
   have hx6 : x.af = Eid.z ∨ zBB l x.af ≠ none:=by
    by_cases h : x.af = Eid.z
    ·exact .inl h
    ·exact .inr fun k=>h6 ⟨h,k⟩
   have step : ∃ b : Bool,(decide ((wN (zBB l x.af)) < 0) = b) ∧ (b = true → decide (x.af = Eid.z) = true):=by
    refine ⟨_,rfl,fun hb=>?_⟩
    rcases hx6 with h | h
    ·exact decide_eq_true h
    ·cases hw : zBB l x.af with
     | none=>exact absurd hw h
     | some p =>
      have hb:=of_decide_eq_true hb
      rw [hw] at hb
      simp only [wN] at hb
      omega
   obtain ⟨b6,hb6,hb6'⟩:=step
   have main : ∀ (b6 : Bool),decide ((wN (zBB l x.af)) < 0) = b6 → (b6 = true → decide (x.af = Eid.z) = true) → True:=fun _ _ _=>trivial
   clear main
   cases b6 with
   | true =>
    have q:=hb6' rfl
    simp (maxSteps:=2000000) (disch:=first | omega | assumption | (simp only [DS,Nat.reduceAdd, *]; done) | (simp only [DZ]; omega)) only [RUN,RU,zA2,zA1,slot,zAI,reduceIte,Nat.reduceEqDiff,Nat.reduceBEq,Nat.reduceAdd,h0,h1,hck,hcx,IMX,zB0,zCW,BMM,hwa,hb6,↓pIdN,zBD,ETA,q]
    refine zBG (I:=fun n t N => ∃ (i : Nat),n = m - i ∧ i ≤ m ∧ nth zA5 t 0 = a ∧ nth zA5 t 3 = .ptr 0 0 ∧ nth zA5 t 40 = I64 m ∧ nth zA5 t 41 = I64 i ∧ Wf N ∧ N.get 0 = some (.row false (rnR x ra)) ∧ (∀ j,j < i → zBB l (x.sp.at (j : Nat)) = none) ∧ N.size ≤ i + 1) (n:=m) (by omega) ?_ ?_
    ·refine ⟨0,rfl,Nat.zero_le _, ?_, ?_, ?_, ?_,Wf.mem0.add _,by simp (maxSteps:=2000000) (disch:=first | omega | assumption | (simp only [DS,Nat.reduceAdd, *]; done) | (simp only [DZ]; omega)) only [RUN],(fun _ h=>absurd h (by omega)),Nat.le_refl _⟩ <;> simp (maxSteps:=2000000) (disch:=first | omega | assumption | (simp only [DS,Nat.reduceAdd, *]; done) | (simp only [DZ]; omega)) only [RUN,reduceIte,Nat.reduceEqDiff,h0,hmn]
     all_goals first | rfl | assumption | done
    ·rintro n t N hlt ⟨i,rfl,hi,g0,g3,g40,g41,w,g,hj,sz⟩
     simp only [ht] at hlt ⊢
     have lg:=Mem.get_lt g
     by_cases hc : i < m
     ·have q1 : decide ((i : Int) < m) = true:=decide_eq_true (by omega)
      have w1 : IntKind.i64.wrap ((i : Int) + 1) = ((i + 1 : Nat) : Int):=by rw [wrap_i64] <;> omega
      have iai:=ia i hc
      have hwi:=hwh (x.sp.at (i : Nat))
      cases hwl : zBB l (x.sp.at (i : Nat)) with
      | some p =>
       have e2 : putE l x = 2:=by rw [hiE,if_pos ⟨i,by omega,by rw [hwl]; simp⟩]
       have er : insR l x = []:=by unfold insR; rw [e2]; rfl
       rw [hwl] at hwi
       have qp : decide ((0 : Int) ≤ ((p.1 : Nat) : Int)) = true:=decide_eq_true (by omega)
       rw [e2,er]
       simp (maxSteps:=2000000) (disch:=first | omega | assumption | (simp only [DS,Nat.reduceAdd, *]; done) | (simp only [DZ]; omega)) only [RUN,RU,zA2,zA1,zA0,zAA,frzL,slot,lay,reduceIte,Nat.reduceEqDiff,Nat.reduceAdd,g0,g3,g40,g41,q1,iai,g,hwi,wN,wK,qp]
       exact ⟨NIL,.inl ⟨rfl,rfl⟩,rfl⟩
      | none =>
       rw [hwl] at hwi
       simp (maxSteps:=2000000) (disch:=first | omega | assumption | (simp only [DS,Nat.reduceAdd, *]; done) | (simp only [DZ]; omega)) only [RUN,RU,zA2,zA1,slot,lay,reduceIte,Nat.reduceEqDiff,Nat.reduceAdd,Nat.reduceLeDiff,Int.reduceLE,g0,g3,g40,g41,q1,iai,g,w,hwi,wN,wK,w1]
       refine ⟨hlt,m - (i + 1),by omega,i + 1,rfl,by omega,rfl,fun j hj'=>?_,by omega⟩
       rcases Nat.lt_succ_iff_lt_or_eq.1 hj' with h | rfl
       ·exact hj j h
       ·exact hwl
     ·obtain rfl : i = m:=by omega
      have q1 : decide ((i : Int) < i) = false:=decide_eq_false (by omega)
      have hno : ¬∃ j : Nat,(j : Int) < x.sp.n ∧ zBB l (x.sp.at j) ≠ none:=fun ⟨j,h1,h2⟩=>h2 (hj j (by omega))
      rw [if_neg hno] at hiE
      have hct:=fun M=>@zHR fuel (d + 9) a l hS hok.1 (by omega) (by omega) M
      have hcl:=zEE hok.1
      have w2 : IntKind.i64.wrap (zB3 l + x.sp.n) = zB3 l + x.sp.n:=by rw [wrap_i64] <;> omega
      by_cases h4 : 8192 < zB3 l + x.sp.n
      ·have e4 : putE l x = 4:=by rw [hiE,if_pos h4]
       have er : insR l x = []:=by unfold insR; rw [e4]; rfl
       have q4 : decide (8192 < zB3 l + x.sp.n) = true:=decide_eq_true h4
       rw [e4,er]
       simp (maxSteps:=2000000) (disch:=first | omega | assumption | (simp only [DS,Nat.reduceAdd, *]; done) | (simp only [DZ]; omega)) only [RUN,RU,zA2,zA1,zA0,zAA,frzL,reduceIte,Nat.reduceEqDiff,Nat.reduceBEq,Nat.reduceAdd,g0,g3,g40,g41,g,hct,w2,q4]
       exact ⟨NIL,.inl ⟨rfl,rfl⟩,rfl⟩
      ·have e0 : putE l x = 0:=by rw [hiE,if_neg h4]
       have er : insR l x = insL l x:=by unfold insR; rw [if_pos e0]
       have q4 : decide (8192 < zB3 l + x.sp.n) = false:=decide_eq_false h4
       obtain ⟨r',hr',hpart⟩:=zM1 (fuel:=fuel) (d:=d + 2) hS hok.1 hx6 (by omega) (by omega)
       obtain ⟨p1,p2,p3,p4⟩:=zNK hok.1 hx6
       have hpl:=zKK l x.af
       have hsk:=zU3 (x:=x.sp.f) p1
       have hss:=fun h=>@zMD (zB5 l x.af).1 x.sp.f (zB5 l x.af).2 h
       have hmt:=fun D hD i=>@zP0 (zB5 l x.af).1 x (zB5 l x.af).2 D hD i
       have eL : insL l x = zBO ((zB5 l x.af).1.take (zEY (zB5 l x.af).1 x.sp.f (zB5 l x.af).2) ++ [x] ++ (zB5 l x.af).1.drop (zEY (zB5 l x.af).1 x.sp.f (zB5 l x.af).2)):=rfl
       unfold zEY at hsk hss eL
       rw [e0,er,eL]
       generalize hD : ((zB5 l x.af).1.drop (zB5 l x.af).2).takeWhile (fun q=>x.sp.f.less q.sp.f) = D at *
       have hmt:=fun i=>hmt D rfl (i:=i)
       generalize (zB5 l x.af).1 = l' at *
       generalize (zB5 l x.af).2 = n0 at *
       have or':=hr'.one
       have lr':=hr'.len
       simp (maxSteps:=2000000) (disch:=first | omega | assumption | (simp only [DS,Nat.reduceAdd, *]; done) | (simp only [DZ]; omega)) only [RUN,RU,zA2,zA1,slot,reduceIte,Nat.reduceEqDiff,Nat.reduceBEq,Nat.reduceAdd,g0,g3,g40,g41,g,hct,w2,q4,hpart]
       refine zBG (I:=fun n2 t2 N2 => ∃ (i2 : Nat),n2 = l'.length - n0 - i2 ∧ i2 ≤ l'.length - n0 ∧ nth zA5 t2 0 = r' ∧ nth zA5 t2 3 = .ptr 0 0 ∧ nth zA5 t2 14 = I64 ((n0 + i2 : Nat) : Int) ∧ Wf N2 ∧ N2.size ≤ 70 ∧ N2.get 0 = some (.row false (rnR x ra)) ∧ i2 ≤ D.length) (n:=l'.length - n0) (by omega) ?_ ?_
       ·refine ⟨0,rfl,Nat.zero_le _, ?_, ?_, ?_,w,by omega,g,Nat.zero_le _⟩ <;> simp (maxSteps:=2000000) (disch:=first | omega | assumption | (simp only [DS,Nat.reduceAdd, *]; done) | (simp only [DZ]; omega)) only [RUN,RU,reduceIte,Nat.reduceEqDiff,g0,g3]
        all_goals first | rfl | assumption | done
       ·rintro n2 t2 N2 hlt2 ⟨i2,rfl,hi2,g20,g23,g214,wf2,sz2,gg,hi2⟩
        simp only [hlt] at hlt2 ⊢
        have lgg:=Mem.get_lt gg
        by_cases hc2 : n0 + i2 < l'.length
        ·have q2 : decide (((n0 + i2 : Nat) : Int) < l'.length) = true:=decide_eq_true (by omega)
         have w3 : IntKind.i64.wrap (((n0 + i2 : Nat) : Int) + 1) = ((n0 + (i2 + 1) : Nat) : Int):=by rw [wrap_i64] <;> omega
         obtain ⟨r2,hiad2,hre,hrl2⟩:=hr'.iad (n0 + i2) hc2
         by_cases hd2 : i2 < D.length
         ·have hlt3:=(hmt i2 hd2 hc2).1
          generalize l'[n0 + i2] = e2 at *
          obtain ⟨rb,rfl,hrb,_⟩:=hre
          have orb:=hrb.one
          have hls:=fun M=>@zEV fuel (d + 8) x.sp.f e2.sp.f M
          rw [hlt3] at hls
          simp (maxSteps:=2000000) (disch:=first | omega | assumption | (simp only [DS,Nat.reduceAdd, *]; done) | (simp only [DZ]; omega)) only [RUN,RU,zA2,zA1,slot,reduceIte,Nat.reduceEqDiff,Nat.reduceBEq,Nat.reduceAdd,g20,g23,g214,q2,lr',hiad2,gg,wf2,hls,w3]
          exact ⟨hlt2,l'.length - n0 - (i2 + 1),by omega,i2 + 1,rfl,by omega,rfl,by omega⟩
         ·obtain rfl : i2 = D.length:=by omega
          have hlt3:=hss hc2
          generalize l'[n0 + D.length] = e2 at *
          obtain ⟨rb,rfl,hrb,_⟩:=hre
          have orb:=hrb.one
          have hls:=fun M=>@zEV fuel (d + 8) x.sp.f e2.sp.f M
          rw [hlt3] at hls
          simp (maxSteps:=2000000) (disch:=first | omega | assumption | (simp only [DS,Nat.reduceAdd, *]; done) | (simp only [DZ]; omega)) only [RUN,RU,zA2,slot,reduceIte,Nat.reduceEqDiff,Nat.reduceBEq,Nat.reduceAdd,g20,g23,g214,q2,lr',hiad2,gg,hls]
          refine zJS zCZ.cel tf61 Tryz.underlying58 hr' (by omega) (by omega) (by simp (maxSteps:=2000000) (disch:=first | omega | assumption | (simp only [DS,Nat.reduceAdd, *]; done) | (simp only [DZ]; omega)) only [RUN,wf2]) fun o3 M3 wf3 le3 kp3 sn3 nr3 wm3 di3 sz3=>?_
          have hd3 : M3.dirty = false:=di3
          have z0 : M3.get 0 = some (.row false (rnR x ra)):=(kp3 0 lgg).trans gg
          have lz0:=Mem.get_lt z0
          have sm3:=sn3.slm
          have on3:=sm3.one
          have oc3:=sm3.cells
          have rl3:=zAT sm3.rl (Nat.le_refl M3.size)
          have rl3':=zAT sm3.rl (Nat.le_succ M3.size)
          simp (maxSteps:=2000000) (disch:=first | omega | assumption | (simp only [DS,Nat.reduceAdd, *]; done) | (simp only [DZ]; omega)) only [RUN,RU,zA2,slot,lay,zAI,zAB,reduceIte,Nat.reduceEqDiff,Nat.reduceBEq,Nat.reduceAdd,g23,g214,hd3,z0,zY1,zC5]
          have sz3' : M3.size ≤ N2.size + 2:=sz3
          have hb0 : Nat.ble N2.size 0 = false:=by
           cases hb : Nat.ble N2.size 0 with
           | false=>rfl
           | true=>have:=Nat.le_of_ble_eq_true hb; omega
          refine ⟨by simp [zBM,FP.apart,FP.reads,FP.writes,hb0],by simp [zBM,FP.apart,FP.reads,FP.writes], ?_⟩
          have eX : ((N2.bk M3).add (.row false (rnR x ra))).lo = (⟨M3.t,M3.size,M3.size + 1,false⟩ : Mem).add (.row false (rnR x ra)):=rfl
          show W3 (insO _ (((N2.bk M3).add (.row false (rnR x ra))).lo) 60 10 80 o3 (I64 ((n0 + D.length : Nat) : Int)) (.sl M3.size 0 1 (some 1) 10)) _
          rw [eX]
          have wX : Wf (⟨M3.t,M3.size,M3.size + 1,false⟩ : Mem):=wf3
          have sX : (⟨M3.t,M3.size,M3.size + 1,false⟩ : Mem).size = M3.size:=rfl
          have snX : SlN (⟨M3.t,M3.size,M3.size + 1,false⟩ : Mem) 10 isRn o3 l':=sn3
          generalize (⟨M3.t,M3.size,M3.size + 1,false⟩ : Mem) = X3 at *
          have key : W3 (insO (zAE Tryz.prog (fsT tbl) fuel (d + 10)) (X3.add (.row false (rnR x ra))) 60 10 80 o3 (I64 ((n0 + D.length : Nat) : Int)) (.sl M3.size 0 1 (some 1) 10)) (fun o4 M4=>SlM M4 10 isRn o4 (l'.take (n0 + D.length) ++ [x] ++ l'.drop (n0 + D.length)) ∧ Wf M4):=by
           rw [← sX]
           by_cases hz : l' = []
           ·subst hz
            have e0 : n0 + D.length = 0:=by simp only [List.length_nil] at hsk; omega
            rw [e0]
            have hc0 : ((0 : Nat) : Int) = 0:=rfl
            rw [hc0]
            have h0' : W3 (zAE Tryz.prog (fsT tbl) fuel (d + 10) (.fn 60) [o3,I64 0,.sl X3.size 0 1 (some 1) 10] (X3.add (.row false (rnR x ra)))) (fun o4 M4=>SlM M4 10 isRn o4 [x] ∧ Wf M4):=zOS (d:=d + 9) wX snX ⟨ra,rfl,hR,hx⟩ rfl (fun o' M' a b _ _ _ _=>⟨a,b⟩)
            have e1 : insO (zAE Tryz.prog (fsT tbl) fuel (d + 10)) (X3.add (.row false (rnR x ra))) 60 10 80 o3 (I64 0) (.sl X3.size 0 1 (some 1) 10) = zAE Tryz.prog (fsT tbl) fuel (d + 10) (.fn 60) [o3,I64 0,.sl X3.size 0 1 (some 1) 10] (X3.add (.row false (rnR x ra))):=by
             rcases snX with ⟨_,rfl | ⟨id,rfl,_⟩⟩ | ⟨hn,_⟩
             ·exact zKA ..
             ·exact zK9 ..
             ·exact absurd rfl hn
            rw [e1]
            exact h0'
           ·exact snX.ins (bytes:=80) (g:=60) wX hz zCZ.cel ⟨ra,rfl,hR,hx⟩ rfl (by omega) (by omega) (by omega) (by omega) (by omega) fun o' M' a b _ _ _=>⟨a,b⟩
          obtain ⟨o4,M4,he4,sm4,wf4⟩:=key
          rw [he4]
          clear he4 eX hmt hss snX sn3 sm3 kp3 hno hwh hwa hck hcx hcl ia hj hpart hct
          have on4:=sm4.one
          have oc4:=sm4.cells
          have rl4:=zAT sm4.rl (Nat.le_refl M4.size)
          simp (maxSteps:=2000000) (disch:=first | omega | assumption | (simp only [DS,Nat.reduceAdd, *]; done) | (simp only [DZ]; omega)) only [RUN,RU,zA2,reduceIte,Nat.reduceEqDiff,Nat.reduceAdd]
          refine zL0 (n:=d + 9) (R:=fun r=>Sl 10 isRn r (zBO (l'.take (n0 + D.length) ++ [x] ++ l'.drop (n0 + D.length)))) tf59 rfl (sm4.keep fun _ _=>rfl) (show Wf _ from wf4) zCZ (fun a' ha'=>?_) fun r X' hr wX' sX' kX'=>?_
          ·refine zFY (d:=d + 1) ha' (by simp only [List.length_append,List.length_take,List.length_drop,List.length_singleton]; omega) (fun q hq=>?_) (by simp only [List.length_append,List.length_take,List.length_drop,List.length_singleton]; omega)
           have hq64 : q.rs.length ≤ 64:=by
            rcases List.mem_append.1 hq with hq | hq
            ·rcases List.mem_append.1 hq with hq | hq
             ·exact zF0 p2 q (List.mem_of_mem_take hq)
             ·rw [List.mem_singleton] at hq; subst hq
              exact (Rn.may_iff.1 hxm).2.2.2.1
            ·exact zF0 p2 q (List.mem_of_mem_drop hq)
           omega
          ·have orr:=hr.one
           simp (maxSteps:=2000000) (disch:=first | omega | assumption | (simp only [DS,Nat.reduceAdd, *]; done) | (simp only [DZ]; omega)) only [RUN,RU,zA2,zA0,zAA,frzL,reduceIte,Nat.reduceEqDiff,Nat.reduceAdd,hr.fz.frz,zC5]
           exact ⟨r,hr,rfl⟩
        ·obtain rfl : i2 = D.length:=by omega
         have q2 : decide (((n0 + D.length : Nat) : Int) < l'.length) = false:=decide_eq_false (by omega)
         simp (maxSteps:=2000000) (disch:=first | omega | assumption | (simp only [DS,Nat.reduceAdd, *]; done) | (simp only [DZ]; omega)) only [RUN,RU,zA2,reduceIte,Nat.reduceEqDiff,Nat.reduceBEq,Nat.reduceAdd,g20,g214,q2,lr']
         refine zJS zCZ.cel tf61 Tryz.underlying58 hr' (by omega) (by omega) (by simp (maxSteps:=2000000) (disch:=first | omega | assumption | (simp only [DS,Nat.reduceAdd, *]; done) | (simp only [DZ]; omega)) only [RUN,wf2]) fun o3 M3 wf3 le3 kp3 sn3 nr3 wm3 di3 sz3=>?_
         have hd3 : M3.dirty = false:=di3
         have z0 : M3.get 0 = some (.row false (rnR x ra)):=(kp3 0 lgg).trans gg
         have lz0:=Mem.get_lt z0
         have sm3:=sn3.slm
         have on3:=sm3.one
         have oc3:=sm3.cells
         have rl3:=zAT sm3.rl (Nat.le_refl M3.size)
         have rl3':=zAT sm3.rl (Nat.le_succ M3.size)
         simp (maxSteps:=2000000) (disch:=first | omega | assumption | (simp only [DS,Nat.reduceAdd, *]; done) | (simp only [DZ]; omega)) only [RUN,RU,zA2,slot,lay,zAI,zAB,reduceIte,Nat.reduceEqDiff,Nat.reduceBEq,Nat.reduceAdd,g23,g214,hd3,z0,zY1,zC5]
         have sz3' : M3.size ≤ N2.size + 2:=sz3
         have hb0 : Nat.ble N2.size 0 = false:=by
          cases hb : Nat.ble N2.size 0 with
          | false=>rfl
          | true=>have:=Nat.le_of_ble_eq_true hb; omega
         refine ⟨by simp [zBM,FP.apart,FP.reads,FP.writes,hb0],by simp [zBM,FP.apart,FP.reads,FP.writes], ?_⟩
         have eX : ((N2.bk M3).add (.row false (rnR x ra))).lo = (⟨M3.t,M3.size,M3.size + 1,false⟩ : Mem).add (.row false (rnR x ra)):=rfl
         show W3 (insO _ (((N2.bk M3).add (.row false (rnR x ra))).lo) 60 10 80 o3 (I64 ((n0 + D.length : Nat) : Int)) (.sl M3.size 0 1 (some 1) 10)) _
         rw [eX]
         have wX : Wf (⟨M3.t,M3.size,M3.size + 1,false⟩ : Mem):=wf3
         have sX : (⟨M3.t,M3.size,M3.size + 1,false⟩ : Mem).size = M3.size:=rfl
         have snX : SlN (⟨M3.t,M3.size,M3.size + 1,false⟩ : Mem) 10 isRn o3 l':=sn3
         generalize (⟨M3.t,M3.size,M3.size + 1,false⟩ : Mem) = X3 at *
         have key : W3 (insO (zAE Tryz.prog (fsT tbl) fuel (d + 10)) (X3.add (.row false (rnR x ra))) 60 10 80 o3 (I64 ((n0 + D.length : Nat) : Int)) (.sl M3.size 0 1 (some 1) 10)) (fun o4 M4=>SlM M4 10 isRn o4 (l'.take (n0 + D.length) ++ [x] ++ l'.drop (n0 + D.length)) ∧ Wf M4):=by
          rw [← sX]
          by_cases hz : l' = []
          ·subst hz
           have e0 : n0 + D.length = 0:=by simp only [List.length_nil] at hsk; omega
           rw [e0]
           have hc0 : ((0 : Nat) : Int) = 0:=rfl
           rw [hc0]
           have h0' : W3 (zAE Tryz.prog (fsT tbl) fuel (d + 10) (.fn 60) [o3,I64 0,.sl X3.size 0 1 (some 1) 10] (X3.add (.row false (rnR x ra)))) (fun o4 M4=>SlM M4 10 isRn o4 [x] ∧ Wf M4):=zOS (d:=d + 9) wX snX ⟨ra,rfl,hR,hx⟩ rfl (fun o' M' a b _ _ _ _=>⟨a,b⟩)
           have e1 : insO (zAE Tryz.prog (fsT tbl) fuel (d + 10)) (X3.add (.row false (rnR x ra))) 60 10 80 o3 (I64 0) (.sl X3.size 0 1 (some 1) 10) = zAE Tryz.prog (fsT tbl) fuel (d + 10) (.fn 60) [o3,I64 0,.sl X3.size 0 1 (some 1) 10] (X3.add (.row false (rnR x ra))):=by
            rcases snX with ⟨_,rfl | ⟨id,rfl,_⟩⟩ | ⟨hn,_⟩
            ·exact zKA ..
            ·exact zK9 ..
            ·exact absurd rfl hn
           rw [e1]
           exact h0'
          ·exact snX.ins (bytes:=80) (g:=60) wX hz zCZ.cel ⟨ra,rfl,hR,hx⟩ rfl (by omega) (by omega) (by omega) (by omega) (by omega) fun o' M' a b _ _ _=>⟨a,b⟩
         obtain ⟨o4,M4,he4,sm4,wf4⟩:=key
         rw [he4]
         clear he4 eX hmt hss snX sn3 sm3 kp3 hno hwh hwa hck hcx hcl ia hj hpart hct
         have on4:=sm4.one
         have oc4:=sm4.cells
         have rl4:=zAT sm4.rl (Nat.le_refl M4.size)
         simp (maxSteps:=2000000) (disch:=first | omega | assumption | (simp only [DS,Nat.reduceAdd, *]; done) | (simp only [DZ]; omega)) only [RUN,RU,zA2,reduceIte,Nat.reduceEqDiff,Nat.reduceAdd]
         refine zL0 (n:=d + 9) (R:=fun r=>Sl 10 isRn r (zBO (l'.take (n0 + D.length) ++ [x] ++ l'.drop (n0 + D.length)))) tf59 rfl (sm4.keep fun _ _=>rfl) (show Wf _ from wf4) zCZ (fun a' ha'=>?_) fun r X' hr wX' sX' kX'=>?_
         ·refine zFY (d:=d + 1) ha' (by simp only [List.length_append,List.length_take,List.length_drop,List.length_singleton]; omega) (fun q hq=>?_) (by simp only [List.length_append,List.length_take,List.length_drop,List.length_singleton]; omega)
          have hq64 : q.rs.length ≤ 64:=by
           rcases List.mem_append.1 hq with hq | hq
           ·rcases List.mem_append.1 hq with hq | hq
            ·exact zF0 p2 q (List.mem_of_mem_take hq)
            ·rw [List.mem_singleton] at hq; subst hq
             exact (Rn.may_iff.1 hxm).2.2.2.1
           ·exact zF0 p2 q (List.mem_of_mem_drop hq)
          omega
         ·have orr:=hr.one
          simp (maxSteps:=2000000) (disch:=first | omega | assumption | (simp only [DS,Nat.reduceAdd, *]; done) | (simp only [DZ]; omega)) only [RUN,RU,zA2,zA0,zAA,frzL,reduceIte,Nat.reduceEqDiff,Nat.reduceAdd,hr.fz.frz,zC5]
          exact ⟨r,hr,rfl⟩
   | false =>
    simp (maxSteps:=2000000) (disch:=first | omega | assumption | (simp only [DS,Nat.reduceAdd, *]; done) | (simp only [DZ]; omega)) only [RUN,RU,zA2,zA1,slot,reduceIte,Nat.reduceEqDiff,Nat.reduceBEq,Nat.reduceAdd,h0,h1,hck,hcx,IMX,zB0,zCW,BMM,hwa,hb6]
    refine zBG (I:=fun n t N => ∃ (i : Nat),n = m - i ∧ i ≤ m ∧ nth zA5 t 0 = a ∧ nth zA5 t 3 = .ptr 0 0 ∧ nth zA5 t 40 = I64 m ∧ nth zA5 t 41 = I64 i ∧ Wf N ∧ N.get 0 = some (.row false (rnR x ra)) ∧ (∀ j,j < i → zBB l (x.sp.at (j : Nat)) = none) ∧ N.size ≤ i + 1) (n:=m) (by omega) ?_ ?_
    ·refine ⟨0,rfl,Nat.zero_le _, ?_, ?_, ?_, ?_,Wf.mem0.add _,by simp (maxSteps:=2000000) (disch:=first | omega | assumption | (simp only [DS,Nat.reduceAdd, *]; done) | (simp only [DZ]; omega)) only [RUN],(fun _ h=>absurd h (by omega)),Nat.le_refl _⟩ <;> simp (maxSteps:=2000000) (disch:=first | omega | assumption | (simp only [DS,Nat.reduceAdd, *]; done) | (simp only [DZ]; omega)) only [RUN,reduceIte,Nat.reduceEqDiff,h0,hmn]
     all_goals first | rfl | assumption | done
    ·rintro n t N hlt ⟨i,rfl,hi,g0,g3,g40,g41,w,g,hj,sz⟩
     simp only [ht] at hlt ⊢
     have lg:=Mem.get_lt g
     by_cases hc : i < m
     ·have q1 : decide ((i : Int) < m) = true:=decide_eq_true (by omega)
      have w1 : IntKind.i64.wrap ((i : Int) + 1) = ((i + 1 : Nat) : Int):=by rw [wrap_i64] <;> omega
      have iai:=ia i hc
      have hwi:=hwh (x.sp.at (i : Nat))
      cases hwl : zBB l (x.sp.at (i : Nat)) with
      | some p =>
       have e2 : putE l x = 2:=by rw [hiE,if_pos ⟨i,by omega,by rw [hwl]; simp⟩]
       have er : insR l x = []:=by unfold insR; rw [e2]; rfl
       rw [hwl] at hwi
       have qp : decide ((0 : Int) ≤ ((p.1 : Nat) : Int)) = true:=decide_eq_true (by omega)
       rw [e2,er]
       simp (maxSteps:=2000000) (disch:=first | omega | assumption | (simp only [DS,Nat.reduceAdd, *]; done) | (simp only [DZ]; omega)) only [RUN,RU,zA2,zA1,zA0,zAA,frzL,slot,lay,reduceIte,Nat.reduceEqDiff,Nat.reduceAdd,g0,g3,g40,g41,q1,iai,g,hwi,wN,wK,qp]
       exact ⟨NIL,.inl ⟨rfl,rfl⟩,rfl⟩
      | none =>
       rw [hwl] at hwi
       simp (maxSteps:=2000000) (disch:=first | omega | assumption | (simp only [DS,Nat.reduceAdd, *]; done) | (simp only [DZ]; omega)) only [RUN,RU,zA2,zA1,slot,lay,reduceIte,Nat.reduceEqDiff,Nat.reduceAdd,Nat.reduceLeDiff,Int.reduceLE,g0,g3,g40,g41,q1,iai,g,w,hwi,wN,wK,w1]
       refine ⟨hlt,m - (i + 1),by omega,i + 1,rfl,by omega,rfl,fun j hj'=>?_,by omega⟩
       rcases Nat.lt_succ_iff_lt_or_eq.1 hj' with h | rfl
       ·exact hj j h
       ·exact hwl
     ·obtain rfl : i = m:=by omega
      have q1 : decide ((i : Int) < i) = false:=decide_eq_false (by omega)
      have hno : ¬∃ j : Nat,(j : Int) < x.sp.n ∧ zBB l (x.sp.at j) ≠ none:=fun ⟨j,h1,h2⟩=>h2 (hj j (by omega))
      rw [if_neg hno] at hiE
      have hct:=fun M=>@zHR fuel (d + 9) a l hS hok.1 (by omega) (by omega) M
      have hcl:=zEE hok.1
      have w2 : IntKind.i64.wrap (zB3 l + x.sp.n) = zB3 l + x.sp.n:=by rw [wrap_i64] <;> omega
      by_cases h4 : 8192 < zB3 l + x.sp.n
      ·have e4 : putE l x = 4:=by rw [hiE,if_pos h4]
       have er : insR l x = []:=by unfold insR; rw [e4]; rfl
       have q4 : decide (8192 < zB3 l + x.sp.n) = true:=decide_eq_true h4
       rw [e4,er]
       simp (maxSteps:=2000000) (disch:=first | omega | assumption | (simp only [DS,Nat.reduceAdd, *]; done) | (simp only [DZ]; omega)) only [RUN,RU,zA2,zA1,zA0,zAA,frzL,reduceIte,Nat.reduceEqDiff,Nat.reduceBEq,Nat.reduceAdd,g0,g3,g40,g41,g,hct,w2,q4]
       exact ⟨NIL,.inl ⟨rfl,rfl⟩,rfl⟩
      ·have e0 : putE l x = 0:=by rw [hiE,if_neg h4]
       have er : insR l x = insL l x:=by unfold insR; rw [if_pos e0]
       have q4 : decide (8192 < zB3 l + x.sp.n) = false:=decide_eq_false h4
       obtain ⟨r',hr',hpart⟩:=zM1 (fuel:=fuel) (d:=d + 2) hS hok.1 hx6 (by omega) (by omega)
       obtain ⟨p1,p2,p3,p4⟩:=zNK hok.1 hx6
       have hpl:=zKK l x.af
       have hsk:=zU3 (x:=x.sp.f) p1
       have hss:=fun h=>@zMD (zB5 l x.af).1 x.sp.f (zB5 l x.af).2 h
       have hmt:=fun D hD i=>@zP0 (zB5 l x.af).1 x (zB5 l x.af).2 D hD i
       have eL : insL l x = zBO ((zB5 l x.af).1.take (zEY (zB5 l x.af).1 x.sp.f (zB5 l x.af).2) ++ [x] ++ (zB5 l x.af).1.drop (zEY (zB5 l x.af).1 x.sp.f (zB5 l x.af).2)):=rfl
       unfold zEY at hsk hss eL
       rw [e0,er,eL]
       generalize hD : ((zB5 l x.af).1.drop (zB5 l x.af).2).takeWhile (fun q=>x.sp.f.less q.sp.f) = D at *
       have hmt:=fun i=>hmt D rfl (i:=i)
       generalize (zB5 l x.af).1 = l' at *
       generalize (zB5 l x.af).2 = n0 at *
       have or':=hr'.one
       have lr':=hr'.len
       simp (maxSteps:=2000000) (disch:=first | omega | assumption | (simp only [DS,Nat.reduceAdd, *]; done) | (simp only [DZ]; omega)) only [RUN,RU,zA2,zA1,slot,reduceIte,Nat.reduceEqDiff,Nat.reduceBEq,Nat.reduceAdd,g0,g3,g40,g41,g,hct,w2,q4,hpart]
       refine zBG (I:=fun n2 t2 N2 => ∃ (i2 : Nat),n2 = l'.length - n0 - i2 ∧ i2 ≤ l'.length - n0 ∧ nth zA5 t2 0 = r' ∧ nth zA5 t2 3 = .ptr 0 0 ∧ nth zA5 t2 14 = I64 ((n0 + i2 : Nat) : Int) ∧ Wf N2 ∧ N2.size ≤ 70 ∧ N2.get 0 = some (.row false (rnR x ra)) ∧ i2 ≤ D.length) (n:=l'.length - n0) (by omega) ?_ ?_
       ·refine ⟨0,rfl,Nat.zero_le _, ?_, ?_, ?_,w,by omega,g,Nat.zero_le _⟩ <;> simp (maxSteps:=2000000) (disch:=first | omega | assumption | (simp only [DS,Nat.reduceAdd, *]; done) | (simp only [DZ]; omega)) only [RUN,RU,reduceIte,Nat.reduceEqDiff,g0,g3]
        all_goals first | rfl | assumption | done
       ·rintro n2 t2 N2 hlt2 ⟨i2,rfl,hi2,g20,g23,g214,wf2,sz2,gg,hi2⟩
        simp only [hlt] at hlt2 ⊢
        have lgg:=Mem.get_lt gg
        by_cases hc2 : n0 + i2 < l'.length
        ·have q2 : decide (((n0 + i2 : Nat) : Int) < l'.length) = true:=decide_eq_true (by omega)
         have w3 : IntKind.i64.wrap (((n0 + i2 : Nat) : Int) + 1) = ((n0 + (i2 + 1) : Nat) : Int):=by rw [wrap_i64] <;> omega
         obtain ⟨r2,hiad2,hre,hrl2⟩:=hr'.iad (n0 + i2) hc2
         by_cases hd2 : i2 < D.length
         ·have hlt3:=(hmt i2 hd2 hc2).1
          generalize l'[n0 + i2] = e2 at *
          obtain ⟨rb,rfl,hrb,_⟩:=hre
          have orb:=hrb.one
          have hls:=fun M=>@zEV fuel (d + 8) x.sp.f e2.sp.f M
          rw [hlt3] at hls
          simp (maxSteps:=2000000) (disch:=first | omega | assumption | (simp only [DS,Nat.reduceAdd, *]; done) | (simp only [DZ]; omega)) only [RUN,RU,zA2,zA1,slot,reduceIte,Nat.reduceEqDiff,Nat.reduceBEq,Nat.reduceAdd,g20,g23,g214,q2,lr',hiad2,gg,wf2,hls,w3]
          exact ⟨hlt2,l'.length - n0 - (i2 + 1),by omega,i2 + 1,rfl,by omega,rfl,by omega⟩
         ·obtain rfl : i2 = D.length:=by omega
          have hlt3:=hss hc2
          generalize l'[n0 + D.length] = e2 at *
          obtain ⟨rb,rfl,hrb,_⟩:=hre
          have orb:=hrb.one
          have hls:=fun M=>@zEV fuel (d + 8) x.sp.f e2.sp.f M
          rw [hlt3] at hls
          simp (maxSteps:=2000000) (disch:=first | omega | assumption | (simp only [DS,Nat.reduceAdd, *]; done) | (simp only [DZ]; omega)) only [RUN,RU,zA2,slot,reduceIte,Nat.reduceEqDiff,Nat.reduceBEq,Nat.reduceAdd,g20,g23,g214,q2,lr',hiad2,gg,hls]
          refine zJS zCZ.cel tf61 Tryz.underlying58 hr' (by omega) (by omega) (by simp (maxSteps:=2000000) (disch:=first | omega | assumption | (simp only [DS,Nat.reduceAdd, *]; done) | (simp only [DZ]; omega)) only [RUN,wf2]) fun o3 M3 wf3 le3 kp3 sn3 nr3 wm3 di3 sz3=>?_
          have hd3 : M3.dirty = false:=di3
          have z0 : M3.get 0 = some (.row false (rnR x ra)):=(kp3 0 lgg).trans gg
          have lz0:=Mem.get_lt z0
          have sm3:=sn3.slm
          have on3:=sm3.one
          have oc3:=sm3.cells
          have rl3:=zAT sm3.rl (Nat.le_refl M3.size)
          have rl3':=zAT sm3.rl (Nat.le_succ M3.size)
          simp (maxSteps:=2000000) (disch:=first | omega | assumption | (simp only [DS,Nat.reduceAdd, *]; done) | (simp only [DZ]; omega)) only [RUN,RU,zA2,slot,lay,zAI,zAB,reduceIte,Nat.reduceEqDiff,Nat.reduceBEq,Nat.reduceAdd,g23,g214,hd3,z0,zY1,zC5]
          have sz3' : M3.size ≤ N2.size + 2:=sz3
          have hb0 : Nat.ble N2.size 0 = false:=by
           cases hb : Nat.ble N2.size 0 with
           | false=>rfl
           | true=>have:=Nat.le_of_ble_eq_true hb; omega
          refine ⟨by simp [zBM,FP.apart,FP.reads,FP.writes,hb0],by simp [zBM,FP.apart,FP.reads,FP.writes], ?_⟩
          have eX : ((N2.bk M3).add (.row false (rnR x ra))).lo = (⟨M3.t,M3.size,M3.size + 1,false⟩ : Mem).add (.row false (rnR x ra)):=rfl
          show W3 (insO _ (((N2.bk M3).add (.row false (rnR x ra))).lo) 60 10 80 o3 (I64 ((n0 + D.length : Nat) : Int)) (.sl M3.size 0 1 (some 1) 10)) _
          rw [eX]
          have wX : Wf (⟨M3.t,M3.size,M3.size + 1,false⟩ : Mem):=wf3
          have sX : (⟨M3.t,M3.size,M3.size + 1,false⟩ : Mem).size = M3.size:=rfl
          have snX : SlN (⟨M3.t,M3.size,M3.size + 1,false⟩ : Mem) 10 isRn o3 l':=sn3
          generalize (⟨M3.t,M3.size,M3.size + 1,false⟩ : Mem) = X3 at *
          have key : W3 (insO (zAE Tryz.prog (fsT tbl) fuel (d + 10)) (X3.add (.row false (rnR x ra))) 60 10 80 o3 (I64 ((n0 + D.length : Nat) : Int)) (.sl M3.size 0 1 (some 1) 10)) (fun o4 M4=>SlM M4 10 isRn o4 (l'.take (n0 + D.length) ++ [x] ++ l'.drop (n0 + D.length)) ∧ Wf M4):=by
           rw [← sX]
           by_cases hz : l' = []
           ·subst hz
            have e0 : n0 + D.length = 0:=by simp only [List.length_nil] at hsk; omega
            rw [e0]
            have hc0 : ((0 : Nat) : Int) = 0:=rfl
            rw [hc0]
            have h0' : W3 (zAE Tryz.prog (fsT tbl) fuel (d + 10) (.fn 60) [o3,I64 0,.sl X3.size 0 1 (some 1) 10] (X3.add (.row false (rnR x ra)))) (fun o4 M4=>SlM M4 10 isRn o4 [x] ∧ Wf M4):=zOS (d:=d + 9) wX snX ⟨ra,rfl,hR,hx⟩ rfl (fun o' M' a b _ _ _ _=>⟨a,b⟩)
            have e1 : insO (zAE Tryz.prog (fsT tbl) fuel (d + 10)) (X3.add (.row false (rnR x ra))) 60 10 80 o3 (I64 0) (.sl X3.size 0 1 (some 1) 10) = zAE Tryz.prog (fsT tbl) fuel (d + 10) (.fn 60) [o3,I64 0,.sl X3.size 0 1 (some 1) 10] (X3.add (.row false (rnR x ra))):=by
             rcases snX with ⟨_,rfl | ⟨id,rfl,_⟩⟩ | ⟨hn,_⟩
             ·exact zKA ..
             ·exact zK9 ..
             ·exact absurd rfl hn
            rw [e1]
            exact h0'
           ·exact snX.ins (bytes:=80) (g:=60) wX hz zCZ.cel ⟨ra,rfl,hR,hx⟩ rfl (by omega) (by omega) (by omega) (by omega) (by omega) fun o' M' a b _ _ _=>⟨a,b⟩
          obtain ⟨o4,M4,he4,sm4,wf4⟩:=key
          rw [he4]
          clear he4 eX hmt hss snX sn3 sm3 kp3 hno hwh hwa hck hcx hcl ia hj hpart hct
          have on4:=sm4.one
          have oc4:=sm4.cells
          have rl4:=zAT sm4.rl (Nat.le_refl M4.size)
          simp (maxSteps:=2000000) (disch:=first | omega | assumption | (simp only [DS,Nat.reduceAdd, *]; done) | (simp only [DZ]; omega)) only [RUN,RU,zA2,reduceIte,Nat.reduceEqDiff,Nat.reduceAdd]
          refine zL0 (n:=d + 9) (R:=fun r=>Sl 10 isRn r (zBO (l'.take (n0 + D.length) ++ [x] ++ l'.drop (n0 + D.length)))) tf59 rfl (sm4.keep fun _ _=>rfl) (show Wf _ from wf4) zCZ (fun a' ha'=>?_) fun r X' hr wX' sX' kX'=>?_
          ·refine zFY (d:=d + 1) ha' (by simp only [List.length_append,List.length_take,List.length_drop,List.length_singleton]; omega) (fun q hq=>?_) (by simp only [List.length_append,List.length_take,List.length_drop,List.length_singleton]; omega)
           have hq64 : q.rs.length ≤ 64:=by
            rcases List.mem_append.1 hq with hq | hq
            ·rcases List.mem_append.1 hq with hq | hq
             ·exact zF0 p2 q (List.mem_of_mem_take hq)
             ·rw [List.mem_singleton] at hq; subst hq
              exact (Rn.may_iff.1 hxm).2.2.2.1
            ·exact zF0 p2 q (List.mem_of_mem_drop hq)
           omega
          ·have orr:=hr.one
           simp (maxSteps:=2000000) (disch:=first | omega | assumption | (simp only [DS,Nat.reduceAdd, *]; done) | (simp only [DZ]; omega)) only [RUN,RU,zA2,zA0,zAA,frzL,reduceIte,Nat.reduceEqDiff,Nat.reduceAdd,hr.fz.frz,zC5]
           exact ⟨r,hr,rfl⟩
        ·obtain rfl : i2 = D.length:=by omega
         have q2 : decide (((n0 + D.length : Nat) : Int) < l'.length) = false:=decide_eq_false (by omega)
         simp (maxSteps:=2000000) (disch:=first | omega | assumption | (simp only [DS,Nat.reduceAdd, *]; done) | (simp only [DZ]; omega)) only [RUN,RU,zA2,reduceIte,Nat.reduceEqDiff,Nat.reduceBEq,Nat.reduceAdd,g20,g214,q2,lr']
         refine zJS zCZ.cel tf61 Tryz.underlying58 hr' (by omega) (by omega) (by simp (maxSteps:=2000000) (disch:=first | omega | assumption | (simp only [DS,Nat.reduceAdd, *]; done) | (simp only [DZ]; omega)) only [RUN,wf2]) fun o3 M3 wf3 le3 kp3 sn3 nr3 wm3 di3 sz3=>?_
         have hd3 : M3.dirty = false:=di3
         have z0 : M3.get 0 = some (.row false (rnR x ra)):=(kp3 0 lgg).trans gg
         have lz0:=Mem.get_lt z0
         have sm3:=sn3.slm
         have on3:=sm3.one
         have oc3:=sm3.cells
         have rl3:=zAT sm3.rl (Nat.le_refl M3.size)
         have rl3':=zAT sm3.rl (Nat.le_succ M3.size)
         simp (maxSteps:=2000000) (disch:=first | omega | assumption | (simp only [DS,Nat.reduceAdd, *]; done) | (simp only [DZ]; omega)) only [RUN,RU,zA2,slot,lay,zAI,zAB,reduceIte,Nat.reduceEqDiff,Nat.reduceBEq,Nat.reduceAdd,g23,g214,hd3,z0,zY1,zC5]
         have sz3' : M3.size ≤ N2.size + 2:=sz3
         have hb0 : Nat.ble N2.size 0 = false:=by
          cases hb : Nat.ble N2.size 0 with
          | false=>rfl
          | true=>have:=Nat.le_of_ble_eq_true hb; omega
         refine ⟨by simp [zBM,FP.apart,FP.reads,FP.writes,hb0],by simp [zBM,FP.apart,FP.reads,FP.writes], ?_⟩
         have eX : ((N2.bk M3).add (.row false (rnR x ra))).lo = (⟨M3.t,M3.size,M3.size + 1,false⟩ : Mem).add (.row false (rnR x ra)):=rfl
         show W3 (insO _ (((N2.bk M3).add (.row false (rnR x ra))).lo) 60 10 80 o3 (I64 ((n0 + D.length : Nat) : Int)) (.sl M3.size 0 1 (some 1) 10)) _
         rw [eX]
         have wX : Wf (⟨M3.t,M3.size,M3.size + 1,false⟩ : Mem):=wf3
         have sX : (⟨M3.t,M3.size,M3.size + 1,false⟩ : Mem).size = M3.size:=rfl
         have snX : SlN (⟨M3.t,M3.size,M3.size + 1,false⟩ : Mem) 10 isRn o3 l':=sn3
         generalize (⟨M3.t,M3.size,M3.size + 1,false⟩ : Mem) = X3 at *
         have key : W3 (insO (zAE Tryz.prog (fsT tbl) fuel (d + 10)) (X3.add (.row false (rnR x ra))) 60 10 80 o3 (I64 ((n0 + D.length : Nat) : Int)) (.sl M3.size 0 1 (some 1) 10)) (fun o4 M4=>SlM M4 10 isRn o4 (l'.take (n0 + D.length) ++ [x] ++ l'.drop (n0 + D.length)) ∧ Wf M4):=by
          rw [← sX]
          by_cases hz : l' = []
          ·subst hz
           have e0 : n0 + D.length = 0:=by simp only [List.length_nil] at hsk; omega
           rw [e0]
           have hc0 : ((0 : Nat) : Int) = 0:=rfl
           rw [hc0]
           have h0' : W3 (zAE Tryz.prog (fsT tbl) fuel (d + 10) (.fn 60) [o3,I64 0,.sl X3.size 0 1 (some 1) 10] (X3.add (.row false (rnR x ra)))) (fun o4 M4=>SlM M4 10 isRn o4 [x] ∧ Wf M4):=zOS (d:=d + 9) wX snX ⟨ra,rfl,hR,hx⟩ rfl (fun o' M' a b _ _ _ _=>⟨a,b⟩)
           have e1 : insO (zAE Tryz.prog (fsT tbl) fuel (d + 10)) (X3.add (.row false (rnR x ra))) 60 10 80 o3 (I64 0) (.sl X3.size 0 1 (some 1) 10) = zAE Tryz.prog (fsT tbl) fuel (d + 10) (.fn 60) [o3,I64 0,.sl X3.size 0 1 (some 1) 10] (X3.add (.row false (rnR x ra))):=by
            rcases snX with ⟨_,rfl | ⟨id,rfl,_⟩⟩ | ⟨hn,_⟩
            ·exact zKA ..
            ·exact zK9 ..
            ·exact absurd rfl hn
           rw [e1]
           exact h0'
          ·exact snX.ins (bytes:=80) (g:=60) wX hz zCZ.cel ⟨ra,rfl,hR,hx⟩ rfl (by omega) (by omega) (by omega) (by omega) (by omega) fun o' M' a b _ _ _=>⟨a,b⟩
         obtain ⟨o4,M4,he4,sm4,wf4⟩:=key
         rw [he4]
         clear he4 eX hmt hss snX sn3 sm3 kp3 hno hwh hwa hck hcx hcl ia hj hpart hct
         have on4:=sm4.one
         have oc4:=sm4.cells
         have rl4:=zAT sm4.rl (Nat.le_refl M4.size)
         simp (maxSteps:=2000000) (disch:=first | omega | assumption | (simp only [DS,Nat.reduceAdd, *]; done) | (simp only [DZ]; omega)) only [RUN,RU,zA2,reduceIte,Nat.reduceEqDiff,Nat.reduceAdd]
         refine zL0 (n:=d + 9) (R:=fun r=>Sl 10 isRn r (zBO (l'.take (n0 + D.length) ++ [x] ++ l'.drop (n0 + D.length)))) tf59 rfl (sm4.keep fun _ _=>rfl) (show Wf _ from wf4) zCZ (fun a' ha'=>?_) fun r X' hr wX' sX' kX'=>?_
         ·refine zFY (d:=d + 1) ha' (by simp only [List.length_append,List.length_take,List.length_drop,List.length_singleton]; omega) (fun q hq=>?_) (by simp only [List.length_append,List.length_take,List.length_drop,List.length_singleton]; omega)
          have hq64 : q.rs.length ≤ 64:=by
           rcases List.mem_append.1 hq with hq | hq
           ·rcases List.mem_append.1 hq with hq | hq
            ·exact zF0 p2 q (List.mem_of_mem_take hq)
            ·rw [List.mem_singleton] at hq; subst hq
             exact (Rn.may_iff.1 hxm).2.2.2.1
           ·exact zF0 p2 q (List.mem_of_mem_drop hq)
          omega
         ·have orr:=hr.one
          simp (maxSteps:=2000000) (disch:=first | omega | assumption | (simp only [DS,Nat.reduceAdd, *]; done) | (simp only [DZ]; omega)) only [RUN,RU,zA2,zA0,zAA,frzL,reduceIte,Nat.reduceEqDiff,Nat.reduceAdd,hr.fz.frz,zC5]
          exact ⟨r,hr,rfl⟩
 ·have e8 : putE l x = 8:=by rw [hiE,if_neg h8]
  have er : insR l x = []:=by unfold insR; rw [e8]; rfl
  have hz : imax (err (zEZ l)) (err x.may) = 8:=by
   cases ma : zEZ l <;> cases mb : x.may <;> first | rfl | exact absurd ⟨ma,mb⟩ h8
  rw [e8,er]
  simp (maxSteps:=2000000) (disch:=first | omega | assumption | (simp only [DS,Nat.reduceAdd, *]; done) | (simp only [DZ]; omega)) only [RUN,RU,zA2,zA1,zA0,zAA,frzL,slot,reduceIte,Nat.reduceEqDiff,Nat.reduceBEq,Nat.reduceAdd,Int.reduceEq,h0,h1,hck,hcx,hz,zCW,BMM]
  exact ⟨NIL,.inl ⟨rfl,rfl⟩,rfl⟩
end Go.Proofs.YtakefgebklfhpaaGreat
namespace Go.Proofs.YtakefgebklfhpaaGreat
open Go Go.Ax
variable {fuel : Nat} {M : Mem} {Q : AV → Mem → Prop} {d : Nat} {l : List Op} {a : AV}
theorem zG8 (l : List Op) : (textOf l).length ≤ 3 * l.length:=by
 refine zCP (P:=fun l=>(textOf l).length ≤ 3 * l.length) (Nat.le_refl _) (fun l o ih=>?_) l
 rw [zE9]
 unfold stepT
 split
 ·have:=zW8 (textOf l) o.rn
  simp only [List.length_append,List.length_singleton]
  omega
 ·simp only [List.length_append,List.length_singleton]
  omega
def ze9 (l : List Op) (r : AV) : Prop:=∃ r1,r = .tup [r1,I64 (err (zAR [] l))] ∧ Sl 10 isRn r1 (if zAR [] l = true then textOf l else [])
theorem ze3 {o : Op} (h : o.ok) : o.rn.ok:=⟨h.2.2.2.1,h.2.2.2.2.1,h.2.2.2.2.2.2⟩
set_option maxHeartbeats 8000000 in
theorem zPO (hS : Sl 17 isOp a l) (hl : l.length ≤ 200) (hf : 3080000 < fuel) : ∃ r,ze9 l r ∧ ∀ M,zAE Tryz.prog (fsT tbl) fuel (d + 15) (.fn 19) [a] M = some (r,M):=by
 have ll:=hS.len
 have hck:=fun M=>zEF (fuel:=fuel) (d:=d) hS (by omega) (by omega) M
 refine zFT tf19 rfl (fun M=>by simp only [icyL,fun M=>hS.icy M 12 (by omega)]) ?_
 refine zAJ tf19 rfl (by simp only [icyL,fun M=>hS.icy M 12 (by omega)]) (by simp [a19]) fun b' ht hx=>?_
 have h0:=hx 0 _ rfl
 clear hx
 simp only [a19,c19] at ht ⊢
 unfold ze9
 cases q1 : zAR [] l with
 | false =>
  rw [q1] at hck
  simp (maxSteps:=2000000) (disch:=first | omega | assumption | (simp only [DS,Nat.reduceAdd, *]; done) | (simp only [DZ]; omega)) only [RUN,RU,zA2,zA1,zA0,zAA,frzL,reduceIte,Nat.reduceEqDiff,Int.reduceEq,h0,hck,zBF]
  exact ⟨_,⟨NIL,rfl,.inl ⟨rfl,rfl⟩⟩,rfl⟩
 | true =>
  rw [q1] at hck
  simp only [if_true]
  simp (maxSteps:=2000000) (disch:=first | omega | assumption | (simp only [DS,Nat.reduceAdd, *]; done) | (simp only [DZ]; omega)) only [RUN,RU,zA2,zA1,reduceIte,Nat.reduceEqDiff,h0,hck,zB0,ll]
  refine zBG (I:=fun n t N => ∃ (i : Nat) (r : AV),n = l.length - i ∧ i ≤ l.length ∧ nth zA5 t 2 = r ∧ nth zA5 t 14 = a ∧ nth zA5 t 15 = I64 l.length ∧ nth zA5 t 16 = I64 i ∧ Wf N ∧ Sl 10 isRn r (textOf (l.take i))) (n:=l.length) (by omega) ?_ ?_
  ·refine ⟨0,NIL,rfl,Nat.zero_le _, ?_, ?_, ?_, ?_,Wf.mem0,.inl ⟨rfl,rfl⟩⟩ <;> simp (maxSteps:=2000000) (disch:=first | omega | assumption | (simp only [DS,Nat.reduceAdd, *]; done) | (simp only [DZ]; omega)) only [RUN,reduceIte,Nat.reduceEqDiff]
   all_goals first | rfl | assumption | done
  ·rintro n t N hlt ⟨i,r,rfl,hi,g2,g14,g15,g16,w,hA⟩
   simp only [ht] at hlt ⊢
   have or':=hA.one
   by_cases hc : i < l.length
   ·have q3 : decide ((i : Int) < l.length) = true:=decide_eq_true (by omega)
    have w1 : IntKind.i64.wrap ((i : Int) + 1) = ((i + 1 : Nat) : Int):=by rw [wrap_i64] <;> omega
    obtain ⟨r0,hiad,hr,hrl⟩:=hS.iad i hc
    have hts:=zE9 (l.take i) l[i]
    rw [← take_snoc l i hc] at hts
    have htl:=zG8 (l.take i)
    rw [List.length_take] at htl
    have hsp : l.take i ++ l[i] :: l.drop (i + 1) = l:=by rw [← List.drop_eq_getElem_cons hc,List.take_append_drop]
    have hput : rofE l[i] = 0 → putE (textOf (l.take i)) l[i].rn = 0:=zW5 (m:=l.drop (i + 1)) (by rw [hsp]; exact q1)
    clear hsp
    generalize l[i] = e at *
    obtain ⟨ra,rfl,hra,hok⟩:=hr
    have ora:=hra.one
    obtain ⟨rr,hk,hof⟩:=zMA (fuel:=fuel) (d:=d + 6) hra hok (by omega)
    by_cases q4 : rofE e = 0
    ·have q4' : decide (rofE e = 0) = true:=decide_eq_true q4
     unfold rofK at hk
     rw [if_pos q4] at hk
     obtain ⟨rb,rfl,hrb⟩:=hk
     have orb:=hrb.one
     obtain ⟨r2,hr2,hins⟩:=zQI (fuel:=fuel) (d:=d + 3) (x:=e.rn) hA hrb (ze3 hok) (by omega) (by omega)
     have or2:=hr2.one
     rw [hput q4] at hins
     unfold insR at hr2
     rw [if_pos (hput q4)] at hr2
     unfold stepT at hts
     rw [if_pos q4] at hts
     simp (maxSteps:=2000000) (disch:=first | omega | assumption | (simp only [DS,Nat.reduceAdd, *]; done) | (simp only [DZ]; omega)) only [RUN,RU,zA2,zA1,slot,lay,reduceIte,Nat.reduceEqDiff,Nat.reduceAdd,g2,g14,g15,g16,q3,hiad,hof,hins,w,w1]
     exact ⟨hlt,l.length - (i + 1),by omega,i + 1,r2,rfl,by omega,rfl,rfl,by rw [hts]; exact hr2⟩
    ·have q4' : decide (rofE e = 0) = false:=decide_eq_false q4
     unfold rofK at hk
     rw [if_neg q4] at hk
     subst hk
     unfold stepT at hts
     rw [if_neg q4] at hts
     unfold rnZ at hof
     simp (maxSteps:=2000000) (disch:=first | omega | assumption | (simp only [DS,Nat.reduceAdd, *]; done) | (simp only [DZ]; omega)) only [RUN,RU,zA2,zA1,slot,lay,reduceIte,Nat.reduceEqDiff,Nat.reduceAdd,g2,g14,g15,g16,q3,hiad,hof,q4',w,w1]
     exact ⟨hlt,l.length - (i + 1),by omega,i + 1,r,rfl,by omega,rfl,rfl,by rw [hts]; exact hA⟩
   ·obtain rfl : i = l.length:=by omega
    have q3 : decide ((l.length : Int) < l.length) = false:=decide_eq_false (by omega)
    rw [List.take_length] at hA
    simp (maxSteps:=2000000) (disch:=first | omega | assumption | (simp only [DS,Nat.reduceAdd, *]; done) | (simp only [DZ]; omega)) only [RUN,RU,zA2,zA1,zA0,zAA,frzL,reduceIte,Nat.reduceEqDiff,g2,g15,g16,hA.fz.frz]
    exact ⟨_,⟨r,rfl,hA⟩,rfl⟩
theorem zdO (hS : Sl 17 isOp a l) : ∀ p ∈ l,p.ok:=by
 rcases hS with ⟨_,rfl⟩ | ⟨rows,cap,_,hA,_⟩
 ·intro p hp; cases hp
 ·intro p hp
  obtain ⟨i,hi,rfl⟩:=List.getElem_of_mem hp
  have hr : i < rows.length:=by rw [hA.length_eq]; exact hi
  obtain ⟨_,_,_,h⟩:=hA.get hr hi
  exact h
end Go.Proofs.YtakefgebklfhpaaGreat
namespace Go.Proofs.YtakefgebklfhpaaGreat
open Go Go.Ax
variable {fuel : Nat} {M : Mem} {Q : AV → Mem → Prop} {d : Nat} {l : List Op} {a : AV} {v : Lb}
theorem zSV (l : List Op) (v : Lb) : zHZ (lowL l v) v (zCG (elsR (textOf (lowL l v)))) = zC4 l v:=by
 unfold zHZ zCG zC4
 rw [List.filter_map,List.map_map]
 rfl
theorem zPQ {l : List Op} (h : zAR [] l = true) (v : Lb) : (zC4 l v).length ≤ 192 * l.length:=by
 have hT:=zBV (zD5 v h)
 have h1:=zFQ hT.ok.1
 have h2:=zG8 (lowL l v)
 have h3:=zKF l v
 unfold zC4
 rw [List.length_map]
 exact Nat.le_trans (List.length_filter_le _ _) (by omega)
def zRO (l : List Op) (v : Lb) (r : AV) : Prop:=∃ r1,r = .tup [r1,I64 (zFD l v)] ∧ Sl 5 zD6 r1 (if zFD l v = 0 then zC4 l v else [])
theorem zP5 (h : zFD l v = 0) : zAR [] l = true ∧ v.may = true:=by
 unfold zFD err at h
 cases h1 : zAR [] l <;> cases h2 : v.may <;> rw [h1,h2] at h <;> first | exact ⟨rfl,rfl⟩ | cases h
set_option maxHeartbeats 8000000 in
theorem zHO (hS : Sl 17 isOp a l) (hl : l.length ≤ 200) (hf : 3200000 < fuel) (hd : ∀ o ∈ l,o.rs.length ≤ 1000000000) : ∃ r,zRO l v r ∧ ∀ M,zAE Tryz.prog (fsT tbl) fuel (d + 18) (.fn 7) [a,lbA v] M = some (r,M):=by
 obtain ⟨ro,⟨r2,rfl,hr2⟩,hon⟩:=zWY (fuel:=fuel) (d:=d + 2) (v:=v) hS (by omega) (by omega) hd
 have or2:=hr2.one
 refine zFT tf7 rfl (fun M=>by simp only [icyL,fun M=>hS.icy M 12 (by omega),zB2 (zDS v) (show 1 < 12 by omega)]) ?_
 refine zAJ tf7 rfl (by simp only [icyL,fun M=>hS.icy M 12 (by omega),zB2 (zDS v) (show 1 < 12 by omega)]) (by simp [a7]) fun b' ht hx=>?_
 have h0:=hx 0 _ rfl
 have h1:=hx 1 _ rfl
 clear hx
 simp only [a7,c7] at ht ⊢
 unfold zRO
 by_cases q1 : zFD l v = 0
 ·rw [if_pos q1] at hr2
  obtain ⟨q2,q3⟩:=zP5 q1
  have q4:=zD5 v q2
  have hlow:=zKF l v
  obtain ⟨rt,⟨r3,rfl,hr3⟩,htx⟩:=zPO (fuel:=fuel) (d:=d + 2) hr2 (by omega) (by omega)
  rw [q4] at htx hr3
  simp only [if_true] at hr3
  have hT:=zBV q4
  have htl:=zG8 (lowL l v)
  obtain ⟨r4,hr4,hal⟩:=zRA (fuel:=fuel) (d:=d + 9) hr3 hT.ok.1 (by omega) (by omega)
  have hel:=zFQ hT.ok.1
  rw [q1]
  rw [q1] at hon
  simp (maxSteps:=2000000) (disch:=first | omega | assumption | (simp only [DS,Nat.reduceAdd, *]; done) | (simp only [DZ]; omega)) only [RUN,RU,zA2,zA1,slot,lay,reduceIte,Nat.reduceEqDiff,Nat.reduceAdd,h0,h1,hon,htx,hal,zB0,hr2.fz.cells]
  refine zbB (d:=d) (low:=lowL l v) (v:=v) hr4 (by rw [zDO]; omega) hr2 q4 (by omega) (by rw [zDO]; omega) ?_ ?_ ?_ ?_ fun o N wN leN kpN smN nwN wmN=>?_
  ·simp (maxSteps:=2000000) (disch:=first | omega | assumption | (simp only [DS,Nat.reduceAdd, *]; done) | (simp only [DZ]; omega)) only [RUN]
  ·exact Nat.zero_le _
  ·simp (maxSteps:=2000000) (disch:=first | omega | assumption | (simp only [DS,Nat.reduceAdd, *]; done) | (simp only [DZ]; omega)) only [RUN]
  ·simp (maxSteps:=2000000) (disch:=first | omega | assumption | (simp only [DS,Nat.reduceAdd, *]; done) | (simp only [DZ]; omega)) only [RUN]
  ·rw [zSV] at smN
   obtain ⟨ro,hz,hs⟩:=smN.frz zEG.cel (k:=12) (by omega)
   have oo:=smN.one
   simp (maxSteps:=2000000) (disch:=first | omega | assumption | (simp only [DS,Nat.reduceAdd, *]; done) | (simp only [DZ]; omega)) only [RUN,RU,zA2,zA1,zA0,zAA,frzL,reduceIte,Nat.reduceEqDiff,hz]
   exact ⟨_,⟨ro,rfl,by simpa using hs⟩,rfl⟩
 ·have q1':=decide_eq_false q1
  simp (maxSteps:=2000000) (disch:=first | omega | assumption | (simp only [DS,Nat.reduceAdd, *]; done) | (simp only [DZ]; omega)) only [RUN,RU,zA2,zA1,zA0,zAA,frzL,slot,lay,reduceIte,Nat.reduceEqDiff,Nat.reduceAdd,h0,h1,hon,q1',hr2.fz.cells]
  exact ⟨_,⟨NIL,rfl,by rw [if_neg q1]; exact .inl ⟨rfl,rfl⟩⟩,rfl⟩
end Go.Proofs.YtakefgebklfhpaaGreat
namespace Go.Proofs.YtakefgebklfhpaaGreat
open Go Go.Ax
variable {fuel : Nat} {M : Mem} {Q : AV → Mem → Prop} {d : Nat} {l : List Op} {a : AV} {v : Lb}
def zND (l : List Op) (v : Lb) (k : Int) : Int:=if zFD l v = 0 then (if k < 0 ∨ ((zC4 l v).length : Int) < k then 2 else 0) else zFD l v
def zFW (l : List Op) (v : Lb) (k : Int) : Eid:=if zND l v k = 0 ∧ 0 < k then (((zC4 l v)[(k - 1).toNat]?).map (·.id)).getD Eid.z else Eid.z
set_option maxHeartbeats 8000000 in
theorem zWJ {k : Int} (hS : Sl 17 isOp a l) (hl : l.length ≤ 200) (hf : 3200000 < fuel) (hd : ∀ o ∈ l,o.rs.length ≤ 1000000000) (M : Mem) : zAE Tryz.prog (fsT tbl) fuel (d + 19) (.fn 8) [a,lbA v,I64 k] M = some (.tup [idA (zFW l v k),I64 (zND l v k)],M):=by
 obtain ⟨rc,⟨r2,rfl,hr2⟩,hce⟩:=zHO (fuel:=fuel) (d:=d) (v:=v) hS hl hf hd
 apply zBI
 refine zAJ tf8 rfl (by simp only [icyL,fun M=>hS.icy M 12 (by omega),zB2 (zDS v) (show 1 < 12 by omega),zN9]) (by simp [a8]) fun b' ht hx=>?_
 have h0:=hx 0 _ rfl
 have h1:=hx 1 _ rfl
 have h2:=hx 2 _ rfl
 clear hx
 simp only [a8,c8] at ht ⊢
 unfold zFW zND
 by_cases q1 : zFD l v = 0
 ·rw [q1] at hr2 hce
  simp only [if_true] at hr2
  have hvl:=zPQ (zP5 q1).1 v
  have lr2:=hr2.len
  by_cases q2 : k < 0
  ·have q2':=decide_eq_true q2
   simp only [q1,if_true,q2,true_or]
   simp (maxSteps:=2000000) (disch:=first | omega | assumption | (simp only [DS,Nat.reduceAdd, *]; done) | (simp only [DZ]; omega)) only [RUN,RU,zA2,zA1,zA0,zAA,frzL,slot,lay,zAI,reduceIte,Nat.reduceEqDiff,Nat.reduceAdd,Nat.reduceSub,Int.reduceEq,h0,h1,h2,hce,q2']
   rfl
  ·have q2':=decide_eq_false q2
   by_cases q3 : ((zC4 l v).length : Int) < k
   ·have q3':=decide_eq_true q3
    simp only [q1,if_true,q3,or_true]
    simp (maxSteps:=2000000) (disch:=first | omega | assumption | (simp only [DS,Nat.reduceAdd, *]; done) | (simp only [DZ]; omega)) only [RUN,RU,zA2,zA1,zA0,zAA,frzL,slot,lay,zAI,reduceIte,Nat.reduceEqDiff,Nat.reduceAdd,Nat.reduceSub,Int.reduceEq,h0,h1,h2,hce,q2',q3',lr2]
    rfl
   ·have q3':=decide_eq_false q3
    have q4 : ¬(k < 0 ∨ ((zC4 l v).length : Int) < k):=by omega
    simp only [q1,if_true,q4,if_false,true_and]
    by_cases q5 : k = 0
    ·subst q5
     simp (maxSteps:=2000000) (disch:=first | omega | assumption | (simp only [DS,Nat.reduceAdd, *]; done) | (simp only [DZ]; omega)) only [RUN,RU,zA2,zA1,zA0,zAA,frzL,slot,lay,zAI,reduceIte,Nat.reduceEqDiff,Nat.reduceAdd,Nat.reduceSub,Int.reduceSub,h0,h1,h2,hce,q3',lr2]
    ·have q5':=decide_eq_false q5
     have q6 : 0 < k:=by omega
     obtain ⟨m,rfl⟩ : ∃ m : Nat,k = (m : Int) + 1:=⟨(k - 1).toNat,by omega⟩
     have hm : m < (zC4 l v).length:=by omega
     have w1 : IntKind.i64.wrap ((m : Int) + 1 - 1) = (m : Int):=by rw [wrap_i64] <;> omega
     obtain ⟨r,hiad,⟨rfl,hok⟩,hrl⟩:=hr2.iad m hm
     have e : (((zC4 l v)[((m : Int) + 1 - 1).toNat]?).map (·.id)).getD Eid.z = (zC4 l v)[m].id:=by
      rw [show ((m : Int) + 1 - 1).toNat = m by omega,List.getElem?_eq_getElem hm]
      rfl
     simp only [q6,if_true,e]
     simp (maxSteps:=2000000) (disch:=first | omega | assumption | (simp only [DS,Nat.reduceAdd, *]; done) | (simp only [DZ]; omega)) only [RUN,RU,zA2,zA1,zA0,zAA,frzL,slot,lay,reduceIte,Nat.reduceEqDiff,Nat.reduceAdd,Nat.reduceSub,h0,h1,h2,hce,q2',q3',q5',lr2,w1,hiad]
 ·have q1':=decide_eq_false q1
  simp only [q1,if_false,false_and]
  simp (maxSteps:=2000000) (disch:=first | omega | assumption | (simp only [DS,Nat.reduceAdd, *]; done) | (simp only [DZ]; omega)) only [RUN,RU,zA2,zA1,zA0,zAA,frzL,slot,lay,zAI,reduceIte,Nat.reduceEqDiff,Nat.reduceAdd,Nat.reduceSub,h0,h1,hce,q1']
end Go.Proofs.YtakefgebklfhpaaGreat
namespace Go.Proofs.YtakefgebklfhpaaGreat
open Go Go.Ax
variable {fuel : Nat} {M : Mem} {Q : AV → Mem → Prop} {d : Nat} {l : List Op} {a : AV} {v : Lb}
def topC (cs : List CellV) (v : Lb) : Int:=cs.foldl (fun m c=>if c.id.hd.lb.leq v = true then imax m c.id.c else m) 0
theorem zMH (cs : List CellV) (v : Lb) (c : CellV) : topC (cs ++ [c]) v = if c.id.hd.lb.leq v = true then imax (topC cs v) c.id.c else topC cs v:=by simp [topC]
theorem zUA {cs : List CellV} {v : Lb} : 0 ≤ topC cs v ∧ ∀ c ∈ cs,c.id.hd.lb.leq v = true → c.id.c ≤ topC cs v:=by
 refine zCP (P:=fun cs=>0 ≤ topC cs v ∧ ∀ c ∈ cs,c.id.hd.lb.leq v = true → c.id.c ≤ topC cs v) ⟨Int.le_refl 0,fun c h=>absurd h (by simp)⟩ (fun cs x ih=>?_) cs
 rw [zMH]
 unfold imax
 refine ⟨?_,fun c hc hq=>?_⟩
 ·split
  ·split <;> omega
  ·exact ih.1
 ·rcases List.mem_append.1 hc with hc | hc
  ·have:=ih.2 c hc hq
   split
   ·split <;> omega
   ·exact this
  ·rw [List.mem_singleton] at hc
   subst hc
   rw [if_pos hq]
   split <;> omega
def topH (l : List Op) (h : Hd) : Int:=topC (zCG (elsR (textOf l))) h.lb
def zQK (l : List Op) (h : Hd) : Int:=if zAR [] l = true then (if h.may = true then (if 1099511627776 ≤ topH l h then 9 else 0) else 8) else 8
def zH4 (l : List Op) (h : Hd) : Int:=if zQK l h = 0 then topH l h + 1 else 0
theorem zYF (x : Hd) : ∀ y ∈ hdR x,Fz y:=fun y hy=>by
 simp only [hdR,List.mem_cons,List.not_mem_nil,or_false] at hy
 rcases hy with rfl | rfl | rfl <;> exact zCD _ _
set_option maxHeartbeats 8000000 in
theorem zUE {h : Hd} (hS : Sl 17 isOp a l) (hl : l.length ≤ 200) (hf : 3200000 < fuel) (M : Mem) : zAE Tryz.prog (fsT tbl) fuel (d + 19) (.fn 9) [a,hdA h] M = some (.tup [I64 (zH4 l h),I64 (zQK l h)],M):=by
 obtain ⟨rt,⟨r3,rfl,hr3⟩,htx⟩:=zPO (fuel:=fuel) (d:=d + 3) hS (by omega) (by omega)
 have hch:=fun M=>@zF8 fuel (d + 16) h M
 apply zBI
 refine zAJ tf9 rfl (by simp only [icyL,fun M=>hS.icy M 12 (by omega),zB2 (zYF h) (show 1 < 12 by omega)]) (by simp [a9]) fun b' ht hx=>?_
 have h0:=hx 0 _ rfl
 have h1:=hx 1 _ rfl
 clear hx
 simp only [a9,c9] at ht ⊢
 unfold zH4 zQK
 cases q1 : zAR [] l with
 | false =>
  rw [q1] at htx
  simp (maxSteps:=2000000) (disch:=first | omega | assumption | (simp only [DS,Nat.reduceAdd, *]; done) | (simp only [DZ]; omega)) only [RUN,RU,zA2,zA1,zA0,zAA,frzL,reduceIte,Nat.reduceEqDiff,Int.reduceEq,h0,h1,htx,zBF]
  rfl
 | true =>
  rw [q1] at htx hr3
  simp only [if_true] at hr3
  have hT:=zBV q1
  have htl:=zG8 l
  have hel:=zFQ hT.ok.1
  cases q2 : h.may with
  | false =>
   rw [q2] at hch
   simp (maxSteps:=2000000) (disch:=first | omega | assumption | (simp only [DS,Nat.reduceAdd, *]; done) | (simp only [DZ]; omega)) only [RUN,RU,zA2,zA1,zA0,zAA,frzL,slot,reduceIte,Nat.reduceEqDiff,Int.reduceEq,h0,h1,htx,hch,zB0,zBF]
   rfl
  | true =>
   rw [q2] at hch
   obtain ⟨r4,hr4,hal⟩:=zRA (fuel:=fuel) (d:=d + 10) hr3 hT.ok.1 (by omega) (by omega)
   have lr4:=hr4.len
   have hcl:=zDO (elsR (textOf l))
   unfold topH
   generalize zCG (elsR (textOf l)) = cs at *
   simp (maxSteps:=2000000) (disch:=first | omega | assumption | (simp only [DS,Nat.reduceAdd, *]; done) | (simp only [DZ]; omega)) only [RUN,RU,zA2,zA1,slot,reduceIte,Nat.reduceEqDiff,h0,h1,htx,hch,hal,zB0,lr4]
   refine zBG (I:=fun n t N => ∃ (i : Nat),n = cs.length - i ∧ i ≤ cs.length ∧ nth zA5 t 3 = .ptr 0 0 ∧ nth zA5 t 9 = I64 (topC (cs.take i) h.lb) ∧ nth zA5 t 26 = r4 ∧ nth zA5 t 27 = I64 cs.length ∧ nth zA5 t 28 = I64 i ∧ Wf N ∧ 1 ≤ N.size ∧ N.get 0 = some (.row false (hdR h))) (n:=cs.length) (by omega) ?_ ?_
   ·refine ⟨0,rfl,Nat.zero_le _, ?_, ?_, ?_, ?_, ?_,Wf.mem0.add _,Nat.le_refl 1,by simp (maxSteps:=2000000) (disch:=first | omega | assumption | (simp only [DS,Nat.reduceAdd, *]; done) | (simp only [DZ]; omega)) only [RUN]⟩ <;> simp (maxSteps:=2000000) (disch:=first | omega | assumption | (simp only [DS,Nat.reduceAdd, *]; done) | (simp only [DZ]; omega)) only [RUN,RU,reduceIte,Nat.reduceEqDiff]
    all_goals first | rfl | assumption | done
   ·rintro n t N hlt ⟨i,rfl,hi,g3,g9,g26,g27,g28,w,le,m0⟩
    simp only [ht] at hlt ⊢
    have l0 : 0 < N.size:=by omega
    by_cases hc : i < cs.length
    ·have q3 : decide ((i : Int) < cs.length) = true:=decide_eq_true (by omega)
     have w1 : IntKind.i64.wrap ((i : Int) + 1) = ((i + 1 : Nat) : Int):=by rw [wrap_i64] <;> omega
     obtain ⟨r,hiad,hr,hrl⟩:=hr4.iad i hc
     have hts:=zMH (cs.take i) h.lb cs[i]
     rw [← take_snoc cs i hc] at hts
     generalize cs[i] = c at *
     obtain ⟨rfl,hok⟩:=hr
     have hle:=fun M=>zGI (fuel:=fuel) (d:=d + 17) c.id.hd.lb h.lb M
     have gY : ∀ z r,((N.add z).upd N.size r).get 0 = some (.row false (hdR h)):=fun z r=>by
      rw [zA4 (w.add _) _ _ _ (by omega),zAF w _ _ l0]; exact m0
     cases q4 : c.id.hd.lb.leq h.lb with
     | true =>
      rw [q4,if_pos rfl] at hts
      simp only [q4] at hle
      simp (maxSteps:=2000000) (disch:=first | omega | assumption | (simp only [DS,Nat.reduceAdd, *]; done) | (simp only [DZ]; omega)) only [RUN,RU,zA2,zA1,slot,lay,reduceIte,Nat.reduceEqDiff,Nat.reduceAdd,Nat.reduceLeDiff,g3,g9,g26,g27,g28,q3,hiad,w,m0,hle,w1,zCW,BMM]
      exact ⟨hlt,cs.length - (i + 1),by omega,i + 1,rfl,by omega,by rw [hts],rfl⟩
     | false =>
      rw [q4,if_neg (by decide)] at hts
      simp only [q4] at hle
      simp (maxSteps:=2000000) (disch:=first | omega | assumption | (simp only [DS,Nat.reduceAdd, *]; done) | (simp only [DZ]; omega)) only [RUN,RU,zA2,zA1,slot,lay,reduceIte,Nat.reduceEqDiff,Nat.reduceAdd,Nat.reduceLeDiff,g3,g9,g26,g27,g28,q3,hiad,w,m0,hle,w1]
      exact ⟨hlt,cs.length - (i + 1),by omega,i + 1,rfl,by omega,by rw [hts],rfl⟩
    ·obtain rfl : i = cs.length:=by omega
     have q3 : decide ((cs.length : Int) < cs.length) = false:=decide_eq_false (by omega)
     rw [List.take_length] at g9
     have htp:=(zUA (cs:=cs) (v:=h.lb)).1
     by_cases q5 : 1099511627776 ≤ topC cs h.lb
     ·have q5':=decide_eq_true q5
      rw [if_pos q5]
      simp (maxSteps:=2000000) (disch:=first | omega | assumption | (simp only [DS,Nat.reduceAdd, *]; done) | (simp only [DZ]; omega)) only [RUN,RU,zA2,zA1,zA0,zAA,frzL,reduceIte,Nat.reduceEqDiff,Int.reduceEq,g9,g27,g28,q5']
     ·have q5':=decide_eq_false q5
      have w2 : IntKind.i64.wrap (topC cs h.lb + 1) = topC cs h.lb + 1:=by rw [wrap_i64] <;> omega
      rw [if_neg q5]
      simp (maxSteps:=2000000) (disch:=first | omega | assumption | (simp only [DS,Nat.reduceAdd, *]; done) | (simp only [DZ]; omega)) only [RUN,RU,zA2,zA1,zA0,zAA,frzL,reduceIte,Nat.reduceEqDiff,g9,g27,g28,q5',w2]
end Go.Proofs.YtakefgebklfhpaaGreat
namespace Go.Ax
open Go
variable {P : Program} {call : Tg → List AV → Mem → Option (AV × Mem)} {t : List AV} {M : Mem}
abbrev zOp6 : Value:=.agg #[(.int .u8 0),(.int .u8 0),(.int .u32 0),(.int .u8 0),(.int .i64 0),(.int .u8 0),(.int .u32 0),(.int .u8 0),(.int .i64 0),(.int .i64 0),(.int .u8 0),(.int .u32 0),(.int .u8 0),(.int .i64 0),(.int .u8 0),(.int .u32 0),(.slice none 0 0)]
def bldO (P : Program) (call : Tg → List AV → Mem → Option (AV × Mem)) (t : List AV) (M : Mem) (x0 x1 x2 x3 x4 x5 : Operand) (a b c d e f : List AV) : OR:=match a,b,c,d,e,f with
 | [a],[b1,b2,b3],[c],[d1,d2,d3,d4,d5],[e1,e2,e3,e4],[f]=>some (.agg [a,b1,b2,b3,c,d1,d2,d3,d4,d5,e1,e2,e3,e4,.sc (.int .u8 0),.sc (.int .u32 0),f],M)
 | _,_,_,_,_,_=>zA7 P call t M (.build zOp6 [(0,1,x0),(1,3,x1),(4,1,x2),(5,5,x3),(10,4,x4),(16,1,x5)])
theorem zc4 (x0 x1 x2 x3 x4 x5 : Operand) : zA7 P call t M (.build (.agg #[(.int .u8 0),(.int .u8 0),(.int .u32 0),(.int .u8 0),(.int .i64 0),(.int .u8 0),(.int .u32 0),(.int .u8 0),(.int .i64 0),(.int .i64 0),(.int .u8 0),(.int .u32 0),(.int .u8 0),(.int .i64 0),(.int .u8 0),(.int .u32 0),(.slice none 0 0)]) [(0,1,x0),(1,3,x1),(4,1,x2),(5,5,x3),(10,4,x4),(16,1,x5)]) = bldO P call t M x0 x1 x2 x3 x4 x5 (cellsA (zA8 t x0)) (cellsA (zA8 t x1)) (cellsA (zA8 t x2)) (cellsA (zA8 t x3)) (cellsA (zA8 t x4)) (cellsA (zA8 t x5)):=by
 unfold bldO
 split
 ·rename_i h0 h1 h2 h3 h4 h5
  rw [zUK]
  simp only [zAI,h0,h1,h2,h3,h4,h5]
  rfl
 ·rfl
theorem zZD (x0 x1 x2 x3 x4 x5 : Operand) (a b1 b2 b3 c d1 d2 d3 d4 d5 e1 e2 e3 e4 f : AV) : bldO P call t M x0 x1 x2 x3 x4 x5 [a] [b1,b2,b3] [c] [d1,d2,d3,d4,d5] [e1,e2,e3,e4] [f] = some (.agg [a,b1,b2,b3,c,d1,d2,d3,d4,d5,e1,e2,e3,e4,.sc (.int .u8 0),.sc (.int .u32 0),f],M):=rfl
theorem zO8 (i : Nat) (r w : List Nat) (a b : Nat) (hi : i < a) (hw : ∀ j ∈ w,j ≠ i) : zBM (.acc [i] []) (.acc r w,a,b) = true:=by
 have hb : Nat.ble a i = false:=by
  cases hc : Nat.ble a i with
  | false=>rfl
  | true=>have:=Nat.le_of_ble_eq_true hc; omega
 have hc : w.contains i = false:=by
  rw [← Bool.not_eq_true,List.contains_iff_mem]
  exact fun h=>hw i h rfl
 have hc' : i ∉ w:=fun h=>hw i h rfl
 simp [zBM,FP.apart,disj,FP.reads,FP.writes,hb,hc']
theorem SlM.rowOf_mem {α : Type} {st : Nat} {T : List AV → α → Prop} {o : AV} {l : List α} (h : SlM M st T o l) : ∀ j ∈ rowsOf o,rowOf o = some j:=by
 intro j hj
 rcases h with ⟨e,_⟩ | ⟨id,rows,cap,e,_⟩
 ·rw [e] at hj; exact absurd hj (by simp [rowsOf])
 ·rw [e] at hj ⊢
  simp [rowsOf] at hj
  rw [hj]
  rfl
end Go.Ax
namespace Go.Proofs.YtakefgebklfhpaaGreat
open Go Go.Ax
theorem zU9 (l m : List Op) : zAP (l ++ m) = zAP l ++ zAP m:=by simp [zAP]
theorem zRB {l : List Op} {o : Op} (h : allB l o = true) {x : Eid} (hx : x ∈ o.sp.ids) : x ∈ zAP l:=by
 have:=List.all_eq_true.1 h x hx
 unfold zEM at this
 simp only [Bool.and_eq_true,decide_eq_true_eq] at this
 exact this.1
theorem zMI {l : List Op} (h : zAR [] l = true) {o : Op} (ho : o ∈ l) {x : Eid} (hk : o.kd ≠ 1) (hx : (o.sp.has x).isSome = true) : x ∈ zAP l:=by
 obtain ⟨a,b,rfl⟩:=List.append_of_mem ho
 have e : a ++ o :: b = (a ++ [o]) ++ b:=by simp
 rw [e] at h
 have h:=zOP h
 rw [zDU] at h
 simp only [Bool.and_eq_true,decide_eq_true_eq] at h
 have hr:=zH7 h.2.2
 unfold zDJ at hr
 rw [if_neg hk] at hr
 have ha : allB a o = true:=by
  split at hr
  ·unfold remE at hr
   split at hr
   ·assumption
   ·cases hr
  ·unfold raiE at hr
   split at hr
   ·assumption
   ·cases hr
 rw [zU9]
 exact List.mem_append_left _ (zRB ha (za5 hx))
theorem zQF {l : List Op} (h : zAR [] l = true) {x : Eid} (hg : zCK l x = true) : x ∈ zAP l:=by
 obtain ⟨o,ho,hc⟩:=List.any_eq_true.1 hg
 simp only [Bool.and_eq_true,decide_eq_true_eq] at hc
 exact zMI h ho (by omega) hc.2
def zCL (h : Hd) (s n : Int) (af : Eid) (row : List Int) : Op:=⟨1,h,s,⟨⟨h,n⟩,row.length⟩,af,Lb.z,row⟩
theorem zRZ {l : List Op} (h : zAR [] l = true) {v : Lb} : ∀ x ∈ elsR (textOf (lowL l v)),x.id.hd.lb.leq v = true ∧ 1 ≤ x.id.c ∧ x.id.may = true:=by
 intro x hx
 have hT:=zBV (zD5 v h)
 obtain ⟨o,ho,hr,hxo⟩:=(hT.mem x).1 hx
 have hm:=zOF hT.ok.1 x hx
 have hmi:=(El.may_iff.1 hm).1
 refine ⟨?_,(Eid.may_iff.1 hmi).2.1,hmi⟩
 have hid : x.id ∈ o.sp.ids:=by rw [← zHS]; exact List.mem_map.2 ⟨x,hxo,rfl⟩
 rw [zKH hid]
 obtain ⟨hom,hk,_⟩:=zIL hr
 rw [(zFC hom hk).1]
 exact (List.mem_filter.1 ho).2
theorem zXW {l : List Op} (h : zAR [] l = true) (v : Lb) : ((zC4 l v).map (·.id)).Nodup:=by
 have hT:=zBV (zD5 v h)
 have hn:=(zE2 hT.ok).1.t.s1.nd
 have e : (zC4 l v).map (·.id) = ((elsR (textOf (lowL l v))).filter fun x => !zCK (lowL l v) x.id).map (·.id):=by
  unfold zC4
  rw [List.map_map]
  rfl
 rw [e]
 exact hn.sublist (List.Sublist.map _ List.filter_sublist)
theorem zNZ {l : List Op} {v : Lb} {c : CellV} (hc : c ∈ zC4 l v) : ∃ x ∈ elsR (textOf (lowL l v)),x.id = c.id ∧ zCK (lowL l v) c.id = false:=by
 unfold zC4 at hc
 obtain ⟨x,hx,rfl⟩:=List.mem_map.1 hc
 obtain ⟨h1,h2⟩:=List.mem_filter.1 hx
 exact ⟨x,h1,rfl,by have h2 : (!zCK (lowL l v) x.id) = true:=h2; simpa [cellV] using h2⟩
theorem zU1 {l : List Op} {o : Op} (h : zAR [] l = true) (h2 : zAR [] (l ++ [o]) = true) (hk : o.kd = 1) (x : Eid) (v : Lb) : zEN (l ++ [o]) x v = zEN l x v:=by
 unfold zEN askE made zBZ
 rw [zDT h,zDT h2,List.filter_append]
 have e : [o].filter (zC8 x v) = []:=by
  rw [List.filter_cons_of_neg]
  ·rfl
  ·unfold zC8; simp [hk]
 rw [e,List.append_nil]
theorem zW2 {l : List Op} {o : Op} (hk : o.kd = 1) (x : Eid) : zCK (l ++ [o]) x = zCK l x:=by
 rw [zW1]
 unfold zCK
 simp [hk]
def newC (h : Hd) (n : Int) (row : List Int) : List CellV:=(List.range row.length).map fun (j : Nat)=>⟨⟨h,n + j⟩,row.getD j 0⟩
theorem zWD {l : List Op} (hl : zAR [] l = true) {h : Hd} {s n : Int} {af : Eid} {row : List Int} {k : Nat} (hm : (zCL h s n af row).may = true) (hf : fitE l (zCL h s n af row) = 0) (htop : ∀ x ∈ elsR (textOf (lowL l h.lb)),x.id.c < n) (hk : k ≤ (zC4 l h.lb).length) (haf : (k = 0 ∧ af = Eid.z) ∨ (0 < k ∧ ∃ c,(zC4 l h.lb)[k - 1]? = some c ∧ c.id = af)) :
  zC4 (l ++ [zCL h s n af row]) h.lb = (zC4 l h.lb).take k ++ newC h n row ++ (zC4 l h.lb).drop k:=by
 generalize ho : zCL h s n af row = o at *
 have okd : o.kd = 1:=by rw [← ho]; rfl
 have ohd : o.hd = h:=by rw [← ho]; rfl
 have osp : o.sp = ⟨⟨h,n⟩,row.length⟩:=by rw [← ho]; rfl
 have oaf : o.af = af:=by rw [← ho]; rfl
 have ors : o.rs = row:=by rw [← ho]; rfl
 clear ho
 have h2 : zAR [] (l ++ [o]) = true:=by rw [zDU,hl,hm,hf]; rfl
 have elow : lowL (l ++ [o]) h.lb = lowL l h.lb ++ [o]:=by rw [zKG,ohd,zFX,if_pos rfl]
 have hL:=zD5 h.lb hl
 have hL2:=zD5 h.lb h2
 rw [elow] at hL2
 have hlab:=zRZ hl (v:=h.lb)
 have hids:=zXW hl h.lb
 have hvat:=fun c (hc : c ∈ zC4 l h.lb)=>zNZ hc
 unfold zC4 at *
 rw [elow]
 generalize lowL l h.lb = L at *
 have hfL : fitE L o = 0:=by
  rw [zDU] at hL2
  simp only [Bool.and_eq_true,decide_eq_true_eq] at hL2
  exact hL2.2.2
 have hT:=zBV hL
 obtain ⟨hput,hrof⟩:=(hT.step hfL hm).2 okd
 have et : textOf (L ++ [o]) = insL (textOf L) o.rn:=by rw [zE9]; unfold stepT; rw [if_pos hrof]
 obtain ⟨A0,A1,B,P⟩:=put_ok hput
 have hA1 : A1 = []:=by
  cases A1 with
  | nil=>rfl
  | cons x A1 =>
   have h1:=P.g x List.mem_cons_self
   have h3:=htop x (by rw [P.e]; simp)
   have e : o.rn.sp.f.c = n:=by show o.sp.f.c = n; rw [osp]
   unfold Eid.less at h1
   rw [e,if_neg (by omega)] at h1
   have:=of_decide_eq_true h1
   omega
 subst hA1
 have e1 : elsR (textOf L) = A0 ++ B:=by rw [P.e,List.append_nil]
 have e2 : elsR (textOf (L ++ [o])) = A0 ++ o.rn.elR ++ B:=by rw [et,P.i,(zCR _).1,List.append_nil]
 -- what is there is known
 have hnew : ∀ x : Eid,n ≤ x.c → x ∉ zAP L:=fun x hx hin=>by
  obtain ⟨e,he,rfl⟩:=(hT.ids x).1 hin
  have:=htop e he
  omega
 have hcell : ∀ x : El,cellV (L ++ [o]) h.lb x = cellV L h.lb x:=fun x=>by
  unfold cellV
  rw [zU1 hL hL2 okd]
 have hgone : ∀ x : Eid,zCK (L ++ [o]) x = zCK L x:=zW2 okd
 simp only [e1,e2,hgone,List.filter_append,List.map_append] at *
 have hc1 : ∀ E : List El,E.map (cellV (L ++ [o]) h.lb) = E.map (cellV L h.lb):=fun E=>List.map_congr_left fun x _=>hcell x
 simp only [hc1]
 -- the new ones
 have hN : (o.rn.elR.filter fun x => !zCK L x.id).map (cellV L h.lb) = newC h n row:=by
  have hid : ∀ x ∈ o.rn.elR,∃ j : Nat,x.id = ⟨h,n + j⟩ ∧ j < row.length:=fun x hx=>by
   unfold Rn.elR at hx
   obtain ⟨j,hj,rfl⟩:=List.mem_map.1 hx
   rw [List.mem_range] at hj
   have e : o.rn.sp = o.sp:=rfl
   rw [e,osp] at hj
   exact ⟨j,by show o.sp.at j = _; rw [osp]; rfl,by simpa using hj⟩
  have e3 : (o.rn.elR.filter fun x => !zCK L x.id) = o.rn.elR:=List.filter_eq_self.2 fun x hx=>by
   obtain ⟨j,hj,_⟩:=hid x hx
   cases hg : zCK L x.id with
   | false=>rfl
   | true=>exact absurd (zQF hL hg) (hnew _ (by rw [hj]; show n ≤ n + (j : Int); omega))
  rw [e3]
  unfold newC Rn.elR
  rw [List.map_map]
  have e4 : o.rn.sp.n.toNat = row.length:=by show o.sp.n.toNat = _; rw [osp]; exact Int.toNat_natCast _
  rw [e4]
  apply List.map_congr_left
  intro j hj
  rw [List.mem_range] at hj
  have e5 : o.rn.sp.at (j : Int) = ⟨h,n + j⟩:=by show o.sp.at j = _; rw [osp]; rfl
  have hxm : (⟨h,n + j⟩ : Eid).may = true:=by
   have hmr:=zJV (zIL hrof).2.2 ⟨o.rn.sp.at (j : Int),o.rn.afAt j,o.rn.rs.getD j 0⟩ (List.mem_map.2 ⟨j,List.mem_range.2 (by rw [e4]; exact hj),rfl⟩)
   have:=(El.may_iff.1 hmr).1
   rwa [e5] at this
  have hsh : zEN L ⟨h,n + j⟩ h.lb = true:=by
   refine (zU0 hL).2 ⟨⟨hxm, ?_⟩,zFX _,fun p hp hc=>?_⟩
   ·have:=(Eid.may_iff.1 hxm).1
    unfold Hd.may at this
    exact (Bool.and_eq_true _ _ ▸ this).1
   ·obtain ⟨c1,c2,_⟩:=zQP.1 hc
    exact absurd (zMI hL hp (by omega) c2) (hnew _ (by show n ≤ n + (j : Int); omega))
  simp only [Function.comp_apply,cellV,e5,hsh,if_true]
  congr 1
  show o.rs.getD j 0 = _
  rw [ors]
 rw [hN]
 -- where they stand
 generalize hG0 : (A0.filter fun x => !zCK L x.id).map (cellV L h.lb) = G0 at *
 generalize hG1 : (B.filter fun x => !zCK L x.id).map (cellV L h.lb) = G1 at *
 have hlen : G0.length = k:=by
  rcases haf with ⟨rfl,hz⟩ | ⟨hk0,c,hc,hz⟩
  ·have hA0 : A0 = []:=by
    rcases P.a with ⟨_,h1⟩ | ⟨A,w,h1,h3⟩
    ·exact h1
    ·have h4:=(hlab w (by rw [h1]; simp)).2.1
     have e : o.rn.af = af:=oaf
     rw [h3,e,hz] at h4
     exact absurd h4 (by decide)
   rw [← hG0,hA0]
   rfl
  ·have e : o.rn.af = af:=oaf
   obtain ⟨hk1,hc⟩:=List.getElem?_eq_some_iff.1 hc
   obtain ⟨x,hx,hxe,hxg⟩:=hvat c (hc ▸ List.getElem_mem hk1)
   rcases P.a with ⟨h1,_⟩ | ⟨A,w,h1,h3⟩
   ·have h4:=(hlab x hx).2.1
    rw [hxe,hz,← e,h1] at h4
    exact absurd h4 (by decide)
   ·rw [e,← hz] at h3
    have hwg : zCK L w.id = false:=by rw [h3]; exact hxg
    have e6 : G0 = (A.filter fun x => !zCK L x.id).map (cellV L h.lb) ++ [cellV L h.lb w]:=by
     rw [← hG0,h1,List.filter_append,List.map_append]
     simp [hwg]
    have hl0 : 0 < G0.length:=by rw [e6]; simp
    have hlt : G0.length - 1 < (G0 ++ G1).length:=by rw [List.length_append]; omega
    have e7 : ((G0 ++ G1)[G0.length - 1]'hlt).id = w.id:=by
     rw [List.getElem_append_left (by omega)]
     simp only [e6,List.length_append,List.length_singleton,Nat.add_sub_cancel]
     rw [List.getElem_append_right (Nat.le_refl _)]
     simp [cellV]
    have e8 : ((G0 ++ G1)[G0.length - 1]'hlt).id = ((G0 ++ G1)[k - 1]'hk1).id:=e7.trans (h3.trans (by rw [hc]))
    have e9 : G0.length - 1 = k - 1:=by
     rw [← List.map_append] at hids
     have hp:=List.pairwise_iff_getElem.1 (List.pairwise_map.1 hids)
     rcases Nat.lt_trichotomy (G0.length - 1) (k - 1) with h | h | h
     ·exact absurd e8 (hp _ _ hlt hk1 h)
     ·exact h
     ·exact absurd e8.symm (hp _ _ hk1 hlt h)
    omega
 rw [List.take_append_of_le_length (by omega),List.take_of_length_le (by omega),List.drop_append_of_le_length (by omega),List.drop_of_length_le (by omega),List.nil_append]
end Go.Proofs.YtakefgebklfhpaaGreat
namespace Go.Proofs.YtakefgebklfhpaaGreat
open Go Go.Ax
theorem zaB {h : Hd} {s n : Int} {af : Eid} {row : List Int} (hh : h.may = true) (hs : 1 ≤ s ∧ s < 16777216) (hn : 1 ≤ n ∧ n + row.length ≤ 1099511627777) (hr : 1 ≤ row.length) (hc : chkR row = 0) (ha : af = Eid.z ∨ (af.may = true ∧ af.c < n)) : (zCL h s n af row).may = true ∧ rofE (zCL h s n af row) = 0:=by
 have h64:=zRT hc
 have hf : (⟨h,n⟩ : Eid).may = true:=Eid.may_iff.2 ⟨hh,hn.1,by show n ≤ 1099511627776; omega⟩
 have hsp : (⟨⟨h,n⟩,row.length⟩ : Spn).may = true:=by
  unfold Spn.may
  rw [hf]
  simp only [Bool.true_and,Bool.and_eq_true,decide_eq_true_eq]
  show (1 ≤ (row.length : Int) ∧ (row.length : Int) ≤ 64) ∧ n + (row.length : Int) ≤ 1099511627777
  omega
 have hm : (zCL h s n af row).may = true:=by
  unfold Op.may Op.part zCL
  have e1 : decide (s < 1) = false:=decide_eq_false (by omega)
  have e2 : decide (16777216 ≤ s) = false:=decide_eq_false (by omega)
  simp only [hh,hsp,hc,e1,e2]
  rcases ha with rfl | ⟨h1,_⟩
  ·simp
  ·simp [h1]
 have hrn : (zCL h s n af row).rn.may = true:=by
  unfold Rn.may
  show ((⟨⟨h,n⟩,row.length⟩ : Spn).may && (decide (af = Eid.z) || (af.may && decide (af.c < n))) && decide ((row.length : Int) = row.length) && decide (chkR row = 0)) = true
  rw [hsp,hc]
  rcases ha with rfl | ⟨h1,h2⟩
  ·simp
  ·simp [h1,h2]
 refine ⟨hm, ?_⟩
 unfold rofE
 rw [if_pos hm,if_pos ⟨rfl,hrn⟩]
theorem zNG {l : List Op} (h : zAR [] l = true) (hok : ∀ o ∈ l,o.ok) (v : Lb) : elsR (textOf (lowL l v)) = (elsR (textOf l)).filter (lowE v):=by
 rw [(zXU h hok v).1,zPP (zBV h).ok.1,(zCR _).1]
theorem zXV (l : List Op) (h : zAR [] l = true) : (zAP l).length ≤ 192 * l.length:=by
 have hT:=zBV h
 have h1:=zFQ hT.ok.1
 have h2:=zG8 l
 have:=hT.len
 omega
theorem zWA {l : List Op} (hl : zAR [] l = true) (hok : ∀ o ∈ l,o.ok) (hlen : l.length ≤ 25) {h : Hd} {s n : Int} {af : Eid} {row : List Int} (hm : (zCL h s n af row).may = true) (hr : rofE (zCL h s n af row) = 0) (h64 : row.length ≤ 64) (htop : ∀ x ∈ elsR (textOf (lowL l h.lb)),x.id.c < n) (ha : af = Eid.z ∨ ∃ c ∈ zC4 l h.lb,c.id = af) : fitE l (zCL h s n af row) = 0:=by
 have hT:=zBV hl
 have hk : zDJ l (zCL h s n af row) = 0:=by
  unfold zDJ
  have e0 : (zCL h s n af row).kd = 1:=rfl
  rw [e0,if_pos rfl]
  unfold insE
  have hnew : ((zCL h s n af row).sp.ids.any fun x=>decide (x ∈ zAP l)) = false:=by
   rw [List.any_eq_false]
   intro x hx hin
   have hin:=of_decide_eq_true hin
   unfold Spn.ids at hx
   obtain ⟨j,hj,rfl⟩:=List.mem_map.1 hx
   obtain ⟨e,he,hid⟩:=(hT.ids _).1 hin
   have hlow : lowE h.lb e = true:=by
    unfold lowE
    rw [hid]
    exact zFX _
   have:=htop e (by rw [zNG hl hok]; exact List.mem_filter.2 ⟨he,hlow⟩)
   rw [hid] at this
   have : n + (j : Int) < n:=this
   omega
  have hsee : ¬(af ≠ Eid.z ∧ zEM l (zCL h s n af row) af = false):=by
   rintro ⟨hz,hs⟩
   rcases ha with h | ⟨c,hc,rfl⟩
   ·exact hz h
   ·obtain ⟨x,hx,hxe,_⟩:=zNZ hc
    rw [zNG hl hok] at hx
    obtain ⟨h1,h2⟩:=List.mem_filter.1 hx
    unfold zEM at hs
    have h3 : c.id ∈ zAP l:=(hT.ids _).2 ⟨x,h1,hxe⟩
    have h4 : c.id.hd.lb.leq h.lb = true:=by rw [← hxe]; exact h2
    have h5 : c.id.hd.lb.leq (zCL h s n c.id row).hd.lb = true:=h4
    rw [decide_eq_true h3,h5] at hs
    cases hs
  have ea : (zCL h s n af row).af = af:=rfl
  rw [ea,if_neg hsee,if_neg (by rintro (h | h); exact h hr; rw [hnew] at h; cases h)]
  have:=zXV l hl
  have e : (zCL h s n af row).sp.n = (row.length : Int):=rfl
  rw [e,if_neg (by omega)]
 unfold fitE
 rw [if_pos hk,if_neg (by omega)]
end Go.Proofs.YtakefgebklfhpaaGreat
namespace Go.Proofs.YtakefgebklfhpaaGreat
open Go Go.Ax
variable {fuel : Nat} {M : Mem} {Q : AV → Mem → Prop} {d : Nat} {l : List Op} {a : AV}
def wO (o : Op) : Int:=imax (imin (imax o.sp.n 0) 100) (imin (o.rs.length : Int) 1000)
def sumW (l : List Op) : Int:=(l.map wO).sum
def zLD (l : List Op) (many : Int) : Bool:=decide (many < l.length) || decide (300 < sumW (l.take 300))
theorem zPS (o : Op) : 0 ≤ wO o ∧ wO o ≤ 1000 ∧ ((o.rs.length : Int) ≤ wO o ∨ 1000 ≤ wO o):=by
 unfold wO imax imin
 repeat' split
 all_goals omega
theorem sumW_snoc (l : List Op) (o : Op) : sumW (l ++ [o]) = sumW l + wO o:=by unfold sumW; simp
theorem zKW : ∀ (l : List Op),0 ≤ sumW l ∧ sumW l ≤ 1000 * l.length
 | []=>by simp [sumW]
 | o :: l=>by
  have h1:=zKW l
  have h2:=zPS o
  unfold sumW at *
  simp only [List.map_cons,List.sum_cons,List.length_cons]
  omega
theorem zPN : ∀ (l : List Op) (o : Op),o ∈ l → wO o ≤ sumW l
 | [],_,h=>by cases h
 | p :: l,o,h=>by
  have h1:=zKW l
  have h2:=zPS p
  rcases List.mem_cons.1 h with rfl | h
  ·unfold sumW at *; simp only [List.map_cons,List.sum_cons]; omega
  ·have:=zPN l o h
   unfold sumW at *; simp only [List.map_cons,List.sum_cons]; omega
theorem zN8 {many : Int} (hm : many ≤ 300) (h : zLD l many = false) : (l.length : Int) ≤ many ∧ ∀ o ∈ l,o.rs.length ≤ 300:=by
 unfold zLD at h
 simp only [Bool.or_eq_false_iff,decide_eq_false_iff_not] at h
 refine ⟨by omega,fun o ho=>?_⟩
 have ht : l.take 300 = l:=List.take_of_length_le (by omega)
 rw [ht] at h
 have:=zPN l o ho
 have:=zPS o
 omega
set_option maxHeartbeats 4000000 in
theorem zSI {many : Int} (hS : Sl 17 isOp a l) (hf : 400 < fuel) (M : Mem) : zAE Tryz.prog (fsT tbl) fuel (d + 1) (.fn 5) [a,I64 many] M = some (BL (zLD l many),M):=by
 have ll:=hS.len
 apply zBI
 refine zAJ tf5 rfl (by simp only [icyL,fun M=>hS.icy M 12 (by omega),zN9]) (by simp [a5]) fun b' ht hx=>?_
 have h0:=hx 0 _ rfl
 have h1:=hx 1 _ rfl
 clear hx
 simp only [a5,c5] at ht ⊢
 unfold zLD
 simp (maxSteps:=2000000) (disch:=first | omega | assumption | (simp only [DS,Nat.reduceAdd, *]; done) | (simp only [DZ]; omega)) only [RUN,RU,zA2,zA1]
 refine zBG (I:=fun n t N => ∃ (i : Nat),n = 300 - i ∧ i ≤ 300 ∧ nth zA5 t 0 = a ∧ nth zA5 t 1 = I64 many ∧ nth zA5 t 5 = I64 (sumW (l.take i)) ∧ nth zA5 t 6 = I64 i ∧ N = mem0 ∧ i ≤ l.length) (n:=300) (by omega) ?_ ?_
 ·refine ⟨0,rfl,Nat.zero_le _, ?_, ?_, ?_, ?_,rfl,Nat.zero_le _⟩ <;> simp (maxSteps:=2000000) (disch:=first | omega | assumption | (simp only [DS,Nat.reduceAdd, *]; done) | (simp only [DZ]; omega)) only [RUN,RU,reduceIte,Nat.reduceEqDiff,h0,h1]
  all_goals first | rfl | assumption | done
 ·rintro n t N hlt ⟨i,rfl,hi,g0,g1,g5,g6,hm,hil⟩
  simp only [ht] at hlt ⊢
  subst hm
  by_cases hc : i < l.length
  ·have q1 : decide ((i : Int) < l.length) = true:=decide_eq_true (by omega)
   by_cases hc3 : i < 300
   ·have q2 : decide ((i : Int) < 300) = true:=decide_eq_true (by omega)
    have w1 : IntKind.i64.wrap ((i : Int) + 1) = ((i + 1 : Nat) : Int):=by rw [wrap_i64] <;> omega
    obtain ⟨r,hiad,hr,hrl⟩:=hS.iad i hc
    have hsn:=sumW_snoc (l.take i) l[i]
    rw [← take_snoc l i hc] at hsn
    have hps:=zKW (l.take i)
    rw [List.length_take] at hps
    have hwo:=zPS l[i]
    generalize l[i] = e at *
    obtain ⟨ra,rfl,hra,hok⟩:=hr
    have lra:=hra.len
    have w2 : IntKind.i64.wrap (sumW (l.take i) + wO e) = sumW (l.take (i + 1)):=by rw [hsn]; exact wrap_i64 (by omega) (by omega)
    simp (maxSteps:=2000000) (disch:=first | omega | assumption | (simp only [DS,Nat.reduceAdd, *]; done) | (simp only [DZ]; omega)) only [RUN,RU,zA2,zA1,reduceIte,Nat.reduceEqDiff,Nat.reduceBEq,Nat.reduceAdd,g0,g1,g5,g6,ll,q1,q2,w1,hiad,lra,zCW,BMM]
    refine ⟨hlt,300 - (i + 1),by omega,i + 1,rfl,by omega, ?_,rfl,by omega⟩
    show AV.sc (.int .i64 (IntKind.i64.wrap (sumW (l.take i) + wO e))) = I64 _
    rw [w2]
   ·have q2 : decide ((i : Int) < 300) = false:=decide_eq_false (by omega)
    obtain rfl : i = 300:=by omega
    cases q3 : decide (many < (l.length : Int))
    all_goals simp (maxSteps:=2000000) (disch:=first | omega | assumption | (simp only [DS,Nat.reduceAdd, *]; done) | (simp only [DZ]; omega)) only [RUN,RU,zA2,zA1,zA0,zAA,frzL,reduceIte,Nat.reduceEqDiff,Nat.reduceSub,g0,g1,g5,g6,ll,q1,q2,q3]
  ·have q1 : decide ((i : Int) < l.length) = false:=decide_eq_false (by omega)
   obtain rfl : i = l.length:=by omega
   have et : l.take 300 = l.take l.length:=by rw [List.take_of_length_le (Nat.le_refl _),List.take_of_length_le (by omega)]
   rw [et]
   cases q3 : decide (many < (l.length : Int))
   all_goals simp (maxSteps:=2000000) (disch:=first | omega | assumption | (simp only [DS,Nat.reduceAdd, *]; done) | (simp only [DZ]; omega)) only [RUN,RU,zA2,zA1,zA0,zAA,frzL,reduceIte,Nat.reduceEqDiff,g0,g1,g5,g6,ll,q3]
end Go.Proofs.YtakefgebklfhpaaGreat
namespace Go.Proofs.YtakefgebklfhpaaGreat
open Go Go.Ax
variable {fuel : Nat} {M : Mem} {Q : AV → Mem → Prop} {d : Nat} {l : List Op} {a ra : AV} {v : Lb} {o : Op}
def zVK (l : List Op) (o : Op) : Int:=if zAR [] l = true then (if o.may = true then fitE l o else 8) else 8
set_option maxHeartbeats 4000000 in
theorem zMX (hS : Sl 17 isOp a l) (hl : l.length ≤ 10000) (hf : l.length + 400 < fuel) (hR : Sl 1 zB4 ra o.rs) (ho : o.ok) (M : Mem) : zAE Tryz.prog (fsT tbl) fuel (d + 14) (.fn 10) [a,.agg (opR o ra)] M = some (I64 (zVK l o),M):=by
 have ora:=hR.one
 have hck:=fun M=>@zDA fuel (d + 6) o ra hR ho (by omega) M
 apply zBI
 refine zAJ tf10 rfl (by simp only [icyL,fun M=>hS.icy M 12 (by omega),zJC hR.fz]) (by simp [a10]) fun b' ht hx=>?_
 have h0:=hx 0 _ rfl
 have h1:=hx 1 _ rfl
 clear hx
 simp only [a10,c10] at ht ⊢
 unfold zVK
 simp (maxSteps:=2000000) (disch:=first | omega | assumption | (simp only [DS,Nat.reduceAdd, *]; done) | (simp only [DZ]; omega)) only [RUN,RU,zA2,zA1,reduceIte,Nat.reduceEqDiff,h0,h1]
 refine of_0 (d:=d) hS hl hf (Wf.mem0.add _) (Nat.zero_le _) (fun N w s k hh=>?_) (fun N ops w s wm k hh hH htl=>?_)
 ·rw [if_neg (by rw [hh]; decide)]
  simp (maxSteps:=2000000) (disch:=first | omega | assumption | (simp only [DS,Nat.reduceAdd, *]; done) | (simp only [DZ]; omega)) only [RUN,RU,zA2,zA1,zA0,zAA,frzL,reduceIte,Nat.reduceEqDiff]
 ·rw [if_pos hh]
  have g0 : N.get 0 = some (.row false (opR o ra)):=by rw [k 0 (by simp (maxSteps:=2000000) (disch:=first | omega | assumption | (simp only [DS,Nat.reduceAdd, *]; done) | (simp only [DZ]; omega)) only [RUN,RU,Nat.reduceLT])]; simp (maxSteps:=2000000) (disch:=first | omega | assumption | (simp only [DS,Nat.reduceAdd, *]; done) | (simp only [DZ]; omega)) only [RUN]
  have l0:=Mem.get_lt g0
  cases hm : o.may with
  | false =>
   rw [hm] at hck
   simp (maxSteps:=2000000) (disch:=first | omega | assumption | (simp only [DS,Nat.reduceAdd, *]; done) | (simp only [DZ]; omega)) only [RUN,RU,zA2,zA1,zA0,zAA,frzL,slot,reduceIte,Nat.reduceEqDiff,Nat.reduceAdd,Int.reduceEq,g0,hck,zBF,Bool.false_eq_true,if_false]
  | true =>
   rw [hm] at hck
   simp (maxSteps:=2000000) (disch:=first | omega | assumption | (simp only [DS,Nat.reduceAdd, *]; done) | (simp only [DZ]; omega)) only [RUN,RU,zA2,zA1,slot,reduceIte,Nat.reduceEqDiff,Nat.reduceAdd,g0,hck,zB0,if_true]
   refine zYB (d:=d + 1) hH (by omega) (by omega) hR ho hm (by omega) w (by rw [wm]; exact Nat.zero_le _) fun N2 hN2=>?_
   simp (maxSteps:=2000000) (disch:=first | omega | assumption | (simp only [DS,Nat.reduceAdd, *]; done) | (simp only [DZ]; omega)) only [RUN,RU,zA2,zA1,zA0,zAA,frzL,reduceIte,Nat.reduceEqDiff]
end Go.Proofs.YtakefgebklfhpaaGreat
namespace Go.Proofs.YtakefgebklfhpaaGreat
open Go Go.Ax
variable {fuel : Nat} {M : Mem} {Q : AV → Mem → Prop} {d : Nat} {l : List Op} {a : AV} {v u : Lb}
theorem left_of {k : Int} (h : zND l v k = 0) : zFD l v = 0 ∧ 0 ≤ k ∧ k ≤ (zC4 l v).length:=by
 unfold zND at h
 split at h
 ·rename_i h1
  split at h
  ·cases h
  ·exact ⟨h1,by omega,by omega⟩
 ·rename_i h1
  exact absurd h h1
theorem zaI {h : Hd} (hn : zQK l h = 0) : h.may = true ∧ topH l h < 1099511627776 ∧ zH4 l h = topH l h + 1:=by
 have h0:=hn
 unfold zQK at hn
 unfold zH4
 rw [if_pos h0]
 split at hn
 ·split at hn
  ·split at hn
   ·cases hn
   ·exact ⟨by assumption,by omega,rfl⟩
  ·cases hn
 ·cases hn
theorem left_at {k : Int} (h : zND l v k = 0) : (k.toNat = 0 ∧ zFW l v k = Eid.z) ∨ (0 < k.toNat ∧ ∃ c,(zC4 l v)[k.toNat - 1]? = some c ∧ c.id = zFW l v k):=by
 obtain ⟨h1,h2,h3⟩:=left_of h
 unfold zFW
 by_cases hk : 0 < k
 ·right
  have e : (k - 1).toNat = k.toNat - 1:=by omega
  have hlt : k.toNat - 1 < (zC4 l v).length:=by omega
  rw [if_pos ⟨h,hk⟩,e,List.getElem?_eq_getElem hlt]
  exact ⟨by omega,_,rfl,rfl⟩
 ·left
  rw [if_neg (fun h=>hk h.2)]
  exact ⟨by omega,rfl⟩
theorem zT8 (h : Hd) (n : Int) (row : List Int) (i : Nat) (hi : i < row.length) : (newC h n row).take (i + 1) = (newC h n row).take i ++ [⟨⟨h,n + i⟩,row[i]⟩]:=by
 have hl : (newC h n row).length = row.length:=by simp [newC]
 rw [take_snoc _ i (by omega)]
 congr 2
 unfold newC
 rw [List.getElem_map,List.getElem_range,List.getD_eq_getElem?_getD,List.getElem?_eq_getElem hi]
 rfl
theorem cells_ok {r : AV} {cs : List CellV} (h : Sl 5 zD6 r cs) : ∀ c ∈ cs,c.id.ok:=by
 intro c hc
 obtain ⟨i,hi,rfl⟩:=List.getElem_of_mem hc
 obtain ⟨_,_,⟨_,hok⟩,_⟩:=h.iad i hi
 exact hok
set_option maxHeartbeats 16000000 in
theorem zXX {k : Int} {h : Hd} {b : AV} {row : List Int} (hS : Sl 17 isOp a l) (hok : ∀ o ∈ l,o.ok) (hb : Sl 1 zB4 b row) (hor : i32s row) (hho : h.ok) (M : Mem) : zAE Tryz.prog (fsT tbl) 4000000 61 (.fn 3) [a,hdA h,I64 k,b] M = some (BL true,M):=by
 have ll:=hS.len
 have lb:=hb.len
 have ob:=hb.one
 have hal:=zR7
 have hgr:=fun M=>zSI (fuel:=4000000) (d:=59) (many:=25) hS (by omega) M
 have hrc:=fun M=>zGL (fuel:=4000000) (d:=55) hb (by omega) M
 apply zBI
 refine zAJ tf3 rfl (by simp only [icyL,fun M=>hS.icy M 12 (by omega),fun M=>hb.icy M 12 (by omega),zB2 (zYF h) (show 1 < 12 by omega),zN9]) (by simp [a3]) fun b' ht hx=>?_
 have h0:=hx 0 _ rfl
 have h1:=hx 1 _ rfl
 have h2:=hx 2 _ rfl
 have h3:=hx 3 _ rfl
 clear hx
 simp only [a3,c3] at ht ⊢
 cases q1 : zLD l 25 with
 | true =>
  rw [q1] at hgr
  simp (maxSteps:=2000000) (disch:=first | omega | assumption | (simp only [DS,Nat.reduceAdd, *]; done) | (simp only [DZ]; omega)) only [RUN,RU,zA2,zA1,zA0,zAA,frzL,reduceIte,Nat.reduceEqDiff,h0,h1,hal,hgr]
 | false =>
  rw [q1] at hgr
  obtain ⟨hl25,hrs⟩:=zN8 (by omega) q1
  have hrs2 : ∀ o ∈ l,o.rs.length ≤ 1000000000:=fun o ho=>by have:=hrs o ho; omega
  by_cases q2 : row.length < 1
  ·have q2' : decide ((row.length : Int) < 1) = true:=decide_eq_true (by omega)
   simp (maxSteps:=2000000) (disch:=first | omega | assumption | (simp only [DS,Nat.reduceAdd, *]; done) | (simp only [DZ]; omega)) only [RUN,RU,zA2,zA1,zA0,zAA,frzL,reduceIte,Nat.reduceEqDiff,h0,h1,h3,hal,hgr,lb,q2']
  have q2' : decide ((row.length : Int) < 1) = false:=decide_eq_false (by omega)
  by_cases q3 : 64 < row.length
  ·have q3' : decide ((64 : Int) < row.length) = true:=decide_eq_true (by omega)
   simp (maxSteps:=2000000) (disch:=first | omega | assumption | (simp only [DS,Nat.reduceAdd, *]; done) | (simp only [DZ]; omega)) only [RUN,RU,zA2,zA1,zA0,zAA,frzL,reduceIte,Nat.reduceEqDiff,h0,h1,h3,hal,hgr,lb,q2',q3']
  have q3' : decide ((64 : Int) < row.length) = false:=decide_eq_false (by omega)
  by_cases q4 : chkR row = 0
  ·have q4':=decide_eq_true q4
   obtain ⟨rp,⟨r1,rfl,hr1⟩,hc1⟩:=zHO (fuel:=4000000) (d:=42) (v:=h.lb) hS (by omega) (by omega) hrs2
   have hlf:=fun M=>zWJ (fuel:=4000000) (d:=41) (v:=h.lb) (k:=k) hS (by omega) (by omega) hrs2 M
   have hnx:=fun M=>zUE (fuel:=4000000) (d:=41) (h:=h) hS (by omega) (by omega) M
   by_cases q5 : zND l h.lb k = 0
   ·obtain ⟨q6,q7,q8⟩:=left_of q5
    obtain ⟨k,rfl⟩ : ∃ m : Nat,k = m:=⟨k.toNat,by omega⟩
    have q5':=decide_eq_true q5
    have q6':=decide_eq_true q6
    have haf:=left_at q5
    simp only [Int.toNat_natCast] at haf
    by_cases q9 : zQK l h = 0
    ·obtain ⟨n1,n2,n3⟩:=zaI q9
     have q9':=decide_eq_true q9
     by_cases qa : 1099511627712 < zH4 l h
     ·have qa':=decide_eq_true qa
      simp (maxSteps:=2000000) (disch:=first | omega | assumption | (simp only [DS,Nat.reduceAdd, *]; done) | (simp only [DZ]; omega)) only [RUN,RU,zA2,zA1,zA0,zAA,frzL,slot,lay,reduceIte,Nat.reduceEqDiff,Nat.reduceAdd,h0,h1,h2,h3,hal,hgr,lb,q2',q3',hrc,q4',hc1,hlf,hnx,q5',q6',q9',qa']
     have qa':=decide_eq_false qa
     obtain ⟨hist,_⟩:=zP5 q6
     have tge:=zUA (cs:=zCG (elsR (textOf l))) (v:=h.lb)
     have htop : ∀ x ∈ elsR (textOf (lowL l h.lb)),x.id.c < zH4 l h:=fun x hx=>by
      rw [zNG hist hok] at hx
      obtain ⟨e1,e2⟩:=List.mem_filter.1 hx
      have e3 : x.id.c ≤ topH l h:=tge.2 ⟨x.id,x.ch⟩ (List.mem_map.2 ⟨x,e1,rfl⟩) e2
      omega
     have hn1 : 1 ≤ zH4 l h ∧ zH4 l h ≤ 1099511627712:=⟨by have : 0 ≤ topH l h:=tge.1; omega,by omega⟩
     have hafv : zFW l h.lb k = Eid.z ∨ ∃ c ∈ zC4 l h.lb,c.id = zFW l h.lb k:=haf.imp (fun h=>h.2) fun h=>by
      obtain ⟨_,c,e1,e2⟩:=h
      exact ⟨c,List.mem_of_getElem? e1,e2⟩
     have hafm : zFW l h.lb k = Eid.z ∨ ((zFW l h.lb k).may = true ∧ (zFW l h.lb k).c < zH4 l h):=hafv.imp (fun h=>h) fun ⟨c,e1,e2⟩=>by
      obtain ⟨x,x1,x2,_⟩:=zNZ e1
      rw [← e2,← x2]
      exact ⟨(zRZ hist x x1).2.2,htop x x1⟩
     have hafok : (zFW l h.lb k).ok:=by
      rcases hafv with e | ⟨c,e1,e2⟩
      ·rw [e]; exact Eid.z_ok
      ·rw [← e2]; exact cells_ok (by rw [q6] at hr1; simpa using hr1) c e1
     obtain ⟨om,orf⟩:=zaB (s:=1) n1 (by omega) ⟨hn1.1,by omega⟩ (by omega) q4 hafm
     have ofit:=zWA hist hok (by omega) om orf (by omega) htop hafv
     have hview:=zWD hist om ofit htop (k:=k) (by omega) haf
     have h9 : zAR [] (l ++ [zCL h 1 (zH4 l h) (zFW l h.lb k) row]) = true:=by rw [zDU,hist,om,ofit]; rfl
     have odf : zVK l (zCL h 1 (zH4 l h) (zFW l h.lb k) row) = 0:=by unfold zVK; rw [if_pos hist,if_pos om]; exact ofit
     rw [q6] at hr1 hc1
     simp only [if_true] at hr1
     rw [q5] at hlf
     rw [q9] at hnx
     clear hafm hafv htop ofit orf haf tge q5' q6' q9' n3
     generalize zH4 l h = n at *
     generalize zFW l h.lb k = af at *
     have ook : (zCL h 1 n af row).ok:=⟨by show (0 : Int) ≤ 1 ∧ (1 : Int) ≤ 255; decide,hho,by unfold i64R; show -9223372036854775808 ≤ (1 : Int) ∧ (1 : Int) ≤ 9223372036854775807; decide,⟨⟨hho,by unfold i64R; show -9223372036854775808 ≤ n ∧ n ≤ 9223372036854775807; omega⟩,by unfold i64R; show -9223372036854775808 ≤ (row.length : Int) ∧ (row.length : Int) ≤ 9223372036854775807; omega⟩,hafok,Lb.z_ok,hor⟩
     have hft : ∀ M,zAE Tryz.prog (fsT tbl) 4000000 60 (.fn 10) [a,.agg [U8 1,U8 h.lb.lv,U32 h.lb.cats,U8 h.num,I64 1,U8 h.lb.lv,U32 h.lb.cats,U8 h.num,I64 n,I64 row.length,U8 af.hd.lb.lv,U32 af.hd.lb.cats,U8 af.hd.num,I64 af.c,U8 0,U32 0,b]] M = some (I64 0,M):=fun M=>by
      have:=zMX (fuel:=4000000) (d:=46) hS (by omega) (by omega) (o:=zCL h 1 n af row) hb ook M
      rw [odf] at this
      exact this
     simp (maxSteps:=2000000) (disch:=first | omega | assumption | (simp only [DS,Nat.reduceAdd, *]; done) | (simp only [DZ]; omega)) only [RUN,RU,zA2,zA1,slot,reduceIte,Nat.reduceEqDiff,h0,h1,h3,hal,hgr,lb,q2',q3',hrc,q4']
     simp (maxSteps:=2000000) (disch:=first | omega | assumption | (simp only [DS,Nat.reduceAdd, *]; done) | (simp only [DZ]; omega)) only [RUN,RU,zA2,zA1,slot,lay,reduceIte,Nat.reduceEqDiff,Nat.reduceAdd,h0,h2,hc1,hlf]
     simp (maxSteps:=2000000) (disch:=first | omega | assumption | (simp only [DS,Nat.reduceAdd, *]; done) | (simp only [DZ]; omega)) only [RUN,RU,zA2,zA1,slot,lay,zAI,reduceIte,Nat.reduceEqDiff,Nat.reduceBEq,Nat.reduceAdd,h3,hnx,qa']
     simp (maxSteps:=2000000) (disch:=first | omega | assumption | (simp only [DS,Nat.reduceAdd, *]; done) | (simp only [DZ]; omega)) only [RUN,RU,zA2,zA1,slot,lay,zAI,reduceIte,Nat.reduceEqDiff,Nat.reduceBEq,Nat.reduceAdd,h0,h3,hS.fz.rows,hb.fz.cells,lb,hft,↓zc4,zZD]
     refine zPR (bytes:=112) (by simp (maxSteps:=2000000) (disch:=first | omega | assumption | (simp only [DS,Nat.reduceAdd, *]; done) | (simp only [DZ]; omega)) only [RUN]) SlM.nil zN7.cel hS (by omega) (by simp; omega) (by simp; omega) fun o1 M1 m1 w1 le1 sz1 kp1 nw1 wm1 rl1 on1 oc1=>?_
     have g0:=kp1 0 (by simp only [zA6,zA9,zB1]; omega) (by simp [rowOf])
     have g1:=kp1 1 (by simp only [zA6,zA9,zB1]; omega) (by simp [rowOf])
     have g2:=kp1 2 (by simp only [zA6,zA9,zB1]; omega) (by simp [rowOf])
     have nn1 : ∀ id,rowOf o1 = some id → 3 ≤ id:=fun id h=>by
      rcases nw1 id h with h' | h'
      ·cases h'
      ·simp only [zA6,zA9,zB1] at h'; exact h'
     simp only [zA6,zA9,zB1,Nat.reduceAdd] at le1
     simp (maxSteps:=2000000) (disch:=first | omega | assumption | (simp only [DS,Nat.reduceAdd, *]; done) | (simp only [DZ]; omega)) only [RUN] at g0 g1 g2
     clear kp1 nw1 sz1
     rw [List.nil_append] at m1
     have ap0:=@zO9 0 3 M1.size (by omega)
     have ap2:=@zO9 2 3 M1.size (by omega)
     have rl1':=zAT m1.rl (Nat.le_succ M1.size)
     simp (maxSteps:=2000000) (disch:=first | omega | assumption | (simp only [DS,Nat.reduceAdd, *]; done) | (simp only [DZ]; omega)) only [RUN,RU,zA2,slot,lay,zAI,zAB,reduceIte,Nat.reduceEqDiff,Nat.reduceBEq,Nat.reduceAdd,g2,rl1',ap2,zUT]
     refine app1 (bytes:=112) (x:=zCL h 1 n af row) w1 m1 zN7 ⟨b,rfl,hb,ook⟩ rfl (by omega) (by omega) (by omega) fun o2 M2 m2 w2 le2 kp2 nw2 wm2 rl2 on2 oc2=>?_
     have k0:=(kp2 0 (by omega) (fun h=>by have:=nn1 _ h; omega)).trans g0
     have nn2 : ∀ id,rowOf o2 = some id → 3 ≤ id:=fun id h=>by
      rcases nw2 id h with h' | h'
      ·exact nn1 id h'
      ·omega
     have ap3:=zO8 0 [] [] M1.size (M1.size + 1) (by omega) (fun j hj=>absurd hj (by simp))
     have ap4:=zO8 0 [M1.size] (rowsOf o1) (M1.size + 1) M2.size (by omega) (fun j hj=>by have:=nn1 j (m1.rowOf_mem j hj); omega)
     clear kp2 nw2 g0 g1 g2
     simp (maxSteps:=2000000) (disch:=first | omega | assumption | (simp only [DS,Nat.reduceAdd, *]; done) | (simp only [DZ]; omega)) only [RUN,RU,zA2,slot,reduceIte,Nat.reduceEqDiff,Nat.reduceBEq,Nat.reduceAdd,k0,ap0,ap3,ap4,zC5]
     have hlb : h.lb.may = true:=(zP5 q6).2
     have hd2 : ∀ o ∈ l ++ [zCL h 1 n af row],o.rs.length ≤ 1000000000:=fun o ho=>by
      rcases List.mem_append.1 ho with ho | ho
      ·exact hrs2 o ho
      ·rw [List.mem_singleton] at ho
       subst ho
       show row.length ≤ _
       omega
     refine SlR.hand (rest:=[lbA h.lb]) (n:=59) (R:=zRO (l ++ [zCL h 1 n af row]) h.lb) tf7 rfl ((SlR.of m2).keep (N:=M2.lo) fun _=>rfl) ((zNF M2).mpr w2) zN7 (fun M=>by simp only [icyL,zB2 (zDS h.lb) (show 1 < 12 by omega)]) (fun a' ha'=>zHO (fuel:=4000000) (d:=42) ha' (by simp; omega) (by omega) hd2) fun r M3 hr w3 s3 m3 k3=>?_
     obtain ⟨r7,rfl,hr7⟩:=hr
     have qb : zFD (l ++ [zCL h 1 n af row]) h.lb = 0:=by unfold zFD; rw [h9,hlb]; rfl
     rw [qb] at hr7 ⊢
     simp only [if_true] at hr7
     rw [hview] at hr7
     have g30:=(k3 0 (fun h=>by have:=nn2 _ h; omega)).trans k0
     have hvl:=zPQ hist h.lb
     have nl : (newC h n row).length = row.length:=by simp [newC]
     obtain ⟨sa,hsa,hsl⟩:=zXO hr1 (j:=k) (by omega)
     obtain ⟨sb,hsb,hsm⟩:=zNX hr1 (i:=k) (by omega)
     clear k3 m3 m2 m1
     have w3b : Wf (M2.bk M3):=(zPZ M2 M3).mpr w3
     have g3b : (M2.bk M3).get 0 = some (.row false (hdR h)):=(zY6 M2 M3 0).trans g30
     simp (maxSteps:=2000000) (disch:=first | omega | assumption | (simp only [DS,Nat.reduceAdd, *]; done) | (simp only [DZ]; omega)) only [RUN,RU,zA2,zA1,reduceIte,Nat.reduceEqDiff,Nat.reduceBEq,Nat.reduceAdd,h2,hr1.fz.rows,hsa,hsl.fz.rows]
     revert w3b g3b
     generalize M2.bk M3 = X3
     intro w3b g3b
     refine zPR (bytes:=32) w3b SlM.nil zEG.cel hsl (by omega) (by simp; omega) (by simp; omega) fun o4 M4 m4 w4 le4 sz4 kp4 nw4 wm4 rl4 on4 oc4=>?_
     have g40:=(kp4 0 (by have:=Mem.get_lt g3b; omega) (by simp [rowOf])).trans g3b
     have nn4 : ∀ id,rowOf o4 = some id → 1 ≤ id:=fun id h=>by
      rcases nw4 id h with h' | h'
      ·cases h'
      ·have:=Mem.get_lt g3b; omega
     rw [List.nil_append] at m4
     simp (maxSteps:=2000000) (disch:=first | omega | assumption | (simp only [DS,Nat.reduceAdd, *]; done) | (simp only [DZ]; omega)) only [RUN,RU,zA2,zA1,reduceIte,Nat.reduceEqDiff]
     clear kp4 nw4 g30 g3b
     refine zBG (I:=fun nq tq Nq => ∃ (iq : Nat) (p : AV),nq = row.length - iq ∧ iq ≤ row.length ∧ nth zA5 tq 2 = I64 k ∧ nth zA5 tq 3 = b ∧ nth zA5 tq 5 = .ptr 0 0 ∧ nth zA5 tq 9 = BL true ∧ nth zA5 tq 10 = r1 ∧ nth zA5 tq 14 = I64 n ∧ nth zA5 tq 17 = r7 ∧ nth zA5 tq 18 = I64 0 ∧ nth zA5 tq 19 = p ∧ nth zA5 tq 20 = I64 iq ∧ Wf Nq ∧ Nq.get 0 = some (.row false (hdR h)) ∧ SlM Nq 5 zD6 p ((zC4 l h.lb).take k ++ (newC h n row).take iq) ∧ (∀ j,rowOf p = some j → 1 ≤ j)) (n:=row.length) (by omega) ?_ ?_
     ·refine ⟨0,o4,rfl,Nat.zero_le _, ?_, ?_, ?_, ?_, ?_, ?_, ?_, ?_, ?_, ?_,w4,g40,(by simpa using m4),nn4⟩ <;> simp (maxSteps:=2000000) (disch:=first | omega | assumption | (simp only [DS,Nat.reduceAdd, *]; done) | (simp only [DZ]; omega)) only [RUN,reduceIte,Nat.reduceEqDiff,h2,h3]
      all_goals first | rfl | assumption | done
     ·rintro nq tq Nq hltq ⟨iq,p,rfl,hiq,gq2,gq3,gq5,gq9,gq10,gq14,gq17,gq18,gq19,gq20,w,m0,sm,nr⟩
      simp only [ht] at hltq ⊢
      have oo:=sm.one
      have oc:=sm.cells
      have l0:=Mem.get_lt m0
      have hll : ((zC4 l h.lb).take k ++ (newC h n row).take iq).length ≤ 10000:=by
       rw [List.length_append,List.length_take,List.length_take]; omega
      by_cases hc : iq < row.length
      ·have c1 : decide ((iq : Int) < row.length) = true:=decide_eq_true (by omega)
       have e1 : IntKind.i64.wrap ((iq : Int) + 1) = ((iq + 1 : Nat) : Int):=by rw [wrap_i64] <;> omega
       have e2 : IntKind.i64.wrap (n + (iq : Int)) = n + iq:=by rw [wrap_i64] <;> omega
       obtain ⟨rc,hiad,hrc,hrcl⟩:=hb.iad iq hc
       have hrc : rc = [I32 row[iq]]:=hrc
       subst hrc
       have hts:=zT8 h n row iq hc
       have rlp:=zAT sm.rl (Nat.le_refl Nq.size)
       have rlp':=zAT sm.rl (Nat.le_succ Nq.size)
       have hcok : (⟨h,n + iq⟩ : Eid).ok:=⟨hho,by show -9223372036854775808 ≤ n + (iq : Int) ∧ n + (iq : Int) ≤ 9223372036854775807; omega⟩
       simp (maxSteps:=2000000) (disch:=first | omega | assumption | (simp only [DS,Nat.reduceAdd, *]; done) | (simp only [DZ]; omega)) only [RUN,RU,zA2,zA1,slot,lay,zAI,zAB,reduceIte,Nat.reduceEqDiff,Nat.reduceBEq,Nat.reduceAdd,gq3,gq5,gq14,gq19,gq20,lb,c1,m0,hiad,e2,rlp']
       refine app1 (bytes:=32) (x:=⟨⟨h,n + iq⟩,row[iq]⟩) w sm zEG ⟨rfl,hcok⟩ rfl (by omega) (by omega) (by omega) fun p2 M5 m5 w5 le5 kp5 nw5 wm5 rl5 on5 oc5=>?_
       simp (maxSteps:=2000000) (disch:=first | omega | assumption | (simp only [DS,Nat.reduceAdd, *]; done) | (simp only [DZ]; omega)) only [RUN,RU,zA2,zA1,reduceIte,Nat.reduceEqDiff,Nat.reduceAdd,gq2,gq3,gq5,gq9,gq10,gq14,gq17,gq18,gq19,gq20,w5,e1]
       refine ⟨hltq,row.length - (iq + 1),by omega,iq + 1,p2,rfl,by omega,rfl,rfl, ?_,by rw [hts,← List.append_assoc]; exact m5,fun j hj=>?_⟩
       ·rw [kp5 0 l0 (fun h=>by have:=nr _ h; omega)]; exact m0
       ·rcases nw5 j hj with h | h
        ·exact nr j h
        ·omega
      ·obtain rfl : iq = row.length:=by omega
       have c1 : decide ((row.length : Int) < row.length) = false:=decide_eq_false (by omega)
       rw [List.take_of_length_le (show (newC h n row).length ≤ row.length by omega)] at sm
       simp (maxSteps:=2000000) (disch:=first | omega | assumption | (simp only [DS,Nat.reduceAdd, *]; done) | (simp only [DZ]; omega)) only [RUN,RU,zA2,zA1,reduceIte,Nat.reduceEqDiff,gq2,gq3,gq9,gq10,gq17,gq18,gq19,gq20,lb,hsb,hr1.fz.rows,hsm.fz.rows]
       refine ⟨zAT sm.rl (Nat.le_refl _), ?_⟩
       refine zPR (bytes:=32) w sm zEG.cel hsm (by omega) (by simp; omega) (by simp; omega) fun o5 M5 m5 w5 le5 sz5 kp5 nw5 wm5 rl5 on5 oc5=>?_
       have hl7 : ((zC4 l h.lb).take k ++ newC h n row ++ (zC4 l h.lb).drop k).length ≤ 10000:=by simp; omega
       simp (maxSteps:=2000000) (disch:=first | omega | assumption | (simp only [DS,Nat.reduceAdd, *]; done) | (simp only [DZ]; omega)) only [RUN,RU,zA2,zA1,reduceIte,Nat.reduceEqDiff]
       refine SlR.hand2 (n:=59) (R:=fun r=>r = BL true) tf11 rfl (SlR.of m5) w5 zEG (fun M=>hr7.icy M 12 (by omega)) (fun o' ho'=>⟨_,rfl,fun M=>by
        have:=zKR (fuel:=4000000) (d:=59) hr7 ho' (by omega) (by omega) M
        rw [decide_eq_true rfl] at this
        exact this⟩) fun r M6 hr w6 s6 n6 k6=>?_
       subst hr
       simp (maxSteps:=2000000) (disch:=first | omega | assumption | (simp only [DS,Nat.reduceAdd, *]; done) | (simp only [DZ]; omega)) only [RUN,RU,zA2,zA1,zA0,zAA,frzL,reduceIte,Nat.reduceEqDiff]
    ·have q9':=decide_eq_false q9
     simp (maxSteps:=2000000) (disch:=first | omega | assumption | (simp only [DS,Nat.reduceAdd, *]; done) | (simp only [DZ]; omega)) only [RUN,RU,zA2,zA1,zA0,zAA,frzL,slot,lay,reduceIte,Nat.reduceEqDiff,Nat.reduceAdd,h0,h1,h2,h3,hal,hgr,lb,q2',q3',hrc,q4',hc1,hlf,hnx,q5',q6',q9']
   ·have q5':=decide_eq_false q5
    by_cases q6 : zFD l h.lb = 0
    ·have q6':=decide_eq_true q6
     simp (maxSteps:=2000000) (disch:=first | omega | assumption | (simp only [DS,Nat.reduceAdd, *]; done) | (simp only [DZ]; omega)) only [RUN,RU,zA2,zA1,zA0,zAA,frzL,slot,lay,reduceIte,Nat.reduceEqDiff,Nat.reduceAdd,h0,h1,h2,h3,hal,hgr,lb,q2',q3',hrc,q4',hc1,hlf,hnx,q5',q6']
    ·have q6':=decide_eq_false q6
     simp (maxSteps:=2000000) (disch:=first | omega | assumption | (simp only [DS,Nat.reduceAdd, *]; done) | (simp only [DZ]; omega)) only [RUN,RU,zA2,zA1,zA0,zAA,frzL,slot,lay,reduceIte,Nat.reduceEqDiff,Nat.reduceAdd,h0,h1,h2,h3,hal,hgr,lb,q2',q3',hrc,q4',hc1,hlf,hnx,q6']
  ·have q4':=decide_eq_false q4
   simp (maxSteps:=2000000) (disch:=first | omega | assumption | (simp only [DS,Nat.reduceAdd, *]; done) | (simp only [DZ]; omega)) only [RUN,RU,zA2,zA1,zA0,zAA,frzL,reduceIte,Nat.reduceEqDiff,h0,h1,h3,hal,hgr,lb,q2',q3',hrc,q4']
end Go.Proofs.YtakefgebklfhpaaGreat
namespace Go.Proofs.YtakefgebklfhpaaGreat
open Go Go.Ax
abbrev gLb : GT:=.ag [.int .u8,.int .u32]
abbrev gHd : GT:=.ag [gLb,.int .u8]
abbrev gId : GT:=.ag [gHd,.int .i64]
abbrev gSp : GT:=.ag [gId,.int .i64]
abbrev gOp : GT:=.ag [.int .u8,gHd,.int .i64,gSp,gId,gLb,.sl (.int .i32)]
theorem zF3 {n : Int} (h : (Lit.int .u8 n).wf = true) : 0 ≤ n ∧ n ≤ 255:=by
 simp [Lit.wf,IntKind.min,IntKind.max,IntKind.signed,IntKind.bits] at h
 omega
theorem zIK {n : Int} (h : (Lit.int .u32 n).wf = true) : 0 ≤ n ∧ n < 4294967296:=by
 simp [Lit.wf,IntKind.min,IntKind.max,IntKind.signed,IntKind.bits] at h
 omega
theorem zKO {n : Int} (h : (Lit.int .i64 n).wf = true) : i64R n:=by
 simp [Lit.wf,IntKind.min,IntKind.max,IntKind.signed,IntKind.bits] at h
 unfold i64R
 omega
def zSQ (r : List AV) (x : Int) : Prop:=zB4 r x ∧ (-2147483648 ≤ x ∧ x ≤ 2147483647)
theorem zd5 (r : List AV) (h : Is (.int .i32) r) : ∃ x,zSQ r x:=by
 simp only [Is] at h
 obtain ⟨n,rfl,hw⟩:=h
 refine ⟨n,rfl, ?_⟩
 simp [Lit.wf,IntKind.min,IntKind.max,IntKind.signed,IntKind.bits] at hw
 omega
theorem zO7 : ∀ {rows : List (List AV)} {l : List Int},All2 zSQ rows l → All2 zB4 rows l ∧ i32s l
 | _,_,.nil=>⟨.nil,fun x h=>by cases h⟩
 | _,_,.cons a t=>by
  obtain ⟨h1,h2⟩:=zO7 t
  refine ⟨.cons a.1 h1,fun x h=>?_⟩
  rcases List.mem_cons.1 h with rfl | h
  ·exact a.2
  ·exact h2 x h
theorem ze7 {a : AV} {l : List Int} (h : Sl 1 zSQ a l) : Sl 1 zB4 a l ∧ i32s l:=by
 rcases h with ⟨rfl,rfl⟩ | ⟨rows,cap,rfl,hA,hr⟩
 ·exact ⟨.inl ⟨rfl,rfl⟩,fun x h=>by cases h⟩
 ·obtain ⟨h1,h2⟩:=zO7 hA
  exact ⟨.inr ⟨rows,cap,rfl,h1,hr⟩,h2⟩
theorem zP3 {r : List AV} (h : Is (.sl (.int .i32)) r) : ∃ a l,r = [a] ∧ Sl 1 zB4 a l ∧ i32s l:=by
 obtain ⟨a,l,e,hs⟩:=Is.slice zd5 h
 obtain ⟨h1,h2⟩:=ze7 hs
 exact ⟨a,l,e,h1,h2⟩
theorem of_op (r : List AV) (h : Is gOp r) : ∃ x,isOp r x:=by
 simp only [Is,IsL] at h
 obtain ⟨_,_,rfl,⟨n1,rfl,w1⟩,_,_,rfl,⟨_,_,rfl,⟨_,_,rfl,⟨n2,rfl,w2⟩,_,_,rfl,⟨n3,rfl,w3⟩,rfl⟩,_,_,rfl,⟨n4,rfl,w4⟩,rfl⟩,_,_,rfl,⟨n5,rfl,w5⟩,_,_,rfl,⟨_,_,rfl,⟨_,_,rfl,⟨_,_,rfl,⟨_,_,rfl,⟨n6,rfl,w6⟩,_,_,rfl,⟨n7,rfl,w7⟩,rfl⟩,_,_,rfl,⟨n8,rfl,w8⟩,rfl⟩,_,_,rfl,⟨n9,rfl,w9⟩,rfl⟩,_,_,rfl,⟨n10,rfl,w10⟩,rfl⟩,_,_,rfl,⟨_,_,rfl,⟨_,_,rfl,⟨_,_,rfl,⟨n11,rfl,w11⟩,_,_,rfl,⟨n12,rfl,w12⟩,rfl⟩,_,_,rfl,⟨n13,rfl,w13⟩,rfl⟩,_,_,rfl,⟨n14,rfl,w14⟩,rfl⟩,_,_,rfl,⟨_,_,rfl,⟨n15,rfl,w15⟩,_,_,rfl,⟨n16,rfl,w16⟩,rfl⟩,_,_,rfl,hr,rfl⟩:=h
 have r1 : 0 ≤ n1 ∧ n1 ≤ 255:=by exact zF3 w1
 have r2 : 0 ≤ n2 ∧ n2 ≤ 255:=by exact zF3 w2
 have r3 : 0 ≤ n3 ∧ n3 < 4294967296:=by exact zIK w3
 have r4 : 0 ≤ n4 ∧ n4 ≤ 255:=by exact zF3 w4
 have r5 : i64R n5:=by exact zKO w5
 have r6 : 0 ≤ n6 ∧ n6 ≤ 255:=by exact zF3 w6
 have r7 : 0 ≤ n7 ∧ n7 < 4294967296:=by exact zIK w7
 have r8 : 0 ≤ n8 ∧ n8 ≤ 255:=by exact zF3 w8
 have r9 : i64R n9:=by exact zKO w9
 have r10 : i64R n10:=by exact zKO w10
 have r11 : 0 ≤ n11 ∧ n11 ≤ 255:=by exact zF3 w11
 have r12 : 0 ≤ n12 ∧ n12 < 4294967296:=by exact zIK w12
 have r13 : 0 ≤ n13 ∧ n13 ≤ 255:=by exact zF3 w13
 have r14 : i64R n14:=by exact zKO w14
 have r15 : 0 ≤ n15 ∧ n15 ≤ 255:=by exact zF3 w15
 have r16 : 0 ≤ n16 ∧ n16 < 4294967296:=by exact zIK w16
 obtain ⟨ra,l,e,hs,hi⟩:=zP3 (r:=_) (by simp only [Is]; exact hr)
 subst e
 exact ⟨⟨n1,⟨⟨n2,n3⟩,n4⟩,n5,⟨⟨⟨⟨n6,n7⟩,n8⟩,n9⟩,n10⟩,⟨⟨⟨n11,n12⟩,n13⟩,n14⟩,⟨n15,n16⟩,l⟩,ra,rfl,hs,r1,⟨⟨r2.1,r2.2,r3.1,r3.2⟩,r4⟩,r5,⟨⟨⟨⟨r6.1,r6.2,r7.1,r7.2⟩,r8⟩,r9⟩,r10⟩,⟨⟨⟨r11.1,r11.2,r12.1,r12.2⟩,r13⟩,r14⟩,⟨r15.1,r15.2,r16.1,r16.2⟩,hi⟩
end Go.Proofs.YtakefgebklfhpaaGreat
namespace Go.Proofs.YtakefgebklfhpaaGreat.viewInserts
open Go Go.Ax
theorem of_hd (r : List AV) (h : Is gHd r) : ∃ x : Hd,r = hdR x ∧ x.ok:=by
 simp only [Is,IsL] at h
 obtain ⟨_,_,rfl,⟨_,_,rfl,⟨n1,rfl,w1⟩,_,_,rfl,⟨n2,rfl,w2⟩,rfl⟩,_,_,rfl,⟨n3,rfl,w3⟩,rfl⟩:=h
 have r1:=zF3 w1
 have r2:=zIK w2
 have r3:=zF3 w3
 exact ⟨⟨⟨n1,n2⟩,n3⟩,rfl,⟨r1.1,r1.2,r2.1,r2.2⟩,r3.1,r3.2⟩
theorem run_args (a0 a1 a2 a3 : AV) (h0 : IsA (.sl gOp) a0) (h1 : IsA gHd a1) (h2 : IsA (.int .i64) a2) (h3 : IsA (.sl (.int .i32)) a3) : zAE Tryz.prog (fsT tbl) 4000000 61 (.fn 3) [a0,a1,a2,a3] mem0 = some (BL true,mem0):=by
 obtain ⟨a,l,ha,hl⟩:=Is.slice of_op h0
 obtain rfl : a0 = a:=by simpa using ha
 obtain ⟨c1,rfl,h1⟩:=h1
 obtain ⟨h,rfl,hh⟩:=of_hd c1 h1
 have h2 : Is (.int .i64) [a2]:=h2
 simp only [Is] at h2
 obtain ⟨n,hn,_⟩:=h2
 obtain rfl : a2 = I64 n:=by simpa using hn
 obtain ⟨b,m,hb,hm,hr⟩:=zP3 (r:=[a3]) h3
 obtain rfl : a3 = b:=by simpa using hb
 exact zXX hl (zdO hl) hm hr hh mem0
end Go.Proofs.YtakefgebklfhpaaGreat.viewInserts
