/-
  Texts joined: RhC RhD SwG SwQ SwU SwR RhE SwV RhF.
-/
import Derived.Test.YtkfdflajadkfkaaGreatEf
import Derived.Test.YtkfdflajadkfkaaGreatPb
set_option linter.unusedSimpArgs false
set_option linter.unusedVariables false
set_option maxRecDepth 100000
namespace Go.Proofs.YtkfdflajadkfkaaGreat
open Go Go.Ax
variable {fuel : Nat} {M : Mem} {Q : AV → Mem → Prop} {d : Nat} {x : Eid} {l : List Op} {o : Op} {ra ops a : AV} {B id m : Nat} {v : Lb}
theorem zSA {o : Op} {ra : AV} {y : Nat} (hR : Sl 1 zAS ra o.rs) (wf : Wf M) (hy : M.get y = some (.row false (lbR v))) (k : ∀ N,Kept M N → Q (BL (!o.hd.lb.leq v)) N) : W3 (zAC Tryz.prog (fsT tbl) fuel (d + 6) (.fn 27) [.agg (opR o ra),.ptr y 0] M) Q:=by
 have ly:=Mem.get_lt hy
 have ora:=hR.one
 have hh:=fun M=>@zFA fuel (d + 4) o.hd.lb v M
 refine zAY tf27 rfl (by simp [a27]) fun b' ht hx=>?_
 have h0:=hx 0 _ rfl
 have h1:=hx 1 _ rfl
 clear hx
 simp only [a27,c27,zzm] at ht ⊢
 simp (maxSteps:=2000000) (disch:=first | omega | assumption | (simp only [DS,Nat.reduceAdd, *]; done) | (simp only [DZ]; omega)) only [RUN,RU,zA2,zA1,zA0,zA5,slot,reduceIte,Nat.reduceEqDiff,h0,h1,hy,hh]
 exact k _ ((Kept.refl wf).add _)
theorem zWU {P : Program} {fs : Nat → Option AFunc} {fuel f n : Nat} {af : AFunc} {o : AV} {l : List Op} {w : Value} (h : fs f = some af) (hg : af.gc = 2) (hN : opK.NN M B o l) (wf : Wf M) (hc : ∀ o',Sl 17 isOp o' l → ∀ M,zAC P fs fuel (n + 1) (.fn f) [o'] M = some (.sc w,M)) : zAC P fs fuel (n + 1) (.fn f) [o] M = some (.sc w,M):=by
 obtain ⟨o',M',i1,s1,_⟩:=hN.nr.icyk wf (k:=11) (by omega)
 have s2:=zLN s1
 exact zCV (bs:=[o']) h hg (hc o' s2 mem0) (M3:=mem0) (M2:=M') (by simp only [icyL,s2.icy mem0 12 (by omega)]) (by simp only [icyL,i1])
set_option maxHeartbeats 16000000 in
theorem zVY {b : AV} {fr : Int} {p : List Op} (hS : Sl 17 isOp a l) (hP : Sl 17 isOp b p) (hl : l.length ≤ 1000) (hpl : p.length ≤ 1000) (hf : 200000 < fuel) (hd : ∀ o ∈ l ++ p,o.rs.length ≤ 1000000000) (wf : Wf M) (hw : M.wm ≤ M.size)
  (k : ∀ r N,Wf N → M.size ≤ N.size → (∀ j,j < M.size → N.get j = M.get j) → opK.ND N M.size r (tkL l v fr p) → N.wm = M.wm → Q (.tup [r,I64 (tkE l v fr p)]) N) :
  W3 (zAC Tryz.prog (fsT tbl) fuel (d + 16) (.fn 11) [a,lbA v,I64 fr,b] M) Q:=by
 have ll:=hS.len
 have lp:=hP.len
 have oa:=hS.one
 have ob:=hP.one
 have hck:=fun M=>zCO (fuel:=fuel) (d:=d + 1) hS (by omega) (by omega) M
 have hlc:=fun M=>@zCD fuel (d + 14) v M
 have wV:=wf.add (.row false (lbR v))
 have kV : ∀ j,j < M.size → (M.add (.row false (lbR v))).get j = M.get j:=fun j hj=>zAF wf _ _ hj
 have k0 : ∀ (e : Int) (N : Mem),Wf N → M.size ≤ N.size → (∀ j,j < M.size → N.get j = M.get j) → N.wm = M.wm → tkE l v fr p = e → e ≠ 0 → Q (.tup [NIL,I64 e]) N:=fun e N h1 h2 h3 h4 h5 h6=>by
  have:=k NIL N h1 h2 h3 (by unfold tkL; rw [if_neg (by rw [h5]; exact h6)]; exact NK.ND.nil _ _) h4
  rw [h5] at this
  exact this
 refine zAY tf11 rfl (by simp [a11]) fun b' ht hx=>?_
 have h0:=hx 0 _ rfl
 have h1:=hx 1 _ rfl
 have h2:=hx 2 _ rfl
 have h3:=hx 3 _ rfl
 clear hx
 simp only [a11,c11,zz4,zzm,zzg] at ht ⊢
 cases e1 : zAW [] l with
 | false =>
  rw [e1] at hck
  have e : tkE l v fr p = 8:=by unfold tkE; rw [e1]; rfl
  cases e2 : v.may <;> rw [e2] at hlc
  all_goals
   simp (maxSteps:=2000000) (disch:=first | omega | assumption | (simp only [DS,Nat.reduceAdd, *]; done) | (simp only [DZ]; omega)) only [RUN,RU,zA2,zA1,zA0,zA5,slot,reduceIte,Nat.reduceEqDiff,Nat.reduceBEq,Nat.reduceAdd,Int.reduceEq,h0,h1,hck,hlc,zB5,zBG,zCU,BMM,IMX]
   exact k0 8 _ wV (by rw [zA8]; omega) kV rfl e (by decide)
 | true =>
  rw [e1] at hck
  cases e2 : v.may with
  | false =>
   rw [e2] at hlc
   have e : tkE l v fr p = 8:=by unfold tkE; rw [e1,e2]; rfl
   simp (maxSteps:=2000000) (disch:=first | omega | assumption | (simp only [DS,Nat.reduceAdd, *]; done) | (simp only [DZ]; omega)) only [RUN,RU,zA2,zA1,zA0,zA5,slot,reduceIte,Nat.reduceEqDiff,Nat.reduceBEq,Nat.reduceAdd,Int.reduceEq,h0,h1,hck,hlc,zB5,zBG,zCU,BMM,IMX]
   exact k0 8 _ wV (by rw [zA8]; omega) kV rfl e (by decide)
  | true =>
   rw [e2] at hlc
   have eA : tkE l v fr p = if 3 < p.length then 4 else if fr ≠ l.length then 6 else if (p.any (fun o => !o.hd.lb.leq v) || !zAW [] (l ++ p)) = true then 8 else 0:=by unfold tkE; rw [e1,e2]; rfl
   by_cases q1 : 3 < p.length
   ·have q1' : decide ((3 : Int) < p.length) = true:=decide_eq_true (by omega)
    have e : tkE l v fr p = 4:=by rw [eA,if_pos q1]
    simp (maxSteps:=2000000) (disch:=first | omega | assumption | (simp only [DS,Nat.reduceAdd, *]; done) | (simp only [DZ]; omega)) only [RUN,RU,zA2,zA1,zA0,zA5,slot,reduceIte,Nat.reduceEqDiff,Nat.reduceBEq,Nat.reduceAdd,h0,h1,h3,hck,hlc,zB5,zCU,BMM,IMX,lp,q1']
    exact k0 4 _ wV (by rw [zA8]; omega) kV rfl e (by decide)
   ·have q1' : decide ((3 : Int) < p.length) = false:=decide_eq_false (by omega)
    by_cases q2 : fr = l.length
    ·have q2':=decide_eq_true q2
     have eB : tkE l v fr p = if (p.any (fun o => !o.hd.lb.leq v) || !zAW [] (l ++ p)) = true then 8 else 0:=by rw [eA,if_neg q1,if_neg (fun h=>h q2)]
     simp (maxSteps:=2000000) (disch:=first | omega | assumption | (simp only [DS,Nat.reduceAdd, *]; done) | (simp only [DZ]; omega)) only [RUN,RU,zA2,zA1,slot,lay,zAJ,zAD,reduceIte,Nat.reduceEqDiff,Nat.reduceBEq,Nat.reduceAdd,h0,h1,h2,h3,hS.fz.cells,hP.fz.cells,hck,hlc,zB5,zCU,BMM,IMX,lp,ll,q1',q2']
     have wX : Wf ((M.add (.row false (lbR v))).add (.row false [a,b])):=wV.add _
     have kX : ∀ j,j < M.size + 1 → ((M.add (.row false (lbR v))).add (.row false [a,b])).get j = (M.add (.row false (lbR v))).get j:=fun j hj=>zAF wV _ _ (by rw [zA8]; omega)
     have gv : (M.add (.row false (lbR v))).get M.size = some (.row false (lbR v)):=zAG wf _ _ (Nat.le_refl _) (Nat.lt_succ_self _)
     have hsm : SlM ((M.add (.row false (lbR v))).add (.row false [a,b])) 1 isAv (.sl (M.size + 1) 0 2 (some 2) 1) [a,b]:=.inr ⟨M.size + 1,[[a],[b]],some 2,rfl,.inr rfl,zAG wV _ _ (by rw [zA8]; omega) (by rw [zA8]; omega),.cons ⟨rfl,hS.fz⟩ (.cons ⟨rfl,hP.fz⟩ .nil),by simp⟩
     refine zSB (n:=d + 14) (R:=fun r=>Sl 17 isOp r (l ++ p)) tf29 rfl hsm wX fz_Av (fun o' ho'=>zKB (d:=d + 13) ho' hS hP (by omega) (by omega) (by omega)) fun r N hr wN sN mN kN=>?_
     have mN : N.wm = M.wm:=mN
     have sN : N.size = M.size + 1 + 1:=sN
     have g0 : N.get M.size = some (.row false (lbR v)):=by
      rw [kN M.size (by simp only [rowOf]; intro h; have:=Option.some.inj h; omega),kX _ (by omega)]
      exact gv
     have kN : ∀ j,j < M.size → N.get j = M.get j:=fun j hj=>by
      rw [kN j (by simp only [rowOf]; intro h; have:=Option.some.inj h; omega),kX _ (by omega)]
      exact kV j hj
     clear hsm wX kX
     have lr:=hr.len
     have hLl : (l ++ p).length ≤ 2003:=by rw [List.length_append]; omega
     generalize hL : l ++ p = L at *
     simp (maxSteps:=2000000) (disch:=first | omega | assumption | (simp only [DS,Nat.reduceAdd, *]; done) | (simp only [DZ]; omega)) only [RUN,RU,zA2,zA1,reduceIte,Nat.reduceEqDiff,lr]
     refine zB1 (I:=fun nq tq Nq => ∃ (iq : Nat) (out : AV),nq = L.length - iq ∧ iq ≤ L.length ∧ nth zA4 tq 3 = b ∧ nth zA4 tq 5 = .ptr M.size 0 ∧ nth zA4 tq 8 = out ∧ nth zA4 tq 11 = .fn 27 [] [.ptr M.size 0] ∧ nth zA4 tq 36 = r ∧ nth zA4 tq 37 = I64 L.length ∧ nth zA4 tq 38 = I64 iq ∧ Wf Nq ∧ M.size + 1 ≤ Nq.size ∧ (∀ j,j < M.size → Nq.get j = M.get j) ∧ Nq.get M.size = some (.row false (lbR v)) ∧ Nq.wm = M.wm ∧ opK.ND Nq (M.size + 1) out (L.take iq)) (n:=L.length) (by omega) ?_ ?_
     ·refine ⟨0,NIL,rfl,Nat.zero_le _, ?_, ?_, ?_, ?_, ?_, ?_, ?_,wN,(by omega),kN,g0,mN,NK.ND.nil _ _⟩ <;> simp (maxSteps:=2000000) (disch:=first | omega | assumption | (simp only [DS,Nat.reduceAdd, *]; done) | (simp only [DZ]; omega)) only [RUN,reduceIte,Nat.reduceEqDiff,h3]
      all_goals first | rfl | assumption | done
     ·rintro nq tq Nq hltq ⟨iq,out,rfl,hiq,gq3,gq5,gq8,gq11,gq36,gq37,gq38,w,sz,kp,g,wm,hN⟩
      simp only [ht] at hltq ⊢
      have hNN:=hN.nn
      have oo:=hNN.one
      have oc:=hNN.cells
      have lN:=Mem.get_lt g
      by_cases hc : iq < L.length
      ·have q3 : decide ((iq : Int) < L.length) = true:=decide_eq_true (by omega)
       have w1 : IntKind.i64.wrap ((iq : Int) + 1) = ((iq + 1 : Nat) : Int):=by rw [wrap_i64] <;> omega
       obtain ⟨rr,hiad,hri,hrl⟩:=hr.iad iq hc
       have hls:=take_snoc L iq hc
       have hlo:=hd L[iq] (List.getElem_mem hc)
       have hll : (L.take iq).length ≤ iq:=by rw [List.length_take]; omega
       generalize L[iq] = e at *
       obtain ⟨ra,rfl,hra,hok⟩:=hri
       have ora:=hra.one
       have kX:=((Kept.refl w).add (.row false (opR ⟨0,Hd.z,0,⟨Eid.z,0⟩,Eid.z,Lb.z,[]⟩ NIL))).upd (by omega) (Nat.le_refl _) (.row false (opR e ra))
       simp (maxSteps:=2000000) (disch:=first | omega | assumption | (simp only [DS,Nat.reduceAdd, *]; done) | (simp only [DZ]; omega)) only [RUN,RU,zA2,zA1,slot,lay,reduceIte,Nat.reduceEqDiff,Nat.reduceAdd,gq8,gq36,gq37,gq38,q3,hiad]
       refine zID (d:=d + 13) hra hlo kX.wf (by rw [kX.wm]; exact Nat.le_trans (show Nq.wm ≤ Nq.size by omega) kX.le) fun a' N2 hN2 sm2 nw2=>?_
       have k2:=kX.trans hN2
       have w2:=k2.wf
       have oa2:=sm2.one
       have ca2:=sm2.cells
       have rl2:=zBE sm2.rl (Nat.le_refl N2.size)
       have rr2:=hNN.rows (show Nq.size ≤ N2.size + 1 by have:=k2.le; omega)
       have nw2 : ∀ j,rowOf a' = some j → Nq.size + 1 ≤ j:=nw2
       simp (maxSteps:=2000000) (disch:=first | omega | assumption | (simp only [DS,Nat.reduceAdd, *]; done) | (simp only [DZ]; omega)) only [RUN,RU,zA2,zA1,lay,zAJ,zAD,reduceIte,Nat.reduceEqDiff,Nat.reduceBEq,Nat.reduceAdd,rr2]
       have hsz : Nq.size + 1 ≤ N2.size:=hN2.le
       refine NK.ND.app (K:=opK) (M:=Nq) (B:=M.size + 1) (l:=L.take iq) (x:=e) (ra:=a') w2 hN (fun j a b=>k2.get j b) (by omega) ⟨rfl,oa2,ca2⟩ ⟨sm2,fun j hj=>by have:=nw2 j hj; omega,hok⟩ (fun j hj=>by have:=nw2 j hj; omega) (by omega) (by omega) (by omega) fun o' M' hN' w' le' kp' nw' wm'=>?_
       simp (maxSteps:=2000000) (disch:=first | omega | assumption | (simp only [DS,Nat.reduceAdd, *]; done) | (simp only [DZ]; omega)) only [RUN,RU,zA2,zA1,reduceIte,Nat.reduceEqDiff,gq3,gq5,gq8,gq11,gq36,gq37,gq38,w1]
       refine ⟨hltq,L.length - (iq + 1),by omega,iq + 1,o',rfl,by omega,rfl,rfl,w',by omega,fun j hj=>?_, ?_, ?_,by rw [hls]; exact hN'⟩
       ·rw [kp' j (by omega) (fun h=>by have:=hNN.lt j h; omega),k2.get j (by omega)]; exact kp j hj
       ·rw [kp' M.size (by omega) (fun h=>by have:=hNN.lt _ h; omega),k2.get M.size lN]; exact g
       ·rw [wm',k2.wm]; exact wm
      ·obtain rfl : iq = L.length:=by omega
       have q3 : decide ((L.length : Int) < L.length) = false:=decide_eq_false (by omega)
       rw [List.take_length] at hN
       simp (maxSteps:=2000000) (disch:=first | omega | assumption | (simp only [DS,Nat.reduceAdd, *]; done) | (simp only [DZ]; omega)) only [RUN,RU,zA2,zA1,reduceIte,Nat.reduceEqDiff,gq3,gq11,gq37,gq38]
       refine zNZ (st:=17) (ag:=true) (n:=d + 13) (first:=[]) (cap:=[.ptr M.size 0]) tf31 tf49 (by simp) zDH hP (by omega) (by omega) (p:=fun o => !o.hd.lb.leq v) w (fun n hn=>by simp (maxSteps:=2000000) (disch:=first | omega | assumption | (simp only [DS,Nat.reduceAdd, *]; done) | (simp only [DZ]; omega)) only [RUN,RU]) (fun r o hr' _ N Q' hk hQ=>?_) fun N hk=>?_
       ·obtain ⟨ra,rfl,hra,_⟩:=hr'
        refine zSA (d:=d + 7) hra hk.wf ?_ (fun N' hk'=>hQ N' (hk.trans hk'))
        rw [hk.get M.size lN]
        exact g
       ·have hkle:=hk.le
        have kF : ∀ j,j < M.size → N.get j = M.get j:=fun j hj=>(hk.get j (by omega)).trans (kp j hj)
        have mF : N.wm = M.wm:=hk.wm.trans wm
        have hN' : opK.ND N (M.size + 1) out L:=hN.keep fun j a b=>hk.get j b
        have hN2 : opK.ND N M.size out L:=by
         obtain ⟨lr,h1',h2',h3',h4',h5',h6'⟩:=hN'
         exact ⟨lr,h1',h2',fun x hx=>⟨(h3' x hx).1,fun j hj=>by have:=(h3' x hx).2.1 j hj; omega,(h3' x hx).2.2⟩,fun j hj=>by have:=h4' j hj; omega,h5',h6'⟩
        have hld:=zWU (n:=d + 14) tf16 rfl hN'.nn hk.wf (fun o' ho' M=>zCO (fuel:=fuel) (d:=d + 1) ho' (by omega) (by omega) M)
        have rw':=hN'.nn.rows (Nat.le_refl N.size)
        cases q4 : p.any (fun o => !o.hd.lb.leq v) with
        | true =>
         have e : tkE l v fr p = 8:=by rw [eB,q4]; rfl
         simp (maxSteps:=2000000) (disch:=first | omega | assumption | (simp only [DS,Nat.reduceAdd, *]; done) | (simp only [DZ]; omega)) only [RUN,RU,zA2,zA1,zA0,zA5,reduceIte,Nat.reduceEqDiff,gq8]
         exact k0 8 _ hk.wf (by omega) kF mF e (by decide)
        | false =>
         cases q5 : zAW [] L with
         | false =>
          rw [q5] at hld
          have e : tkE l v fr p = 8:=by rw [eB,q4,q5]; rfl
          simp (maxSteps:=2000000) (disch:=first | omega | assumption | (simp only [DS,Nat.reduceAdd, *]; done) | (simp only [DZ]; omega)) only [RUN,RU,zA2,zA1,zA0,zA5,reduceIte,Nat.reduceEqDiff,Int.reduceEq,gq8,hld,zBG]
          exact k0 8 _ hk.wf (by omega) kF mF e (by decide)
         | true =>
          rw [q5] at hld
          have e : tkE l v fr p = 0:=by rw [eB,q4,q5]; rfl
          have eL : tkL l v fr p = L:=by unfold tkL; rw [if_pos e,hL]
          rw [e,eL] at k
          simp (maxSteps:=2000000) (disch:=first | omega | assumption | (simp only [DS,Nat.reduceAdd, *]; done) | (simp only [DZ]; omega)) only [RUN,RU,zA2,zA1,zA0,zA5,reduceIte,Nat.reduceEqDiff,gq8,hld,zB5]
          exact k out N hk.wf (by omega) kF hN2 mF
    ·have q2':=decide_eq_false q2
     have e : tkE l v fr p = 6:=by rw [eA,if_neg q1,if_pos q2]
     simp (maxSteps:=2000000) (disch:=first | omega | assumption | (simp only [DS,Nat.reduceAdd, *]; done) | (simp only [DZ]; omega)) only [RUN,RU,zA2,zA1,zA0,zA5,slot,reduceIte,Nat.reduceEqDiff,Nat.reduceBEq,Nat.reduceAdd,h0,h1,h2,h3,hck,hlc,zB5,zCU,BMM,IMX,lp,ll,q1',q2']
     exact k0 6 _ wV (by rw [zA8]; omega) kV rfl e (by decide)
end Go.Proofs.YtkfdflajadkfkaaGreat
namespace Go.Proofs.YtkfdflajadkfkaaGreat
open Go Go.Ax
variable {fuel : Nat} {M : Mem} {Q : AV → Mem → Prop} {d : Nat} {o : AV} {E B : Nat} {L : List Nat}
def Sp (M : Mem) (E B : Nat) (o : AV) (L : List Nat) : Prop:=∃ (G : Mem) (l : List Op),Wf G ∧ G.size = E ∧ (∀ j,B ≤ j → j < E → M.get j = G.get j) ∧ opK.ND G B o l ∧ l.map (fun o=>o.rs.length) = L
theorem Sp.of {l : List Op} (h : opK.ND M B o l) (wf : Wf M) : Sp M M.size B o (l.map fun o=>o.rs.length):=⟨M,l,wf,rfl,fun _ _ _=>rfl,h,rfl⟩
theorem Sp.keep {N : Mem} (h : Sp M E B o L) (k : ∀ j,B ≤ j → j < E → N.get j = M.get j) : Sp N E B o L:=by
 obtain ⟨G,l,h1,h2,h3,h4⟩:=h
 exact ⟨G,l,h1,h2,fun j a b=>(k j a b).trans (h3 j a b),h4⟩
theorem Sp.len (h : Sp M E B o L) : ∀ N,lenO N o = some (I64 L.length,N):=by
 obtain ⟨G,l,_,_,_,hN,rfl⟩:=h
 rw [List.length_map]
 exact hN.nn.len
theorem Sp.one (h : Sp M E B o L) : oneA o = true:=by
 obtain ⟨G,l,_,_,_,hN,rfl⟩:=h
 exact hN.nn.one
theorem Sp.rows (h : Sp M E B o L) (hn : E ≤ M.size) : (rowsOf o).all (fun x=>Nat.blt x M.size) = true:=by
 obtain ⟨G,l,_,rfl,_,hN,rfl⟩:=h
 exact hN.nn.rows hn
theorem Sp.at (h : Sp M E B o L) (wf : Wf M) (hE : E ≤ M.size) {i : Nat} (hi : i < L.length) : ∃ id cs ra,M.get id = some (.row false cs) ∧ (∀ N,iadO N 17 o (some i) = some (.ptr id (i * 17),N)) ∧ (i + 1) * 17 ≤ cs.length ∧ cs[i * 17 + 16]? = some ra ∧ oneA ra = true ∧ (∀ N,lenO N ra = some (I64 L[i],N)) ∧
  ∀ k,k < L[i] → ∃ id2 cs2,id2 < E ∧ B ≤ id2 ∧ M.get id2 = some (.row false cs2) ∧ k < cs2.length ∧ (∀ N,iadO N 1 ra (some k) = some (.ptr id2 k,N)) ∧ Sp (M.upd id2 (.row false (lay cs2 k [I32 7]))) E B o L:=by
 obtain ⟨G,l,wg,rfl,ag,hN,rfl⟩:=h
 have hi' : i < l.length:=by simpa using hi
 obtain ⟨id,cs,ra,hrow,hB,hg,hiad,hsl,hcl,hin,hne,hset⟩:=hN.at hi'
 have hsl : slot cs (i * 17) 17 = opR l[i] ra:=hsl
 have hcl : (i + 1) * 17 ≤ cs.length:=hcl
 have p16 : cs[i * 17 + 16]? = some ra:=(zQW (off:=16) hsl (by decide)).trans rfl
 have sm : SlM G 1 zAS ra l[i].rs:=hin.1
 have hok : l[i].ok:=hin.2.2
 have hL : (l.map fun o=>o.rs.length)[i] = l[i].rs.length:=by rw [List.getElem_map]
 rw [hL]
 refine ⟨id,cs,ra,(ag id hB (Mem.get_lt hg)).trans hg,hiad,hcl,p16,sm.one,sm.len,fun k hk=>?_⟩
 obtain ⟨id2,cs2,hrow2,lid2,hg2,hcs2,hiad2,hset2⟩:=sm.at1 hk
 have hB2:=hin.2.1 id2 hrow2
 refine ⟨id2,cs2,lid2,hB2,(ag id2 hB2 lid2).trans hg2,hcs2,hiad2,G.upd id2 (.row false (lay cs2 k [I32 7])),l.set i { l[i] with rs:=l[i].rs.set k 7 },wg.upd _ _,rfl,fun j h1 h2=>?_, ?_, ?_⟩
 ·by_cases e : id2 = j
  ·subst e
   rw [zAP wf _ _ (by omega),zAP wg _ _ lid2]
  ·rw [zAA wf _ _ _ e,zAA wg _ _ _ e]
   exact ag j h1 h2
 ·refine hset _ _ rfl ?_ (fun j h1 h2 h3=>zAA wg _ _ _ (fun e=>h3 (by rw [hrow2,e]))) (hset2 (I32 7) 7 rfl _ (zAP wg _ _ lid2))
  refine ⟨hok.1,hok.2.1,hok.2.2.1,hok.2.2.2.1,hok.2.2.2.2.1,hok.2.2.2.2.2.1, ?_⟩
  intro x hx
  rcases List.mem_or_eq_of_mem_set hx with h | rfl
  ·exact hok.2.2.2.2.2.2 x h
  ·decide
 ·rw [List.map_set]
  simp only [List.length_set]
  rw [← hL,List.set_getElem_self]
set_option maxHeartbeats 8000000 in
theorem zKS (hS : Sp M E B o L) (hE : E ≤ M.size) (hl : L.length ≤ 100000) (hr : ∀ n ∈ L,n ≤ 100000) (hf : 200000 < fuel) (wf : Wf M)
  (k : ∀ u N,Wf N → N.size = M.size → (∀ j,(j < B ∨ E ≤ j) → N.get j = M.get j) → N.wm = M.wm → Q u N) :
  W3 (zAC Tryz.prog (fsT tbl) fuel (d + 1) (.fn 15) [o] M) Q:=by
 have lo:=hS.len
 refine zAY tf15 rfl (by simp [a15]) fun b' ht hx=>?_
 have h0:=hx 0 _ rfl
 clear hx
 simp only [a15,c15,zzm] at ht ⊢
 simp (maxSteps:=2000000) (disch:=first | omega | assumption | (simp only [DS,Nat.reduceAdd, *]; done) | (simp only [DZ]; omega)) only [RUN,RU,zA2,zA1]
 refine zB1 (I:=fun nq tq Nq => ∃ (iq : Nat),nq = L.length - iq ∧ iq ≤ L.length ∧ nth zA4 tq 0 = o ∧ nth zA4 tq 2 = I64 iq ∧ Wf Nq ∧ Nq.size = M.size ∧ (∀ j,(j < B ∨ E ≤ j) → Nq.get j = M.get j) ∧ Nq.wm = M.wm ∧ Sp Nq E B o L) (n:=L.length) (by omega) ?_ ?_
 ·refine ⟨0,rfl,Nat.zero_le _, ?_, ?_,wf,rfl,fun _ _=>rfl,rfl,hS⟩ <;> simp (maxSteps:=2000000) (disch:=first | omega | assumption | (simp only [DS,Nat.reduceAdd, *]; done) | (simp only [DZ]; omega)) only [RUN,reduceIte,Nat.reduceEqDiff,h0]
  all_goals first | rfl | assumption | done
 ·rintro nq tq Nq hltq ⟨iq,rfl,hiq,gq0,gq2,wq,sq,kq,mq,hq⟩
  simp only [ht] at hltq ⊢
  by_cases hc : iq < L.length
  ·have c1 : decide ((iq : Int) < L.length) = true:=decide_eq_true (by omega)
   have w1 : IntKind.i64.wrap ((iq : Int) + 1) = ((iq + 1 : Nat) : Int):=by rw [wrap_i64] <;> omega
   have hrl:=hr L[iq] (List.getElem_mem hc)
   simp (maxSteps:=2000000) (disch:=first | omega | assumption | (simp only [DS,Nat.reduceAdd, *]; done) | (simp only [DZ]; omega)) only [RUN,RU,zA2,zA1,reduceIte,Nat.reduceEqDiff,gq0,gq2,lo,c1]
   refine zB1 (I:=fun nk tk Nk => ∃ (ik : Nat),nk = L[iq] - ik ∧ ik ≤ L[iq] ∧ nth zA4 tk 0 = o ∧ nth zA4 tk 2 = I64 iq ∧ nth zA4 tk 3 = I64 ik ∧ Wf Nk ∧ Nk.size = M.size ∧ (∀ j,(j < B ∨ E ≤ j) → Nk.get j = M.get j) ∧ Nk.wm = M.wm ∧ Sp Nk E B o L) (n:=L[iq]) (by omega) ?_ ?_
   ·refine ⟨0,rfl,Nat.zero_le _, ?_, ?_, ?_,wq,sq,kq,mq,hq⟩ <;> simp (maxSteps:=2000000) (disch:=first | omega | assumption | (simp only [DS,Nat.reduceAdd, *]; done) | (simp only [DZ]; omega)) only [RUN,reduceIte,Nat.reduceEqDiff,gq0,gq2]
    all_goals first | rfl | assumption | done
   ·rintro nk tk Nk hltk ⟨ik,rfl,hik,gk0,gk2,gk3,wk,sk,kk,mk,hk⟩
    simp only [hltq] at hltk ⊢
    obtain ⟨id,cs,ra,hg,hiad,hcl,p16,ora,lra,hset⟩:=hk.at wk (by omega) hc
    have rl:=hk.rows (by omega)
    have oo:=hk.one
    have lid:=Mem.get_lt hg
    have w2 : IntKind.i64.wrap ((ik : Int) + 1) = ((ik + 1 : Nat) : Int):=by rw [wrap_i64] <;> omega
    by_cases hc5 : ik < L[iq]
    ·have c5 : decide ((ik : Int) < L[iq]) = true:=decide_eq_true (by omega)
     obtain ⟨id2,cs2,lid2,hB2,hg2,hcs2,hiad2,hs2⟩:=hset ik hc5
     simp (maxSteps:=2000000) (disch:=first | omega | assumption | (simp only [DS,Nat.reduceAdd, *]; done) | (simp only [DZ]; omega)) only [RUN,RU,zA2,zA1,lay,reduceIte,Nat.reduceEqDiff,gk0,gk2,gk3,hiad,hg,p16,lra,c5,w2,hiad2,hg2]
     exact ⟨hltk,L[iq] - (ik + 1),by omega,ik + 1,rfl,by omega,rfl,wk,sk,fun j hj=>by rw [zAA wk _ _ _ (by omega)]; exact kk j hj,mk,hs2⟩
    ·have c5 : decide ((ik : Int) < L[iq]) = false:=decide_eq_false (by omega)
     simp (maxSteps:=2000000) (disch:=first | omega | assumption | (simp only [DS,Nat.reduceAdd, *]; done) | (simp only [DZ]; omega)) only [RUN,RU,zA2,zA1,reduceIte,Nat.reduceEqDiff,gk0,gk2,gk3,hiad,hg,p16,lra,c5,w1]
     exact ⟨hltk,L.length - (iq + 1),by omega,iq + 1,rfl,by omega,rfl,wk,sk,kk,mk,hk⟩
  ·obtain rfl : iq = L.length:=by omega
   have c1 : decide ((L.length : Int) < L.length) = false:=decide_eq_false (by omega)
   simp (maxSteps:=2000000) (disch:=first | omega | assumption | (simp only [DS,Nat.reduceAdd, *]; done) | (simp only [DZ]; omega)) only [RUN,RU,zA2,zA1,zA0,zA5,reduceIte,Nat.reduceEqDiff,gq0,gq2,lo]
   exact k _ _ wq sq kq mq
end Go.Proofs.YtkfdflajadkfkaaGreat
namespace Go.Proofs.YtkfdflajadkfkaaGreat
open Go Go.Ax
variable {fuel : Nat} {M : Mem} {Q : AV → Mem → Prop} {d : Nat} {l : List Op} {a : AV}
def wO (o : Op) : Int:=imax (imin (imax o.sp.n 0) 100) (imin (o.rs.length : Int) 1000)
def sumW (l : List Op) : Int:=(l.map wO).sum
def zHC (l : List Op) (many : Int) : Bool:=decide (many < l.length) || decide (300 < sumW (l.take 300))
theorem zM4 (o : Op) : 0 ≤ wO o ∧ wO o ≤ 1000 ∧ ((o.rs.length : Int) ≤ wO o ∨ 1000 ≤ wO o):=by
 unfold wO imax imin
 repeat' split
 all_goals omega
theorem sumW_snoc (l : List Op) (o : Op) : sumW (l ++ [o]) = sumW l + wO o:=by unfold sumW; simp
theorem zIN : ∀ (l : List Op),0 ≤ sumW l ∧ sumW l ≤ 1000 * l.length
 | []=>by simp [sumW]
 | o :: l=>by
  have h1:=zIN l
  have h2:=zM4 o
  unfold sumW at *
  simp only [List.map_cons,List.sum_cons,List.length_cons]
  omega
theorem zM3 : ∀ (l : List Op) (o : Op),o ∈ l → wO o ≤ sumW l
 | [],_,h=>by cases h
 | p :: l,o,h=>by
  have h1:=zIN l
  have h2:=zM4 p
  rcases List.mem_cons.1 h with rfl | h
  ·unfold sumW at *; simp only [List.map_cons,List.sum_cons]; omega
  ·have:=zM3 l o h
   unfold sumW at *; simp only [List.map_cons,List.sum_cons]; omega
theorem zGB {many : Int} (hm : many ≤ 300) (h : zHC l many = false) : (l.length : Int) ≤ many ∧ ∀ o ∈ l,o.rs.length ≤ 300:=by
 unfold zHC at h
 simp only [Bool.or_eq_false_iff,decide_eq_false_iff_not] at h
 refine ⟨by omega,fun o ho=>?_⟩
 have ht : l.take 300 = l:=List.take_of_length_le (by omega)
 rw [ht] at h
 have:=zM3 l o ho
 have:=zM4 o
 omega
set_option maxHeartbeats 4000000 in
theorem zIX {many : Int} (hS : Sl 17 isOp a l) (hf : 400 < fuel) (M : Mem) : zAC Tryz.prog (fsT tbl) fuel (d + 1) (.fn 4) [a,I64 many] M = some (BL (zHC l many),M):=by
 have ll:=hS.len
 apply zB6
 refine zAH tf4 rfl (by simp only [icyL,fun M=>hS.icy M 12 (by omega),zH4]) (by simp [a4]) fun b' ht hx=>?_
 have h0:=hx 0 _ rfl
 have h1:=hx 1 _ rfl
 clear hx
 simp only [a4,c4,zzm,zzg] at ht ⊢
 unfold zHC
 simp (maxSteps:=2000000) (disch:=first | omega | assumption | (simp only [DS,Nat.reduceAdd, *]; done) | (simp only [DZ]; omega)) only [RUN,RU,zA2,zA1]
 refine zB1 (I:=fun n t N => ∃ (i : Nat),n = 300 - i ∧ i ≤ 300 ∧ nth zA4 t 0 = a ∧ nth zA4 t 1 = I64 many ∧ nth zA4 t 5 = I64 (sumW (l.take i)) ∧ nth zA4 t 6 = I64 i ∧ N = mem0 ∧ i ≤ l.length) (n:=300) (by omega) ?_ ?_
 ·refine ⟨0,rfl,Nat.zero_le _, ?_, ?_, ?_, ?_,rfl,Nat.zero_le _⟩ <;> simp (maxSteps:=2000000) (disch:=first | omega | assumption | (simp only [DS,Nat.reduceAdd, *]; done) | (simp only [DZ]; omega)) only [RUN,RU,reduceIte,Nat.reduceEqDiff,h0,h1]
  all_goals first | rfl | assumption | done
 ·rintro n t N hlt ⟨i,rfl,hi,g0,g1,g5,g6,hm,hil⟩
  simp only [ht] at hlt ⊢
  subst hm
  by_cases hc : i < l.length
  ·have q1 : decide ((i : Int) < l.length) = true:=decide_eq_true (by omega)
   by_cases hc3 : i < 300
   ·have q2 : decide ((i : Int) < 300) = true:=decide_eq_true (by omega)
    have w1 : IntKind.i64.wrap ((i : Int) + 1) = ((i + 1 : Nat) : Int):=by rw [wrap_i64] <;> omega
    obtain ⟨r,hiad,hr,hrl⟩:=hS.iad i hc
    have hsn:=sumW_snoc (l.take i) l[i]
    rw [← take_snoc l i hc] at hsn
    have hps:=zIN (l.take i)
    rw [List.length_take] at hps
    have hwo:=zM4 l[i]
    generalize l[i] = e at *
    obtain ⟨ra,rfl,hra,hok⟩:=hr
    have lra:=hra.len
    have w2 : IntKind.i64.wrap (sumW (l.take i) + wO e) = sumW (l.take (i + 1)):=by rw [hsn]; exact wrap_i64 (by omega) (by omega)
    simp (maxSteps:=2000000) (disch:=first | omega | assumption | (simp only [DS,Nat.reduceAdd, *]; done) | (simp only [DZ]; omega)) only [RUN,RU,zA2,zA1,reduceIte,Nat.reduceEqDiff,Nat.reduceBEq,Nat.reduceAdd,g0,g1,g5,g6,ll,q1,q2,w1,hiad,lra,zCU,BMM]
    refine ⟨hlt,300 - (i + 1),by omega,i + 1,rfl,by omega, ?_,rfl,by omega⟩
    show AV.sc (.int .i64 (IntKind.i64.wrap (sumW (l.take i) + wO e))) = I64 _
    rw [w2]
   ·have q2 : decide ((i : Int) < 300) = false:=decide_eq_false (by omega)
    obtain rfl : i = 300:=by omega
    cases q3 : decide (many < (l.length : Int))
    all_goals simp (maxSteps:=2000000) (disch:=first | omega | assumption | (simp only [DS,Nat.reduceAdd, *]; done) | (simp only [DZ]; omega)) only [RUN,RU,zA2,zA1,zA0,zA5,frzL,reduceIte,Nat.reduceEqDiff,Nat.reduceSub,g0,g1,g5,g6,ll,q1,q2,q3]
  ·have q1 : decide ((i : Int) < l.length) = false:=decide_eq_false (by omega)
   obtain rfl : i = l.length:=by omega
   have et : l.take 300 = l.take l.length:=by rw [List.take_of_length_le (Nat.le_refl _),List.take_of_length_le (by omega)]
   rw [et]
   cases q3 : decide (many < (l.length : Int))
   all_goals simp (maxSteps:=2000000) (disch:=first | omega | assumption | (simp only [DS,Nat.reduceAdd, *]; done) | (simp only [DZ]; omega)) only [RUN,RU,zA2,zA1,zA0,zA5,frzL,reduceIte,Nat.reduceEqDiff,g0,g1,g5,g6,ll,q3]
end Go.Proofs.YtkfdflajadkfkaaGreat
namespace Go.Proofs.YtkfdflajadkfkaaGreat
open Go Go.Ax
section
variable {pre : List Op} {o : Op} {v : Lb}
end
end Go.Proofs.YtkfdflajadkfkaaGreat
namespace Go.Proofs.YtkfdflajadkfkaaGreat
open Go Go.Ax
theorem zUU {l : List Op} {v : Lb} {fr : Int} {n : Nat} (h : ∀ o ∈ l,o.rs.length ≤ n) : ∀ o ∈ zDZ l v fr,o.rs.length ≤ n:=by
 intro o ho
 unfold zDZ at ho
 split at ho
 ·obtain ⟨p,hp,rfl⟩:=List.mem_map.1 ho
  have:=h p (List.mem_filter.1 (List.mem_of_mem_drop (List.mem_of_mem_take hp))).1
  simp only [zCS,zDA]
  exact this
 ·cases ho
theorem zRN (l : List Op) (v : Lb) (fr : Int) : (zDZ l v fr).length ≤ 3:=by
 unfold zDZ
 split
 ·rw [List.length_map,List.length_take]; omega
 ·simp
end Go.Proofs.YtkfdflajadkfkaaGreat
namespace Go.Proofs.YtkfdflajadkfkaaGreat
open Go Go.Ax
variable {fuel : Nat} {M : Mem} {Q : AV → Mem → Prop} {d : Nat}
theorem zPA {a b : AV} {l m : List Int} (ha : Sl 1 zAS a l) (hb : Sl 1 zAS b m) (hf : l.length < fuel) (hl : l.length ≤ 1000000000) (M : Mem) :
  zAC Tryz.prog (fsT tbl) fuel (d + 1) (.fn 32) [a,b] M = some (BL (decide (l = m)),M):=by
 have hla:=ha.len
 have hlb:=hb.len
 apply zB6
 refine zAH tf32 rfl (by simp (maxSteps:=2000000) (disch:=first | omega | assumption | (simp only [DS,Nat.reduceAdd, *]; done) | (simp only [DZ]; omega)) only [icyL,ha.fz.icy,hb.fz.icy]) (by simp [a32]) fun b' ht hx=>?_
 have h0:=hx 0 _ rfl
 have h1:=hx 1 _ rfl
 clear hx
 simp only [a32,c32,zzm] at ht ⊢
 by_cases hll : l.length = m.length
 ·have q1 : decide ((l.length : Int) = m.length) = true:=by simp; omega
  simp (maxSteps:=2000000) (disch:=first | omega | assumption | (simp only [DS,Nat.reduceAdd, *]; done) | (simp only [DZ]; omega)) only [RUN,RU,zA2,zA1,reduceIte,Nat.reduceEqDiff,h0,h1,hla,hlb,q1]
  refine zB1 (I:=fun n t N => ∃ (i : Nat),n = l.length - i ∧ i ≤ l.length ∧ nth zA4 t 0 = a ∧ nth zA4 t 1 = b ∧ nth zA4 t 5 = I64 i ∧ l.take i = m.take i) (n:=l.length) (by omega) ?_ ?_
  ·refine ⟨0,rfl,Nat.zero_le _, ?_, ?_, ?_,rfl⟩ <;> simp (maxSteps:=2000000) (disch:=first | omega | assumption | (simp only [DS,Nat.reduceAdd, *]; done) | (simp only [DZ]; omega)) only [RUN,reduceIte,Nat.reduceEqDiff,h0,h1]
   all_goals first | rfl | assumption | done
  ·rintro n t N hlt ⟨i,rfl,hi,g0,g1,g5,tk⟩
   simp only [ht] at hlt ⊢
   by_cases hlt' : i < l.length
   ·have hc' : decide ((i : Int) < l.length) = true:=by simp; omega
    have hmt : i < m.length:=by omega
    have w1 : IntKind.i64.wrap ((i : Int) + 1) = ((i + 1 : Nat) : Int):=by rw [wrap_i64] <;> omega
    obtain ⟨r,hr,rfl,_⟩:=ha.iad i hlt'
    obtain ⟨r2,hr2,rfl,_⟩:=hb.iad i hmt
    by_cases he : l[i] = m[i]
    ·have q2 : decide (l[i] = m[i]) = true:=by simp [he]
     simp (maxSteps:=2000000) (disch:=first | omega | assumption | (simp only [DS,Nat.reduceAdd, *]; done) | (simp only [DZ]; omega)) only [RUN,RU,zA2,zA1,reduceIte,Nat.reduceEqDiff,Nat.reduceBEq,Nat.reduceAdd,g0,g1,g5,hla,hc',hr,hr2,w1,q2]
     refine ⟨hlt,l.length - (i + 1),by omega,i + 1,rfl,by omega,rfl, ?_⟩
     rw [List.take_add_one,List.take_add_one,tk,List.getElem?_eq_getElem hlt',List.getElem?_eq_getElem hmt,he]
    ·have q2 : decide (l[i] = m[i]) = false:=by simp [he]
     simp (maxSteps:=2000000) (disch:=first | omega | assumption | (simp only [DS,Nat.reduceAdd, *]; done) | (simp only [DZ]; omega)) only [RUN,RU,zA2,zA1,zA0,zA5,frzL,reduceIte,Nat.reduceEqDiff,Nat.reduceBEq,Nat.reduceAdd,g0,g1,g5,hla,hc',hr,hr2,q2]
     have : decide (l = m) = false:=by
      simp only [decide_eq_false_iff_not]
      rintro rfl; exact he rfl
     rw [this]
   ·have hc' : decide ((i : Int) < l.length) = false:=by simp; omega
    simp (maxSteps:=2000000) (disch:=first | omega | assumption | (simp only [DS,Nat.reduceAdd, *]; done) | (simp only [DZ]; omega)) only [RUN,RU,zA2,zA1,zA0,zA5,frzL,reduceIte,Nat.reduceEqDiff,g0,g5,hla,hc']
    have : decide (l = m) = true:=by
     simp only [decide_eq_true_eq]
     rw [show i = l.length by omega,List.take_length] at tk
     rw [tk,show l.length = m.length from hll,List.take_length]
    rw [this]
 ·have q1 : decide ((l.length : Int) = m.length) = false:=by simp; omega
  have q3 : decide (l = m) = false:=by
   simp only [decide_eq_false_iff_not]
   rintro rfl; exact hll rfl
  simp (maxSteps:=2000000) (disch:=first | omega | assumption | (simp only [DS,Nat.reduceAdd, *]; done) | (simp only [DZ]; omega)) only [RUN,RU,zA2,zA1,zA0,zA5,frzL,reduceIte,Nat.reduceEqDiff,h0,h1,hla,hlb,q1,q3]
def opEq (o p : Op) : Bool:=decide (o.kd = p.kd) && decide (o.hd = p.hd) && decide (o.sr = p.sr) && decide (o.sp = p.sp) && decide (o.af = p.af) && decide (o.to = p.to) && decide (o.rs = p.rs)
theorem zIB (o p : Op) : opEq o p = true ↔ o = p:=by
 obtain ⟨a1,a2,a3,a4,a5,a6,a7⟩:=o
 obtain ⟨b1,b2,b3,b4,b5,b6,b7⟩:=p
 simp [opEq,and_assoc]
set_option maxHeartbeats 8000000 in
theorem zFC {o p : Op} {ra rb : AV} (hR : Sl 1 zAS ra o.rs) (hP : Sl 1 zAS rb p.rs) (hl : o.rs.length ≤ 1000000000) (hf : o.rs.length < fuel) (M : Mem) : zAC Tryz.prog (fsT tbl) fuel (d + 2) (.fn 13) [.agg (opR o ra),.agg (opR p rb)] M = some (BL (opEq o p),M):=by
 have ora:=hR.one
 have orb:=hP.one
 have hs:=fun M=>zPA (fuel:=fuel) (d:=d) hR hP hf hl M
 apply zB6
 refine zDL tf13 rfl (by simp only [icyL,zBW hR.fz,zBW hP.fz]) (by simp [a13]) fun b' ht hx=>?_
 have h0:=hx 0 _ rfl
 have h1:=hx 1 _ rfl
 clear hx
 simp only [a13,c13,zzm] at ht ⊢
 unfold opEq
 cases q1 : decide (o.kd = p.kd)
 ·simp (maxSteps:=2000000) (disch:=first | omega | assumption | (simp only [DS,Nat.reduceAdd, *]; done) | (simp only [DZ]; omega)) only [RUN,RU,zA2,zA1,zA0,zA5,frzL,reduceIte,Nat.reduceEqDiff,Nat.reduceAdd,h0,h1,q1,Bool.false_and,zBR]
 cases q2 : decide (o.hd = p.hd)
 ·simp (maxSteps:=2000000) (disch:=first | omega | assumption | (simp only [DS,Nat.reduceAdd, *]; done) | (simp only [DZ]; omega)) only [RUN,RU,zA2,zA1,zA0,zA5,frzL,slot,reduceIte,Nat.reduceEqDiff,Nat.reduceAdd,h0,h1,↓pHdE,zB7,ETA,q1,q2,Bool.false_and,zBR]
 cases q3 : decide (o.sr = p.sr)
 ·simp (maxSteps:=2000000) (disch:=first | omega | assumption | (simp only [DS,Nat.reduceAdd, *]; done) | (simp only [DZ]; omega)) only [RUN,RU,zA2,zA1,zA0,zA5,frzL,slot,reduceIte,Nat.reduceEqDiff,Nat.reduceAdd,h0,h1,↓pHdE,zB7,ETA,q1,q2,q3,Bool.false_and,zBR]
 cases q4 : decide (o.sp = p.sp)
 ·simp (maxSteps:=2000000) (disch:=first | omega | assumption | (simp only [DS,Nat.reduceAdd, *]; done) | (simp only [DZ]; omega)) only [RUN,RU,zA2,zA1,zA0,zA5,frzL,slot,reduceIte,Nat.reduceEqDiff,Nat.reduceAdd,h0,h1,↓pHdE,zB7,↓pSpE,zEU,ETA,q1,q2,q3,q4,Bool.false_and,zBR]
 cases q5 : decide (o.af = p.af)
 ·simp (maxSteps:=2000000) (disch:=first | omega | assumption | (simp only [DS,Nat.reduceAdd, *]; done) | (simp only [DZ]; omega)) only [RUN,RU,zA2,zA1,zA0,zA5,frzL,slot,reduceIte,Nat.reduceEqDiff,Nat.reduceAdd,h0,h1,↓pIdE,zB3,↓pHdE,zB7,↓pSpE,zEU,ETA,q1,q2,q3,q4,q5,Bool.false_and,zBR]
 cases q6 : decide (o.to = p.to)
 ·simp (maxSteps:=2000000) (disch:=first | omega | assumption | (simp only [DS,Nat.reduceAdd, *]; done) | (simp only [DZ]; omega)) only [RUN,RU,zA2,zA1,zA0,zA5,frzL,slot,reduceIte,Nat.reduceEqDiff,Nat.reduceAdd,h0,h1,↓pIdE,zB3,↓pHdE,zB7,↓pLbE,zAV,↓pSpE,zEU,ETA,q1,q2,q3,q4,q5,q6,Bool.false_and,zBR]
 ·simp (maxSteps:=2000000) (disch:=first | omega | assumption | (simp only [DS,Nat.reduceAdd, *]; done) | (simp only [DZ]; omega)) only [RUN,RU,zA2,zA1,zA0,zA5,frzL,slot,reduceIte,Nat.reduceEqDiff,Nat.reduceAdd,h0,h1,↓pIdE,zB3,↓pHdE,zB7,↓pLbE,zAV,↓pSpE,zEU,ETA,q1,q2,q3,q4,q5,q6,hs,zBR]
def zOQ (l m : List Op) : Bool:=eqL opEq l m
theorem zET {l m : List Op} : zOQ l m = true ↔ l = m:=zSJ zIB
set_option maxHeartbeats 8000000 in
theorem zDB {a b : AV} {l m : List Op} (h1' : Sl 17 isOp a l) (h2' : Sl 17 isOp b m) (hl : l.length ≤ 1000000) (hc : ∀ o ∈ l,o.rs.length ≤ 1000000000 ∧ o.rs.length < fuel) (hf : l.length < fuel) (M : Mem) : zAC Tryz.prog (fsT tbl) fuel (d + 3) (.fn 14) [a,b] M = some (BL (zOQ l m),M):=by
 have la:=h1'.len
 have lb:=h2'.len
 apply zB6
 refine zDL tf14 rfl (by simp (maxSteps:=2000000) (disch:=first | omega | assumption | (simp only [DS,Nat.reduceAdd, *]; done) | (simp only [DZ]; omega)) only [icyL,h1'.fz.icy,h2'.fz.icy]) (by simp [a14]) fun b' ht hx=>?_
 have h0:=hx 0 _ rfl
 have h1:=hx 1 _ rfl
 clear hx
 simp only [a14,c14,zzm] at ht ⊢
 by_cases q : l.length = m.length
 ·have q0 : decide ((l.length : Int) = m.length) = true:=decide_eq_true (by omega)
  simp (maxSteps:=2000000) (disch:=first | omega | assumption | (simp only [DS,Nat.reduceAdd, *]; done) | (simp only [DZ]; omega)) only [RUN,RU,zA2,zA1,reduceIte,Nat.reduceEqDiff,h0,h1,la,lb,q0]
  refine zB1 (I:=fun n t N => ∃ (i : Nat),n = l.length - i ∧ i ≤ l.length ∧ nth zA4 t 0 = a ∧ nth zA4 t 1 = b ∧ nth zA4 t 5 = I64 i ∧ N = mem0 ∧ (∀ j (x1 : j < l.length) (x2 : j < m.length),j < i → opEq l[j] m[j] = true)) (n:=l.length) (by omega) ?_ ?_
  ·refine ⟨0,rfl,Nat.zero_le _, ?_, ?_, ?_,rfl,(fun _ _ _ h=>absurd h (by omega))⟩ <;> simp (maxSteps:=2000000) (disch:=first | omega | assumption | (simp only [DS,Nat.reduceAdd, *]; done) | (simp only [DZ]; omega)) only [RUN,reduceIte,Nat.reduceEqDiff,h0,h1]
   all_goals first | rfl | assumption | done
  ·rintro n t N hlt ⟨i,rfl,hi,g0,g1,g5,hm,hj⟩
   simp only [ht] at hlt ⊢
   subst hm
   by_cases hc' : i < l.length
   ·have q1 : decide ((i : Int) < l.length) = true:=decide_eq_true (by omega)
    have hc2 : i < m.length:=by omega
    obtain ⟨r1,i1,⟨ra,hr1,s1,_⟩,hl1⟩:=h1'.iad i hc'
    obtain ⟨r2,i2,⟨rb,hr2,s2,_⟩,hl2⟩:=h2'.iad i hc2
    have hcr:=hc l[i] (List.getElem_mem hc')
    have hp:=fun M=>zFC (fuel:=fuel) (d:=d) s1 s2 hcr.1 hcr.2 M
    have w1 : IntKind.i64.wrap ((i : Int) + 1) = ((i + 1 : Nat) : Int):=by rw [wrap_i64] <;> omega
    subst hr1 hr2
    cases q2 : opEq l[i] m[i] with
    | true =>
     rw [q2] at hp
     simp (maxSteps:=2000000) (disch:=first | omega | assumption | (simp only [DS,Nat.reduceAdd, *]; done) | (simp only [DZ]; omega)) only [RUN,RU,zA2,zA1,slot,reduceIte,Nat.reduceEqDiff,Nat.reduceBEq,Nat.reduceAdd,g0,g1,g5,la,q1,i1,i2,w1,hp]
     exact ⟨hlt,l.length - (i + 1),by omega,i + 1,rfl,by omega,rfl,fun j x1 x2 hj'=>by
      rcases Nat.lt_succ_iff_lt_or_eq.1 hj' with h | rfl
      ·exact hj j x1 x2 h
      ·exact q2⟩
    | false =>
     rw [q2] at hp
     have e : zOQ l m = false:=zW4 hc' hc2 q2
     simp (maxSteps:=2000000) (disch:=first | omega | assumption | (simp only [DS,Nat.reduceAdd, *]; done) | (simp only [DZ]; omega)) only [RUN,RU,zA2,zA1,zA0,zA5,frzL,slot,reduceIte,Nat.reduceEqDiff,Nat.reduceBEq,Nat.reduceAdd,g0,g1,g5,la,q1,i1,i2,hp,e,zBR]
   ·obtain rfl : i = l.length:=by omega
    have q1 : decide ((l.length : Int) < l.length) = false:=decide_eq_false (by omega)
    have e : zOQ l m = true:=zTP q fun j x1 x2 _=>hj j x1 x2 x1
    simp (maxSteps:=2000000) (disch:=first | omega | assumption | (simp only [DS,Nat.reduceAdd, *]; done) | (simp only [DZ]; omega)) only [RUN,RU,zA2,zA1,zA0,zA5,frzL,reduceIte,Nat.reduceEqDiff,g0,g5,la,e,zBR]
 ·have q0 : decide ((l.length : Int) = m.length) = false:=decide_eq_false (by omega)
  have e : zOQ l m = false:=zW5 q
  simp (maxSteps:=2000000) (disch:=first | omega | assumption | (simp only [DS,Nat.reduceAdd, *]; done) | (simp only [DZ]; omega)) only [RUN,RU,zA2,zA1,zA0,zA5,frzL,reduceIte,Nat.reduceEqDiff,h0,h1,la,lb,q0,e,zBR]
end Go.Proofs.YtkfdflajadkfkaaGreat
namespace Go.Proofs.YtkfdflajadkfkaaGreat
open Go Go.Ax
variable {fuel : Nat} {M : Mem} {Q : AV → Mem → Prop} {d : Nat} {l p : List Op} {o : Op} {ra a b : AV} {B : Nat} {v : Lb}
theorem zBM {N : Mem} (wf : Wf N) {n : Nat} (hn : n = N.size) (z y : AObj) : Wf ((N.add z).upd n y) ∧ ((N.add z).upd n y).size = N.size + 1 ∧ ((N.add z).upd n y).get n = some y ∧ (∀ j,j < N.size → ((N.add z).upd n y).get j = N.get j) ∧ ((N.add z).upd n y).wm = N.wm:=by
 subst hn
 refine ⟨(wf.add _).upd _ _,by rw [zAE,zA8],zAP (wf.add _) _ _ (by rw [zA8]; omega),fun j hj=>?_,rfl⟩
 rw [zAA (wf.add _) _ _ _ (by omega),zAF wf _ _ hj]
theorem zOB {P : Program} {fs : Nat → Option AFunc} {fuel f n : Nat} {af : AFunc} {o : AV} {l : List Op} {w : Value} {rest : List AV} (h : fs f = some af) (hg : af.gc = 2) (hN : opK.NN M B o l) (wf : Wf M) (hre : ∀ M,icyL (icy 12) M rest = some (rest,M)) (hc : ∀ o',Sl 17 isOp o' l → ∀ M,zAC P fs fuel (n + 1) (.fn f) (o' :: rest) M = some (.sc w,M)) : zAC P fs fuel (n + 1) (.fn f) (o :: rest) M = some (.sc w,M):=by
 obtain ⟨o',M',i1,s1,_⟩:=hN.nr.icyk wf (k:=11) (by omega)
 have s2:=zLN s1
 exact zCV (bs:=o' :: rest) h hg (hc o' s2 mem0) (M3:=mem0) (M2:=M') (by simp only [icyL,s2.icy mem0 12 (by omega),hre]) (by simp only [icyL,i1,hre])
theorem zX1 {p : Op} (wf : Wf M) (hs : SlM M 1 zAS a p.rs) (hlo : ∀ j,rowOf a = some j → B ≤ j) (hok : p.ok) (hB : B ≤ M.size) : opK.ND (M.add (.row false (opR p a))) B (.sl M.size 0 1 (some 1) 17) [p]:=by
 have ne : ∀ j,rowOf a = some j → j ≠ M.size:=fun j hj e=>by have:=hs.lt j hj; omega
 refine ⟨[(p,a)],rfl,.inr ⟨M.size,[opR p a],some 1,rfl,.inr rfl,zAG wf _ _ (Nat.le_refl _) (Nat.lt_succ_self _),.cons ⟨rfl,hs.one,hs.cells⟩ .nil, ?_⟩,fun x hx=>?_,fun j hj=>?_,fun x hx j hj e=>?_,List.pairwise_singleton _ _⟩
 ·intro r hr
  rw [List.mem_singleton] at hr
  subst hr; rfl
 ·rw [List.mem_singleton] at hx
  subst hx
  exact ⟨hs.keep fun j hj=>zAF wf _ _ (hs.lt j hj),hlo,hok⟩
 ·cases hj; exact hB
 ·rw [List.mem_singleton] at hx
  subst hx
  cases hj
  exact ne _ e rfl
theorem Sp.lens {M : Mem} {E : Nat} {o : AV} {l : List Op} (h : Sp M E B o (l.map fun o=>o.rs.length)) (hl : l.length ≤ 100000) (hr : ∀ o ∈ l,o.rs.length ≤ 100000) : (l.map fun o=>o.rs.length).length ≤ 100000 ∧ ∀ n ∈ (l.map fun o=>o.rs.length),n ≤ 100000:=by
 refine ⟨by rw [List.length_map]; exact hl,fun n hn=>?_⟩
 obtain ⟨o,ho,rfl⟩:=List.mem_map.1 hn
 exact hr o ho
theorem zX4 : opZ.ok:=by simp [Op.ok,Hd.ok,Spn.ok,Eid.ok,Lb.ok,i64R,i32s,opZ,Hd.z,Eid.z,Lb.z]
theorem zC2 {N : Mem} (wf : Wf N) (z y z' y' : AObj) : let X:=(((N.add z).upd N.size y).add z').upd (N.size + 1) y'; Wf X ∧ (N.wm ≤ N.size → X.wm ≤ X.size) ∧ X.get N.size = some y ∧ X.get (N.size + 1) = some y' ∧ ∀ j,j < N.size → X.get j = N.get j:=by
 obtain ⟨a1,a2,a3,a4,a5⟩:=zBM wf rfl z y
 obtain ⟨b1,b2,b3,b4,b5⟩:=zBM a1 (n:=N.size + 1) (by rw [a2]) z' y'
 refine ⟨b1,fun h=>?_, ?_,b3,fun j hj=>?_⟩
 ·show N.wm ≤ N.size + 1 + 1
  omega
 ·rw [b4 _ (by omega)]; exact a3
 ·rw [b4 _ (by omega)]; exact a4 j hj
set_option maxHeartbeats 32000000 in
theorem zPG {fr : Int} (hS : Sl 17 isOp a l) (hR : Sl 1 zAS ra o.rs) (ho : o.ok) (hv : v.ok) (hP : Sl 17 isOp b p) (M : Mem) : zAC Tryz.prog (fsT tbl) 4000000 61 (.fn 3) [a,.agg (opR o ra),lbA v,I64 fr,b] M = some (BL true,M):=by
 have lr:=hR.len
 have ora:=hR.one
 have hgr:=fun M=>zIX (fuel:=4000000) (d:=59) (many:=20) hS (by omega) M
 have hgp:=fun M=>zIX (fuel:=4000000) (d:=59) (many:=10) hP (by omega) M
 apply zB6
 refine zAH tf3 rfl (by simp only [icyL,fun M=>hS.icy M 12 (by omega),zBW hR.fz,zAK (zBA v) (show 1 < 12 by omega),fun M=>hP.icy M 12 (by omega),zH4]) (by simp [a3]) fun b' ht hx=>?_
 have h0:=hx 0 _ rfl
 have h1:=hx 1 _ rfl
 have h2:=hx 2 _ rfl
 have h3:=hx 3 _ rfl
 have h4:=hx 4 _ rfl
 clear hx
 simp only [a3,c3,zz4,zzm,zzg] at ht ⊢
 cases q1 : zHC l 20 with
 | true =>
  rw [q1] at hgr
  simp (maxSteps:=2000000) (disch:=first | omega | assumption | (simp only [DS,Nat.reduceAdd, *]; done) | (simp only [DZ]; omega)) only [RUN,RU,zA2,zA1,zA0,zA5,frzL,reduceIte,Nat.reduceEqDiff,Nat.reduceAdd,h0,h1,h2,hgr]
 | false =>
  rw [q1] at hgr
  obtain ⟨hl20,hrs⟩:=zGB (by omega) q1
  by_cases q2 : 300 < o.rs.length
  ·have q2' : decide ((300 : Int) < o.rs.length) = true:=decide_eq_true (by omega)
   simp (maxSteps:=2000000) (disch:=first | omega | assumption | (simp only [DS,Nat.reduceAdd, *]; done) | (simp only [DZ]; omega)) only [RUN,RU,zA2,zA1,zA0,zA5,frzL,reduceIte,Nat.reduceEqDiff,Nat.reduceAdd,h0,h1,h2,hgr,lr,q2']
  ·have q2' : decide ((300 : Int) < o.rs.length) = false:=decide_eq_false (by omega)
   cases q3 : zHC p 10 with
   | true =>
    rw [q3] at hgp
    simp (maxSteps:=2000000) (disch:=first | omega | assumption | (simp only [DS,Nat.reduceAdd, *]; done) | (simp only [DZ]; omega)) only [RUN,RU,zA2,zA1,zA0,zA5,frzL,reduceIte,Nat.reduceEqDiff,Nat.reduceAdd,h0,h1,h2,h4,hgr,lr,q2',hgp]
   | false =>
    rw [q3] at hgp
    obtain ⟨hp10,hrp⟩:=zGB (by omega) q3
    have hrs2 : ∀ o ∈ l,o.rs.length ≤ 1000000000:=fun o ho=>by have:=hrs o ho; omega
    have hrp2 : ∀ o ∈ p,o.rs.length ≤ 1000000000:=fun o ho=>by have:=hrp o ho; omega
    have hlp : ∀ o ∈ l ++ p,o.rs.length ≤ 300:=fun o ho=>by
     rcases List.mem_append.1 ho with h | h
     ·exact hrs o h
     ·exact hrp o h
    have hlp2 : ∀ o ∈ l ++ p,o.rs.length ≤ 1000000000:=fun o ho=>by have:=hlp o ho; omega
    obtain ⟨own,hown,hownr⟩:=zED (fuel:=4000000) (d:=58) hS (by omega) hrs2 (by omega)
    obtain ⟨told,htold,htoldr⟩:=zED (fuel:=4000000) (d:=58) hP (by omega) hrp2 (by omega)
    obtain ⟨rb,hrb,hrbr⟩:=zKL (fuel:=4000000) (d:=52) (o:=o) hS hR ho hv (by omega) (by omega)
    obtain ⟨_,⟨rd,rfl,hrd⟩,hrdr⟩:=zKM (fuel:=4000000) (d:=52) (fr:=fr) hS hv (by omega) (by omega)
    obtain ⟨ry,hry,hryr⟩:=zKN (fuel:=4000000) (d:=52) (fr:=fr) hS hP hv (by omega) (by omega) (by omega) hlp2
    have hdr : (hdO l o v).rs.length ≤ 300:=by
     unfold hdO
     split
     ·show (zDX l o v).length ≤ 300
      rw [zDA]; omega
     ·exact Nat.zero_le _
    have hdk : (hdO l o v).ok:=by
     unfold hdO
     split
     ·exact zI6 ho
     ·exact zX4
    have hpg:=zRN l v fr
    have hpr:=zUU (v:=v) (fr:=fr) hrs
    have htl : (tkL l v fr p).length ≤ 30:=by
     unfold tkL
     split
     ·rw [List.length_append]; omega
     ·exact Nat.zero_le _
    have htr : ∀ o ∈ tkL l v fr p,o.rs.length ≤ 300:=by
     unfold tkL
     split
     ·exact hlp
     ·intro o ho; cases ho
    simp (maxSteps:=2000000) (disch:=first | omega | assumption | (simp only [DS,Nat.reduceAdd, *]; done) | (simp only [DZ]; omega)) only [RUN,RU,zA2,zA1,slot,reduceIte,Nat.reduceEqDiff,Nat.reduceAdd,h0,h1,h2,h4,hgr,lr,q2',hgp,hownr]
    have wX : Wf ((mem0.add (.row false (opR o ra))).add (.row false (lbR v))):=(Wf.mem0.add _).add _
    have y0 : ((mem0.add (.row false (opR o ra))).add (.row false (lbR v))).get 0 = some (.row false (opR o ra)):=by simp (maxSteps:=2000000) (disch:=first | omega | assumption | (simp only [DS,Nat.reduceAdd, *]; done) | (simp only [DZ]; omega)) only [RUN]
    have y1 : ((mem0.add (.row false (opR o ra))).add (.row false (lbR v))).get 1 = some (.row false (lbR v)):=by simp (maxSteps:=2000000) (disch:=first | omega | assumption | (simp only [DS,Nat.reduceAdd, *]; done) | (simp only [DZ]; omega)) only [RUN]
    have sX : ((mem0.add (.row false (opR o ra))).add (.row false (lbR v))).size = 2:=rfl
    have mX : ((mem0.add (.row false (opR o ra))).add (.row false (lbR v))).wm = 0:=rfl
    generalize (mem0.add (.row false (opR o ra))).add (.row false (lbR v)) = X at *
    refine zKT (fuel:=4000000) (d:=59) hR (by omega) wX (by omega) fun am N1 w1 le1 kp1 sm1 nw1 wm1=>?_
    have l0:=Mem.get_lt y0
    have l1:=Mem.get_lt y1
    replace y0:=(kp1 0 l0).trans y0
    replace y1:=(kp1 1 l1).trans y1
    have oam:=sm1.one
    have cam:=sm1.cells
    simp (maxSteps:=2000000) (disch:=first | omega | assumption | (simp only [DS,Nat.reduceAdd, *]; done) | (simp only [DZ]; omega)) only [RUN,RU,zA2,zA1,slot,lay,reduceIte,Nat.reduceEqDiff,Nat.reduceAdd,h4,htoldr,y1]
    have lam : ∀ j,rowOf am = some j → j < N1.size:=sm1.lt
    refine zVU (fuel:=4000000) (d:=45) (o:=o) (ra:=am) hown (sm1.keep fun j hj=>(zBM w1 rfl _ _).2.2.2.1 j (sm1.lt j hj)) ho (by omega) (by omega) (by omega) (zBM w1 rfl _ _).1 (by rw [(zBM w1 rfl _ _).2.2.2.2,(zBM w1 rfl _ _).2.1]; omega) fun a2 N2 w2 le2 kp2 sm2 nw2 wm2=>?_
    have le2 : N1.size + 1 ≤ N2.size:=le2
    have f1:=kp2 N1.size (Nat.lt_succ_self _)
    rw [(zBM w1 rfl _ _).2.2.1] at f1
    have nw2 : ∀ j,rowOf a2 = some j → N1.size + 1 ≤ j:=nw2
    have wm2 : N2.wm = N1.wm:=wm2
    replace kp2 : ∀ j,j < N1.size → N2.get j = N1.get j:=fun j hj=>(kp2 j (Nat.lt_succ_of_lt hj)).trans ((zBM w1 rfl _ _).2.2.2.1 j hj)
    replace y0:=(kp2 0 (by omega)).trans y0
    replace y1:=(kp2 1 (by omega)).trans y1
    replace sm1:=sm1.keep fun j hj=>kp2 j (sm1.lt j hj)
    have oa2:=sm2.one
    have ca2:=sm2.cells
    have orb:=hrb.one
    generalize hdO l o v = q at *
    have e1 : decide (hdE l o v = hdE l o v) = true:=decide_eq_true rfl
    have e2 : decide (zGK l v fr = zGK l v fr) = true:=decide_eq_true rfl
    have e3 : decide (zDY l v fr = zDY l v fr) = true:=decide_eq_true rfl
    have e4 : decide (tkE l v fr p = tkE l v fr p) = true:=decide_eq_true rfl
    simp (maxSteps:=2000000) (disch:=first | omega | assumption | (simp only [DS,Nat.reduceAdd, *]; done) | (simp only [DZ]; omega)) only [RUN,RU,zA2,zA1,slot,lay,reduceIte,Nat.reduceEqDiff,Nat.reduceAdd,h0,h3,hrbr,y0,y1]
    refine zVW (fuel:=4000000) (d:=44) (fr:=fr) hown (by omega) (by omega) hrs2 (zC2 w2 _ _ _ _).1 ((zC2 w2 _ _ _ _).2.1 (by omega)) fun c N4 w4 le4 kp4 nd4 wm4=>?_
    have le4 : N2.size + 2 ≤ N4.size:=le4
    have nd4 : opK.ND N4 (N2.size + 2) c (zDZ l v fr):=nd4
    have wm4 : N4.wm = N2.wm:=wm4
    have f3:=(kp4 (N2.size + 1) (Nat.lt_succ_self _)).trans (zC2 w2 _ _ _ _).2.2.2.1
    have f2:=(kp4 N2.size (Nat.lt_succ_of_lt (Nat.lt_succ_self _))).trans (zC2 w2 _ _ _ _).2.2.1
    replace kp4 : ∀ j,j < N2.size → N4.get j = N2.get j:=fun j hj=>(kp4 j (Nat.lt_succ_of_lt (Nat.lt_succ_of_lt hj))).trans ((zC2 w2 _ _ _ _).2.2.2.2 j hj)
    replace y0:=(kp4 0 (by omega)).trans y0
    replace y1:=(kp4 1 (by omega)).trans y1
    replace f1:=(kp4 N1.size (by omega)).trans f1
    have la2 : ∀ j,rowOf a2 = some j → j < N2.size:=sm2.lt
    replace sm1:=sm1.keep fun j hj=>kp4 j (by have:=lam j hj; omega)
    replace sm2:=sm2.keep fun j hj=>kp4 j (la2 j hj)
    have oc:=nd4.nn.one
    simp (maxSteps:=2000000) (disch:=first | omega | assumption | (simp only [DS,Nat.reduceAdd, *]; done) | (simp only [DZ]; omega)) only [RUN,RU,zA2,zA1,slot,reduceIte,Nat.reduceEqDiff,h0,h3,hrdr,y1]
    refine zVY (fuel:=4000000) (d:=44) (fr:=fr) hown htold (by omega) (by omega) (by omega) hlp2 w4 (by omega) fun x N5 w5 le5 kp5 nd5 wm5=>?_
    replace y0:=(kp5 0 (by omega)).trans y0
    replace y1:=(kp5 1 (by omega)).trans y1
    replace f1:=(kp5 N1.size (by omega)).trans f1
    replace f2:=(kp5 N2.size (by omega)).trans f2
    replace f3:=(kp5 (N2.size + 1) (by omega)).trans f3
    replace sm1:=sm1.keep fun j hj=>kp5 j (by have:=lam j hj; omega)
    replace sm2:=sm2.keep fun j hj=>kp5 j (by have:=la2 j hj; omega)
    have sp4 : Sp N5 N4.size (N2.size + 2) c ((zDZ l v fr).map fun o=>o.rs.length):=(Sp.of nd4 w4).keep fun j _ h=>kp5 j h
    have sp5:=Sp.of nd5 w5
    have nd4' : opK.ND N5 (N2.size + 2) c (zDZ l v fr):=nd4.keep fun j _ h=>kp5 j h
    have ox:=nd5.nn.one
    have hsA : ∀ N,(∀ j,N.get j = N5.get j) → Wf N → zAC Tryz.prog (fsT tbl) 4000000 60 (.fn 13) [.agg [U8 q.kd,U8 q.hd.lb.lv,U32 q.hd.lb.cats,U8 q.hd.num,I64 q.sr,U8 q.sp.f.hd.lb.lv,U32 q.sp.f.hd.lb.cats,U8 q.sp.f.hd.num,I64 q.sp.f.c,I64 q.sp.n,U8 q.af.hd.lb.lv,U32 q.af.hd.lb.cats,U8 q.af.hd.num,I64 q.af.c,U8 q.to.lv,U32 q.to.cats,a2],.agg [U8 q.kd,U8 q.hd.lb.lv,U32 q.hd.lb.cats,U8 q.hd.num,I64 q.sr,U8 q.sp.f.hd.lb.lv,U32 q.sp.f.hd.lb.cats,U8 q.sp.f.hd.num,I64 q.sp.f.c,I64 q.sp.n,U8 q.af.hd.lb.lv,U32 q.af.hd.lb.cats,U8 q.af.hd.num,I64 q.af.c,U8 q.to.lv,U32 q.to.cats,rb]] N = some (BL true,N):=fun N hN hw =>
     zK7 (n:=59) (opH q) a2 (rest:=[.agg (opR q rb)]) tf13 rfl (opK.hz q) (sm2.keep fun j _=>hN j) hw zE1 (fun M=>by simp only [icyL,zBW hrb.fz]) (fun a' ha' M=>by
      have:=zFC (fuel:=4000000) (d:=58) (o:=q) (p:=q) ha' hrb (by omega) (by omega) M
      rw [(zIB q q).2 rfl] at this
      exact this)
    have hsB : ∀ N,(∀ j,N.get j = N5.get j) → Wf N → zAC Tryz.prog (fsT tbl) 4000000 60 (.fn 14) [c,rd] N = some (BL true,N):=fun N hN hw =>
     zOB (n:=59) (rest:=[rd]) tf14 rfl (nd4'.keep fun j _ _=>hN j).nn hw (fun M=>by simp only [icyL,hrd.icy M 12 (by omega)]) (fun o' ho' M=>by
      have:=zDB (fuel:=4000000) (d:=57) ho' hrd (by omega) (fun o ho=>by have:=hpr o ho; omega) (by omega) M
      rw [zET.2 rfl] at this
      exact this)
    have hsC : ∀ N,(∀ j,N.get j = N5.get j) → Wf N → zAC Tryz.prog (fsT tbl) 4000000 60 (.fn 14) [x,ry] N = some (BL true,N):=fun N hN hw =>
     zOB (n:=59) (rest:=[ry]) tf14 rfl (nd5.keep fun j _ _=>hN j).nn hw (fun M=>by simp only [icyL,hry.icy M 12 (by omega)]) (fun o' ho' M=>by
      have:=zDB (fuel:=4000000) (d:=57) ho' hry (by omega) (fun o ho=>by have:=htr o ho; omega) (by omega) M
      rw [zET.2 rfl] at this
      exact this)
    clear hgr hgp hownr htoldr hrbr hrdr hrs2 hrp2 hlp hlp2
    have hA1:=hsA N5 (fun _=>rfl) w5
    have hA2:=hsA N5.lo (fun _=>zLH _ _) (by rw [zI9]; exact w5)
    have hB1:=hsB N5 (fun _=>rfl) w5
    have hC1:=hsC N5 (fun _=>rfl) w5
    clear hsA hsB hsC
    simp (maxSteps:=2000000) (disch:=first | omega | assumption | (simp only [DS,Nat.reduceAdd, *]; done) | (simp only [DZ]; omega)) only [RUN,RU,zA2,zA1,slot,reduceIte,Nat.reduceEqDiff,h0,h3,h4,hryr,y1,f2,f3,hA1]
    simp (maxSteps:=2000000) (disch:=first | omega | assumption | (simp only [DS,Nat.reduceAdd, *]; done) | (simp only [DZ]; omega)) only [RUN,RU,zA2,zA1,reduceIte,Nat.reduceEqDiff,hB1]
    simp (maxSteps:=2000000) (disch:=first | omega | assumption | (simp only [DS,Nat.reduceAdd, *]; done) | (simp only [DZ]; omega)) only [RUN,RU,zA2,zA1,reduceIte,Nat.reduceEqDiff,hC1]
    refine zKS (fuel:=4000000) (d:=59) sp4 (by omega) (Sp.lens sp4 (by omega) (fun o ho=>by have:=hpr o ho; omega)).1 (Sp.lens sp4 (by omega) (fun o ho=>by have:=hpr o ho; omega)).2 (by omega) w5 fun u1 S1 ws1 sz1 ks1 wms1=>?_
    have sp6 : Sp S1 N5.size N4.size x ((tkL l v fr p).map fun o=>o.rs.length):=sp5.keep fun j h _=>ks1 j (.inr h)
    simp (maxSteps:=2000000) (disch:=first | omega | assumption | (simp only [DS,Nat.reduceAdd, *]; done) | (simp only [DZ]; omega)) only [RUN,RU,zA2,zA1,reduceIte,Nat.reduceEqDiff]
    refine zKS (fuel:=4000000) (d:=59) sp6 (by omega) (Sp.lens sp6 (by omega) (fun o ho=>by have:=htr o ho; omega)).1 (Sp.lens sp6 (by omega) (fun o ho=>by have:=htr o ho; omega)).2 (by omega) ws1 fun u2 S2 ws2 sz2 ks2 wms2=>?_
    have kk : ∀ j,j < N2.size + 2 → S2.get j = N5.get j:=fun j hj=>(ks2 j (.inl (by omega))).trans (ks1 j (.inl hj))
    replace y0:=(kk 0 (by omega)).trans y0
    replace y1:=(kk 1 (by omega)).trans y1
    replace f1:=(kk N1.size (by omega)).trans f1
    replace f2:=(kk N2.size (by omega)).trans f2
    replace sm1:=sm1.keep fun j hj=>kk j (by have:=lam j hj; omega)
    replace sm2:=sm2.keep fun j hj=>kk j (by have:=la2 j hj; omega)
    have nd6:=zX1 (B:=N1.size + 1) (p:=q) ws2 sm2 nw2 hdk (by omega)
    have sp7:=Sp.of nd6 (ws2.add _)
    have ln2 : N2.size < S2.size:=by omega
    simp (maxSteps:=2000000) (disch:=first | omega | assumption | (simp only [DS,Nat.reduceAdd, *]; done) | (simp only [DZ]; omega)) only [RUN,RU,zA2,zA1,slot,lay,zAJ,zAD,reduceIte,Nat.reduceEqDiff,Nat.reduceBEq,Nat.reduceAdd,f2]
    refine zKS (fuel:=4000000) (d:=59) sp7 (Nat.le_refl _) (by simp) (fun n hn=>by simp only [List.map_cons,List.map_nil,List.mem_singleton] at hn; omega) (by omega) (ws2.add _) fun u3 S3 ws3 sz3 ks3 wms3=>?_
    have k7 : ∀ j,j < N1.size + 1 → S3.get j = S2.get j:=fun j hj=>(ks3 j (.inl hj)).trans (zAF ws2 _ _ (by omega))
    replace y0:=(k7 0 (by omega)).trans y0
    replace f1:=(k7 N1.size (by omega)).trans f1
    replace sm1:=sm1.keep fun j hj=>k7 j (by have:=lam j hj; omega)
    have sz3 : S3.size = S2.size + 1:=sz3
    have l1S : N1.size < S3.size:=by omega
    have l0S : 0 < S3.size:=by omega
    have hD:=fun M=>zDB (fuel:=4000000) (d:=57) hown hS (by omega) (fun o ho=>by have:=hrs o ho; omega) (by omega) M
    rw [zET.2 rfl] at hD
    have hF:=fun M=>zDB (fuel:=4000000) (d:=57) htold hP (by omega) (fun o ho=>by have:=hrp o ho; omega) (by omega) M
    rw [zET.2 rfl] at hF
    have hsE : ∀ N,(∀ j,N.get j = S3.get j) → Wf N → zAC Tryz.prog (fsT tbl) 4000000 60 (.fn 13) [.agg [U8 o.kd,U8 o.hd.lb.lv,U32 o.hd.lb.cats,U8 o.hd.num,I64 o.sr,U8 o.sp.f.hd.lb.lv,U32 o.sp.f.hd.lb.cats,U8 o.sp.f.hd.num,I64 o.sp.f.c,I64 o.sp.n,U8 o.af.hd.lb.lv,U32 o.af.hd.lb.cats,U8 o.af.hd.num,I64 o.af.c,U8 o.to.lv,U32 o.to.cats,am],.agg [U8 o.kd,U8 o.hd.lb.lv,U32 o.hd.lb.cats,U8 o.hd.num,I64 o.sr,U8 o.sp.f.hd.lb.lv,U32 o.sp.f.hd.lb.cats,U8 o.sp.f.hd.num,I64 o.sp.f.c,I64 o.sp.n,U8 o.af.hd.lb.lv,U32 o.af.hd.lb.cats,U8 o.af.hd.num,I64 o.af.c,U8 o.to.lv,U32 o.to.cats,ra]] N = some (BL true,N):=fun N hN hw =>
     zK7 (n:=59) (opH o) am (rest:=[.agg (opR o ra)]) tf13 rfl (opK.hz o) (sm1.keep fun j _=>hN j) hw zE1 (fun M=>by simp only [icyL,zBW hR.fz]) (fun a' ha' M=>by
      have:=zFC (fuel:=4000000) (d:=58) (o:=o) (p:=o) ha' hR (by omega) (by omega) M
      rw [(zIB o o).2 rfl] at this
      exact this)
    have hE1:=hsE S3 (fun _=>rfl) ws3
    have hE2:=hsE S3.lo (fun _=>zLH _ _) (by rw [zI9]; exact ws3)
    clear hsE
    simp (maxSteps:=2000000) (disch:=first | omega | assumption | (simp only [DS,Nat.reduceAdd, *]; done) | (simp only [DZ]; omega)) only [RUN,RU,zA2,zA1,reduceIte,Nat.reduceEqDiff,h0,hD]
    simp (maxSteps:=2000000) (disch:=first | omega | assumption | (simp only [DS,Nat.reduceAdd, *]; done) | (simp only [DZ]; omega)) only [RUN,RU,zA2,zA1,zA0,zA5,frzL,slot,reduceIte,Nat.reduceEqDiff,h4,y0,f1,hE1,hF]
end Go.Proofs.YtkfdflajadkfkaaGreat
namespace Go.Proofs.YtkfdflajadkfkaaGreat
open Go Go.Ax
abbrev gLb : GT:=.ag [.int .u8,.int .u32]
abbrev gHd : GT:=.ag [gLb,.int .u8]
abbrev gId : GT:=.ag [gHd,.int .i64]
abbrev gSp : GT:=.ag [gId,.int .i64]
abbrev gOp : GT:=.ag [.int .u8,gHd,.int .i64,gSp,gId,gLb,.sl (.int .i32)]
theorem zE3 {n : Int} (h : (Lit.int .u8 n).wf = true) : 0 ≤ n ∧ n ≤ 255:=by
 simp [Lit.wf,IntKind.min,IntKind.max,IntKind.signed,IntKind.bits] at h
 omega
theorem zFG {n : Int} (h : (Lit.int .u32 n).wf = true) : 0 ≤ n ∧ n < 4294967296:=by
 simp [Lit.wf,IntKind.min,IntKind.max,IntKind.signed,IntKind.bits] at h
 omega
theorem zII {n : Int} (h : (Lit.int .i64 n).wf = true) : i64R n:=by
 simp [Lit.wf,IntKind.min,IntKind.max,IntKind.signed,IntKind.bits] at h
 unfold i64R
 omega
def zO5 (r : List AV) (x : Int) : Prop:=zAS r x ∧ (-2147483648 ≤ x ∧ x ≤ 2147483647)
theorem zX2 (r : List AV) (h : Is (.int .i32) r) : ∃ x,zO5 r x:=by
 simp only [Is] at h
 obtain ⟨n,rfl,hw⟩:=h
 refine ⟨n,rfl, ?_⟩
 simp [Lit.wf,IntKind.min,IntKind.max,IntKind.signed,IntKind.bits] at hw
 omega
theorem zL0 : ∀ {rows : List (List AV)} {l : List Int},All2 zO5 rows l → All2 zAS rows l ∧ i32s l
 | _,_,.nil=>⟨.nil,fun x h=>by cases h⟩
 | _,_,.cons a t=>by
  obtain ⟨h1,h2⟩:=zL0 t
  refine ⟨.cons a.1 h1,fun x h=>?_⟩
  rcases List.mem_cons.1 h with rfl | h
  ·exact a.2
  ·exact h2 x h
theorem zY2 {a : AV} {l : List Int} (h : Sl 1 zO5 a l) : Sl 1 zAS a l ∧ i32s l:=by
 rcases h with ⟨rfl,rfl⟩ | ⟨rows,cap,rfl,hA,hr⟩
 ·exact ⟨.inl ⟨rfl,rfl⟩,fun x h=>by cases h⟩
 ·obtain ⟨h1,h2⟩:=zL0 hA
  exact ⟨.inr ⟨rows,cap,rfl,h1,hr⟩,h2⟩
theorem zRE {r : List AV} (h : Is (.sl (.int .i32)) r) : ∃ a l,r = [a] ∧ Sl 1 zAS a l ∧ i32s l:=by
 obtain ⟨a,l,e,hs⟩:=Is.slice zX2 h
 obtain ⟨h1,h2⟩:=zY2 hs
 exact ⟨a,l,e,h1,h2⟩
theorem of_lb (r : List AV) (h : Is gLb r) : ∃ x,isLb r x:=by
 simp only [Is,IsL] at h
 obtain ⟨_,_,rfl,⟨n1,rfl,w1⟩,_,_,rfl,⟨n2,rfl,w2⟩,rfl⟩:=h
 exact ⟨⟨n1,n2⟩,rfl,(zE3 w1).1,(zE3 w1).2,(zFG w2).1,(zFG w2).2⟩
theorem zUJ (r : List AV) (h : Is gOp r) : ∃ x,isOp r x:=by
 simp only [Is,IsL] at h
 obtain ⟨_,_,rfl,⟨n1,rfl,w1⟩,_,_,rfl,⟨_,_,rfl,⟨_,_,rfl,⟨n2,rfl,w2⟩,_,_,rfl,⟨n3,rfl,w3⟩,rfl⟩,_,_,rfl,⟨n4,rfl,w4⟩,rfl⟩,_,_,rfl,⟨n5,rfl,w5⟩,_,_,rfl,⟨_,_,rfl,⟨_,_,rfl,⟨_,_,rfl,⟨_,_,rfl,⟨n6,rfl,w6⟩,_,_,rfl,⟨n7,rfl,w7⟩,rfl⟩,_,_,rfl,⟨n8,rfl,w8⟩,rfl⟩,_,_,rfl,⟨n9,rfl,w9⟩,rfl⟩,_,_,rfl,⟨n10,rfl,w10⟩,rfl⟩,_,_,rfl,⟨_,_,rfl,⟨_,_,rfl,⟨_,_,rfl,⟨n11,rfl,w11⟩,_,_,rfl,⟨n12,rfl,w12⟩,rfl⟩,_,_,rfl,⟨n13,rfl,w13⟩,rfl⟩,_,_,rfl,⟨n14,rfl,w14⟩,rfl⟩,_,_,rfl,⟨_,_,rfl,⟨n15,rfl,w15⟩,_,_,rfl,⟨n16,rfl,w16⟩,rfl⟩,_,_,rfl,hr,rfl⟩:=h
 have r1 : 0 ≤ n1 ∧ n1 ≤ 255:=by exact zE3 w1
 have r2 : 0 ≤ n2 ∧ n2 ≤ 255:=by exact zE3 w2
 have r3 : 0 ≤ n3 ∧ n3 < 4294967296:=by exact zFG w3
 have r4 : 0 ≤ n4 ∧ n4 ≤ 255:=by exact zE3 w4
 have r5 : i64R n5:=by exact zII w5
 have r6 : 0 ≤ n6 ∧ n6 ≤ 255:=by exact zE3 w6
 have r7 : 0 ≤ n7 ∧ n7 < 4294967296:=by exact zFG w7
 have r8 : 0 ≤ n8 ∧ n8 ≤ 255:=by exact zE3 w8
 have r9 : i64R n9:=by exact zII w9
 have r10 : i64R n10:=by exact zII w10
 have r11 : 0 ≤ n11 ∧ n11 ≤ 255:=by exact zE3 w11
 have r12 : 0 ≤ n12 ∧ n12 < 4294967296:=by exact zFG w12
 have r13 : 0 ≤ n13 ∧ n13 ≤ 255:=by exact zE3 w13
 have r14 : i64R n14:=by exact zII w14
 have r15 : 0 ≤ n15 ∧ n15 ≤ 255:=by exact zE3 w15
 have r16 : 0 ≤ n16 ∧ n16 < 4294967296:=by exact zFG w16
 obtain ⟨ra,l,e,hs,hi⟩:=zRE (r:=_) (by simp only [Is]; exact hr)
 subst e
 exact ⟨⟨n1,⟨⟨n2,n3⟩,n4⟩,n5,⟨⟨⟨⟨n6,n7⟩,n8⟩,n9⟩,n10⟩,⟨⟨⟨n11,n12⟩,n13⟩,n14⟩,⟨n15,n16⟩,l⟩,ra,rfl,hs,r1,⟨⟨r2.1,r2.2,r3.1,r3.2⟩,r4⟩,r5,⟨⟨⟨⟨r6.1,r6.2,r7.1,r7.2⟩,r8⟩,r9⟩,r10⟩,⟨⟨⟨r11.1,r11.2,r12.1,r12.2⟩,r13⟩,r14⟩,⟨r15.1,r15.2,r16.1,r16.2⟩,hi⟩
end Go.Proofs.YtkfdflajadkfkaaGreat
namespace Go.Proofs.YtkfdflajadkfkaaGreat.streamTells
open Go Go.Ax
theorem run_args (a0 a1 a2 a3 a4 : AV) (h0 : IsA (.sl gOp) a0) (h1 : IsA gOp a1) (h2 : IsA gLb a2) (h3 : IsA (.int .i64) a3) (h4 : IsA (.sl gOp) a4) : zAC Tryz.prog (fsT tbl) 4000000 61 (.fn 3) [a0,a1,a2,a3,a4] mem0 = some (BL true,mem0):=by
 obtain ⟨a,l,ha,hl⟩:=Is.slice zUJ h0
 obtain rfl : a0 = a:=by simpa using ha
 obtain ⟨c1,rfl,h1⟩:=h1
 obtain ⟨o,ra,rfl,hR,ho⟩:=zUJ c1 h1
 obtain ⟨c2,rfl,h2⟩:=h2
 obtain ⟨v,rfl,hv⟩:=of_lb c2 h2
 have h3 : Is (.int .i64) [a3]:=h3
 simp only [Is] at h3
 obtain ⟨n,hn,_⟩:=h3
 obtain rfl : a3 = I64 n:=by simpa using hn
 obtain ⟨b,p,hb,hp⟩:=Is.slice zUJ h4
 obtain rfl : a4 = b:=by simpa using hb
 exact zPG hl hR ho hv hp mem0
end Go.Proofs.YtkfdflajadkfkaaGreat.streamTells
