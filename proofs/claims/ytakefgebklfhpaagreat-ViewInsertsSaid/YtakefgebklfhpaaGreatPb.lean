/-
  Texts joined: VqA SaD SaE SaF SaG SaH SaI SaJ SaK SaL SaM SaN SaO SbP SaQ SaR SaS SaT SaU SaV TwB SbO VqB TpE SaZ SwP SwQ TpH VpA VpB.
-/
import Derived.Test.YtakefgebklfhpaaGreatEf
import Derived.Test.YtakefgebklfhpaaGreatPa
set_option linter.unusedSimpArgs false
set_option linter.unusedVariables false
set_option maxRecDepth 100000
namespace Go.Proofs.YtakefgebklfhpaaGreat
open Go Go.Ax
variable {fuel : Nat} {M : Mem} {Q : AV → Mem → Prop} {d : Nat}
def zCG (E : List El) : List CellV:=E.map fun x=>⟨x.id,x.ch⟩
theorem zIZ (E F : List El) : zCG (E ++ F) = zCG E ++ zCG F:=by simp [zCG]
theorem zDO (E : List El) : (zCG E).length = E.length:=List.length_map _
theorem zFQ {l : List Rn} (hm : ∀ r ∈ l,r.may = true) : (elsR l).length ≤ 64 * l.length:=by
 induction l with
 | nil=>simp [elsR]
 | cons r l ih =>
  have e : elsR (r :: l) = r.elR ++ elsR l:=by simp [elsR]
  have hb:=Spn.may_le (Rn.may_sp (hm r List.mem_cons_self))
  have:=ih fun q hq=>hm q (List.mem_cons_of_mem _ hq)
  rw [e,List.length_append,zB8,List.length_cons]
  omega
set_option maxHeartbeats 8000000 in
theorem zRA {a : AV} {l : List Rn} (hS : Sl 10 isRn a l) (hm : ∀ r ∈ l,r.may = true) (hl : l.length ≤ 100000) (hf : l.length + 200 < fuel) : ∃ r,Sl 5 zD6 r (zCG (elsR l)) ∧ ∀ M,zAE Tryz.prog (fsT tbl) fuel (d + 8) (.fn 21) [a] M = some (r,M):=by
 have ll:=hS.len
 refine zFT tf21 rfl (fun M=>by simp only [icyL,fun M=>hS.icy M 12 (by omega)]) ?_
 refine zAJ tf21 rfl (by simp only [icyL,fun M=>hS.icy M 12 (by omega)]) (by simp [a21]) fun b' ht hx=>?_
 have h0:=hx 0 _ rfl
 clear hx
 simp only [a21,c21] at ht ⊢
 simp (maxSteps:=2000000) (disch:=first | omega | assumption | (simp only [DS,Nat.reduceAdd, *]; done) | (simp only [DZ]; omega)) only [RUN,RU,zA2,zA1,reduceIte,Nat.reduceEqDiff,h0,ll]
 refine zBG (I:=fun n t N => ∃ (i : Nat) (o : AV),n = l.length - i ∧ i ≤ l.length ∧ nth zA5 t 2 = o ∧ nth zA5 t 10 = a ∧ nth zA5 t 11 = I64 l.length ∧ nth zA5 t 12 = I64 i ∧ Wf N ∧ N.wm = 0 ∧ SlM N 5 zD6 o (zCG (elsR (l.take i)))) (n:=l.length) (by omega) ?_ ?_
 ·refine ⟨0,NIL,rfl,Nat.zero_le _, ?_, ?_, ?_, ?_,Wf.mem0,rfl,SlM.nil⟩ <;> simp (maxSteps:=2000000) (disch:=first | omega | assumption | (simp only [DS,Nat.reduceAdd, *]; done) | (simp only [DZ]; omega)) only [RUN,reduceIte,Nat.reduceEqDiff]
  all_goals first | rfl | assumption | done
 ·rintro n t N hlt ⟨i,o,rfl,hi,g2,g10,g11,g12,w,wm,sm⟩
  simp only [ht] at hlt ⊢
  have oo:=sm.one
  have oc:=sm.cells
  by_cases hc : i < l.length
  ·have q1 : decide ((i : Int) < l.length) = true:=decide_eq_true (by omega)
   have w1 : IntKind.i64.wrap ((i : Int) + 1) = ((i + 1 : Nat) : Int):=by rw [wrap_i64] <;> omega
   obtain ⟨r,hiad,hr,hrl⟩:=hS.iad i hc
   have hts:=zCS (l.take i) l[i]
   rw [← zBL l i hc] at hts
   have hme:=hm l[i] (List.getElem_mem hc)
   have hb:=Spn.may_le (Rn.may_sp hme)
   have hln:=zFQ (l:=l.take i) fun r hr=>hm r (List.mem_of_mem_take hr)
   rw [List.length_take] at hln
   generalize l[i] = e at *
   obtain ⟨ra,rfl,hra,hok⟩:=hr
   have ora:=hra.one
   have hat:=fun n M=>zM9 (fuel:=fuel) (d:=d) (n:=n) hra (by omega) M
   have rlo:=zAT sm.rl (show N.size ≤ N.size + 1 by omega)
   have wX:=(w.add (.row false (rnR ⟨⟨Eid.z,0⟩,Eid.z,[]⟩ NIL))).upd N.size (.row false (rnR e ra))
   have gX : ((N.add (.row false (rnR ⟨⟨Eid.z,0⟩,Eid.z,[]⟩ NIL))).upd N.size (.row false (rnR e ra))).get N.size = some (.row false (rnR e ra)):=by simp (maxSteps:=2000000) (disch:=first | omega | assumption | (simp only [DS,Nat.reduceAdd, *]; done) | (simp only [DZ]; omega)) only [RUN]
   have smX : SlM ((N.add (.row false (rnR ⟨⟨Eid.z,0⟩,Eid.z,[]⟩ NIL))).upd N.size (.row false (rnR e ra))) 5 zD6 o (zCG (elsR (l.take i))):=sm.keep fun j hj=>by
    have:=sm.lt j hj
    rw [zA4 (w.add _) _ _ _ (by omega),zAF w _ _ this]
   have sX : ((N.add (.row false (rnR ⟨⟨Eid.z,0⟩,Eid.z,[]⟩ NIL))).upd N.size (.row false (rnR e ra))).size = N.size + 1:=rfl
   simp (maxSteps:=2000000) (disch:=first | omega | assumption | (simp only [DS,Nat.reduceAdd, *]; done) | (simp only [DZ]; omega)) only [RUN,RU,zA2,zA1,slot,lay,reduceIte,Nat.reduceEqDiff,Nat.reduceAdd,g10,g11,g12,q1,hiad]
   have mX : ((N.add (.row false (rnR ⟨⟨Eid.z,0⟩,Eid.z,[]⟩ NIL))).upd N.size (.row false (rnR e ra))).wm = 0:=wm
   revert wX gX smX sX mX
   generalize ((N.add _).upd N.size _) = X
   intro wX gX smX sX mX
   refine zBG (I:=fun nk tk Nk => ∃ (ik : Nat) (p : AV),nk = e.sp.n.toNat - ik ∧ ik ≤ e.sp.n.toNat ∧ nth zA5 tk 2 = p ∧ nth zA5 tk 4 = .ptr N.size 0 ∧ nth zA5 tk 10 = a ∧ nth zA5 tk 11 = I64 l.length ∧ nth zA5 tk 12 = I64 i ∧ nth zA5 tk 18 = I64 e.sp.n ∧ nth zA5 tk 19 = I64 ik ∧ Wf Nk ∧ N.size + 1 ≤ Nk.size ∧ Nk.wm = 0 ∧ Nk.get N.size = some (.row false (rnR e ra)) ∧ SlM Nk 5 zD6 p (zCG (elsR (l.take i)) ++ zCG (e.elR.take ik)) ∧ (∀ j,rowOf p = some j → j ≠ N.size)) (n:=e.sp.n.toNat) (by omega) ?_ ?_
   ·refine ⟨0,o,rfl,Nat.zero_le _, ?_, ?_, ?_, ?_, ?_, ?_, ?_,wX,Nat.le_of_eq sX.symm,mX,gX,(by simpa [zCG] using smX),(fun j hj=>by have:=sm.lt j hj; omega)⟩ <;> simp (maxSteps:=2000000) (disch:=first | omega | assumption | (simp only [DS,Nat.reduceAdd, *]; done) | (simp only [DZ]; omega)) only [RUN,reduceIte,Nat.reduceEqDiff,g2,g10,g11,g12]
    all_goals first | rfl | assumption | done
   ·rintro nk tk Nk hltk ⟨ik,p,rfl,hik,gk2,gk4,gk10,gk11,gk12,gk18,gk19,wk,lek,wmk,gk,smk,nrk⟩
    simp only [hlt] at hltk ⊢
    have op:=smk.one
    have cp:=smk.cells
    have lel:=zB8 e
    by_cases hck : ik < e.sp.n.toNat
    ·have q2 : decide ((ik : Int) < e.sp.n) = true:=decide_eq_true (by omega)
     have w2 : IntKind.i64.wrap ((ik : Int) + 1) = ((ik + 1 : Nat) : Int):=by rw [wrap_i64] <;> omega
     have ha0 : atE e (ik : Int) = 0:=by unfold atE; rw [if_pos hme,if_neg (by omega)]
     have hat':=hat (ik : Int)
     rw [ha0] at hat'
     simp only [if_true,Int.toNat_natCast] at hat'
     have hts2:=zBL e.elR ik (by omega)
     rw [zBQ] at hts2
     have hid : (e.sp.at (ik : Int)).ok:=⟨hok.1.1.1,by show i64R (e.sp.f.c + (ik : Int)); unfold i64R; omega⟩
     have hll : (zCG (elsR (l.take i)) ++ zCG (e.elR.take ik)).length ≤ 64 * i + 64:=by
      rw [List.length_append,zDO,zDO,List.length_take]; omega
     simp (maxSteps:=2000000) (disch:=first | omega | assumption | (simp only [DS,Nat.reduceAdd, *]; done) | (simp only [DZ]; omega)) only [RUN,RU,zA2,zA1,slot,lay,zAI,zAB,reduceIte,Nat.reduceEqDiff,Nat.reduceBEq,Nat.reduceAdd,gk2,gk4,gk18,gk19,q2,gk,hat']
     have wY:=(((wk.add (.row false (idR Eid.z))).add (.row false (idR Eid.z))).upd Nk.size (.row false (idR (e.sp.at (ik : Int))))).upd (Nk.size + 1) (.row false (idR (e.afAt (ik : Int))))
     have gY : ∀ j,j < Nk.size → ((((Nk.add (.row false (idR Eid.z))).add (.row false (idR Eid.z))).upd Nk.size (.row false (idR (e.sp.at (ik : Int))))).upd (Nk.size + 1) (.row false (idR (e.afAt (ik : Int))))).get j = Nk.get j:=fun j hj=>by
      rw [zA4 (((wk.add _).add _).upd _ _) _ _ _ (by omega),zA4 ((wk.add _).add _) _ _ _ (by omega),zAF (wk.add _) _ _ (by rw [zA6]; omega),zAF wk _ _ hj]
     refine ⟨zAT smk.rl (by omega), ?_⟩
     refine app1 (bytes:=32) (x:=⟨e.sp.at (ik : Int),e.rs.getD ik 0⟩) wY (smk.keep fun j hj=>gY j (smk.lt j hj)) zEG ⟨rfl,hid⟩ rfl (by omega) (by omega) (by omega) fun p2 M2 m2 wf2 le2 kp2 nw2 wm2 rl2 on2 oc2=>?_
     simp only [zA9,zA6] at le2
     simp (maxSteps:=2000000) (disch:=first | omega | assumption | (simp only [DS,Nat.reduceAdd, *]; done) | (simp only [DZ]; omega)) only [RUN,RU,zA2,zA1,reduceIte,Nat.reduceEqDiff,gk2,gk4,gk10,gk11,gk12,gk18,gk19,wf2,w2]
     refine ⟨hltk,e.sp.n.toNat - (ik + 1),by omega,ik + 1,p2,rfl,by omega,rfl,rfl,by omega,wm2.trans wmk, ?_, ?_,fun j hj=>?_⟩
     ·rw [kp2 N.size (by simp only [zA9,zA6]; omega) (fun h=>nrk _ h rfl),gY N.size (by omega)]; exact gk
     ·rw [hts2,zIZ,← List.append_assoc]; exact m2
     ·rcases nw2 j hj with h | h
      ·exact nrk j h
      ·simp only [zA9,zA6] at h; omega
    ·obtain rfl : ik = e.sp.n.toNat:=by omega
     have q2 : decide (((e.sp.n.toNat : Nat) : Int) < e.sp.n) = false:=decide_eq_false (by omega)
     rw [List.take_of_length_le (Nat.le_of_eq lel)] at smk
     simp (maxSteps:=2000000) (disch:=first | omega | assumption | (simp only [DS,Nat.reduceAdd, *]; done) | (simp only [DZ]; omega)) only [RUN,RU,zA2,zA1,reduceIte,Nat.reduceEqDiff,gk2,gk10,gk11,gk12,gk18,gk19,q2,w1]
     exact ⟨hltk,l.length - (i + 1),by omega,i + 1,p,rfl,by omega,rfl,rfl,wk,wmk,by rw [hts,zIZ]; exact smk⟩
  ·obtain rfl : i = l.length:=by omega
   have q1 : decide ((l.length : Int) < l.length) = false:=decide_eq_false (by omega)
   rw [List.take_length] at sm
   obtain ⟨ro,hz,hs⟩:=sm.frz zEG.cel (k:=12) (by omega)
   simp (maxSteps:=2000000) (disch:=first | omega | assumption | (simp only [DS,Nat.reduceAdd, *]; done) | (simp only [DZ]; omega)) only [RUN,RU,zA2,zA1,zA0,zAA,frzL,reduceIte,Nat.reduceEqDiff,g2,g11,g12,hz]
   exact ⟨_,hs,rfl⟩
end Go.Proofs.YtakefgebklfhpaaGreat
namespace Go.Proofs.YtakefgebklfhpaaGreat
open Go Go.Ax
variable {fuel : Nat} {M : Mem} {Q : AV → Mem → Prop} {d : Nat}
theorem zSY (M : Mem) : zAE Tryz.prog (fsT tbl) fuel (d + 1) (.fn 71) [] M = some (lbA Lb.z,M):=by
 apply zBI
 refine zAJ tf71 rfl (by simp (maxSteps:=2000000) (disch:=first | omega | assumption | (simp only [DS,Nat.reduceAdd, *]; done) | (simp only [DZ]; omega)) only [icyL]) (by simp [a71]) fun b' ht hx=>?_
 clear hx
 simp only [a71,c71] at ht ⊢
 simp (maxSteps:=2000000) (disch:=first | omega | assumption | (simp only [DS,Nat.reduceAdd, *]; done) | (simp only [DZ]; omega)) only [RUN,RU,zA2,zA1,zA0,zAA,frzL,slot,lay,zAI,reduceIte,Nat.reduceEqDiff,Nat.reduceAdd,Nat.reduceSub]
theorem zJC {o : Op} {ra : AV} (h : Fz ra) (M : Mem) : icy 12 M (.agg (opR o ra)) = some (.agg (opR o ra),M):=zB2 (zYG h) (by omega) M
def Op.bare (o : Op) : Bool:=decide (o.af = Eid.z) && decide ((o.rs.length : Int) = 0)
def Op.part (o : Op) : Bool :=
 if o.kd = 1 then decide (o.to = Lb.z) && (decide (o.af = Eid.z) || o.af.may) && decide (o.sp.f.hd = o.hd) && decide ((o.rs.length : Int) = o.sp.n) && decide (chkR o.rs = 0)
 else if o.kd = 2 then decide (o.to = Lb.z) && o.bare
 else o.bare && o.to.may
def Op.may (o : Op) : Bool:=!decide (o.kd = 0) && !decide (4 ≤ o.kd) && o.hd.may && !decide (o.sr < 1) && !decide (16777216 ≤ o.sr) && o.sp.may && o.part
theorem zY5 {o : Op} {ra : AV} (hS : Sl 1 zB4 ra o.rs) (wf : Wf M) (k : ∀ N,Kept M N → Q (BL o.bare) N) : W3 (zAE Tryz.prog (fsT tbl) fuel (d + 1) (.fn 69) [.agg (opR o ra)] M) Q:=by
 have pIdE:=@pIdE
 have ll:=hS.len
 unfold Op.bare at k
 refine zB6 tf69 rfl (by simp [a69]) fun b' ht hx=>?_
 have h0:=hx 0 _ rfl
 clear hx
 simp only [a69,c69] at ht ⊢
 cases q : decide (o.af = Eid.z) <;> rw [q] at k <;> simp only [Bool.false_and,Bool.true_and] at k <;> simp (maxSteps:=2000000) (disch:=first | omega | assumption | (simp only [DS,Nat.reduceAdd, *]; done) | (simp only [DZ]; omega)) only [RUN,RU,zA2,zA1,zA0,zAA,slot,zAI,reduceIte,Nat.reduceEqDiff,h0,↓pIdE,zAW,ETA,q,ll]
 all_goals exact k _ ((Kept.refl wf).add _)
theorem zOV {o : Op} {ra : AV} (hS : Sl 1 zB4 ra o.rs) (wf : Wf M) (k : ∀ N,Kept M N → Q (BL (decide (o.to = Lb.z))) N) : W3 (zAE Tryz.prog (fsT tbl) fuel (d + 2) (.fn 70) [.agg (opR o ra)] M) Q:=by
 have pLbE:=@pLbE
 have hl:=fun M=>@zSY fuel d M
 refine zB6 tf70 rfl (by simp [a70]) fun b' ht hx=>?_
 have h0:=hx 0 _ rfl
 clear hx
 simp only [a70,c70] at ht ⊢
 simp (maxSteps:=2000000) (disch:=first | omega | assumption | (simp only [DS,Nat.reduceAdd, *]; done) | (simp only [DZ]; omega)) only [RUN,RU,zA2,zA1,zA0,zAA,slot,reduceIte,Nat.reduceEqDiff,Nat.reduceBEq,Nat.reduceAdd,h0,↓pLbE,zEK,ETA,hl]
 exact k _ ((Kept.refl wf).add _)
end Go.Proofs.YtakefgebklfhpaaGreat
namespace Go.Proofs.YtakefgebklfhpaaGreat
open Go Go.Ax
variable {fuel : Nat} {M : Mem} {Q : AV → Mem → Prop} {d : Nat}
set_option maxHeartbeats 4000000 in
theorem zdZ {o : Op} {ra : AV} {x : Nat} (hS : Sl 1 zB4 ra o.rs) (hk1 : o.kd = 1) (hf : 100 < fuel) (wf : Wf M) (hx1 : M.get x = some (.row false [.fn 70 [] []])) (k : ∀ N,Kept M N → Q (BL o.part) N) :
  W3 (zAE Tryz.prog (fsT tbl) fuel (d + 6) (.fn 72) [.agg (opR o ra),.ptr x 0] M) Q:=by
 have ll:=hS.len
 have lx:=Mem.get_lt hx1
 have hc:=fun M=>@zJR fuel (d + 2) o.af M
 have hr:=fun M=>zGL (fuel:=fuel) (d:=d) hS hf M
 have z4 : decide ((4 : Int) = 0) = false:=rfl
 unfold Op.part at k
 rw [if_pos hk1] at k
 have kept:=fun cs=>(Kept.refl wf).add (.row false cs)
 have key : ∀ b : Bool,((decide (o.af = Eid.z) || o.af.may) = b) → True:=fun _ _=>trivial
 refine zB6 tf72 rfl (by simp [a72]) fun b' ht hx=>?_
 have h0:=hx 0 _ rfl
 have h1:=hx 1 _ rfl
 clear hx
 simp only [a72,c72] at ht ⊢
 have tail : ∀ b : Bool,(decide (o.af = Eid.z) || o.af.may) = b → ∀ t : List AV,t.length = b'.length → True:=fun _ _ _ _=>trivial
 clear tail key
 cases q : decide (o.af = Eid.z) <;> cases q' : o.af.may <;> rw [q'] at hc <;> simp only [q,q',Bool.or_false,Bool.or_true,Bool.false_and,Bool.and_false,Bool.and_true] at k
 all_goals
  (simp (maxSteps:=2000000) (disch:=first | omega | assumption | (simp only [DS,Nat.reduceAdd, *]; done) | (simp only [DZ]; omega)) only [RUN,RU,zA2,zA1,slot,zAI,reduceIte,Nat.reduceEqDiff,Int.reduceEq,h0,h1,↓pIdE,zAW,ETA,q,hc,zB0,zBF,hx1])
  refine zOV hS (by simp (maxSteps:=2000000) (disch:=first | omega | assumption | (simp only [DS,Nat.reduceAdd, *]; done) | (simp only [DZ]; omega)) only [RUN,wf]) fun N hN=>?_
  have hg:=hN.get M.size (by rw [zA6]; omega)
  rw [zAH wf _ _ (Nat.le_refl _) (Nat.lt_succ_self _)] at hg
  have lg:=Mem.get_lt hg
  have kN:=((Kept.refl wf).add _).trans hN
  cases q1 : decide (o.to = Lb.z) <;> (try simp only [q1,Bool.false_and,Bool.true_and] at k)
  all_goals (simp (maxSteps:=2000000) (disch:=first | omega | assumption | (simp only [DS,Nat.reduceAdd, *]; done) | (simp only [DZ]; omega)) only [RUN,RU,zA2,zA1,zA0,zAA,slot,reduceIte,Nat.reduceEqDiff,hg,↓pHdE,zTL,ETA])
  all_goals first | exact k _ kN | skip
 all_goals
  cases q2 : decide (o.sp.f.hd = o.hd) <;> (try simp only [q2,Bool.false_and,Bool.true_and] at k)
  all_goals (simp (maxSteps:=2000000) (disch:=first | omega | assumption | (simp only [DS,Nat.reduceAdd, *]; done) | (simp only [DZ]; omega)) only [RUN,RU,zA2,zA1,zA0,zAA,reduceIte,Nat.reduceEqDiff,hg])
  all_goals first | exact k _ kN | skip
 all_goals
  cases q3 : decide ((o.rs.length : Int) = o.sp.n) <;> (try simp only [q3,Bool.false_and,Bool.true_and] at k)
  all_goals (simp (maxSteps:=2000000) (disch:=first | omega | assumption | (simp only [DS,Nat.reduceAdd, *]; done) | (simp only [DZ]; omega)) only [RUN,RU,zA2,zA1,zA0,zAA,reduceIte,Nat.reduceEqDiff,Nat.reduceAdd,hg,ll,q3,hr])
  all_goals exact k _ kN
end Go.Proofs.YtakefgebklfhpaaGreat
namespace Go.Proofs.YtakefgebklfhpaaGreat
open Go Go.Ax
variable {fuel : Nat} {M : Mem} {Q : AV → Mem → Prop} {d : Nat}
theorem zdW {o : Op} {ra : AV} {x y : Nat} (hS : Sl 1 zB4 ra o.rs) (wf : Wf M) (hx1 : M.get x = some (.row false [.fn 70 [] []])) (hy1 : M.get y = some (.row false [.fn 69 [] []])) (k : ∀ N,Kept M N → Q (BL (decide (o.to = Lb.z) && o.bare)) N) :
  W3 (zAE Tryz.prog (fsT tbl) fuel (d + 3) (.fn 74) [.agg (opR o ra),.ptr x 0,.ptr y 0] M) Q:=by
 have lx:=Mem.get_lt hx1
 have ly:=Mem.get_lt hy1
 refine zB6 tf74 rfl (by simp [a74]) fun b' ht hx=>?_
 have h0:=hx 0 _ rfl
 have h1:=hx 1 _ rfl
 have h2:=hx 2 _ rfl
 clear hx
 simp only [a74,c74] at ht ⊢
 simp (maxSteps:=2000000) (disch:=first | omega | assumption | (simp only [DS,Nat.reduceAdd, *]; done) | (simp only [DZ]; omega)) only [RUN,RU,zA2,zA1,slot,reduceIte,Nat.reduceEqDiff,h0,h1,hx1]
 refine zOV hS (by simp (maxSteps:=2000000) (disch:=first | omega | assumption | (simp only [DS,Nat.reduceAdd, *]; done) | (simp only [DZ]; omega)) only [RUN,wf]) fun N hN=>?_
 have hg:=hN.get M.size (by rw [zA6]; omega)
 rw [zAH wf _ _ (Nat.le_refl _) (Nat.lt_succ_self _)] at hg
 have lg:=Mem.get_lt hg
 have gy:=(hN.get y (by rw [zA6]; omega)).trans ((zAF wf _ _ ly).trans hy1)
 have lgy:=Mem.get_lt gy
 have kN:=((Kept.refl wf).add _).trans hN
 cases q1 : decide (o.to = Lb.z) <;> simp only [q1,Bool.false_and,Bool.true_and] at k <;> simp (maxSteps:=2000000) (disch:=first | omega | assumption | (simp only [DS,Nat.reduceAdd, *]; done) | (simp only [DZ]; omega)) only [RUN,RU,zA2,zA1,zA0,zAA,slot,reduceIte,Nat.reduceEqDiff,h2,hg,gy]
 ·exact k _ kN
 ·refine zY5 hS hN.wf fun N' hN'=>?_
  simp (maxSteps:=2000000) (disch:=first | omega | assumption | (simp only [DS,Nat.reduceAdd, *]; done) | (simp only [DZ]; omega)) only [RUN,RU,zA2,zA1,zA0,zAA,reduceIte,Nat.reduceEqDiff]
  exact k _ (kN.trans hN')
theorem zXF {o : Op} {ra : AV} {y : Nat} (hS : Sl 1 zB4 ra o.rs) (wf : Wf M) (hy1 : M.get y = some (.row false [.fn 69 [] []])) (k : ∀ N,Kept M N → Q (BL (o.bare && o.to.may)) N) :
  W3 (zAE Tryz.prog (fsT tbl) fuel (d + 2) (.fn 76) [.agg (opR o ra),.ptr y 0] M) Q:=by
 have ly:=Mem.get_lt hy1
 have hl:=fun M=>@zEU fuel d o.to M
 refine zB6 tf76 rfl (by simp [a76]) fun b' ht hx=>?_
 have h0:=hx 0 _ rfl
 have h1:=hx 1 _ rfl
 clear hx
 simp only [a76,c76] at ht ⊢
 simp (maxSteps:=2000000) (disch:=first | omega | assumption | (simp only [DS,Nat.reduceAdd, *]; done) | (simp only [DZ]; omega)) only [RUN,RU,zA2,zA1,slot,reduceIte,Nat.reduceEqDiff,h0,h1,hy1]
 refine zY5 hS (by simp (maxSteps:=2000000) (disch:=first | omega | assumption | (simp only [DS,Nat.reduceAdd, *]; done) | (simp only [DZ]; omega)) only [RUN,wf]) fun N hN=>?_
 have hg:=hN.get M.size (by rw [zA6]; omega)
 rw [zAH wf _ _ (Nat.le_refl _) (Nat.lt_succ_self _)] at hg
 have lg:=Mem.get_lt hg
 have kN:=((Kept.refl wf).add _).trans hN
 cases q1 : o.bare <;> simp only [q1,Bool.false_and,Bool.true_and] at k
 ·simp (maxSteps:=2000000) (disch:=first | omega | assumption | (simp only [DS,Nat.reduceAdd, *]; done) | (simp only [DZ]; omega)) only [RUN,RU,zA2,zA1,zA0,zAA,reduceIte,Nat.reduceEqDiff]
  exact k _ kN
 ·cases q2 : o.to.may <;> rw [q2] at hl k <;> simp (maxSteps:=2000000) (disch:=first | omega | assumption | (simp only [DS,Nat.reduceAdd, *]; done) | (simp only [DZ]; omega)) only [RUN,RU,zA2,zA1,zA0,zAA,slot,reduceIte,Nat.reduceEqDiff,Int.reduceEq,hg,hl,zB0,zBF] <;> exact k _ kN
theorem zaT (wf : Wf M) (hw : M.wm ≤ M.size) (k : ∀ N x y,Kept M N → N.get x = some (.row false [.fn 70 [] []]) → N.get y = some (.row false [.fn 69 [] []]) → M.size ≤ x → M.size ≤ y → Q (.agg [.sc .nilFunc,.sc .nilFunc,.fn 72 [] [.ptr x 0],.fn 73 [] [],.fn 74 [] [.ptr x 0,.ptr y 0],.fn 75 [] [],.fn 76 [] [.ptr y 0],.fn 77 [] []]) N) :
  W3 (zAE Tryz.prog (fsT tbl) fuel (d + 1) (.fn 47) [] M) Q:=by
 have onf : oneA (.sc .nilFunc) = true:=rfl
 have sn : scs Value.nilFunc = [.sc .nilFunc]:=rfl
 refine zB6 tf47 rfl (by simp [a47]) fun b' ht hx=>?_
 clear hx
 simp only [a47,c47] at ht ⊢
 simp (maxSteps:=2000000) (disch:=first | omega | assumption | (simp only [DS,Nat.reduceAdd, *]; done) | (simp only [DZ]; omega)) only [RUN,RU,zA2,zA1,zA0,zAA,slot,lay,zAI,reduceIte,Nat.reduceEqDiff,Nat.reduceBEq,Nat.reduceAdd,sn]
 refine k _ (M.size + 1 + 1) (M.size + 1) ((((((Kept.refl wf).add _).add _).upd hw (by omega) _).add _).upd hw (by omega) _ |>.upd hw (by omega) _) ?_ ?_ (by omega) (by omega)
 ·simp (maxSteps:=2000000) (disch:=first | omega | assumption | (simp only [DS,Nat.reduceAdd, *]; done) | (simp only [DZ]; omega)) only [RUN]
 ·simp (maxSteps:=2000000) (disch:=first | omega | assumption | (simp only [DS,Nat.reduceAdd, *]; done) | (simp only [DZ]; omega)) only [RUN]
set_option maxHeartbeats 4000000 in
theorem zDA {o : Op} {ra : AV} (hS : Sl 1 zB4 ra o.rs) (ho : o.ok) (hf : 100 < fuel) (M : Mem) : zAE Tryz.prog (fsT tbl) fuel (d + 7) (.fn 28) [.agg (opR o ra)] M = some (I64 (err o.may),M):=by
 have hh:=fun M=>@zF8 fuel (d + 4) o.hd M
 have hs:=fun M=>@zFP fuel (d + 2) o.sp M
 apply zBI
 refine zAJ tf28 rfl (by simp only [icyL,zJC hS.fz]) (by simp [a28]) fun b' ht hx=>?_
 have h0:=hx 0 _ rfl
 clear hx
 simp only [a28,c28] at ht ⊢
 unfold Op.may
 cases q1 : decide (o.kd = 0)
 ·cases q2 : decide (4 ≤ o.kd)
  ·cases q3 : o.hd.may <;> rw [q3] at hh
   ·simp (maxSteps:=2000000) (disch:=first | omega | assumption | (simp only [DS,Nat.reduceAdd, *]; done) | (simp only [DZ]; omega)) only [RUN,RU,zA2,zA1,zA0,zAA,frzL,slot,reduceIte,Nat.reduceEqDiff,Nat.reduceAdd,Int.reduceEq,h0,q1,q2,hh,zBF,Bool.false_and,Bool.and_false]
   ·cases q4 : decide (o.sr < 1)
    ·cases q5 : decide (16777216 ≤ o.sr)
     ·cases q6 : o.sp.may <;> rw [q6] at hs
      ·simp (maxSteps:=2000000) (disch:=first | omega | assumption | (simp only [DS,Nat.reduceAdd, *]; done) | (simp only [DZ]; omega)) only [RUN,RU,zA2,zA1,zA0,zAA,frzL,slot,reduceIte,Nat.reduceEqDiff,Nat.reduceAdd,Int.reduceEq,h0,q1,q2,q4,q5,hh,hs,zB0,zBF,Bool.false_and,Bool.and_false]
      ·simp (maxSteps:=2000000) (disch:=first | omega | assumption | (simp only [DS,Nat.reduceAdd, *]; done) | (simp only [DZ]; omega)) only [RUN,RU,zA2,zA1,slot,reduceIte,Nat.reduceEqDiff,Nat.reduceAdd,h0,q1,q2,q4,q5,hh,hs,zB0]
       refine zaT (by simp (maxSteps:=2000000) (disch:=first | omega | assumption | (simp only [DS,Nat.reduceAdd, *]; done) | (simp only [DZ]; omega)) only [RUN]) (by simp only [zD7]; exact Nat.le_refl _) fun N x y hN gx gy lx ly=>?_
       have hd : N.dirty = false:=hN.di
       have hsz : 1 ≤ N.size:=hN.le
       have g0 : N.get 0 = some (.row false (opR o ra)):=hN.get 0 (by show 0 < 1; omega)
       have wN:=hN.wf
       have hk : o.kd = 1 ∨ o.kd = 2 ∨ o.kd = 3:=by
        have:=ho.1
        simp only [decide_eq_false_iff_not] at q1 q2
        omega
       rcases hk with hk | hk | hk
       ·have n1 : zD8 (U8 o.kd) = some 1:=by rw [hk]; rfl
        have ep : o.part = o.part:=rfl
        rw [ep]
        simp (maxSteps:=2000000) (disch:=first | omega | assumption | (simp only [DS,Nat.reduceAdd, *]; done) | (simp only [DZ]; omega)) only [RUN,RU,zA2,slot,reduceIte,Nat.reduceEqDiff,Nat.reduceBEq,Nat.reduceAdd,Nat.reduceMul,hd,g0,n1,zQZ,zGG]
        refine ⟨rfl,rfl,rfl, ?_⟩
        refine zdZ hS hk hf (by simp (maxSteps:=2000000) (disch:=first | omega | assumption | (simp only [DS,Nat.reduceAdd, *]; done) | (simp only [DZ]; omega)) only [RUN]; exact wN) (by simp (maxSteps:=2000000) (disch:=first | omega | assumption | (simp only [DS,Nat.reduceAdd, *]; done) | (simp only [DZ]; omega)) only [RUN,gx])  fun N' hN'=>?_
        have hd' : N'.dirty = false:=hN'.di
        cases qp : o.part <;> simp (maxSteps:=2000000) (disch:=first | omega | assumption | (simp only [DS,Nat.reduceAdd, *]; done) | (simp only [DZ]; omega)) only [RUN,RU,zA2,zA1,zA0,zAA,frzL,reduceIte,Nat.reduceEqDiff,Nat.reduceAdd,hd',zB0,zBF]
       ·have n1 : zD8 (U8 o.kd) = some 2:=by rw [hk]; rfl
        have ep : o.part = (decide (o.to = Lb.z) && o.bare):=by unfold Op.part; rw [if_neg (by omega),if_pos hk]
        rw [ep]
        simp (maxSteps:=2000000) (disch:=first | omega | assumption | (simp only [DS,Nat.reduceAdd, *]; done) | (simp only [DZ]; omega)) only [RUN,RU,zA2,slot,reduceIte,Nat.reduceEqDiff,Nat.reduceBEq,Nat.reduceAdd,Nat.reduceMul,hd,g0,n1,zQZ,zGG]
        refine ⟨rfl,rfl,rfl, ?_⟩
        refine zdW hS (by simp (maxSteps:=2000000) (disch:=first | omega | assumption | (simp only [DS,Nat.reduceAdd, *]; done) | (simp only [DZ]; omega)) only [RUN]; exact wN) (by simp (maxSteps:=2000000) (disch:=first | omega | assumption | (simp only [DS,Nat.reduceAdd, *]; done) | (simp only [DZ]; omega)) only [RUN,gx]) (by simp (maxSteps:=2000000) (disch:=first | omega | assumption | (simp only [DS,Nat.reduceAdd, *]; done) | (simp only [DZ]; omega)) only [RUN,gy])  fun N' hN'=>?_
        have hd' : N'.dirty = false:=hN'.di
        cases qp : (decide (o.to = Lb.z) && o.bare) <;> simp (maxSteps:=2000000) (disch:=first | omega | assumption | (simp only [DS,Nat.reduceAdd, *]; done) | (simp only [DZ]; omega)) only [RUN,RU,zA2,zA1,zA0,zAA,frzL,reduceIte,Nat.reduceEqDiff,Nat.reduceAdd,hd',zB0,zBF]
       ·have n1 : zD8 (U8 o.kd) = some 3:=by rw [hk]; rfl
        have ep : o.part = (o.bare && o.to.may):=by unfold Op.part; rw [if_neg (by omega),if_neg (by omega)]
        rw [ep]
        simp (maxSteps:=2000000) (disch:=first | omega | assumption | (simp only [DS,Nat.reduceAdd, *]; done) | (simp only [DZ]; omega)) only [RUN,RU,zA2,slot,reduceIte,Nat.reduceEqDiff,Nat.reduceBEq,Nat.reduceAdd,Nat.reduceMul,hd,g0,n1,zQZ,zGG]
        refine ⟨rfl,rfl,rfl, ?_⟩
        refine zXF hS (by simp (maxSteps:=2000000) (disch:=first | omega | assumption | (simp only [DS,Nat.reduceAdd, *]; done) | (simp only [DZ]; omega)) only [RUN]; exact wN) (by simp (maxSteps:=2000000) (disch:=first | omega | assumption | (simp only [DS,Nat.reduceAdd, *]; done) | (simp only [DZ]; omega)) only [RUN,gy])  fun N' hN'=>?_
        have hd' : N'.dirty = false:=hN'.di
        cases qp : (o.bare && o.to.may) <;> simp (maxSteps:=2000000) (disch:=first | omega | assumption | (simp only [DS,Nat.reduceAdd, *]; done) | (simp only [DZ]; omega)) only [RUN,RU,zA2,zA1,zA0,zAA,frzL,reduceIte,Nat.reduceEqDiff,Nat.reduceAdd,hd',zB0,zBF]
     ·simp (maxSteps:=2000000) (disch:=first | omega | assumption | (simp only [DS,Nat.reduceAdd, *]; done) | (simp only [DZ]; omega)) only [RUN,RU,zA2,zA1,zA0,zAA,frzL,slot,reduceIte,Nat.reduceEqDiff,Nat.reduceAdd,h0,q1,q2,q4,q5,hh,zB0,zBF,Bool.false_and,Bool.and_false]
    ·simp (maxSteps:=2000000) (disch:=first | omega | assumption | (simp only [DS,Nat.reduceAdd, *]; done) | (simp only [DZ]; omega)) only [RUN,RU,zA2,zA1,zA0,zAA,frzL,slot,reduceIte,Nat.reduceEqDiff,Nat.reduceAdd,h0,q1,q2,q4,hh,zB0,zBF,Bool.false_and,Bool.and_false]
  ·simp (maxSteps:=2000000) (disch:=first | omega | assumption | (simp only [DS,Nat.reduceAdd, *]; done) | (simp only [DZ]; omega)) only [RUN,RU,zA2,zA1,zA0,zAA,frzL,reduceIte,Nat.reduceEqDiff,Nat.reduceAdd,h0,q1,q2,zBF,Bool.false_and,Bool.and_false]
 ·simp (maxSteps:=2000000) (disch:=first | omega | assumption | (simp only [DS,Nat.reduceAdd, *]; done) | (simp only [DZ]; omega)) only [RUN,RU,zA2,zA1,zA0,zAA,frzL,reduceIte,Nat.reduceEqDiff,Nat.reduceAdd,h0,q1,zBF,Bool.false_and]
end Go.Proofs.YtakefgebklfhpaaGreat
namespace Go.Proofs.YtakefgebklfhpaaGreat
open Go Go.Ax
variable {fuel : Nat} {M : Mem} {Q : AV → Mem → Prop} {d : Nat}
def Op.rn (o : Op) : Rn:=⟨o.sp,o.af,o.rs⟩
def rnZ : AV:=.agg (rnR ⟨⟨Eid.z,0⟩,Eid.z,[]⟩ NIL)
def rofE (o : Op) : Int:=if o.may = true then (if o.kd = 1 ∧ o.rn.may = true then 0 else 2) else 8
def rofK (o : Op) (r : AV) : Prop:=if rofE o = 0 then ∃ ra,r = .tup [.agg (rnR o.rn ra),I64 0] ∧ Sl 1 zB4 ra o.rs else r = .tup [rnZ,I64 (rofE o)]
theorem zRT {l : List Int} (h : chkR l = 0) : l.length ≤ 64:=by
 unfold chkR at h
 by_cases hc : 64 < l.length
 ·rw [if_pos hc] at h
  cases h
 ·omega
theorem may_len {o : Op} (h : o.may = true) : o.rs.length ≤ 64:=by
 unfold Op.may Op.part Op.bare at h
 simp only [Bool.and_eq_true] at h
 have h:=h.2
 split at h
 ·simp only [Bool.and_eq_true,decide_eq_true_eq] at h
  exact zRT h.2
 ·split at h <;> simp only [Bool.and_eq_true,decide_eq_true_eq] at h <;> omega
end Go.Proofs.YtakefgebklfhpaaGreat
namespace Go.Proofs.YtakefgebklfhpaaGreat
open Go Go.Ax
variable {fuel : Nat} {M : Mem} {Q : AV → Mem → Prop} {d : Nat}
set_option maxHeartbeats 4000000 in
theorem zMA {o : Op} {ra : AV} (hS : Sl 1 zB4 ra o.rs) (ho : o.ok) (hf : 100 < fuel) : ∃ r,rofK o r ∧ ∀ M,zAE Tryz.prog (fsT tbl) fuel (d + 8) (.fn 34) [.agg (opR o ra)] M = some (r,M):=by
 have hc:=fun M=>@zDA fuel d o ra hS ho hf M
 refine zFT tf34 rfl (fun M=>by simp only [icyL,zJC hS.fz]) ?_
 refine zAJ tf34 rfl (by simp only [icyL,zJC hS.fz]) (by simp [a34]) fun b' ht hx=>?_
 have h0:=hx 0 _ rfl
 clear hx
 simp only [a34,c34] at ht ⊢
 unfold rofK rofE
 cases q1 : o.may with
 | false =>
  rw [q1] at hc
  simp (maxSteps:=2000000) (disch:=first | omega | assumption | (simp only [DS,Nat.reduceAdd, *]; done) | (simp only [DZ]; omega)) only [RUN,RU,zA2,zA1,zA0,zAA,frzL,slot,lay,zAI,reduceIte,Nat.reduceEqDiff,Nat.reduceAdd,Nat.reduceSub,Int.reduceEq,h0,hc,zBF,Bool.false_eq_true,if_false]
  exact ⟨_,rfl,rfl⟩
 | true =>
  rw [q1] at hc
  have hl:=may_len q1
  simp (maxSteps:=2000000) (disch:=first | omega | assumption | (simp only [DS,Nat.reduceAdd, *]; done) | (simp only [DZ]; omega)) only [RUN,RU,zA2,zA1,slot,reduceIte,Nat.reduceEqDiff,Nat.reduceBEq,Nat.reduceAdd,h0,hc,zB0,if_true]
  refine zKN hS (by omega) (by simp (maxSteps:=2000000) (disch:=first | omega | assumption | (simp only [DS,Nat.reduceAdd, *]; done) | (simp only [DZ]; omega)) only [RUN]) fun a' M' wf' le' kp' sm' new' wm' di'=>?_
  have hd : M'.dirty = false:=di'
  have hsz : 2 ≤ M'.size:=le'
  have g0 : M'.get 0 = some (.row false (opR o ra)):=by rw [kp' 0 (by show 0 < 2; omega)]; simp (maxSteps:=2000000) (disch:=first | omega | assumption | (simp only [DS,Nat.reduceAdd, *]; done) | (simp only [DZ]; omega)) only [RUN]
  have g1 : M'.get 1 = some (.row false (rnR ⟨⟨Eid.z,0⟩,Eid.z,[]⟩ NIL)):=by rw [kp' 1 (by show 1 < 2; omega)]; simp (maxSteps:=2000000) (disch:=first | omega | assumption | (simp only [DS,Nat.reduceAdd, *]; done) | (simp only [DZ]; omega)) only [RUN]
  have oa:=sm'.one
  have ca:=sm'.cells
  have rl : ∀ j,rowOf a' = some j → 2 ≤ j:=new'
  have hz : ∀ y ∈ spR o.sp ++ idR o.af,Fz y:=fun y hy=>(List.mem_append.1 hy).elim (zOM o.sp y) (zEA o.af y)
  have rr:=fun a2 b2 M=>@zC0 fuel (d + 1) o.rn a2 b2 hf M
  simp (maxSteps:=2000000) (disch:=first | omega | assumption | (simp only [DS,Nat.reduceAdd, *]; done) | (simp only [DZ]; omega)) only [RUN,RU,zA2,zA1,lay,zAI,reduceIte,Nat.reduceEqDiff,Nat.reduceBEq,Nat.reduceAdd,hd,g0,ca]
  refine ⟨rfl, ?_⟩
  cases q2 : decide (o.kd = 1) with
  | false =>
   have q2':=of_decide_eq_false q2
   simp (maxSteps:=2000000) (disch:=first | omega | assumption | (simp only [DS,Nat.reduceAdd, *]; done) | (simp only [DZ]; omega)) only [RUN,RU,zA2,zA1,zA0,zAA,frzL,slot,lay,zAI,reduceIte,Nat.reduceEqDiff,Nat.reduceAdd,Nat.reduceSub,g1]
   rw [if_neg (fun h=>q2' h.1)]
   simp only [show ((2 : Int) = 0) = False by decide,if_false]
   exact ⟨_,rfl,rfl⟩
  | true =>
   have q2':=of_decide_eq_true q2
   simp (maxSteps:=2000000) (disch:=first | omega | assumption | (simp only [DS,Nat.reduceAdd, *]; done) | (simp only [DZ]; omega)) only [RUN,RU,zA2,zA1,slot,reduceIte,Nat.reduceEqDiff]
   refine zQW (spR o.sp ++ idR o.af) a' (n:=d + 6) tf52 rfl hz (sm'.keep fun j hj=>?_) (by simp (maxSteps:=2000000) (disch:=first | omega | assumption | (simp only [DS,Nat.reduceAdd, *]; done) | (simp only [DZ]; omega)) only [RUN,wf']) zGX (fun a2 b2 M=>rr a2 b2 M) fun a2 N2 b2 w2 s2 k2 r2 f2=>?_
   ·have:=sm'.lt j hj
    simp (maxSteps:=2000000) (disch:=first | omega | assumption | (simp only [DS,Nat.reduceAdd, *]; done) | (simp only [DZ]; omega)) only [RUN]
   have z1 : N2.get 1 = some (.row false (rnR ⟨⟨Eid.z,0⟩,Eid.z,[]⟩ NIL)):=by
    rw [k2 1 (fun e=>by have:=rl 1 e; omega)]
    simp (maxSteps:=2000000) (disch:=first | omega | assumption | (simp only [DS,Nat.reduceAdd, *]; done) | (simp only [DZ]; omega)) only [RUN,g1]
   have z5 : N2.get M'.size = some (.row false (rnR o.rn a')):=by
    rw [k2 _ (fun e=>by have:=sm'.lt _ e; omega)]
    simp (maxSteps:=2000000) (disch:=first | omega | assumption | (simp only [DS,Nat.reduceAdd, *]; done) | (simp only [DZ]; omega)) only [RUN]
    rfl
   have hs2 : M'.size < N2.size:=by rw [s2]; simp (maxSteps:=2000000) (disch:=first | omega | assumption | (simp only [DS,Nat.reduceAdd, *]; done) | (simp only [DZ]; omega)) only [RUN]; omega
   have e2:=f2 (N2.upd 1 (.row false (rnR o.rn a'))) 11 (by omega) (fun j hj=>zA4 w2 _ _ _ (fun e=>by have:=rl j hj; omega))
   cases q3 : o.rn.may with
   | false =>
    simp (maxSteps:=2000000) (disch:=first | omega | assumption | (simp only [DS,Nat.reduceAdd, *]; done) | (simp only [DZ]; omega)) only [RUN,RU,zA2,zA1,zA0,zAA,frzL,slot,lay,zAI,reduceIte,Nat.reduceEqDiff,Nat.reduceAdd,Nat.reduceSub,Int.reduceEq,z1,zBF,Bool.false_eq_true,and_false,if_false]
    exact ⟨_,rfl,rfl⟩
   | true =>
    simp (maxSteps:=2000000) (disch:=first | omega | assumption | (simp only [DS,Nat.reduceAdd, *]; done) | (simp only [DZ]; omega)) only [RUN,RU,zA2,zA1,zA0,zAA,frzL,slot,lay,reduceIte,Nat.reduceEqDiff,Nat.reduceAdd,Nat.reduceSub,z1,z5,zB0,q2',if_true,e2]
    exact ⟨_,⟨a2,rfl,b2⟩,rfl⟩
end Go.Proofs.YtakefgebklfhpaaGreat
namespace Go.Proofs.YtakefgebklfhpaaGreat
open Go Go.Ax
variable {fuel : Nat} {M : Mem} {Q : AV → Mem → Prop} {d : Nat}
theorem zX3 {o : Op} {ra : AV} (hS : Sl 1 zB4 ra o.rs) (hl : o.rs.length ≤ 1000000000) (wf : Wf M) (hw : M.wm ≤ M.size) (k : ∀ a' N,Kept M N → SlM N 1 zB4 a' o.rs → (∀ id,rowOf a' = some id → M.size ≤ id) → Q (.agg (opR o a')) N) :
  W3 (zAE Tryz.prog (fsT tbl) fuel (d + 2) (.fn 33) [.agg (opR o ra)] M) Q:=by
 refine zB6 tf33 rfl (by simp [a33]) fun b' ht hx=>?_
 have h0:=hx 0 _ rfl
 clear hx
 simp only [a33,c33] at ht ⊢
 simp (maxSteps:=2000000) (disch:=first | omega | assumption | (simp only [DS,Nat.reduceAdd, *]; done) | (simp only [DZ]; omega)) only [RUN,RU,zA2,zA1,reduceIte,Nat.reduceEqDiff,h0]
 refine zKN hS hl (by simp (maxSteps:=2000000) (disch:=first | omega | assumption | (simp only [DS,Nat.reduceAdd, *]; done) | (simp only [DZ]; omega)) only [RUN,wf]) fun a' M' wf' le' kp' sm' new' wm' di'=>?_
 simp only [zA6] at le' kp' new'
 have g0 : M'.get M.size = some (.row false (opR o ra)):=by rw [kp' _ (by omega)]; simp (maxSteps:=2000000) (disch:=first | omega | assumption | (simp only [DS,Nat.reduceAdd, *]; done) | (simp only [DZ]; omega)) only [RUN]
 have g1 : M'.get (M.size + 1) = some (.row false (opR ⟨0,Hd.z,0,⟨Eid.z,0⟩,Eid.z,Lb.z,[]⟩ NIL)):=by rw [kp' _ (by omega)]; simp (maxSteps:=2000000) (disch:=first | omega | assumption | (simp only [DS,Nat.reduceAdd, *]; done) | (simp only [DZ]; omega)) only [RUN]
 have oa:=sm'.one
 have ca:=sm'.cells
 have rl:=zAT sm'.rl (Nat.le_refl M'.size)
 have z0 : M.size < M'.size:=by omega
 have z1 : M.size + 1 < M'.size:=by omega
 simp (maxSteps:=2000000) (disch:=first | omega | assumption | (simp only [DS,Nat.reduceAdd, *]; done) | (simp only [DZ]; omega)) only [RUN,RU,zA2,zA1,zA0,zAA,slot,lay,reduceIte,Nat.reduceEqDiff,Nat.reduceAdd,g0,g1,ca]
 have kM' : Kept M M':=⟨wf',by omega,fun j hj=>by rw [kp' j (by omega),zAF (wf.add _) _ _ (by rw [zA6]; omega),zAF wf _ _ hj],wm',di'⟩
 refine k a' _ ((kM'.upd hw (Nat.le_refl _) _).upd hw (by omega) _) (sm'.keep fun j hj=>?_) (fun id h=>by have:=new' id h; omega)
 have:=new' j hj
 simp (maxSteps:=2000000) (disch:=first | omega | assumption | (simp only [DS,Nat.reduceAdd, *]; done) | (simp only [DZ]; omega)) only [RUN]
def Spn.ids (s : Spn) : List Eid:=(List.range s.n.toNat).map fun (i : Nat)=>s.at i
theorem zYM {s : Spn} (hs : s.ok) (hm : s.may = true) (i : Nat) (hi : i < s.n.toNat) : (s.at i).ok:=by
 have:=Spn.may_le hm
 exact ⟨hs.1.1,by show -9223372036854775808 ≤ s.f.c + i; omega,by show s.f.c + i ≤ _; omega⟩
set_option maxHeartbeats 4000000 in
theorem zI1 {s : Spn} (hs : s.ok) (hm : s.may = true) (hf : 100 < fuel) : ∃ r,Sl 4 zKB r s.ids ∧ ∀ M,zAE Tryz.prog (fsT tbl) fuel (d + 6) (.fn 45) [spA s] M = some (r,M):=by
 have hb:=Spn.may_le hm
 obtain ⟨m,hmn⟩ : ∃ m : Nat,s.n = m:=⟨s.n.toNat,by omega⟩
 have ei : s.ids = (List.range m).map fun (i : Nat)=>s.at i:=by unfold Spn.ids; rw [hmn]; rfl
 have hat:=fun n M=>@zHW fuel d s n M
 simp only [hm,if_true] at hat
 rw [ei]
 refine zFT tf45 rfl (fun M=>by simp only [icyL,zB2 (zOM s) (show 1 < 12 by omega)]) ?_
 refine zAJ tf45 rfl (by simp only [icyL,zB2 (zOM s) (show 1 < 12 by omega)]) (by simp [a45]) fun b' ht hx=>?_
 have h0:=hx 0 _ rfl
 clear hx
 simp only [a45,c45] at ht ⊢
 simp (maxSteps:=2000000) (disch:=first | omega | assumption | (simp only [DS,Nat.reduceAdd, *]; done) | (simp only [DZ]; omega)) only [RUN,RU,zA2,zA1,reduceIte,Nat.reduceEqDiff,h0,hmn]
 refine zBG (I:=fun n t N => ∃ (i : Nat) (o : AV),n = m - i ∧ i ≤ m ∧ nth zA5 t 1 = .ptr 0 0 ∧ nth zA5 t 2 = o ∧ nth zA5 t 7 = I64 m ∧ nth zA5 t 8 = I64 i ∧ Wf N ∧ N.get 0 = some (.row false (spR s)) ∧ SlM N 4 zKB o ((List.range i).map fun (j : Nat)=>s.at j) ∧ (∀ j,rowOf o = some j → 0 < j)) (n:=m) (by omega) ?_ ?_
 ·refine ⟨0,NIL,rfl,Nat.zero_le _, ?_, ?_, ?_, ?_,Wf.mem0.add _,by simp (maxSteps:=2000000) (disch:=first | omega | assumption | (simp only [DS,Nat.reduceAdd, *]; done) | (simp only [DZ]; omega)) only [RUN],SlM.nil,(fun _ h=>by cases h)⟩ <;> simp (maxSteps:=2000000) (disch:=first | omega | assumption | (simp only [DS,Nat.reduceAdd, *]; done) | (simp only [DZ]; omega)) only [RUN,reduceIte,Nat.reduceEqDiff]
  all_goals first | rfl | assumption | done
 ·rintro n t N hlt ⟨i,o,rfl,hi,g1,g2,g7,g8,w,g,sm,ro⟩
  simp only [ht] at hlt ⊢
  by_cases hc : i < m
  ·have q1 : decide ((i : Int) < m) = true:=decide_eq_true (by omega)
   have hi' : ¬((i : Int) < 0 ∨ s.n ≤ i):=by omega
   have hat:=fun M=>hat i M
   simp only [hi',if_false] at hat
   have ok:=zYM hs hm i (by omega)
   have lN:=Mem.get_lt g
   have w1 : IntKind.i64.wrap ((i : Int) + 1) = ((i + 1 : Nat) : Int):=by rw [wrap_i64] <;> omega
   have oo:=sm.one
   have co:=sm.cells
   simp (maxSteps:=2000000) (disch:=first | omega | assumption | (simp only [DS,Nat.reduceAdd, *]; done) | (simp only [DZ]; omega)) only [RUN,RU,zA2,zA1,slot,lay,zAI,zAB,reduceIte,Nat.reduceEqDiff,Nat.reduceBEq,Nat.reduceAdd,g1,g2,g7,g8,q1,g,hat]
   refine ⟨zAT sm.rl (by omega), ?_⟩
   refine app1 ((w.add _).upd _ _) (sm.keep fun j hj=>?_) zLC (x:=s.at i) ⟨rfl,ok⟩ rfl (by omega) (by simp; omega) (by simp; omega) fun o' M' m' w' le' kp' nw' wm' rl' on' oc'=>?_
   ·have:=sm.lt j hj
    simp (maxSteps:=2000000) (disch:=first | omega | assumption | (simp only [DS,Nat.reduceAdd, *]; done) | (simp only [DZ]; omega)) only [RUN]
   simp only [zA9,zA6] at le' kp' nw'
   simp (maxSteps:=2000000) (disch:=first | omega | assumption | (simp only [DS,Nat.reduceAdd, *]; done) | (simp only [DZ]; omega)) only [RUN,RU,zA2,zA1,reduceIte,Nat.reduceEqDiff,g1,g2,g7,g8,w1]
   refine ⟨hlt,m - (i + 1),by omega,i + 1,o',rfl,by omega,rfl,rfl,w', ?_, ?_,fun j hj=>?_⟩
   ·rw [kp' 0 (by omega) (fun e=>by have:=ro 0 e; omega)]
    simp (maxSteps:=2000000) (disch:=first | omega | assumption | (simp only [DS,Nat.reduceAdd, *]; done) | (simp only [DZ]; omega)) only [RUN,g]
   ·rw [List.range_succ,List.map_append]; exact m'
   ·rcases nw' j hj with h | h
    ·exact ro j h
    ·omega
  ·obtain rfl : i = m:=by omega
   have q1 : decide ((i : Int) < i) = false:=decide_eq_false (by omega)
   obtain ⟨rr,hz,hr⟩:=sm.frz zLC.cel (k:=12) (by omega)
   simp (maxSteps:=2000000) (disch:=first | omega | assumption | (simp only [DS,Nat.reduceAdd, *]; done) | (simp only [DZ]; omega)) only [RUN,RU,zA2,zA1,zA0,zAA,frzL,reduceIte,Nat.reduceEqDiff,g2,g7,g8,hz]
   exact ⟨rr,hr,rfl⟩
end Go.Proofs.YtakefgebklfhpaaGreat
namespace Go.Proofs.YtakefgebklfhpaaGreat
open Go Go.Ax
variable {fuel : Nat} {M : Mem} {Q : AV → Mem → Prop} {d : Nat}
def cM1 : ACode:=(.region [⟨some 8,.alloc 25 (.agg #[(.int .u8 0),(.int .u32 0)]),none,[]⟩,⟨none,.store 2 (.tmp 8) (.tmp 17),none,[]⟩] false)
def cM2 : ACode:=(.block 1 (.seq (.region [⟨some 18,.load 1 false (.tmp 7),none,[1]⟩,⟨some 19,.load 2 true (.tmp 8),none,[0]⟩,⟨some 20,.call (.func 68) [(.tmp 18),(.tmp 19)],none,[]⟩,⟨some 21,.pur (mkO (.unOp .not 4 (.tmp 20)) 4),none,[]⟩] false) (.cond (.tmp 21) (.region [⟨some 22,.load 1 false (.tmp 7),none,[1,2]⟩,⟨some 23,.load 2 true (.tmp 8),none,[0]⟩,⟨some 24,.bsl 25 2 (.agg #[(.int .u8 0),(.int .u32 0)]) 1 [(0,2,(.tmp 23))],none,[0]⟩,⟨some 25,.app 25 2 8 (.agg #[(.int .u8 0),(.int .u32 0)]) (.tmp 22) (.tmp 24),none,[]⟩,⟨none,.store 1 (.tmp 7) (.tmp 25),none,[]⟩] false) .skip)))
def addL (out : List Lb) (x : Lb) : List Lb:=if out.any (fun y=>decide (x = y)) then out else out ++ [x]
structure MI (M : Mem) (tm : List AV) (a : AV) (x : Eid) (v : Lb) (o : AV) (out : List Lb) : Prop where
 wf : Wf M
 sz : 9 ≤ M.size
 g3 : M.get 3 = some (.row false [o])
 g4 : M.get 4 = some (.row false [a])
 g5 : M.get 5 = some (.row false (idR x))
 g6 : M.get 6 = some (.row false (lbR v))
 g7 : M.get 7 = some (.dfr false)
 g8 : M.get 8 = some (.loop .ready none tm [17] cM1 cM2 7)
 sm : SlM M 2 isLb o out
 ro : ∀ j,rowOf o = some j → j = 2 ∨ 9 ≤ j
variable {tm : List AV} {a o : AV} {x : Eid} {v : Lb} {out : List Lb}
theorem MI.keep {N : Mem} (h : MI M tm a x v o out) (wf : Wf N) (hs : M.size ≤ N.size) (k : ∀ j,j < M.size → N.get j = M.get j) : MI N tm a x v o out:=by
 have:=h.sz
 exact ⟨wf,by omega,(k 3 (by omega)).trans h.g3,(k 4 (by omega)).trans h.g4,(k 5 (by omega)).trans h.g5,(k 6 (by omega)).trans h.g6,(k 7 (by omega)).trans h.g7,(k 8 (by omega)).trans h.g8,h.sm.keep fun j hj=>k j (h.sm.lt j hj),h.ro⟩
theorem MI.back {X : Mem} {o' : AV} {out' : List Lb} (h : MI M tm a x v o out) (wX : Wf X) (hs : M.size ≤ X.size) (x3 : X.get 3 = some (.row false [o'])) (gX : ∀ j,j < 9 → j ≠ 2 → j ≠ 3 → j ≠ 8 → X.get j = M.get j) (sm : SlM X 2 isLb o' out') (ro : ∀ j,rowOf o' = some j → j = 2 ∨ 9 ≤ j) : MI (X.upd 8 (.loop .ready none tm [17] cM1 cM2 7)) tm a x v o' out':=by
 have:=h.sz
 have u : ∀ j,j ≠ 8 → (X.upd 8 (.loop .ready none tm [17] cM1 cM2 7)).get j = X.get j:=fun j hj=>zA4 wX _ _ _ (fun e=>hj e.symm)
 exact ⟨wX.upd _ _,by rw [zA9]; omega,(u 3 (by omega)).trans x3,((u 4 (by omega)).trans (gX 4 (by omega) (by omega) (by omega) (by omega))).trans h.g4,((u 5 (by omega)).trans (gX 5 (by omega) (by omega) (by omega) (by omega))).trans h.g5,((u 6 (by omega)).trans (gX 6 (by omega) (by omega) (by omega) (by omega))).trans h.g6,((u 7 (by omega)).trans (gX 7 (by omega) (by omega) (by omega) (by omega))).trans h.g7,zAG wX _ _ (by omega),sm.keep fun j hj=>u j (by have:=ro j hj; omega),ro⟩
set_option maxHeartbeats 8000000 in
theorem zd4 {to : Lb} (h : MI M tm a x v o out) (h7 : nth zA5 tm 7 = .ptr 3 0) (hlen : tm.length = 27) (ht : to.ok) (hn : out.length ≤ 100000) (hf : out.length < fuel)
  (k : ∀ o' N,MI N tm a x v o' (addL out to) → M.size ≤ N.size → Q (BL true) N) :
  W3 (zAE Tryz.prog (fsT tbl) fuel (d + 3) (.yl 8) [lbA to] M) Q:=by
 have l3:=Mem.get_lt h.g3
 have g3:=h.g3
 have g8:=h.g8
 have wf:=h.wf
 have sz:=h.sz
 have sm:=h.sm
 have ro:=h.ro
 have oo:=sm.one
 have oc:=sm.cells
 refine zZG h.g8 rfl ?_
 have e1 : zF5 tm [17] [lbA to] = St tm [(17,lbA to)]:=rfl
 rw [e1]
 unfold cM1 cM2
 simp (maxSteps:=2000000) (disch:=first | omega | assumption | (simp only [DS,Nat.reduceAdd, *]; done) | (simp only [DZ]; omega)) only [RUN,RU,zA2,zA1,lay,reduceIte,Nat.reduceEqDiff,Nat.reduceAdd,h7,wf]
 refine ⟨tm,[17],_,_,7,g8, ?_⟩
 generalize hX : ((M.add _).upd M.size _).upd 8 _ = X
 have wX : Wf X:=by rw [← hX]; exact ((wf.add _).upd _ _).upd _ _
 have sX : X.size = M.size + 1:=by rw [← hX]; rfl
 have gX : ∀ j,j < M.size → j ≠ 8 → X.get j = M.get j:=fun j a b=>by
  rw [← hX,zA4 ((wf.add _).upd _ _) _ _ _ (fun e=>b e.symm),zA4 (wf.add _) _ _ _ (by omega),zAF wf _ _ a]
 have x8 : X.get 8 = some (.loop .busy none tm [17] cM1 cM2 7):=by
  rw [← hX,zAG ((wf.add _).upd _ _) _ _ (by rw [zA9,zA6]; omega)]
 have xM : X.get M.size = some (.row false (lbR to)):=by
  rw [← hX,zA4 ((wf.add _).upd _ _) _ _ _ (by omega),zAG (wf.add _) _ _ (by rw [zA6]; omega)]
 have lM : M.size < X.size:=by omega
 have l3' : 3 < X.size:=by omega
 have x3 : X.get 3 = some (.row false [o]):=(gX 3 l3 (by omega)).trans g3
 have smX : SlM X 2 isLb o out:=sm.keep fun j hj=>gX j (sm.lt j hj) (by have:=ro j hj; omega)
 have hcn:=zW4 (P:=Tryz.prog) (fs:=fsT tbl) (fuel:=fuel) (n:=d) (v:=lbR to) tf68 tf97 zSE smX wX (by omega) (by omega) (by omega) (zDS to) rfl @pLbE (p:=fun y=>decide (to = y)) (fun dd r y hy _=>by rw [hy.1]; exact zEK dd to.lv to.cats y.lv y.cats)
 unfold addL at k
 cases hb : out.any (fun y=>decide (to = y)) with
 | true =>
  rw [hb] at hcn k
  simp (maxSteps:=2000000) (disch:=first | omega | assumption | (simp only [DS,Nat.reduceAdd, *]; done) | (simp only [DZ]; omega)) only [RUN,RU,zA2,zA1,slot,reduceIte,Nat.reduceEqDiff,g3,xM,hcn]
  rw [if_pos rfl] at k
  exact ⟨wX,_,_,_,_,_,_,_,x8,k o _ (h.back wX (by omega) x3 (fun j a b c e=>gX j (by omega) e) smX ro) (by rw [zA9]; omega)⟩
 | false =>
  rw [hb] at hcn k
  rw [if_neg (by decide)] at k
  simp (maxSteps:=2000000) (disch:=first | omega | assumption | (simp only [DS,Nat.reduceAdd, *]; done) | (simp only [DZ]; omega)) only [RUN,RU,zA2,zA1,slot,lay,zAI,zAB,reduceIte,Nat.reduceEqDiff,Nat.reduceBEq,Nat.reduceAdd,h7,g3,x3,xM,hcn]
  refine ⟨zAT smX.rl (by omega), ?_⟩
  refine app1 wX smX zSE (x:=to) ⟨rfl,ht⟩ rfl (by omega) (by omega) (by omega) fun o' M' m' w' le' kp' nw' wm' rl' on' oc'=>?_
  have ro' : ∀ j,rowOf o' = some j → j = 2 ∨ 9 ≤ j:=fun j hj=>by
   rcases nw' j hj with h | h
   ·exact ro j h
   ·omega
  have z3 : M'.get 3 = some (.row false [o]):=(kp' 3 (by omega) (fun e=>by have:=ro 3 e; omega)).trans x3
  have z8:=(kp' 8 (by omega) (fun e=>by have:=ro 8 e; omega)).trans x8
  have l3 : 3 < M'.size:=by omega
  simp (maxSteps:=2000000) (disch:=first | omega | assumption | (simp only [DS,Nat.reduceAdd, *]; done) | (simp only [DZ]; omega)) only [RUN,RU,zA2,zA1,lay,reduceIte,Nat.reduceEqDiff,h7,z3,z8,w',oc']
  refine ⟨_,_,_,_,_,_,_,rfl,k o' _ (h.back (w'.upd _ _) (by rw [zA9]; omega) (zAG w' _ _ (by omega)) (fun j a b c e=>?_) (m'.keep fun j hj=>zA4 w' _ _ _ (by have:=ro' j hj; omega)) ro') (by simp only [zA9]; omega)⟩
  rw [zA4 w' _ _ _ (fun e=>c e.symm),kp' j (by omega) (fun e=>by have:=ro j e; omega)]
  exact gX j (by omega) e
end Go.Proofs.YtakefgebklfhpaaGreat
namespace Go.Proofs.YtakefgebklfhpaaGreat
open Go Go.Ax
variable {fuel : Nat} {M : Mem} {Q : AV → Mem → Prop} {d : Nat} {tm : List AV} {a o : AV} {x : Eid} {v : Lb} {out : List Lb} {l : List Op}
def zC8 (x : Eid) (v : Lb) (o : Op) : Bool:=decide (o.kd = 3) && (o.sp.has x).isSome && o.hd.lb.leq v
def zBZ (l : List Op) (x : Eid) (v : Lb) : List Lb:=(l.filter (zC8 x v)).map (·.to)
def made (l : List Op) (x : Eid) (v : Lb) : List Lb:=(zBZ l x v).foldl addL [x.hd.lb]
theorem zUO (out : List Lb) (x : Lb) : (addL out x).length ≤ out.length + 1:=by
 unfold addL
 split
 ·omega
 ·simp
theorem zK0 : ∀ (r : List Lb) (out : List Lb),(r.foldl addL out).length ≤ out.length + r.length
 | [],out=>by simp
 | y :: r,out=>by
  have h1:=zK0 r (addL out y)
  have h2:=zUO out y
  simp only [List.foldl_cons,List.length_cons]
  omega
theorem zJF (l : List Op) (x : Eid) (v : Lb) : (zBZ l x v).length ≤ l.length:=by
 unfold zBZ
 rw [List.length_map]
 exact List.length_filter_le _ _
theorem take_snoc {α : Type} (l : List α) (i : Nat) (h : i < l.length) : l.take (i + 1) = l.take i ++ [l[i]]:=by
 rw [List.take_add_one,List.getElem?_eq_getElem h]; rfl
theorem zNS (l : List Op) (o : Op) (x : Eid) (v : Lb) : zBZ (l ++ [o]) x v = zBZ l x v ++ (if zC8 x v o then [o.to] else []):=by
 unfold zBZ
 rw [List.filter_append,List.map_append]
 cases h : zC8 x v o <;> simp [h]
set_option maxHeartbeats 8000000 in
theorem zTO {o0 : AV} (hS : Sl 17 isOp a l) (hl : l.length ≤ 50000) (hn : out.length ≤ 50000) (hf : l.length + out.length < fuel) (h : MI M tm a x v o0 out) (h7 : nth zA5 tm 7 = .ptr 3 0) (hlen : tm.length = 27)
  (k : ∀ u o' N,MI N tm a x v o' ((zBZ l x v).foldl addL out) → Q u N) :
  W3 (zAE Tryz.prog (fsT tbl) fuel (d + 6) (.fn 96) [.yl 8,.ptr 4 0,.ptr 5 0,.ptr 6 0] M) Q:=by
 have ll:=hS.len
 have g4':=h.g4
 have l4:=Mem.get_lt g4'
 refine zB6 tf96 rfl (by simp [a96]) fun b' ht hx=>?_
 have h0:=hx 0 _ rfl
 have h1:=hx 1 _ rfl
 have h2:=hx 2 _ rfl
 have h3:=hx 3 _ rfl
 clear hx
 simp only [a96,c96] at ht ⊢
 simp (maxSteps:=2000000) (disch:=first | omega | assumption | (simp only [DS,Nat.reduceAdd, *]; done) | (simp only [DZ]; omega)) only [RUN,RU,zA2,zA1,reduceIte,h1,g4',ll]
 refine zBG (I:=fun n t N => ∃ (i : Nat) (o : AV),n = l.length - i ∧ i ≤ l.length ∧ nth zA5 t 0 = .yl 8 ∧ nth zA5 t 1 = .ptr 4 0 ∧ nth zA5 t 2 = .ptr 5 0 ∧ nth zA5 t 3 = .ptr 6 0 ∧ nth zA5 t 9 = a ∧ nth zA5 t 10 = I64 l.length ∧ nth zA5 t 11 = I64 i ∧ MI N tm a x v o ((zBZ (l.take i) x v).foldl addL out)) (n:=l.length) (by omega) ?_ ?_
 ·refine ⟨0,o0,rfl,Nat.zero_le _, ?_, ?_, ?_, ?_, ?_, ?_, ?_,h⟩ <;> simp (maxSteps:=2000000) (disch:=first | omega | assumption | (simp only [DS,Nat.reduceAdd, *]; done) | (simp only [DZ]; omega)) only [RUN,reduceIte,Nat.reduceEqDiff,h0,h1,h2,h3]
  all_goals first | rfl | assumption | done
 ·rintro n t N hlt ⟨i,o,rfl,hi,g0,g1,g2,g3,g9,g10,g11,m⟩
  simp only [ht] at hlt ⊢
  clear h0 h1 h2 h3 ht b'
  by_cases hc : i < l.length
  ·have q1 : decide ((i : Int) < l.length) = true:=decide_eq_true (by omega)
   have w1 : IntKind.i64.wrap ((i : Int) + 1) = ((i + 1 : Nat) : Int):=by rw [wrap_i64] <;> omega
   obtain ⟨r,hiad,hr,hrl⟩:=hS.iad i hc
   have hsn:=zNS (l.take i) l[i] x v
   rw [← take_snoc l i hc] at hsn
   have b1:=zK0 (zBZ (l.take i) x v) out
   have b2:=zJF (l.take i) x v
   rw [List.length_take] at b2
   generalize l[i] = e at *
   obtain ⟨ra,rfl,hra,hok⟩:=hr
   have ora:=hra.one
   have wf:=m.wf
   have sz:=m.sz
   have m5:=m.g5
   have m6:=m.g6
   have l5:=Mem.get_lt m5
   have l6:=Mem.get_lt m6
   have hh:=fun M=>@zNC fuel d e.sp x M
   have hle:=fun M=>@zGI fuel (d + 4) e.hd.lb v M
   have mA : MI ((N.add (.row false (opR ⟨0,Hd.z,0,⟨Eid.z,0⟩,Eid.z,Lb.z,[]⟩ NIL))).upd N.size (.row false (opR e ra))) tm a x v o ((zBZ (l.take i) x v).foldl addL out):=m.keep ((wf.add _).upd _ _) (by rw [zA9,zA6]; omega) (fun j hj=>by rw [zA4 (wf.add _) _ _ _ (by omega),zAF wf _ _ hj])
   cases c1 : decide (e.kd = 3) with
   | false =>
    have hcc : zC8 x v e = false:=by unfold zC8; rw [c1]; rfl
    rw [hcc,if_neg (by decide),List.append_nil] at hsn
    cases c2 : (e.sp.has x).isSome <;> rw [c2] at hh
    all_goals
     simp (maxSteps:=2000000) (disch:=first | omega | assumption | (simp only [DS,Nat.reduceAdd, *]; done) | (simp only [DZ]; omega)) only [RUN,RU,zA2,zA1,slot,lay,reduceIte,Nat.reduceEqDiff,Nat.reduceAdd,g0,g1,g2,g3,g9,g10,g11,q1,hiad,m5,hh,c1,w1]
     exact ⟨hlt,l.length - (i + 1),by omega,i + 1,o,rfl,by omega,rfl,by rw [hsn]; exact mA⟩
   | true =>
    cases c2 : (e.sp.has x).isSome <;> rw [c2] at hh
    ·have hcc : zC8 x v e = false:=by unfold zC8; rw [c1,c2]; rfl
     rw [hcc,if_neg (by decide),List.append_nil] at hsn
     simp (maxSteps:=2000000) (disch:=first | omega | assumption | (simp only [DS,Nat.reduceAdd, *]; done) | (simp only [DZ]; omega)) only [RUN,RU,zA2,zA1,slot,lay,reduceIte,Nat.reduceEqDiff,Nat.reduceAdd,g0,g1,g2,g3,g9,g10,g11,q1,hiad,m5,hh,c1,w1]
     exact ⟨hlt,l.length - (i + 1),by omega,i + 1,o,rfl,by omega,rfl,by rw [hsn]; exact mA⟩
    ·cases c3 : e.hd.lb.leq v <;> rw [c3] at hle
     ·have hcc : zC8 x v e = false:=by unfold zC8; rw [c1,c2,c3]; rfl
      rw [hcc,if_neg (by decide),List.append_nil] at hsn
      simp (maxSteps:=2000000) (disch:=first | omega | assumption | (simp only [DS,Nat.reduceAdd, *]; done) | (simp only [DZ]; omega)) only [RUN,RU,zA2,zA1,slot,lay,reduceIte,Nat.reduceEqDiff,Nat.reduceAdd,g0,g1,g2,g3,g9,g10,g11,q1,hiad,m5,m6,hh,c1,hle,w1]
      exact ⟨hlt,l.length - (i + 1),by omega,i + 1,o,rfl,by omega,rfl,by rw [hsn]; exact mA⟩
     ·have hcc : zC8 x v e = true:=by unfold zC8; rw [c1,c2,c3]; rfl
      rw [hcc,if_pos rfl] at hsn
      simp (maxSteps:=2000000) (disch:=first | omega | assumption | (simp only [DS,Nat.reduceAdd, *]; done) | (simp only [DZ]; omega)) only [RUN,RU,zA2,zA1,slot,lay,reduceIte,Nat.reduceEqDiff,Nat.reduceAdd,g0,g2,g3,g9,g10,g11,q1,hiad,m5,m6,hh,c1,hle]
      refine zd4 (d:=d + 2) mA h7 hlen hok.2.2.2.2.2.1 (by omega) (by omega) fun o' N' m' le'=>?_
      simp (maxSteps:=2000000) (disch:=first | omega | assumption | (simp only [DS,Nat.reduceAdd, *]; done) | (simp only [DZ]; omega)) only [RUN,RU,zA2,zA1,reduceIte,Nat.reduceEqDiff,g0,g1,g2,g3,g9,g10,g11,w1]
      exact ⟨hlt,l.length - (i + 1),by omega,i + 1,o',rfl,by omega,rfl,by rw [hsn,List.foldl_append]; exact m'⟩
  ·obtain rfl : i = l.length:=by omega
   have q1 : decide ((l.length : Int) < l.length) = false:=decide_eq_false (by omega)
   rw [List.take_length] at m
   simp (maxSteps:=2000000) (disch:=first | omega | assumption | (simp only [DS,Nat.reduceAdd, *]; done) | (simp only [DZ]; omega)) only [RUN,RU,zA2,zA1,zA0,zAA,reduceIte,g10,g11]
   exact k _ _ _ m
end Go.Proofs.YtakefgebklfhpaaGreat
namespace Go.Proofs.YtakefgebklfhpaaGreat
open Go Go.Ax
variable {fuel : Nat} {M : Mem} {Q : AV → Mem → Prop} {d : Nat} {a o : AV} {x : Eid} {v : Lb} {l : List Op}
theorem zXH (hS : Sl 17 isOp a l) (wf : Wf M) (k : Q (.fn 96 [] [.ptr M.size 0,.ptr (M.size + 1) 0,.ptr (M.size + 1 + 1) 0]) (((M.add (.row false [a])).add (.row false (idR x))).add (.row false (lbR v)))) :
  W3 (zAE Tryz.prog (fsT tbl) fuel (d + 1) (.fn 67) [a,idA x,lbA v] M) Q:=by
 have oa:=hS.one
 refine zB6 tf67 rfl (by simp [a67]) fun b' ht hx=>?_
 have h0:=hx 0 _ rfl
 have h1:=hx 1 _ rfl
 have h2:=hx 2 _ rfl
 clear hx
 simp only [a67,c67] at ht ⊢
 simp (maxSteps:=2000000) (disch:=first | omega | assumption | (simp only [DS,Nat.reduceAdd, *]; done) | (simp only [DZ]; omega)) only [RUN,RU,zA2,zA1,zA0,zAA,reduceIte,Nat.reduceEqDiff,h0,h1,h2,hS.fz.cells]
 exact k
theorem zQQ {X : Mem} {tm : List AV} {o0 : AV} {out : List Lb} (hS : Sl 17 isOp a l) (hl : l.length ≤ 50000) (hn : out.length ≤ 50000) (hf : l.length + out.length < fuel) (w : Wf X) (h7 : nth zA5 tm 7 = .ptr 3 0) (hlen : tm.length = 27) (hX : X.size = 7) (g3 : X.get 3 = some (.row false [o0])) (g4 : X.get 4 = some (.row false [a])) (g5 : X.get 5 = some (.row false (idR x))) (g6 : X.get 6 = some (.row false (lbR v))) (sm : SlM X 2 isLb o0 out) (ro : ∀ j,rowOf o0 = some j → j = 2)
  (k : ∀ u o' N,MI N tm a x v o' ((zBZ l x v).foldl addL out) → Q u N) :
  W3 (zAE Tryz.prog (fsT tbl) fuel (d + 6) (.fn 96) ([] ++ [.yl (X.size + 1)] ++ [.ptr 4 0,.ptr 5 0,.ptr 6 0]) ((X.add (.dfr false)).add (.loop .ready none tm [17] cM1 cM2 X.size))) Q:=by
 have w1:=w.add (.dfr false)
 have u : ∀ j,j < 7 → ((X.add (.dfr false)).add (.loop .ready none tm [17] cM1 cM2 X.size)).get j = X.get j:=fun j hj=>by
  rw [zAF w1 _ _ (by rw [zA6]; omega),zAF w _ _ (by omega)]
 have e : X.size + 1 = 8:=by omega
 have key:=zTO (d:=d) (fuel:=fuel) (Q:=Q) (M:=(X.add (.dfr false)).add (.loop .ready none tm [17] cM1 cM2 X.size)) (x:=x) (v:=v) (o0:=o0) (out:=out) hS hl hn hf ⟨w1.add _,by simp only [zA6]; omega,(u 3 (by omega)).trans g3,(u 4 (by omega)).trans g4,(u 5 (by omega)).trans g5,(u 6 (by omega)).trans g6,by rw [zAF w1 _ _ (by rw [zA6]; omega),← hX]; exact zAH w _ _ (Nat.le_refl _) (Nat.lt_succ_self _),by
   have:=zAH w1 (.loop .ready none tm [17] cM1 cM2 X.size) 8 (by rw [zA6]; omega) (by rw [zA6]; omega)
   rw [hX] at this ⊢
   exact this,sm.keep fun j hj=>u j (by have:=ro j hj; omega),fun j hj => .inl (ro j hj)⟩ h7 hlen k
 rw [← e] at key
 exact key
set_option maxHeartbeats 8000000 in
theorem zOZ (hS : Sl 17 isOp a l) (hl : l.length ≤ 40000) (hf : l.length + 100 < fuel) (hx : x.ok) : ∃ r,Sl 2 isLb r (made l x v) ∧ ∀ M,zAE Tryz.prog (fsT tbl) fuel (d + 7) (.fn 43) [a,idA x,lbA v] M = some (r,M):=by
 have oa:=hS.one
 refine zFT tf43 rfl (fun M=>by simp only [icyL,fun M=>hS.icy M 12 (by omega),zB2 (zEA x) (show 1 < 12 by omega),zB2 (zDS v) (show 1 < 12 by omega)]) ?_
 refine zAJ tf43 rfl (by simp only [icyL,fun M=>hS.icy M 12 (by omega),zB2 (zEA x) (show 1 < 12 by omega),zB2 (zDS v) (show 1 < 12 by omega)]) (by simp [a43]) fun b' ht hx=>?_
 have h0:=hx 0 _ rfl
 have h1:=hx 1 _ rfl
 have h2:=hx 2 _ rfl
 clear hx
 simp only [a43,c43] at ht ⊢
 simp (maxSteps:=2000000) (disch:=first | omega | assumption | (simp only [DS,Nat.reduceAdd, *]; done) | (simp only [DZ]; omega)) only [RUN,RU,zA2,zA1,slot,lay,zAI,zAB,reduceIte,Nat.reduceEqDiff,Nat.reduceBEq,Nat.reduceAdd,h0,h1,h2]
 refine zXH hS (by simp (maxSteps:=2000000) (disch:=first | omega | assumption | (simp only [DS,Nat.reduceAdd, *]; done) | (simp only [DZ]; omega)) only [RUN]) ?_
 simp (maxSteps:=2000000) (disch:=first | omega | assumption | (simp only [DS,Nat.reduceAdd, *]; done) | (simp only [DZ]; omega)) only [RUN,RU,Nat.reduceAdd]
 refine zbQ (g:=96) (first:=[]) (cap:=[.ptr 4 0,.ptr 5 0,.ptr 6 0]) (by simp (maxSteps:=2000000) (disch:=first | omega | assumption | (simp only [DS,Nat.reduceAdd, *]; done) | (simp only [DZ]; omega)) only [RUN]) (by simp (maxSteps:=2000000) (disch:=first | omega | assumption | (simp only [DS,Nat.reduceAdd, *]; done) | (simp only [DZ]; omega)) only [RUN,reduceIte,Nat.reduceEqDiff]) ?_
 refine zQQ (x:=x) (v:=v) (out:=[x.hd.lb]) (o0:=.sl 2 0 1 (some 1) 2) (d:=d) hS (by omega) (by simp) (by simp; omega) ?_ ?_ ?_ ?_ ?_ ?_ ?_ ?_ ?_ ?_ fun u o N m=>?_
 ·simp (maxSteps:=2000000) (disch:=first | omega | assumption | (simp only [DS,Nat.reduceAdd, *]; done) | (simp only [DZ]; omega)) only [RUN]
 ·simp (maxSteps:=2000000) (disch:=first | omega | assumption | (simp only [DS,Nat.reduceAdd, *]; done) | (simp only [DZ]; omega)) only [RUN,reduceIte,Nat.reduceEqDiff]
 ·rw [zL2]; exact ht
 ·simp (maxSteps:=2000000) (disch:=first | omega | assumption | (simp only [DS,Nat.reduceAdd, *]; done) | (simp only [DZ]; omega)) only [RUN,RU,Nat.reduceAdd]
 ·simp (maxSteps:=2000000) (disch:=first | omega | assumption | (simp only [DS,Nat.reduceAdd, *]; done) | (simp only [DZ]; omega)) only [RUN]
 ·simp (maxSteps:=2000000) (disch:=first | omega | assumption | (simp only [DS,Nat.reduceAdd, *]; done) | (simp only [DZ]; omega)) only [RUN]
 ·simp (maxSteps:=2000000) (disch:=first | omega | assumption | (simp only [DS,Nat.reduceAdd, *]; done) | (simp only [DZ]; omega)) only [RUN]
 ·simp (maxSteps:=2000000) (disch:=first | omega | assumption | (simp only [DS,Nat.reduceAdd, *]; done) | (simp only [DZ]; omega)) only [RUN]
 ·refine .inr ⟨2,[lbR x.hd.lb],some 1,rfl,.inr rfl, ?_,.cons ⟨rfl,hx.1.1⟩ .nil,by simp⟩
  simp (maxSteps:=2000000) (disch:=first | omega | assumption | (simp only [DS,Nat.reduceAdd, *]; done) | (simp only [DZ]; omega)) only [RUN]
  rfl
 ·rintro j ⟨⟩
  rfl
 ·have g3:=m.g3
  have l3:=Mem.get_lt g3
  have g7:=m.g7
  have wf:=m.wf
  have sm:=m.sm
  have ro:=m.ro
  have oo:=sm.one
  have sz:=m.sz
  refine ⟨wf,by have:=m.sz; simp only [zA6,zA9,zB1]; omega,_,_,_,_,_,m.g8, ?_⟩
  generalize hX : N.upd _ _ = X
  have wX : Wf X:=by rw [← hX]; exact wf.upd _ _
  have gX : ∀ j,j ≠ 8 → X.get j = N.get j:=fun j hj=>by rw [← hX]; exact zA4 wf _ _ _ (fun e=>hj e.symm)
  have x3:=(gX 3 (by omega)).trans g3
  have x7:=(gX 7 (by omega)).trans g7
  have l3':=Mem.get_lt x3
  have l7':=Mem.get_lt x7
  simp (maxSteps:=2000000) (disch:=first | omega | assumption | (simp only [DS,Nat.reduceAdd, *]; done) | (simp only [DZ]; omega)) only [RUN,RU,zA2,zA1,reduceIte,Nat.reduceEqDiff,Nat.reduceAdd,x3]
  refine zJY wX x7 ?_
  obtain ⟨rr,hz,hr⟩:=(sm.keep fun j hj=>by rw [zA4 wX _ _ _ (by have:=ro j hj; omega)]; exact gX j (by have:=ro j hj; omega) : SlM (X.upd 7 (.dfr true)) 2 isLb o _).frz zSE.cel (k:=12) (by omega)
  simp (maxSteps:=2000000) (disch:=first | omega | assumption | (simp only [DS,Nat.reduceAdd, *]; done) | (simp only [DZ]; omega)) only [RUN,zA0,zAA,frzL,reduceIte,Nat.reduceEqDiff,hz]
  exact ⟨rr,hr,rfl⟩
end Go.Proofs.YtakefgebklfhpaaGreat
namespace Go.Proofs.YtakefgebklfhpaaGreat
open Go Go.Ax
variable {fuel : Nat} {M : Mem} {Q : AV → Mem → Prop} {d : Nat} {a : AV} {x : Eid} {v : Lb} {l : List Op}
def zHQ (ls : List Lb) (b : Lb) : Bool:=ls.any fun y=>decide (b = y)
def zDL (pre : List Op) (o : Op) : Bool:=if o.kd = 3 then o.hd.lb.leq o.to && (o.sp.ids.all fun id=>zHQ (made pre id o.hd.lb) o.hd.lb) else true
theorem may_sp {o : Op} (h : o.may = true) : o.sp.may = true:=by
 unfold Op.may at h
 simp only [Bool.and_eq_true] at h
 exact h.1.2
theorem zOY (l : List Op) (x : Eid) (v : Lb) : (made l x v).length ≤ l.length + 1:=by
 have h1:=zK0 (zBZ l x v) [x.hd.lb]
 have h2:=zJF l x v
 unfold made
 simp only [List.length_singleton] at h1
 omega
theorem zK7 (s : Spn) : s.ids.length = s.n.toNat:=(List.length_map _).trans List.length_range
theorem zNB (s : Spn) (i : Nat) (h : i < s.ids.length) : s.ids[i] = s.at i:=(List.getElem_map _).trans (by rw [List.getElem_range])
set_option maxHeartbeats 8000000 in
theorem zOG {o : Op} {ra : AV} (hS : Sl 17 isOp a l) (hl : l.length ≤ 40000) (hf : l.length + 200 < fuel) (hR : Sl 1 zB4 ra o.rs) (ho : o.ok) (hm : o.may = true) (M : Mem) : zAE Tryz.prog (fsT tbl) fuel (d + 8) (.fn 95) [a,.agg (opR o ra)] M = some (BL (zDL l o),M):=by
 have ora:=hR.one
 have hsm:=may_sp hm
 have hb:=Spn.may_le hsm
 obtain ⟨m,hmn⟩ : ∃ m : Nat,o.sp.n = m:=⟨o.sp.n.toNat,by omega⟩
 have il : o.sp.ids.length = m:=by rw [zK7,hmn]; rfl
 have hat:=fun n M=>@zHW fuel (d + 2) o.sp n M
 simp only [hsm,if_true] at hat
 have hle:=fun M=>@zGI fuel (d + 6) o.hd.lb o.to M
 apply zBI
 refine zMR tf95 rfl (by simp only [icyL,fun M=>hS.icy M 12 (by omega),zJC hR.fz]) (by simp [a95]) fun b' ht hx=>?_
 have h0:=hx 0 _ rfl
 have h1:=hx 1 _ rfl
 clear hx
 simp only [a95,c95] at ht ⊢
 unfold zDL
 by_cases q3 : o.kd = 3
 ·have k3 : decide (o.kd = 3) = true:=decide_eq_true q3
  rw [if_pos q3]
  simp (maxSteps:=2000000) (disch:=first | omega | assumption | (simp only [DS,Nat.reduceAdd, *]; done) | (simp only [DZ]; omega)) only [RUN,RU,zA2,zA1,slot,reduceIte,Nat.reduceEqDiff,Nat.reduceAdd,h1,k3,hle,hmn]
  refine zBG (I:=fun n t N => ∃ (i : Nat),n = m - i ∧ i ≤ m ∧ nth zA5 t 0 = a ∧ nth zA5 t 3 = .ptr 0 0 ∧ nth zA5 t 5 = BL (o.hd.lb.leq o.to && (o.sp.ids.take i).all fun id=>zHQ (made l id o.hd.lb) o.hd.lb) ∧ nth zA5 t 20 = I64 m ∧ nth zA5 t 21 = I64 i ∧ Wf N ∧ N.get 0 = some (.row false (opR o ra))) (n:=m) (by omega) ?_ ?_
  ·refine ⟨0,rfl,Nat.zero_le _, ?_, ?_, ?_, ?_, ?_,Wf.mem0.add _,by simp (maxSteps:=2000000) (disch:=first | omega | assumption | (simp only [DS,Nat.reduceAdd, *]; done) | (simp only [DZ]; omega)) only [RUN]⟩ <;> simp (maxSteps:=2000000) (disch:=first | omega | assumption | (simp only [DS,Nat.reduceAdd, *]; done) | (simp only [DZ]; omega)) only [RUN,RU,reduceIte,Nat.reduceEqDiff,h0]
   all_goals first | rfl | assumption | done
  ·rintro n t N hlt ⟨i,rfl,hi,g0,g3,g5,g20,g21,w,g⟩
   simp only [ht] at hlt ⊢
   by_cases hc : i < m
   ·have q1 : decide ((i : Int) < m) = true:=decide_eq_true (by omega)
    have hi' : ¬((i : Int) < 0 ∨ o.sp.n ≤ i):=by omega
    have hat:=fun M=>hat i M
    simp only [hi',if_false] at hat
    have ok:=zYM ho.2.2.2.1 hsm i (by omega)
    have lN:=Mem.get_lt g
    have w1 : IntKind.i64.wrap ((i : Int) + 1) = ((i + 1 : Nat) : Int):=by rw [wrap_i64] <;> omega
    obtain ⟨r,hr,hmade⟩:=zOZ (fuel:=fuel) (d:=d) (x:=o.sp.at i) (v:=o.hd.lb) hS hl (by omega) ok
    have hml:=zOY l (o.sp.at i) o.hd.lb
    have hcn : ∀ M,zAE Tryz.prog (fsT tbl) fuel (d + 7) (.fn 68) [r,lbA o.hd.lb] M = some (BL (zHQ (made l (o.sp.at i) o.hd.lb) o.hd.lb),M):=fun M=>zSK (P:=Tryz.prog) (fs:=fsT tbl) (fuel:=fuel) (n:=d + 5) (v:=lbR o.hd.lb) tf68 tf97 zSE hr (by omega) (by omega) (by omega) (zDS o.hd.lb) rfl @pLbE (p:=fun y=>decide (o.hd.lb = y)) (fun dd r y hy _=>by rw [hy.1]; exact zEK dd o.hd.lb.lv o.hd.lb.cats y.lv y.cats) M
    have hsn : (o.sp.ids.take (i + 1)).all (fun id=>zHQ (made l id o.hd.lb) o.hd.lb) = ((o.sp.ids.take i).all (fun id=>zHQ (made l id o.hd.lb) o.hd.lb) && zHQ (made l (o.sp.at i) o.hd.lb) o.hd.lb):=by
     rw [take_snoc _ i (by omega),List.all_append,zNB]; simp
    have hall : ∀ b,b = (o.hd.lb.leq o.to && (o.sp.ids.take (i + 1)).all fun id=>zHQ (made l id o.hd.lb) o.hd.lb) → b = false → (o.hd.lb.leq o.to && o.sp.ids.all fun id=>zHQ (made l id o.hd.lb) o.hd.lb) = false:=by
     intro b hb1 hb2
     rw [hb2] at hb1
     rw [← List.take_append_drop (i + 1) o.sp.ids,List.all_append,← Bool.and_assoc,← hb1,Bool.false_and]
    have orr:=hr.one
    cases hb : (o.hd.lb.leq o.to && (o.sp.ids.take i).all fun id=>zHQ (made l id o.hd.lb) o.hd.lb) with
    | false =>
     rw [hb] at g5
     have hal:=hall _ rfl (by rw [hsn,← Bool.and_assoc,hb,Bool.false_and])
     simp (maxSteps:=2000000) (disch:=first | omega | assumption | (simp only [DS,Nat.reduceAdd, *]; done) | (simp only [DZ]; omega)) only [RUN,RU,zA2,zA1,zA0,zAA,frzL,slot,lay,reduceIte,Nat.reduceEqDiff,Nat.reduceAdd,g3,g5,g20,g21,q1,g,hat,zKS]
     rw [hal]
    | true =>
     rw [hb] at g5
     cases hcc : zHQ (made l (o.sp.at i) o.hd.lb) o.hd.lb with
     | false =>
      rw [hcc] at hcn
      have hal:=hall _ rfl (by rw [hsn,hcc,Bool.and_false,Bool.and_false])
      simp (maxSteps:=2000000) (disch:=first | omega | assumption | (simp only [DS,Nat.reduceAdd, *]; done) | (simp only [DZ]; omega)) only [RUN,RU,zA2,zA1,zA0,zAA,frzL,slot,lay,reduceIte,Nat.reduceEqDiff,Nat.reduceBEq,Nat.reduceAdd,g0,g3,g5,g20,g21,q1,g,hat,hmade,hcn,zKS]
      rw [hal]
     | true =>
      rw [hcc] at hcn
      have hal : (o.hd.lb.leq o.to && (o.sp.ids.take (i + 1)).all fun id=>zHQ (made l id o.hd.lb) o.hd.lb) = true:=by rw [hsn,hcc,Bool.and_true]; exact hb
      simp (maxSteps:=2000000) (disch:=first | omega | assumption | (simp only [DS,Nat.reduceAdd, *]; done) | (simp only [DZ]; omega)) only [RUN,RU,zA2,zA1,slot,lay,reduceIte,Nat.reduceEqDiff,Nat.reduceBEq,Nat.reduceAdd,g0,g3,g5,g20,g21,q1,w,g,hat,hmade,hcn,w1]
      exact ⟨hlt,m - (i + 1),by omega,i + 1,rfl,by omega,by rw [hal],rfl⟩
   ·obtain rfl : i = m:=by omega
    have q1 : decide ((i : Int) < i) = false:=decide_eq_false (by omega)
    have et : o.sp.ids.take i = o.sp.ids:=List.take_of_length_le (by omega)
    rw [et] at g5
    simp (maxSteps:=2000000) (disch:=first | omega | assumption | (simp only [DS,Nat.reduceAdd, *]; done) | (simp only [DZ]; omega)) only [RUN,RU,zA2,zA1,zA0,zAA,frzL,reduceIte,Nat.reduceEqDiff,g5,g20,g21,zKS]
 ·have k3 : decide (o.kd = 3) = false:=decide_eq_false q3
  rw [if_neg q3]
  simp (maxSteps:=2000000) (disch:=first | omega | assumption | (simp only [DS,Nat.reduceAdd, *]; done) | (simp only [DZ]; omega)) only [RUN,RU,zA2,zA1,zA0,zAA,frzL,reduceIte,Nat.reduceEqDiff,h1,k3,zKS]
end Go.Proofs.YtakefgebklfhpaaGreat
namespace Go.Proofs.YtakefgebklfhpaaGreat
open Go Go.Ax
variable {fuel : Nat} {M : Mem} {Q : AV → Mem → Prop} {d : Nat} {a : AV} {x : Eid} {v : Lb} {l : List Op}
def zH1 : List Op → List Op → Bool
 | _,[]=>true
 | pre,o :: l=>o.may && zDL pre o && zH1 (pre ++ [o]) l
def zCH (l : List Op) : Int:=if 2048 < l.length then 4 else err (zH1 [] l)
theorem drop_step {α : Type} (l : List α) (i : Nat) (h : i < l.length) : l.drop i = l[i] :: l.drop (i + 1):=List.drop_eq_getElem_cons h
set_option maxHeartbeats 8000000 in
theorem zHP (hS : Sl 17 isOp a l) (hl : l.length ≤ 40000) (hf : l.length + 200 < fuel) (M : Mem) : zAE Tryz.prog (fsT tbl) fuel (d + 9) (.fn 64) [a] M = some (I64 (zCH l),M):=by
 have ll:=hS.len
 apply zBI
 refine zMR tf64 rfl (by simp only [icyL,fun M=>hS.icy M 12 (by omega)]) (by simp [a64]) fun b' ht hx=>?_
 have h0:=hx 0 _ rfl
 clear hx
 simp only [a64,c64] at ht ⊢
 unfold zCH
 by_cases q0 : 2048 < l.length
 ·have q1 : decide ((2048 : Int) < l.length) = true:=decide_eq_true (by omega)
  simp (maxSteps:=2000000) (disch:=first | omega | assumption | (simp only [DS,Nat.reduceAdd, *]; done) | (simp only [DZ]; omega)) only [RUN,RU,zA2,zA1,zA0,zAA,frzL,reduceIte,Nat.reduceEqDiff,h0,ll,q1,q0,if_true,zKS]
 ·have q1 : decide ((2048 : Int) < l.length) = false:=decide_eq_false (by omega)
  simp (maxSteps:=2000000) (disch:=first | omega | assumption | (simp only [DS,Nat.reduceAdd, *]; done) | (simp only [DZ]; omega)) only [RUN,RU,zA2,zA1,reduceIte,Nat.reduceEqDiff,h0,ll,q1,q0,if_false]
  refine zBG (I:=fun n t N => ∃ (i : Nat),n = l.length - i ∧ i ≤ l.length ∧ nth zA5 t 0 = a ∧ nth zA5 t 8 = a ∧ nth zA5 t 9 = I64 l.length ∧ nth zA5 t 10 = I64 i ∧ Wf N ∧ zH1 [] l = zH1 (l.take i) (l.drop i)) (n:=l.length) (by omega) ?_ ?_
  ·refine ⟨0,rfl,Nat.zero_le _, ?_, ?_, ?_, ?_,Wf.mem0,rfl⟩ <;> simp (maxSteps:=2000000) (disch:=first | omega | assumption | (simp only [DS,Nat.reduceAdd, *]; done) | (simp only [DZ]; omega)) only [RUN,reduceIte,Nat.reduceEqDiff,h0]
   all_goals first | rfl | assumption | done
  ·rintro n t N hlt ⟨i,rfl,hi,g0,g8,g9,g10,w,inv⟩
   simp only [ht] at hlt ⊢
   by_cases hc : i < l.length
   ·have q2 : decide ((i : Int) < l.length) = true:=decide_eq_true (by omega)
    have w1 : IntKind.i64.wrap ((i : Int) + 1) = ((i + 1 : Nat) : Int):=by rw [wrap_i64] <;> omega
    obtain ⟨r,hiad,hr,hrl⟩:=hS.iad i hc
    obtain ⟨p,hp1,hp2⟩:=zXO hS (j:=i) (by omega)
    rw [drop_step l i hc,zH1,← take_snoc l i hc] at inv
    have hkeep : l.take i ++ l[i] :: l.drop (i + 1) = l:=by rw [← drop_step l i hc,List.take_append_drop]
    generalize l[i] = e at *
    obtain ⟨ra,rfl,hra,hok⟩:=hr
    have ora:=hra.one
    have hck:=fun M=>@zDA fuel (d + 1) e ra hra hok (by omega) M
    cases hm : e.may with
    | false =>
     rw [hm] at hck
     simp only [hm,Bool.false_and] at inv
     rw [inv]
     simp (maxSteps:=2000000) (disch:=first | omega | assumption | (simp only [DS,Nat.reduceAdd, *]; done) | (simp only [DZ]; omega)) only [RUN,RU,zA2,zA1,zA0,zAA,frzL,slot,lay,reduceIte,Nat.reduceEqDiff,Nat.reduceAdd,Int.reduceEq,g8,g9,g10,q2,hiad,hck,zBF,zKS]
    | true =>
     rw [hm] at hck
     have hfi:=fun M=>zOG (fuel:=fuel) (d:=d) hp2 (by simp; omega) (by simp; omega) hra hok hm M
     cases hr' : zDL (l.take i) e with
     | false =>
      rw [hr'] at hfi
      simp only [hm,hr',Bool.false_and,Bool.and_false] at inv
      rw [inv]
      simp (maxSteps:=2000000) (disch:=first | omega | assumption | (simp only [DS,Nat.reduceAdd, *]; done) | (simp only [DZ]; omega)) only [RUN,RU,zA2,zA1,zA0,zAA,frzL,slot,lay,reduceIte,Nat.reduceEqDiff,Nat.reduceBEq,Nat.reduceAdd,g0,g8,g9,g10,hS.fz.rows,q2,hiad,hck,zB0,zBF,hp1,hfi,zKS]
     | true =>
      rw [hr'] at hfi
      simp only [hm,hr',Bool.true_and] at inv
      simp (maxSteps:=2000000) (disch:=first | omega | assumption | (simp only [DS,Nat.reduceAdd, *]; done) | (simp only [DZ]; omega)) only [RUN,RU,zA2,zA1,slot,lay,reduceIte,Nat.reduceEqDiff,Nat.reduceBEq,Nat.reduceAdd,g0,g8,g9,g10,hS.fz.rows,q2,hiad,w,hck,zB0,hp1,hfi,w1]
      exact ⟨hlt,l.length - (i + 1),by omega,i + 1,rfl,by omega,rfl,inv⟩
   ·obtain rfl : i = l.length:=by omega
    have q1 : decide ((l.length : Int) < l.length) = false:=decide_eq_false (by omega)
    rw [List.drop_length,zH1] at inv
    rw [inv]
    simp (maxSteps:=2000000) (disch:=first | omega | assumption | (simp only [DS,Nat.reduceAdd, *]; done) | (simp only [DZ]; omega)) only [RUN,RU,zA2,zA1,zA0,zAA,frzL,reduceIte,Nat.reduceEqDiff,g9,g10,zB0,zKS]
end Go.Proofs.YtakefgebklfhpaaGreat
namespace Go.Proofs.YtakefgebklfhpaaGreat
open Go Go.Ax
variable {fuel : Nat} {M : Mem} {Q : AV → Mem → Prop} {d : Nat} {a : AV} {x : Eid} {v : Lb} {l : List Op}
def chfE (l : List Op) (o : Op) : Int:=if zCH l = 0 then err o.may else zCH l
def chfB (l : List Op) (o : Op) : Bool:=decide (chfE l o = 0) && zDL l o
set_option maxHeartbeats 4000000 in
theorem zVF {o : Op} {ra : AV} (hS : Rd M 17 isOp a l) (hl : l.length ≤ 40000) (hf : l.length + 200 < fuel) (hR : Sl 1 zB4 ra o.rs) (ho : o.ok) (wf : Wf M) (k : ∀ N,Kept M N → Q (.tup [BL (chfB l o),I64 (chfE l o)]) N) :
  W3 (zAE Tryz.prog (fsT tbl) fuel (d + 10) (.fn 82) [a,.agg (opR o ra)] M) Q:=by
 have ora:=hR.one
 have wA:=wf.add (.row false (opR o ra))
 have hS' : Rd (M.add (.row false (opR o ra))) 17 isOp a l:=hS.keep fun j hj=>zAF wf _ _ (by
  rcases hS with h | h
  ·rcases h with ⟨rfl,_⟩ | ⟨_,_,rfl,_⟩ <;> cases hj
  ·exact h.lt j hj)
 have hch:=zcY (P:=Tryz.prog) (fs:=fsT tbl) (fuel:=fuel) (n:=d + 8) (N:=M.add (.row false (opR o ra))) tf64 rfl zN7 hS' wA (fun a' h M=>zHP (d:=d) h hl hf M)
 have hck:=fun M=>@zDA fuel (d + 2) o ra hR ho (by omega) M
 unfold chfB at k
 unfold chfE at k
 refine zB6 tf82 rfl (by simp [a82]) fun b' ht hx=>?_
 have h0:=hx 0 _ rfl
 have h1:=hx 1 _ rfl
 clear hx
 simp only [a82,c82] at ht ⊢
 by_cases q0 : zCH l = 0
 ·rw [q0] at hch
  simp only [q0,if_true] at k
  cases hm : o.may with
  | false =>
   rw [hm] at hck k
   simp (maxSteps:=2000000) (disch:=first | omega | assumption | (simp only [DS,Nat.reduceAdd, *]; done) | (simp only [DZ]; omega)) only [RUN,RU,zA2,zA1,zA0,zAA,slot,reduceIte,Nat.reduceEqDiff,Int.reduceEq,h0,h1,hch,hck,zBF]
   exact k _ ((Kept.refl wf).add _)
  | true =>
   have hfi:=zcZ (P:=Tryz.prog) (fs:=fsT tbl) (fuel:=fuel) (n:=d + 8) (N:=M.add (.row false (opR o ra))) (y:=.agg (opR o ra)) tf95 rfl zN7 hS' wA (zJC hR.fz) (fun a' h M=>zOG (d:=d + 1) h hl hf hR ho hm M)
   rw [hm] at hck k
   simp (maxSteps:=2000000) (disch:=first | omega | assumption | (simp only [DS,Nat.reduceAdd, *]; done) | (simp only [DZ]; omega)) only [RUN,RU,zA2,zA1,zA0,zAA,slot,reduceIte,Nat.reduceEqDiff,h0,h1,hch,hck,zB0,hfi]
   exact k _ ((Kept.refl wf).add _)
 ·have q1 : decide (zCH l = 0) = false:=decide_eq_false q0
  simp only [q0,if_false,decide_false,Bool.false_and] at k
  simp (maxSteps:=2000000) (disch:=first | omega | assumption | (simp only [DS,Nat.reduceAdd, *]; done) | (simp only [DZ]; omega)) only [RUN,RU,zA2,zA1,zA0,zAA,reduceIte,Nat.reduceEqDiff,h0,h1,hch,q1]
  exact k _ ((Kept.refl wf).add _)
end Go.Proofs.YtakefgebklfhpaaGreat
namespace Go.Proofs.YtakefgebklfhpaaGreat
open Go Go.Ax
variable {fuel : Nat} {M : Mem} {Q : AV → Mem → Prop} {d : Nat} {x : Eid} {l : List Op}
def idV (x : Eid) : List Value:=[.int .u8 x.hd.lb.lv,.int .u32 x.hd.lb.cats,.int .u8 x.hd.num,.int .i64 x.c]
theorem zYL (x : Eid) : PT.iss [.st [.st [.int .u8,.int .u32],.int .u8],.int .i64] (idV x):=by
 simp only [PT.iss,PT.is]
 exact ⟨[.int .u8 x.hd.lb.lv,.int .u32 x.hd.lb.cats,.int .u8 x.hd.num],[.int .i64 x.c],rfl,⟨[.int .u8 x.hd.lb.lv,.int .u32 x.hd.lb.cats],[.int .u8 x.hd.num],rfl,⟨[.int .u8 x.hd.lb.lv],[.int .u32 x.hd.lb.cats],rfl,⟨_,rfl⟩,⟨[.int .u32 x.hd.lb.cats],[],rfl,⟨_,rfl⟩,rfl⟩⟩,⟨[.int .u8 x.hd.num],[],rfl,⟨_,rfl⟩,rfl⟩⟩,⟨[.int .i64 x.c],[],rfl,⟨_,rfl⟩,rfl⟩⟩
theorem za7 (x y : Eid) : idV x = idV y ↔ x = y:=by
 obtain ⟨⟨⟨a,b⟩,c⟩,e⟩:=x
 obtain ⟨⟨⟨a',b'⟩,c'⟩,e'⟩:=y
 simp [idV,and_assoc]
theorem id_ck (b : Bool) (n1 n2 n3 n4 : Int) : (zAK Tryz.prog (Instr.checkKey b 10000 37 (.agg #[.int .u8 n1,.int .u32 n2,.int .u8 n3,.int .i64 n4]))).isSome = true:=by
 cases b <;> kernel_rfl
def zK6 : KeyT Tryz.prog 37 idA where
 val x:=.agg (idV x).toArray
 hval x:=rfl
 ck b x:=id_ck b _ _ _ _
 eq x y:=by
  obtain ⟨r,h1,h2⟩:=PT.eq (P:=Tryz.prog) (.st [.st [.st [.int .u8,.int .u32],.int .u8],.int .i64]) 37 10000 (by kernel_rfl) (by decide) (xs:=idV x) (ys:=idV y) (by simpa only [PT.is] using zYL x) (by simpa only [PT.is] using zYL y)
  have e : r = decide (x = y):=by
   rw [Bool.eq_iff_iff,h2,za7]
   simp
  rw [← e]
  exact h1
 same x:=by simp [Instr.sameBits,idV]
end Go.Proofs.YtakefgebklfhpaaGreat
namespace Go.Proofs.YtakefgebklfhpaaGreat
open Go Go.Ax
variable {fuel : Nat} {M : Mem} {Q : AV → Mem → Prop} {d : Nat} {x : Eid} {l : List Op} {o : Op} {ra ops : AV} {B id m : Nat}
def zAP (l : List Op) : List Eid:=l.flatMap fun o=>if o.kd = 1 then o.sp.ids else []
structure IsHist (N : Mem) (B id m : Nat) (ops : AV) (l : List Op) : Prop where
 hg : N.get id = some (.row false [ops,.mp m])
 sm : SlM N 17 isOp ops l
 mg : ∃ obj,N.get m = some obj ∧ zHD idA (BL true) obj (zAP l)
 ib : B ≤ id
 mb : B ≤ m
 ob : ∀ j,rowOf ops = some j → B ≤ j
 ne : id ≠ m
 n1 : rowOf ops ≠ some id
 n2 : rowOf ops ≠ some m
theorem IsHist.keep {N : Mem} (h : IsHist M B id m ops l) (k : ∀ j,j < M.size → N.get j = M.get j) : IsHist N B id m ops l:=by
 obtain ⟨obj,h1,h2⟩:=h.mg
 exact ⟨(k _ (Mem.get_lt h.hg)).trans h.hg,h.sm.keep fun j hj=>k j (h.sm.lt j hj),⟨obj,(k _ (Mem.get_lt h1)).trans h1,h2⟩,h.ib,h.mb,h.ob,h.ne,h.n1,h.n2⟩
def zEM (l : List Op) (o : Op) (x : Eid) : Bool:=decide (x ∈ zAP l) && x.hd.lb.leq o.hd.lb
theorem zYV (p : Prop) [Decidable p] : (if p then BL true else .sc (.bool false)) = BL (decide p):=by
 by_cases h : p <;> simp [h]
theorem zZ4 (hH : IsHist M B id m ops l) (hR : Sl 1 zB4 ra o.rs) (wf : Wf M) (hw : M.wm ≤ M.size) (k : ∀ N,Kept M N → Q (BL (zEM l o x)) N) :
  W3 (zAE Tryz.prog (fsT tbl) fuel (d + 2) (.fn 78) [.ptr id 0,.agg (opR o ra),idA x] M) Q:=by
 have ora:=hR.one
 have hg:=hH.hg
 obtain ⟨obj,mg,hset⟩:=hH.mg
 have li:=Mem.get_lt hg
 have lm:=Mem.get_lt mg
 have om:=hH.sm.one
 have mg2 : ((M.add (.row false (opR o ra))).add (.row false (idR x))).get m = some obj:=by
  rw [zAF (wf.add _) _ _ (by rw [zA6]; omega),zAF wf _ _ lm]; exact mg
 have hlk:=zOX zK6 (z:=.bool false) mg2 hset x
 rw [zYV] at hlk
 have hle:=fun M=>@zGI fuel d x.hd.lb o.hd.lb M
 have one_mp : oneA (.mp m) = true:=rfl
 have kk:=(((Kept.refl wf).add (.row false (opR o ra))).add (.row false (idR x)))
 unfold zEM at k
 refine zB6 tf78 rfl (by simp [a78]) fun b' ht hx=>?_
 have h0:=hx 0 _ rfl
 have h1:=hx 1 _ rfl
 have h2:=hx 2 _ rfl
 clear hx
 simp only [a78,c78] at ht ⊢
 cases q : decide (x ∈ zAP l) with
 | false =>
  rw [q] at hlk
  simp only [q,Bool.false_and] at k
  simp (maxSteps:=2000000) (disch:=first | omega | assumption | (simp only [DS,Nat.reduceAdd, *]; done) | (simp only [DZ]; omega)) only [RUN,RU,zA2,zA1,zA0,zAA,slot,reduceIte,Nat.reduceEqDiff,Nat.reduceBEq,Nat.reduceAdd,h0,h1,h2,hg,x_lk,hlk]
  exact k _ kk
 | true =>
  rw [q] at hlk
  simp only [q,Bool.true_and] at k
  simp (maxSteps:=2000000) (disch:=first | omega | assumption | (simp only [DS,Nat.reduceAdd, *]; done) | (simp only [DZ]; omega)) only [RUN,RU,zA2,zA1,zA0,zAA,slot,reduceIte,Nat.reduceEqDiff,Nat.reduceBEq,Nat.reduceAdd,h0,h1,h2,hg,x_lk,hlk,hle]
  exact k _ kk
theorem zc2 {bh bo : Nat} (hH : IsHist M B id m ops l) (hR : Sl 1 zB4 ra o.rs) (wf : Wf M) (hw : M.wm ≤ M.size) (hb : M.get bh = some (.row false [.ptr id 0])) (hbo : M.get bo = some (.row false (opR o ra))) (k : ∀ N,Kept M N → Q (BL (!zEM l o x)) N) :
  W3 (zAE Tryz.prog (fsT tbl) fuel (d + 3) (.fn 99) [idA x,.ptr bh 0,.ptr bo 0] M) Q:=by
 have ora:=hR.one
 have lb:=Mem.get_lt hb
 have lbo:=Mem.get_lt hbo
 have li:=Mem.get_lt hH.hg
 refine zB6 tf99 rfl (by simp [a99]) fun b' ht hx=>?_
 have h0:=hx 0 _ rfl
 have h1:=hx 1 _ rfl
 have h2:=hx 2 _ rfl
 clear hx
 simp only [a99,c99] at ht ⊢
 simp (maxSteps:=2000000) (disch:=first | omega | assumption | (simp only [DS,Nat.reduceAdd, *]; done) | (simp only [DZ]; omega)) only [RUN,RU,zA2,zA1,slot,reduceIte,Nat.reduceEqDiff,h0,h1,h2,hb,hbo]
 refine zZ4 (d:=d) (B:=B) (m:=m) (ops:=ops) (hH.keep fun j hj=>zAF wf _ _ hj) hR (wf.add _) (by rw [zA6]; show M.wm ≤ _; omega) fun N hN=>?_
 simp (maxSteps:=2000000) (disch:=first | omega | assumption | (simp only [DS,Nat.reduceAdd, *]; done) | (simp only [DZ]; omega)) only [RUN,RU,zA2,zA1,zA0,zAA,reduceIte,Nat.reduceEqDiff]
 exact k _ (((Kept.refl wf).add _).trans hN)
def allB (l : List Op) (o : Op) : Bool:=o.sp.ids.all fun x=>zEM l o x
theorem zUS {α : Type} (p : α → Bool) (l : List α) : (l.any fun x => !p x) = !l.all p:=by
 induction l with
 | nil=>rfl
 | cons x l ih=>simp only [List.any_cons,List.all_cons,ih,Bool.not_and]
theorem zc3 (hH : IsHist M B id m ops l) (hR : Sl 1 zB4 ra o.rs) (ho : o.ok) (hm : o.may = true) (hf : 300 < fuel) (wf : Wf M) (hw : M.wm ≤ M.size) (k : ∀ N,Kept M N → Q (BL (allB l o)) N) :
  W3 (zAE Tryz.prog (fsT tbl) fuel (d + 7) (.fn 81) [.ptr id 0,.agg (opR o ra)] M) Q:=by
 have ora:=hR.one
 have li:=Mem.get_lt hH.hg
 have hb:=Spn.may_le (may_sp hm)
 obtain ⟨r,hr,hn⟩:=zI1 (fuel:=fuel) (d:=d) ho.2.2.2.1 (may_sp hm) (by omega)
 have il:=zK7 o.sp
 have ea : (o.sp.ids.any fun x => !zEM l o x) = !allB l o:=zUS _ _
 refine zB6 tf81 rfl (by simp [a81]) fun b' ht hx=>?_
 have h0:=hx 0 _ rfl
 have h1:=hx 1 _ rfl
 clear hx
 simp only [a81,c81] at ht ⊢
 simp (maxSteps:=2000000) (disch:=first | omega | assumption | (simp only [DS,Nat.reduceAdd, *]; done) | (simp only [DZ]; omega)) only [RUN,RU,zA2,zA1,slot,reduceIte,Nat.reduceEqDiff,h0,h1,hn]
 have kA:=((Kept.refl wf).add (.row false [.ptr id 0])).add (.row false (opR o ra))
 have wA:=kA.wf
 have gA : ((M.add (.row false [.ptr id 0])).add (.row false (opR o ra))).get M.size = some (.row false [.ptr id 0]):=by simp (maxSteps:=2000000) (disch:=first | omega | assumption | (simp only [DS,Nat.reduceAdd, *]; done) | (simp only [DZ]; omega)) only [RUN]
 have gB : ((M.add (.row false [.ptr id 0])).add (.row false (opR o ra))).get (M.size + 1) = some (.row false (opR o ra)):=by simp (maxSteps:=2000000) (disch:=first | omega | assumption | (simp only [DS,Nat.reduceAdd, *]; done) | (simp only [DZ]; omega)) only [RUN]
 have sA : ((M.add (.row false [.ptr id 0])).add (.row false (opR o ra))).size = M.size + 2:=rfl
 generalize (M.add (.row false [.ptr id 0])).add (.row false (opR o ra)) = X at *
 refine zSL (st:=4) (ag:=true) (n:=d + 4) (first:=[]) (cap:=[.ptr M.size 0,.ptr (M.size + 1) 0]) tf79 tf98 (by simp) zLC hr (by omega) (by omega) (p:=fun x => !zEM l o x) wA (fun n hn=>by rw [sA] at hn; simp (maxSteps:=2000000) (disch:=first | omega | assumption | (simp only [DS,Nat.reduceAdd, *]; done) | (simp only [DZ]; omega)) only [RUN,RU]) (fun r x hr _ N Q' hk hQ=>?_) fun N hk=>?_
 ·obtain ⟨rfl,_⟩:=hr
  refine zc2 (d:=d + 1) (B:=B) (m:=m) (ops:=ops) (hH.keep fun j hj=>(hk.get j (by omega)).trans (kA.get j hj)) hR hk.wf (by rw [hk.wm,kA.wm]; have:=hk.le; omega) ((hk.get _ (by omega)).trans gA) ((hk.get _ (by omega)).trans gB) fun N' hk'=>hQ N' (hk.trans hk')
 ·rw [ea]
  simp (maxSteps:=2000000) (disch:=first | omega | assumption | (simp only [DS,Nat.reduceAdd, *]; done) | (simp only [DZ]; omega)) only [RUN,RU,zA2,zA1,zA0,zAA,reduceIte,Nat.reduceEqDiff]
  rw [Bool.not_not]
  exact k _ (kA.trans hk)
end Go.Proofs.YtakefgebklfhpaaGreat
namespace Go.Proofs.YtakefgebklfhpaaGreat
open Go Go.Ax
variable {fuel : Nat} {M : Mem} {Q : AV → Mem → Prop} {d : Nat} {x : Eid} {l : List Op} {o : Op} {ra ops : AV} {B id m : Nat}
def remE (l : List Op) (o : Op) : Int:=if allB l o then (if o.sp.f.hd.lb = o.hd.lb then 0 else 2) else 6
def raiE (l : List Op) (o : Op) : Int:=if allB l o then (if chfE l o = 0 ∧ chfB l o = true then 0 else 2) else 6
set_option maxHeartbeats 4000000 in
theorem zXI (hH : IsHist M B id m ops l) (hR : Sl 1 zB4 ra o.rs) (ho : o.ok) (hm : o.may = true) (hf : 300 < fuel) (wf : Wf M) (hw : M.wm ≤ M.size) (k : ∀ N,Kept M N → Q (I64 (remE l o)) N) :
  W3 (zAE Tryz.prog (fsT tbl) fuel (d + 8) (.fn 49) [.ptr id 0,.agg (opR o ra)] M) Q:=by
 have ora:=hR.one
 have li:=Mem.get_lt hH.hg
 unfold remE at k
 refine zB6 tf49 rfl (by simp [a49]) fun b' ht hx=>?_
 have h0:=hx 0 _ rfl
 have h1:=hx 1 _ rfl
 clear hx
 simp only [a49,c49] at ht ⊢
 simp (maxSteps:=2000000) (disch:=first | omega | assumption | (simp only [DS,Nat.reduceAdd, *]; done) | (simp only [DZ]; omega)) only [RUN,RU,zA2,zA1,slot,reduceIte,Nat.reduceEqDiff,h0,h1]
 refine zc3 (d:=d) (B:=B) (m:=m) (ops:=ops) (hH.keep fun j hj=>zAF wf _ _ hj) hR ho hm hf (wf.add _) (by rw [zA6]; show M.wm ≤ _; omega) fun N hN=>?_
 have hg:=hN.get M.size (by rw [zA6]; omega)
 rw [zAH wf _ _ (Nat.le_refl _) (Nat.lt_succ_self _)] at hg
 have lg:=Mem.get_lt hg
 have kN:=((Kept.refl wf).add _).trans hN
 cases q1 : allB l o <;> simp only [q1,if_true,Bool.false_eq_true,if_false] at k
 ·simp (maxSteps:=2000000) (disch:=first | omega | assumption | (simp only [DS,Nat.reduceAdd, *]; done) | (simp only [DZ]; omega)) only [RUN,RU,zA2,zA1,zA0,zAA,reduceIte,Nat.reduceEqDiff]
  exact k _ kN
 ·cases q2 : decide (o.sp.f.hd.lb = o.hd.lb)
  ·rw [if_neg (of_decide_eq_false q2)] at k
   simp (maxSteps:=2000000) (disch:=first | omega | assumption | (simp only [DS,Nat.reduceAdd, *]; done) | (simp only [DZ]; omega)) only [RUN,RU,zA2,zA1,zA0,zAA,slot,reduceIte,Nat.reduceEqDiff,hg,↓pLbN,zG1,ETA,q2]
   exact k _ kN
  ·rw [if_pos (of_decide_eq_true q2)] at k
   simp (maxSteps:=2000000) (disch:=first | omega | assumption | (simp only [DS,Nat.reduceAdd, *]; done) | (simp only [DZ]; omega)) only [RUN,RU,zA2,zA1,zA0,zAA,slot,reduceIte,Nat.reduceEqDiff,hg,↓pLbN,zG1,ETA,q2]
   exact k _ kN
set_option maxHeartbeats 4000000 in
theorem zb2 (hH : IsHist M B id m ops l) (hl : l.length ≤ 40000) (hR : Sl 1 zB4 ra o.rs) (ho : o.ok) (hm : o.may = true) (hf : l.length + 300 < fuel) (wf : Wf M) (hw : M.wm ≤ M.size) (k : ∀ N,Kept M N → Q (I64 (raiE l o)) N) :
  W3 (zAE Tryz.prog (fsT tbl) fuel (d + 11) (.fn 50) [.ptr id 0,.agg (opR o ra)] M) Q:=by
 have ora:=hR.one
 have li:=Mem.get_lt hH.hg
 unfold raiE at k
 refine zB6 tf50 rfl (by simp [a50]) fun b' ht hx=>?_
 have h0:=hx 0 _ rfl
 have h1:=hx 1 _ rfl
 clear hx
 simp only [a50,c50] at ht ⊢
 simp (maxSteps:=2000000) (disch:=first | omega | assumption | (simp only [DS,Nat.reduceAdd, *]; done) | (simp only [DZ]; omega)) only [RUN,RU,zA2,zA1,slot,reduceIte,Nat.reduceEqDiff,h0,h1]
 refine zc3 (d:=d + 3) (B:=B) (m:=m) (ops:=ops) (hH.keep fun j hj=>zAF wf _ _ hj) hR ho hm (by omega) (wf.add _) (by rw [zA6]; show M.wm ≤ _; omega) fun N hN=>?_
 have hg:=hN.get M.size (by rw [zA6]; omega)
 rw [zAH wf _ _ (Nat.le_refl _) (Nat.lt_succ_self _)] at hg
 have lg:=Mem.get_lt hg
 have kN:=((Kept.refl wf).add _).trans hN
 have hH' : IsHist N B id m ops l:=hH.keep fun j hj=>kN.get j hj
 have hg2:=hH'.hg
 have li':=Mem.get_lt hg2
 cases q1 : allB l o <;> simp only [q1,if_true,Bool.false_eq_true,if_false] at k
 ·simp (maxSteps:=2000000) (disch:=first | omega | assumption | (simp only [DS,Nat.reduceAdd, *]; done) | (simp only [DZ]; omega)) only [RUN,RU,zA2,zA1,zA0,zAA,reduceIte,Nat.reduceEqDiff]
  exact k _ kN
 ·simp (maxSteps:=2000000) (disch:=first | omega | assumption | (simp only [DS,Nat.reduceAdd, *]; done) | (simp only [DZ]; omega)) only [RUN,RU,zA2,zA1,slot,reduceIte,Nat.reduceEqDiff,Nat.reduceBEq,Nat.reduceAdd,h0,hg,hg2]
  refine zVF (d:=d) (l:=l) (.inr (hH'.sm.keep fun j hj=>rfl)) hl (by omega) hR ho (by rw [zNF]; exact hN.wf) fun N2 hN2=>?_
  have k2:=kN.trans hN2.bk
  have hd : N2.dirty = false:=hN2.di
  by_cases q2 : chfE l o = 0
  ·cases q3 : chfB l o
   ·rw [if_neg (by simp [q2,q3])] at k
    simp (maxSteps:=2000000) (disch:=first | omega | assumption | (simp only [DS,Nat.reduceAdd, *]; done) | (simp only [DZ]; omega)) only [RUN,RU,zA2,zA1,zA0,zAA,reduceIte,Nat.reduceEqDiff,Nat.reduceBEq,Nat.reduceAdd,hd,q2]
    exact k _ k2
   ·rw [if_pos ⟨q2,q3⟩] at k
    simp (maxSteps:=2000000) (disch:=first | omega | assumption | (simp only [DS,Nat.reduceAdd, *]; done) | (simp only [DZ]; omega)) only [RUN,RU,zA2,zA1,zA0,zAA,reduceIte,Nat.reduceEqDiff,Nat.reduceBEq,Nat.reduceAdd,hd,q2]
    exact k _ k2
  ·rw [if_neg (by simp [q2])] at k
   have q2' : decide (chfE l o = 0) = false:=decide_eq_false q2
   simp (maxSteps:=2000000) (disch:=first | omega | assumption | (simp only [DS,Nat.reduceAdd, *]; done) | (simp only [DZ]; omega)) only [RUN,RU,zA2,zA1,zA0,zAA,reduceIte,Nat.reduceEqDiff,Nat.reduceBEq,Nat.reduceAdd,hd,q2']
   exact k _ k2
end Go.Proofs.YtakefgebklfhpaaGreat
namespace Go.Proofs.YtakefgebklfhpaaGreat
open Go Go.Ax
variable {fuel : Nat} {M : Mem} {Q : AV → Mem → Prop} {d : Nat} {x : Eid} {l : List Op} {o : Op} {ra ops : AV} {B id m : Nat}
theorem zYN {bh : Nat} (hH : IsHist M B id m ops l) (wf : Wf M) (hb : M.get bh = some (.row false [.ptr id 0])) (k : ∀ N,Kept M N → Q (BL (decide (x ∈ zAP l))) N) :
  W3 (zAE Tryz.prog (fsT tbl) fuel (d + 1) (.fn 80) [idA x,.ptr bh 0] M) Q:=by
 have lb:=Mem.get_lt hb
 have hg:=hH.hg
 have li:=Mem.get_lt hg
 obtain ⟨obj,mg,hset⟩:=hH.mg
 have lm:=Mem.get_lt mg
 have mg2 : (M.add (.row false (idR x))).get m = some obj:=by
  rw [zAF wf _ _ lm]; exact mg
 have hlk:=zOX zK6 (z:=.bool false) mg2 hset x
 rw [zYV] at hlk
 have one_mp : oneA (.mp m) = true:=rfl
 refine zB6 tf80 rfl (by simp [a80]) fun b' ht hx=>?_
 have h0:=hx 0 _ rfl
 have h1:=hx 1 _ rfl
 clear hx
 simp only [a80,c80] at ht ⊢
 simp (maxSteps:=2000000) (disch:=first | omega | assumption | (simp only [DS,Nat.reduceAdd, *]; done) | (simp only [DZ]; omega)) only [RUN,RU,zA2,zA1,zA0,zAA,slot,reduceIte,Nat.reduceEqDiff,Nat.reduceBEq,Nat.reduceAdd,h0,h1,hb,hg,x_lk,hlk]
 exact k _ ((Kept.refl wf).add _)
def insE (l : List Op) (o : Op) : Int :=
 if o.af ≠ Eid.z ∧ zEM l o o.af = false then 6
 else if rofE o ≠ 0 ∨ (o.sp.ids.any fun x=>decide (x ∈ zAP l)) = true then 2
 else if 8192 < ((zAP l).length : Int) + o.sp.n then 4 else 0
theorem zTU {o : Op} {r : AV} (h : rofK o r) : ∃ rn ra,r = .tup [.agg (rnR rn ra),I64 (rofE o)] ∧ oneA ra = true ∧ cellsA ra = [ra]:=by
 unfold rofK at h
 split at h
 ·rename_i h0
  obtain ⟨ra,rfl,hr⟩:=h
  exact ⟨_,ra,by rw [h0],hr.one,hr.cells⟩
 ·exact ⟨⟨⟨Eid.z,0⟩,Eid.z,[]⟩,NIL,h,rfl,rfl⟩
set_option maxHeartbeats 8000000 in
theorem zWE (hH : IsHist M B id m ops l) (htl : (zAP l).length ≤ 1000000) (hR : Sl 1 zB4 ra o.rs) (ho : o.ok) (hm : o.may = true) (hf : 300 < fuel) (wf : Wf M) (hw : M.wm ≤ M.size) (k : ∀ N,Kept M N → Q (I64 (insE l o)) N) :
  W3 (zAE Tryz.prog (fsT tbl) fuel (d + 9) (.fn 48) [.ptr id 0,.agg (opR o ra)] M) Q:=by
 have ora:=hR.one
 have li:=Mem.get_lt hH.hg
 have hb:=Spn.may_le (may_sp hm)
 obtain ⟨r,hr,hn⟩:=zI1 (fuel:=fuel) (d:=d + 2) ho.2.2.2.1 (may_sp hm) (by omega)
 obtain ⟨rr,hk,hof⟩:=zMA (fuel:=fuel) (d:=d) hR ho (by omega)
 obtain ⟨rn,r2,rfl,o2,c2⟩:=zTU hk
 have il:=zK7 o.sp
 have kA:=((Kept.refl wf).add (.row false [.ptr id 0])).add (.row false (opR o ra))
 have wA:=kA.wf
 have gA : ((M.add (.row false [.ptr id 0])).add (.row false (opR o ra))).get M.size = some (.row false [.ptr id 0]):=by simp (maxSteps:=2000000) (disch:=first | omega | assumption | (simp only [DS,Nat.reduceAdd, *]; done) | (simp only [DZ]; omega)) only [RUN]
 have gB : ((M.add (.row false [.ptr id 0])).add (.row false (opR o ra))).get (M.size + 1) = some (.row false (opR o ra)):=by simp (maxSteps:=2000000) (disch:=first | omega | assumption | (simp only [DS,Nat.reduceAdd, *]; done) | (simp only [DZ]; omega)) only [RUN]
 have sA : ((M.add (.row false [.ptr id 0])).add (.row false (opR o ra))).size = M.size + 2:=rfl
 unfold insE at k
 refine zB6 tf48 rfl (by simp [a48]) fun b' ht hx=>?_
 have h0:=hx 0 _ rfl
 have h1:=hx 1 _ rfl
 clear hx
 simp only [a48,c48] at ht ⊢
 cases qz : decide (o.af = Eid.z) with
 | false =>
  simp (maxSteps:=2000000) (disch:=first | omega | assumption | (simp only [DS,Nat.reduceAdd, *]; done) | (simp only [DZ]; omega)) only [RUN,RU,zA2,zA1,slot,zAI,reduceIte,Nat.reduceEqDiff,h0,h1,↓pIdN,zBD,ETA,qz]
  generalize (M.add (.row false [.ptr id 0])).add (.row false (opR o ra)) = X at *
  refine zZ4 (d:=d + 6) (B:=B) (m:=m) (ops:=ops) (hH.keep fun j hj=>kA.get j hj) hR wA (by rw [kA.wm]; omega) fun N hN=>?_
  cases qs : zEM l o o.af with
  | false =>
   rw [if_pos ⟨of_decide_eq_false qz,qs⟩] at k
   simp (maxSteps:=2000000) (disch:=first | omega | assumption | (simp only [DS,Nat.reduceAdd, *]; done) | (simp only [DZ]; omega)) only [RUN,RU,zA2,zA1,zA0,zAA,reduceIte,Nat.reduceEqDiff]
   exact k _ (kA.trans hN)
  | true =>
   rw [if_neg (by simp [qs])] at k
   have wN:=hN.wf
   have g0:=(hN.get M.size (by omega)).trans gA
   have g1:=(hN.get (M.size + 1) (by omega)).trans gB
   have kN:=kA.trans hN
   have l0:=Mem.get_lt g0
   have l1:=Mem.get_lt g1
   simp (maxSteps:=2000000) (disch:=first | omega | assumption | (simp only [DS,Nat.reduceAdd, *]; done) | (simp only [DZ]; omega)) only [RUN,RU,zA2,zA1,slot,lay,reduceIte,Nat.reduceEqDiff,Nat.reduceAdd,g1,hof]
   by_cases q1 : rofE o = 0
   ·have k2:=(kN.add (.row false (rnR ⟨⟨Eid.z,0⟩,Eid.z,[]⟩ NIL))).upd hw kN.le (.row false (rnR rn r2))
    have z0 : ((N.add (.row false (rnR ⟨⟨Eid.z,0⟩,Eid.z,[]⟩ NIL))).upd N.size (.row false (rnR rn r2))).get M.size = some (.row false [.ptr id 0]):=by
     rw [zA4 (wN.add _) _ _ _ (by omega),zAF wN _ _ l0]; exact g0
    have z1 : ((N.add (.row false (rnR ⟨⟨Eid.z,0⟩,Eid.z,[]⟩ NIL))).upd N.size (.row false (rnR rn r2))).get (M.size + 1) = some (.row false (opR o ra)):=by
     rw [zA4 (wN.add _) _ _ _ (by omega),zAF wN _ _ l1]; exact g1
    have q1' : decide (rofE o = 0) = true:=decide_eq_true q1
    simp (maxSteps:=2000000) (disch:=first | omega | assumption | (simp only [DS,Nat.reduceAdd, *]; done) | (simp only [DZ]; omega)) only [RUN,RU,zA2,zA1,slot,reduceIte,Nat.reduceEqDiff,g1,q1',hn]
    generalize ((N.add (.row false (rnR ⟨⟨Eid.z,0⟩,Eid.z,[]⟩ NIL))).upd N.size (.row false (rnR rn r2))) = X2 at *
    have w2:=k2.wf
    have s2:=k2.le
    have hH2 : IsHist X2 B id m ops l:=hH.keep fun j hj=>k2.get j hj
    have m0:=Mem.get_lt z0
    refine zSL (st:=4) (ag:=true) (n:=d + 6) (first:=[]) (cap:=[.ptr M.size 0]) tf79 tf98 (by simp) zLC hr (by omega) (by omega) (p:=fun x=>decide (x ∈ zAP l)) w2 (fun n hn=>by simp (maxSteps:=2000000) (disch:=first | omega | assumption | (simp only [DS,Nat.reduceAdd, *]; done) | (simp only [DZ]; omega)) only [RUN,RU]) (fun r x hr _ N Q' hk hQ=>?_) fun N3 h3=>?_
    ·obtain ⟨rfl,_⟩:=hr
     refine zYN (d:=d + 5) (B:=B) (m:=m) (ops:=ops) (hH2.keep fun j hj=>hk.get j hj) hk.wf ((hk.get _ m0).trans z0) fun N' hk'=>hQ N' (hk.trans hk')
    ·have k3:=k2.trans h3
     have y0:=(h3.get _ m0).trans z0
     have y1:=(h3.get _ (Mem.get_lt z1)).trans z1
     have w3:=h3.wf
     have hH3 : IsHist N3 B id m ops l:=hH.keep fun j hj=>k3.get j hj
     have hg3:=hH3.hg
     have li3:=Mem.get_lt hg3
     have n0:=Mem.get_lt y0
     have n1:=Mem.get_lt y1
     obtain ⟨obj,mg,hset⟩:=hH3.mg
     have lm:=Mem.get_lt mg
     have hml:=zYY mg hset
     cases q2 : o.sp.ids.any fun x=>decide (x ∈ zAP l) with
     | true =>
      rw [if_pos (.inr q2)] at k
      simp (maxSteps:=2000000) (disch:=first | omega | assumption | (simp only [DS,Nat.reduceAdd, *]; done) | (simp only [DZ]; omega)) only [RUN,RU,zA2,zA1,zA0,zAA,reduceIte,Nat.reduceEqDiff]
      exact k _ k3
     | false =>
      rw [if_neg (by simp [q1,q2])] at k
      have w1 : IntKind.i64.wrap (((zAP l).length : Int) + o.sp.n) = ((zAP l).length : Int) + o.sp.n:=wrap_i64 (by omega) (by omega)
      by_cases q3 : 8192 < ((zAP l).length : Int) + o.sp.n
      ·rw [if_pos q3] at k
       have q3':=decide_eq_true q3
       simp (maxSteps:=2000000) (disch:=first | omega | assumption | (simp only [DS,Nat.reduceAdd, *]; done) | (simp only [DZ]; omega)) only [RUN,RU,zA2,zA1,zA0,zAA,reduceIte,Nat.reduceEqDiff,Nat.reduceBEq,Nat.reduceAdd,y0,y1,hg3,x_ml,hml,w1,q3']
       exact k _ k3
      ·rw [if_neg q3] at k
       have q3':=decide_eq_false q3
       simp (maxSteps:=2000000) (disch:=first | omega | assumption | (simp only [DS,Nat.reduceAdd, *]; done) | (simp only [DZ]; omega)) only [RUN,RU,zA2,zA1,zA0,zAA,reduceIte,Nat.reduceEqDiff,Nat.reduceBEq,Nat.reduceAdd,y0,y1,hg3,x_ml,hml,w1,q3']
       exact k _ k3
   ·have q1' : decide (rofE o = 0) = false:=decide_eq_false q1
    rw [if_pos (.inl q1)] at k
    simp (maxSteps:=2000000) (disch:=first | omega | assumption | (simp only [DS,Nat.reduceAdd, *]; done) | (simp only [DZ]; omega)) only [RUN,RU,zA2,zA1,zA0,zAA,reduceIte,Nat.reduceEqDiff,q1']
    exact k _ ((kN.add _).upd hw kN.le _)
 | true =>
  rw [if_neg (fun h=>h.1 (of_decide_eq_true qz))] at k
  simp (maxSteps:=2000000) (disch:=first | omega | assumption | (simp only [DS,Nat.reduceAdd, *]; done) | (simp only [DZ]; omega)) only [RUN,RU,zA2,zA1,slot,zAI,reduceIte,Nat.reduceEqDiff,h0,h1,↓pIdN,zBD,ETA,qz]
  generalize (M.add (.row false [.ptr id 0])).add (.row false (opR o ra)) = N at *
  have wN:=wA
  have g0:=gA
  have g1:=gB
  have kN:=kA
  have qs:=qz
  have l0:=Mem.get_lt g0
  have l1:=Mem.get_lt g1
  simp (maxSteps:=2000000) (disch:=first | omega | assumption | (simp only [DS,Nat.reduceAdd, *]; done) | (simp only [DZ]; omega)) only [RUN,RU,zA2,zA1,lay,reduceIte,Nat.reduceEqDiff,Nat.reduceAdd,hof]
  by_cases q1 : rofE o = 0
  ·have k2:=(kN.add (.row false (rnR ⟨⟨Eid.z,0⟩,Eid.z,[]⟩ NIL))).upd hw kN.le (.row false (rnR rn r2))
   have z0 : ((N.add (.row false (rnR ⟨⟨Eid.z,0⟩,Eid.z,[]⟩ NIL))).upd N.size (.row false (rnR rn r2))).get M.size = some (.row false [.ptr id 0]):=by
    rw [zA4 (wN.add _) _ _ _ (by omega),zAF wN _ _ l0]; exact g0
   have z1 : ((N.add (.row false (rnR ⟨⟨Eid.z,0⟩,Eid.z,[]⟩ NIL))).upd N.size (.row false (rnR rn r2))).get (M.size + 1) = some (.row false (opR o ra)):=by
    rw [zA4 (wN.add _) _ _ _ (by omega),zAF wN _ _ l1]; exact g1
   have q1' : decide (rofE o = 0) = true:=decide_eq_true q1
   simp (maxSteps:=2000000) (disch:=first | omega | assumption | (simp only [DS,Nat.reduceAdd, *]; done) | (simp only [DZ]; omega)) only [RUN,RU,zA2,zA1,slot,reduceIte,Nat.reduceEqDiff,g1,q1',hn]
   generalize ((N.add (.row false (rnR ⟨⟨Eid.z,0⟩,Eid.z,[]⟩ NIL))).upd N.size (.row false (rnR rn r2))) = X2 at *
   have w2:=k2.wf
   have s2:=k2.le
   have hH2 : IsHist X2 B id m ops l:=hH.keep fun j hj=>k2.get j hj
   have m0:=Mem.get_lt z0
   refine zSL (st:=4) (ag:=true) (n:=d + 6) (first:=[]) (cap:=[.ptr M.size 0]) tf79 tf98 (by simp) zLC hr (by omega) (by omega) (p:=fun x=>decide (x ∈ zAP l)) w2 (fun n hn=>by simp (maxSteps:=2000000) (disch:=first | omega | assumption | (simp only [DS,Nat.reduceAdd, *]; done) | (simp only [DZ]; omega)) only [RUN,RU]) (fun r x hr _ N Q' hk hQ=>?_) fun N3 h3=>?_
   ·obtain ⟨rfl,_⟩:=hr
    refine zYN (d:=d + 5) (B:=B) (m:=m) (ops:=ops) (hH2.keep fun j hj=>hk.get j hj) hk.wf ((hk.get _ m0).trans z0) fun N' hk'=>hQ N' (hk.trans hk')
   ·have k3:=k2.trans h3
    have y0:=(h3.get _ m0).trans z0
    have y1:=(h3.get _ (Mem.get_lt z1)).trans z1
    have w3:=h3.wf
    have hH3 : IsHist N3 B id m ops l:=hH.keep fun j hj=>k3.get j hj
    have hg3:=hH3.hg
    have li3:=Mem.get_lt hg3
    have n0:=Mem.get_lt y0
    have n1:=Mem.get_lt y1
    obtain ⟨obj,mg,hset⟩:=hH3.mg
    have lm:=Mem.get_lt mg
    have hml:=zYY mg hset
    cases q2 : o.sp.ids.any fun x=>decide (x ∈ zAP l) with
    | true =>
     rw [if_pos (.inr q2)] at k
     simp (maxSteps:=2000000) (disch:=first | omega | assumption | (simp only [DS,Nat.reduceAdd, *]; done) | (simp only [DZ]; omega)) only [RUN,RU,zA2,zA1,zA0,zAA,reduceIte,Nat.reduceEqDiff]
     exact k _ k3
    | false =>
     rw [if_neg (by simp [q1,q2])] at k
     have w1 : IntKind.i64.wrap (((zAP l).length : Int) + o.sp.n) = ((zAP l).length : Int) + o.sp.n:=wrap_i64 (by omega) (by omega)
     by_cases q3 : 8192 < ((zAP l).length : Int) + o.sp.n
     ·rw [if_pos q3] at k
      have q3':=decide_eq_true q3
      simp (maxSteps:=2000000) (disch:=first | omega | assumption | (simp only [DS,Nat.reduceAdd, *]; done) | (simp only [DZ]; omega)) only [RUN,RU,zA2,zA1,zA0,zAA,reduceIte,Nat.reduceEqDiff,Nat.reduceBEq,Nat.reduceAdd,y0,y1,hg3,x_ml,hml,w1,q3']
      exact k _ k3
     ·rw [if_neg q3] at k
      have q3':=decide_eq_false q3
      simp (maxSteps:=2000000) (disch:=first | omega | assumption | (simp only [DS,Nat.reduceAdd, *]; done) | (simp only [DZ]; omega)) only [RUN,RU,zA2,zA1,zA0,zAA,reduceIte,Nat.reduceEqDiff,Nat.reduceBEq,Nat.reduceAdd,y0,y1,hg3,x_ml,hml,w1,q3']
      exact k _ k3
  ·have q1' : decide (rofE o = 0) = false:=decide_eq_false q1
   rw [if_pos (.inl q1)] at k
   simp (maxSteps:=2000000) (disch:=first | omega | assumption | (simp only [DS,Nat.reduceAdd, *]; done) | (simp only [DZ]; omega)) only [RUN,RU,zA2,zA1,zA0,zAA,reduceIte,Nat.reduceEqDiff,q1']
   exact k _ ((kN.add _).upd hw kN.le _)
end Go.Proofs.YtakefgebklfhpaaGreat
namespace Go.Proofs.YtakefgebklfhpaaGreat
open Go Go.Ax
variable {fuel : Nat} {M : Mem} {Q : AV → Mem → Prop} {d : Nat} {x : Eid} {l : List Op} {o : Op} {ra ops : AV} {B id m : Nat}
def zDJ (l : List Op) (o : Op) : Int:=if o.kd = 1 then insE l o else if o.kd = 2 then remE l o else raiE l o
def fitE (l : List Op) (o : Op) : Int:=if zDJ l o = 0 then (if 2048 ≤ l.length then 4 else 0) else zDJ l o
theorem zd3 {o : Op} (h : o.may = true) (ho : o.ok) : o.kd = 1 ∨ o.kd = 2 ∨ o.kd = 3:=by
 unfold Op.may at h
 simp only [Bool.and_eq_true,Bool.not_eq_true',decide_eq_false_iff_not] at h
 have:=ho.1
 omega
set_option maxHeartbeats 8000000 in
theorem zYB (hH : IsHist M B id m ops l) (htl : (zAP l).length ≤ 1000000) (hl : l.length ≤ 40000) (hR : Sl 1 zB4 ra o.rs) (ho : o.ok) (hm : o.may = true) (hf : l.length + 300 < fuel) (wf : Wf M) (hw : M.wm ≤ M.size) (k : ∀ N,Kept M N → Q (I64 (fitE l o)) N) :
  W3 (zAE Tryz.prog (fsT tbl) fuel (d + 12) (.fn 29) [.ptr id 0,.agg (opR o ra)] M) Q:=by
 have ora:=hR.one
 have li:=Mem.get_lt hH.hg
 have wA:=wf.add (.row false (opR o ra))
 have gA : (M.add (.row false (opR o ra))).get M.size = some (.row false (opR o ra)):=zAH wf _ _ (Nat.le_refl _) (Nat.lt_succ_self _)
 have hHA : IsHist (M.add (.row false (opR o ra))).lo B id m ops l:=hH.keep fun j hj=>zAF wf _ _ hj
 have onf : oneA (.sc .nilFunc) = true:=rfl
 have tail : ∀ N2,Kept (M.add (.row false (opR o ra))).lo N2 → True:=fun _ _=>trivial
 clear tail
 have done : ∀ N2,Kept (M.add (.row false (opR o ra))).lo N2 → Kept M ((M.add (.row false (opR o ra))).bk N2):=fun N2 h=>((Kept.refl wf).add _).trans h.bk
 have kq : ∀ N2,Kept (M.add (.row false (opR o ra))).lo N2 → IsHist ((M.add (.row false (opR o ra))).bk N2) B id m ops l:=fun N2 h=>hH.keep fun j hj=>(done N2 h).get j hj
 unfold fitE at k
 refine zB6 tf29 rfl (by simp [a29]) fun b' ht hx=>?_
 have h0:=hx 0 _ rfl
 have h1:=hx 1 _ rfl
 clear hx
 simp only [a29,c29] at ht ⊢
 have hw' : (M.add (.row false (opR o ra))).lo.wm ≤ (M.add (.row false (opR o ra))).lo.size:=Nat.le_refl _
 rcases zd3 hm ho with hk | hk | hk
 ·have n1 : zD8 (U8 o.kd) = some 1:=by rw [hk]; rfl
  have ep : zDJ l o = insE l o:=by unfold zDJ; rw [if_pos hk]
  rw [ep] at k
  simp (maxSteps:=2000000) (disch:=first | omega | assumption | (simp only [DS,Nat.reduceAdd, *]; done) | (simp only [DZ]; omega)) only [RUN,RU,zA2,zA1,slot,lay,zAI,reduceIte,Nat.reduceEqDiff,Nat.reduceBEq,Nat.reduceAdd,Nat.reduceMul,h0,h1,n1,zQZ,zGG]
  refine zWE (d:=d + 2) hHA htl hR ho hm (by omega) wA hw' fun N2 hN2=>?_
  have hd : N2.dirty = false:=hN2.di
  have hq:=kq N2 hN2
  have kN:=done N2 hN2
  have hg : N2.get id = some (.row false [ops,.mp m]):=hq.hg
  have lg : id < N2.size:=Mem.get_lt hg
  have ll:=hq.sm.len
  by_cases q1 : insE l o = 0
  ·rw [if_pos q1] at k
   have q1' : decide (insE l o = 0) = true:=decide_eq_true q1
   by_cases q2 : 2048 ≤ l.length
   ·rw [if_pos q2] at k
    have q2' : decide ((2048 : Int) ≤ l.length) = true:=decide_eq_true (by omega)
    simp (maxSteps:=2000000) (disch:=first | omega | assumption | (simp only [DS,Nat.reduceAdd, *]; done) | (simp only [DZ]; omega)) only [RUN,RU,zA2,zA1,zA0,zAA,reduceIte,Nat.reduceEqDiff,Nat.reduceAdd,h0,hd,q1',hg,ll,q2']
    exact k _ kN
   ·rw [if_neg q2] at k
    have q2' : decide ((2048 : Int) ≤ l.length) = false:=decide_eq_false (by omega)
    simp (maxSteps:=2000000) (disch:=first | omega | assumption | (simp only [DS,Nat.reduceAdd, *]; done) | (simp only [DZ]; omega)) only [RUN,RU,zA2,zA1,zA0,zAA,reduceIte,Nat.reduceEqDiff,Nat.reduceAdd,h0,hd,hg,ll,q2',q1]
    exact k _ kN
  ·rw [if_neg q1] at k
   have q1' : decide (insE l o = 0) = false:=decide_eq_false q1
   simp (maxSteps:=2000000) (disch:=first | omega | assumption | (simp only [DS,Nat.reduceAdd, *]; done) | (simp only [DZ]; omega)) only [RUN,RU,zA2,zA1,zA0,zAA,reduceIte,Nat.reduceEqDiff,Nat.reduceAdd,hd,q1']
   exact k _ kN
 ·have n1 : zD8 (U8 o.kd) = some 2:=by rw [hk]; rfl
  have ep : zDJ l o = remE l o:=by unfold zDJ; rw [if_neg (by omega),if_pos hk]
  rw [ep] at k
  simp (maxSteps:=2000000) (disch:=first | omega | assumption | (simp only [DS,Nat.reduceAdd, *]; done) | (simp only [DZ]; omega)) only [RUN,RU,zA2,zA1,slot,lay,zAI,reduceIte,Nat.reduceEqDiff,Nat.reduceBEq,Nat.reduceAdd,Nat.reduceMul,h0,h1,n1,zQZ,zGG]
  refine zXI (d:=d + 3) hHA hR ho hm (by omega) wA hw' fun N2 hN2=>?_
  have hd : N2.dirty = false:=hN2.di
  have hq:=kq N2 hN2
  have kN:=done N2 hN2
  have hg : N2.get id = some (.row false [ops,.mp m]):=hq.hg
  have lg : id < N2.size:=Mem.get_lt hg
  have ll:=hq.sm.len
  by_cases q1 : remE l o = 0
  ·rw [if_pos q1] at k
   have q1' : decide (remE l o = 0) = true:=decide_eq_true q1
   by_cases q2 : 2048 ≤ l.length
   ·rw [if_pos q2] at k
    have q2' : decide ((2048 : Int) ≤ l.length) = true:=decide_eq_true (by omega)
    simp (maxSteps:=2000000) (disch:=first | omega | assumption | (simp only [DS,Nat.reduceAdd, *]; done) | (simp only [DZ]; omega)) only [RUN,RU,zA2,zA1,zA0,zAA,reduceIte,Nat.reduceEqDiff,Nat.reduceAdd,h0,hd,q1',hg,ll,q2']
    exact k _ kN
   ·rw [if_neg q2] at k
    have q2' : decide ((2048 : Int) ≤ l.length) = false:=decide_eq_false (by omega)
    simp (maxSteps:=2000000) (disch:=first | omega | assumption | (simp only [DS,Nat.reduceAdd, *]; done) | (simp only [DZ]; omega)) only [RUN,RU,zA2,zA1,zA0,zAA,reduceIte,Nat.reduceEqDiff,Nat.reduceAdd,h0,hd,hg,ll,q2',q1]
    exact k _ kN
  ·rw [if_neg q1] at k
   have q1' : decide (remE l o = 0) = false:=decide_eq_false q1
   simp (maxSteps:=2000000) (disch:=first | omega | assumption | (simp only [DS,Nat.reduceAdd, *]; done) | (simp only [DZ]; omega)) only [RUN,RU,zA2,zA1,zA0,zAA,reduceIte,Nat.reduceEqDiff,Nat.reduceAdd,hd,q1']
   exact k _ kN
 ·have n1 : zD8 (U8 o.kd) = some 3:=by rw [hk]; rfl
  have ep : zDJ l o = raiE l o:=by unfold zDJ; rw [if_neg (by omega),if_neg (by omega)]
  rw [ep] at k
  simp (maxSteps:=2000000) (disch:=first | omega | assumption | (simp only [DS,Nat.reduceAdd, *]; done) | (simp only [DZ]; omega)) only [RUN,RU,zA2,zA1,slot,lay,zAI,reduceIte,Nat.reduceEqDiff,Nat.reduceBEq,Nat.reduceAdd,Nat.reduceMul,h0,h1,n1,zQZ,zGG]
  refine zb2 (d:=d) hHA hl hR ho hm (by omega) wA hw' fun N2 hN2=>?_
  have hd : N2.dirty = false:=hN2.di
  have hq:=kq N2 hN2
  have kN:=done N2 hN2
  have hg : N2.get id = some (.row false [ops,.mp m]):=hq.hg
  have lg : id < N2.size:=Mem.get_lt hg
  have ll:=hq.sm.len
  by_cases q1 : raiE l o = 0
  ·rw [if_pos q1] at k
   have q1' : decide (raiE l o = 0) = true:=decide_eq_true q1
   by_cases q2 : 2048 ≤ l.length
   ·rw [if_pos q2] at k
    have q2' : decide ((2048 : Int) ≤ l.length) = true:=decide_eq_true (by omega)
    simp (maxSteps:=2000000) (disch:=first | omega | assumption | (simp only [DS,Nat.reduceAdd, *]; done) | (simp only [DZ]; omega)) only [RUN,RU,zA2,zA1,zA0,zAA,reduceIte,Nat.reduceEqDiff,Nat.reduceAdd,h0,hd,q1',hg,ll,q2']
    exact k _ kN
   ·rw [if_neg q2] at k
    have q2' : decide ((2048 : Int) ≤ l.length) = false:=decide_eq_false (by omega)
    simp (maxSteps:=2000000) (disch:=first | omega | assumption | (simp only [DS,Nat.reduceAdd, *]; done) | (simp only [DZ]; omega)) only [RUN,RU,zA2,zA1,zA0,zAA,reduceIte,Nat.reduceEqDiff,Nat.reduceAdd,h0,hd,hg,ll,q2',q1]
    exact k _ kN
  ·rw [if_neg q1] at k
   have q1' : decide (raiE l o = 0) = false:=decide_eq_false q1
   simp (maxSteps:=2000000) (disch:=first | omega | assumption | (simp only [DS,Nat.reduceAdd, *]; done) | (simp only [DZ]; omega)) only [RUN,RU,zA2,zA1,zA0,zAA,reduceIte,Nat.reduceEqDiff,Nat.reduceAdd,hd,q1']
   exact k _ kN
end Go.Proofs.YtakefgebklfhpaaGreat
namespace Go.Proofs.YtakefgebklfhpaaGreat
open Go Go.Ax
variable {fuel : Nat} {M : Mem} {Q : AV → Mem → Prop} {d : Nat} {x : Eid} {l : List Op} {o : Op} {ra ops a : AV} {B id m : Nat}
def zAR : List Op → List Op → Bool
 | _,[]=>true
 | pre,o :: l=>o.may && decide (fitE pre o = 0) && zAR (pre ++ [o]) l
theorem zS8 {pre : List Op} {o : Op} (h : fitE pre o = 0) (hk : o.kd = 1) : ∀ x ∈ o.sp.ids,x ∉ zAP pre:=by
 have h1 : zDJ pre o = 0:=by
  unfold fitE at h
  split at h
  ·assumption
  ·exact h
 unfold zDJ at h1
 rw [if_pos hk] at h1
 unfold insE at h1
 intro x hx hin
 split at h1
 ·cases h1
 ·split at h1
  ·cases h1
  ·rename_i h2
   exact h2 (.inr (List.any_eq_true.2 ⟨x,hx,decide_eq_true hin⟩))
theorem zJH (l : List Op) (o : Op) : zAP (l ++ [o]) = zAP l ++ (if o.kd = 1 then o.sp.ids else []):=by
 unfold zAP
 rw [List.flatMap_append]
 simp
structure HS (N : Mem) (B id m : Nat) (ops : AV) (l : List Op) (S : List Eid) : Prop where
 hg : N.get id = some (.row false [ops,.mp m])
 sm : SlM N 17 isOp ops l
 mg : ∃ obj,N.get m = some obj ∧ zHD idA (BL true) obj S
 ib : B ≤ id
 mb : B ≤ m
 ob : ∀ j,rowOf ops = some j → B ≤ j
 ne : id ≠ m
 n1 : rowOf ops ≠ some id
 n2 : rowOf ops ≠ some m
theorem HS.keep {N : Mem} {S : List Eid} (h : HS M B id m ops l S) (k : ∀ j,j < M.size → N.get j = M.get j) : HS N B id m ops l S:=by
 obtain ⟨obj,h1,h2⟩:=h.mg
 exact ⟨(k _ (Mem.get_lt h.hg)).trans h.hg,h.sm.keep fun j hj=>k j (h.sm.lt j hj),⟨obj,(k _ (Mem.get_lt h1)).trans h1,h2⟩,h.ib,h.mb,h.ob,h.ne,h.n1,h.n2⟩
theorem HS.of (h : IsHist M B id m ops l) : HS M B id m ops l (zAP l):=⟨h.hg,h.sm,h.mg,h.ib,h.mb,h.ob,h.ne,h.n1,h.n2⟩
theorem HS.to {S : List Eid} (h : HS M B id m ops l S) (e : S = zAP l) : IsHist M B id m ops l:=by
 subst e; exact ⟨h.hg,h.sm,h.mg,h.ib,h.mb,h.ob,h.ne,h.n1,h.n2⟩
set_option maxHeartbeats 8000000 in
theorem of_0 (hS : Sl 17 isOp a l) (hl : l.length ≤ 10000) (hf : l.length + 400 < fuel) (wf : Wf M) (hw : M.wm ≤ M.size)
  (kf : ∀ N,Wf N → M.size ≤ N.size → (∀ j,j < M.size → N.get j = M.get j) → zAR [] l = false → Q (.tup [.sc (.pointer none),BL false]) N)
  (kt : ∀ N ops,Wf N → M.size + 2 ≤ N.size → N.wm = M.wm → (∀ j,j < M.size → N.get j = M.get j) → zAR [] l = true → IsHist N M.size (M.size + 1) M.size ops l → (zAP l).length ≤ 64 * l.length → Q (.tup [.ptr (M.size + 1) 0,BL true]) N) :
  W3 (zAE Tryz.prog (fsT tbl) fuel (d + 13) (.fn 27) [a] M) Q:=by
 have ll:=hS.len
 have one_mp : oneA (.mp M.size) = true:=rfl
 have cmp : cellsA (.mp M.size) = [.mp M.size]:=rfl
 refine zB6 tf27 rfl (by simp [a27]) fun b' ht hx=>?_
 have h0:=hx 0 _ rfl
 clear hx
 simp only [a27,c27] at ht ⊢
 have hH0 : IsHist ((M.add (.map [] 0)).add (.row false [NIL,.mp M.size])) M.size (M.size + 1) M.size NIL []:=⟨by simp (maxSteps:=2000000) (disch:=first | omega | assumption | (simp only [DS,Nat.reduceAdd, *]; done) | (simp only [DZ]; omega)) only [RUN],SlM.nil,⟨.map [] 0,by simp (maxSteps:=2000000) (disch:=first | omega | assumption | (simp only [DS,Nat.reduceAdd, *]; done) | (simp only [DZ]; omega)) only [RUN],zHD.nil _ _⟩,by omega,by omega,fun j hj=>(by cases hj),by omega,fun hj=>(by cases hj),fun hj=>(by cases hj)⟩
 simp (maxSteps:=2000000) (disch:=first | omega | assumption | (simp only [DS,Nat.reduceAdd, *]; done) | (simp only [DZ]; omega)) only [RUN,RU,zA2,zA1,lay,zAI,reduceIte,Nat.reduceEqDiff,Nat.reduceBEq,Nat.reduceAdd,h0,ll,zUL,cmp]
 refine zBG (I:=fun n t N => ∃ (i : Nat) (ops : AV),n = l.length - i ∧ i ≤ l.length ∧ nth zA5 t 4 = .ptr (M.size + 1) 0 ∧ nth zA5 t 12 = a ∧ nth zA5 t 13 = I64 l.length ∧ nth zA5 t 14 = I64 i ∧ Wf N ∧ M.size + 2 ≤ N.size ∧ N.wm = M.wm ∧ (∀ j,j < M.size → N.get j = M.get j) ∧ IsHist N M.size (M.size + 1) M.size ops (l.take i) ∧ zAR [] l = zAR (l.take i) (l.drop i) ∧ (zAP (l.take i)).length ≤ 64 * i) (n:=l.length) (by omega) ?_ ?_
 ·refine ⟨0,NIL,rfl,Nat.zero_le _, ?_, ?_, ?_, ?_,(wf.add _).add _,by simp only [zA6]; omega,rfl,fun j hj=>by rw [zAF (wf.add _) _ _ (by rw [zA6]; omega),zAF wf _ _ hj],hH0,rfl,Nat.le_refl 0⟩ <;> simp (maxSteps:=2000000) (disch:=first | omega | assumption | (simp only [DS,Nat.reduceAdd, *]; done) | (simp only [DZ]; omega)) only [RUN,reduceIte,Nat.reduceEqDiff]
  all_goals first | rfl | assumption | done
 ·rintro n t N hlt ⟨i,ops,rfl,hi,g4,g12,g13,g14,w,sz,wm,kp,hH,inv,tl⟩
  simp only [ht] at hlt ⊢
  by_cases hc : i < l.length
  ·have q2 : decide ((i : Int) < l.length) = true:=decide_eq_true (by omega)
   have w1 : IntKind.i64.wrap ((i : Int) + 1) = ((i + 1 : Nat) : Int):=by rw [wrap_i64] <;> omega
   obtain ⟨r,hiad,hr,hrl⟩:=hS.iad i hc
   rw [drop_step l i hc,zAR,← take_snoc l i hc] at inv
   have hts:=zJH (l.take i) l[i]
   have hsn:=take_snoc l i hc
   rw [← hsn] at hts
   generalize l[i] = e at *
   obtain ⟨ra,rfl,hra,hok⟩:=hr
   have ora:=hra.one
   have hck:=fun M=>@zDA fuel (d + 5) e ra hra hok (by omega) M
   cases hm : e.may with
   | false =>
    rw [hm] at hck
    simp only [hm,Bool.false_and] at inv
    simp (maxSteps:=2000000) (disch:=first | omega | assumption | (simp only [DS,Nat.reduceAdd, *]; done) | (simp only [DZ]; omega)) only [RUN,RU,zA2,zA1,zA0,zAA,slot,lay,reduceIte,Nat.reduceEqDiff,Nat.reduceAdd,Int.reduceEq,g12,g13,g14,q2,hiad,hck,zBF]
    exact kf _ ((w.add _).upd _ _) (by simp only [zA9,zA6]; omega) (fun j hj=>by rw [zA4 (w.add _) _ _ _ (by omega),zAF w _ _ (by omega)]; exact kp j hj) inv
   | true =>
    rw [hm] at hck
    simp (maxSteps:=2000000) (disch:=first | omega | assumption | (simp only [DS,Nat.reduceAdd, *]; done) | (simp only [DZ]; omega)) only [RUN,RU,zA2,zA1,slot,lay,reduceIte,Nat.reduceEqDiff,Nat.reduceAdd,g4,g12,g13,g14,q2,hiad,hck,zB0]
    have hwN : N.wm ≤ N.size:=by omega
    have kX:=((Kept.refl w).add (.row false (opR ⟨0,Hd.z,0,⟨Eid.z,0⟩,Eid.z,Lb.z,[]⟩ NIL))).upd hwN (Nat.le_refl _) (.row false (opR e ra))
    have hli : (l.take i).length = i:=by rw [List.length_take]; omega
    refine zYB (d:=d) (B:=M.size) (m:=M.size) (ops:=ops) (l:=l.take i) (hH.keep kX.get) (by omega) (by omega) hra hok hm (by omega) kX.wf (kX.wml hwN) fun N2 hN2=>?_
    have kN:=kX.trans hN2
    have gE : N2.get N.size = some (.row false (opR e ra)):=by
     rw [hN2.get _ (by rw [zA9,zA6]; omega)]
     exact zAG (w.add _) _ _ (by rw [zA6]; omega)
    have lE:=Mem.get_lt gE
    have w2:=kN.wf
    have hH2:=hH.keep kN.get
    have hg2:=hH2.hg
    have lg2:=Mem.get_lt hg2
    have sm2:=hH2.sm
    have oo2:=sm2.one
    have oc2:=sm2.cells
    have rl2:=sm2.rl
    have le2:=kN.le
    by_cases q3 : fitE (l.take i) e = 0
    ·have q3' : decide (fitE (l.take i) e = 0) = true:=decide_eq_true q3
     simp only [hm,q3',Bool.true_and] at inv
     simp (maxSteps:=2000000) (disch:=first | omega | assumption | (simp only [DS,Nat.reduceAdd, *]; done) | (simp only [DZ]; omega)) only [RUN,RU,zA2,zA1,slot,lay,zAI,zAB,reduceIte,Nat.reduceEqDiff,Nat.reduceBEq,Nat.reduceAdd,g4,q3',gE,hg2]
     refine ⟨zAT rl2 (by omega), ?_⟩
     refine app1 w2 sm2 zN7 (x:=e) ⟨ra,rfl,hra,hok⟩ rfl (by omega) (by omega) (by omega) fun ops' M3 m3 w3 le3 kp3 nw3 wm3 rl3 on3 oc3=>?_
     have gH3 : M3.get (M.size + 1) = some (.row false [ops,.mp M.size]):=(kp3 _ lg2 hH2.n1).trans hg2
     have gE3 : M3.get N.size = some (.row false (opR e ra)):=(kp3 _ lE (fun h=>by have:=hH.sm.lt _ h; omega)).trans gE
     have l3:=Mem.get_lt gH3
     have lE3:=Mem.get_lt gE3
     simp (maxSteps:=2000000) (disch:=first | omega | assumption | (simp only [DS,Nat.reduceAdd, *]; done) | (simp only [DZ]; omega)) only [RUN,RU,zA2,zA1,lay,reduceIte,Nat.reduceEqDiff,Nat.reduceBEq,Nat.reduceAdd,gH3,gE3,oc3]
     have ob' : ∀ j,rowOf ops' = some j → j ≠ M.size + 1 ∧ j ≠ M.size ∧ M.size ≤ j:=fun j hj=>by
      rcases nw3 j hj with h | h
      ·exact ⟨fun e=>hH.n1 (e ▸ h),fun e=>hH.n2 (e ▸ h),hH.ob j h⟩
      ·omega
     have hS4 : HS (M3.upd (M.size + 1) (.row false [ops',.mp M.size])) M.size (M.size + 1) M.size ops' (l.take (i + 1)) (zAP (l.take i)):=by
      obtain ⟨obj,mg,hset⟩:=hH2.mg
      refine ⟨zAG w3 _ _ l3, ?_,⟨obj, ?_,hset⟩,by omega,by omega,fun j hj=>(ob' j hj).2.2,by omega,fun hj=>(ob' _ hj).1 rfl,fun hj=>(ob' _ hj).2.1 rfl⟩
      ·rw [hsn]
       exact m3.keep fun j hj=>zA4 w3 _ _ _ (fun e=>(ob' j hj).1 e.symm)
      ·rw [zA4 w3 _ _ _ (by omega),kp3 _ (Mem.get_lt mg) hH2.n2]; exact mg
     have kp4 : ∀ j,j < M.size → (M3.upd (M.size + 1) (.row false [ops',.mp M.size])).get j = M.get j:=fun j hj=>by
      rw [zA4 w3 _ _ _ (by omega),kp3 j (by omega) (fun h=>by have:=hH.ob j h; omega),kN.get j (by omega)]; exact kp j hj
     have w4:=w3.upd (M.size + 1) (.row false [ops',.mp M.size])
     have wm4 : (M3.upd (M.size + 1) (.row false [ops',.mp M.size])).wm = M.wm:=by
      show M3.wm = M.wm
      rw [wm3,kN.wm,wm]
     have gE4 : (M3.upd (M.size + 1) (.row false [ops',.mp M.size])).get N.size = some (.row false (opR e ra)):=by rw [zA4 w3 _ _ _ (by omega)]; exact gE3
     have sz4 : M.size + 2 ≤ (M3.upd (M.size + 1) (.row false [ops',.mp M.size])).size:=by rw [zA9]; omega
     have lE4 : N.size < (M3.upd (M.size + 1) (.row false [ops',.mp M.size])).size:=by rw [zA9]; exact lE3
     generalize M3.upd (M.size + 1) (.row false [ops',.mp M.size]) = X4 at *
     by_cases q4 : e.kd = 1
     ·have q4' : decide (e.kd = 1) = true:=decide_eq_true q4
      rw [if_pos q4] at hts
      obtain ⟨r,hr,hn⟩:=zI1 (fuel:=fuel) (d:=d + 6) hok.2.2.2.1 (may_sp hm) (by omega)
      have hbn:=Spn.may_le (may_sp hm)
      have il:=zK7 e.sp
      have rlen:=hr.len
      simp (maxSteps:=2000000) (disch:=first | omega | assumption | (simp only [DS,Nat.reduceAdd, *]; done) | (simp only [DZ]; omega)) only [RUN,RU,zA2,zA1,slot,reduceIte,Nat.reduceEqDiff,q4',gE4,hn,rlen]
      refine zBG (I:=fun nk tk Nk => ∃ (ik : Nat),nk = e.sp.ids.length - ik ∧ ik ≤ e.sp.ids.length ∧ nth zA5 tk 4 = .ptr (M.size + 1) 0 ∧ nth zA5 tk 12 = a ∧ nth zA5 tk 13 = I64 l.length ∧ nth zA5 tk 14 = I64 i ∧ nth zA5 tk 42 = r ∧ nth zA5 tk 43 = I64 e.sp.ids.length ∧ nth zA5 tk 44 = I64 ik ∧ Wf Nk ∧ M.size + 2 ≤ Nk.size ∧ Nk.wm = M.wm ∧ (∀ j,j < M.size → Nk.get j = M.get j) ∧ HS Nk M.size (M.size + 1) M.size ops' (l.take (i + 1)) (zAP (l.take i) ++ e.sp.ids.take ik)) (n:=e.sp.ids.length) (by omega) ?_ ?_
      ·refine ⟨0,rfl,Nat.zero_le _, ?_, ?_, ?_, ?_, ?_, ?_, ?_,w4,sz4,wm4,kp4,(by rw [List.take_zero,List.append_nil]; exact hS4)⟩ <;> simp (maxSteps:=2000000) (disch:=first | omega | assumption | (simp only [DS,Nat.reduceAdd, *]; done) | (simp only [DZ]; omega)) only [RUN,reduceIte,Nat.reduceEqDiff,g4,g12,g13,g14]
       all_goals first | rfl | assumption | done
      ·rintro nk tk Nk hltk ⟨ik,rfl,hik,gk4,gk12,gk13,gk14,gk42,gk43,gk44,wk,szk,wmk,kpk,hSk⟩
       simp only [hlt] at hltk ⊢
       by_cases hck : ik < e.sp.ids.length
       ·have q5 : decide ((ik : Int) < e.sp.ids.length) = true:=decide_eq_true (by omega)
        have w1k : IntKind.i64.wrap ((ik : Int) + 1) = ((ik + 1 : Nat) : Int):=by rw [wrap_i64] <;> omega
        obtain ⟨rx,hiadx,hrx,hrlx⟩:=hr.iad ik hck
        have fr : e.sp.ids[ik] ∉ zAP (l.take i) ++ e.sp.ids.take ik:=by
         intro hin
         rcases List.mem_append.1 hin with h | h
         ·exact zS8 q3 q4 _ (List.getElem_mem hck) h
         ·obtain ⟨j,hj,he⟩:=List.getElem_of_mem h
          rw [List.getElem_take] at he
          rw [List.length_take] at hj
          rw [zNB,zNB] at he
          have:=congrArg Eid.c he
          simp only [Spn.at] at this
          omega
        have sn:=take_snoc e.sp.ids ik hck
        generalize e.sp.ids[ik] = x at *
        obtain ⟨rfl,hxo⟩:=hrx
        have gk:=hSk.hg
        obtain ⟨obj,mgk,hset⟩:=hSk.mg
        have lk:=Mem.get_lt gk
        have lmk:=Mem.get_lt mgk
        simp (maxSteps:=2000000) (disch:=first | omega | assumption | (simp only [DS,Nat.reduceAdd, *]; done) | (simp only [DZ]; omega)) only [RUN,RU,zA2,zA1,slot,lay,reduceIte,Nat.reduceEqDiff,Nat.reduceBEq,Nat.reduceAdd,gk4,gk42,gk43,gk44,q5,hiadx,gk,x_mu]
        have wk2:=(wk.add (.row false (idR ⟨⟨⟨0,0⟩,0⟩,0⟩))).upd Nk.size (.row false (idR x))
        have keep2 : ∀ j,j < Nk.size → ((Nk.add (.row false (idR ⟨⟨⟨0,0⟩,0⟩,0⟩))).upd Nk.size (.row false (idR x))).get j = Nk.get j:=fun j hj=>by
         rw [zA4 (wk.add _) _ _ _ (by omega),zAF wk _ _ hj]
        refine zLP zK6 (l:=zAP (l.take i) ++ e.sp.ids.take ik) wk2 (by simp only [zA9,zA6]; omega) ((keep2 _ lmk).trans mgk) hset x fun o' hs'=>?_
        rw [if_neg fr] at hs'
        have hS5 : HS (((Nk.add (.row false (idR ⟨⟨⟨0,0⟩,0⟩,0⟩))).upd Nk.size (.row false (idR x))).upd M.size o') M.size (M.size + 1) M.size ops' (l.take (i + 1)) (zAP (l.take i) ++ e.sp.ids.take (ik + 1)):=by
         have u : ∀ j,j < Nk.size → j ≠ M.size → (((Nk.add (.row false (idR ⟨⟨⟨0,0⟩,0⟩,0⟩))).upd Nk.size (.row false (idR x))).upd M.size o').get j = Nk.get j:=fun j hj hne=>by
          rw [zA4 wk2 _ _ _ (fun e=>hne e.symm),keep2 j hj]
         refine ⟨(u _ lk (by omega)).trans gk,hSk.sm.keep fun j hj=>u j (hSk.sm.lt j hj) (fun e=>hSk.n2 (e ▸ hj)),⟨o',zAG wk2 _ _ (by simp only [zA9,zA6]; omega), ?_⟩,hSk.ib,hSk.mb,hSk.ob,hSk.ne,hSk.n1,hSk.n2⟩
         rw [sn,← List.append_assoc]
         exact hs'
        have wm5 : (((Nk.add (.row false (idR ⟨⟨⟨0,0⟩,0⟩,0⟩))).upd Nk.size (.row false (idR x))).upd M.size o').wm = M.wm:=wmk
        have kp5 : ∀ j,j < M.size → (((Nk.add (.row false (idR ⟨⟨⟨0,0⟩,0⟩,0⟩))).upd Nk.size (.row false (idR x))).upd M.size o').get j = M.get j:=fun j hj=>by
         rw [zA4 wk2 _ _ _ (by omega),keep2 j (by omega)]; exact kpk j hj
        have wk5:=wk2.upd M.size o'
        have sz5 : M.size + 2 ≤ (((Nk.add (.row false (idR ⟨⟨⟨0,0⟩,0⟩,0⟩))).upd Nk.size (.row false (idR x))).upd M.size o').size:=by simp only [zA9,zA6]; omega
        simp (maxSteps:=2000000) (disch:=first | omega | assumption | (simp only [DS,Nat.reduceAdd, *]; done) | (simp only [DZ]; omega)) only [RUN,RU,zA2,zA1,reduceIte,Nat.reduceEqDiff,Nat.reduceAdd,Nat.reduceLeDiff,gk4,gk12,gk13,gk14,gk42,gk43,gk44,w1k]
        exact ⟨hltk,e.sp.ids.length - (ik + 1),by omega,ik + 1,rfl,by omega,rfl,wk,by omega,wm5,kp5,hS5⟩
       ·obtain rfl : ik = e.sp.ids.length:=by omega
        have q5 : decide ((e.sp.ids.length : Int) < e.sp.ids.length) = false:=decide_eq_false (by omega)
        rw [List.take_length] at hSk
        simp (maxSteps:=2000000) (disch:=first | omega | assumption | (simp only [DS,Nat.reduceAdd, *]; done) | (simp only [DZ]; omega)) only [RUN,RU,zA2,zA1,reduceIte,Nat.reduceEqDiff,gk4,gk12,gk13,gk14,gk43,gk44,w1]
        exact ⟨hltk,l.length - (i + 1),by omega,i + 1,ops',rfl,by omega,rfl,wk,szk,wmk,kpk,hSk.to hts.symm,inv,by rw [hts,List.length_append]; omega⟩
     ·have q4' : decide (e.kd = 1) = false:=decide_eq_false q4
      rw [if_neg q4,List.append_nil] at hts
      simp (maxSteps:=2000000) (disch:=first | omega | assumption | (simp only [DS,Nat.reduceAdd, *]; done) | (simp only [DZ]; omega)) only [RUN,RU,zA2,zA1,reduceIte,Nat.reduceEqDiff,g4,g12,g13,g14,q4',w1]
      exact ⟨hlt,l.length - (i + 1),by omega,i + 1,ops',rfl,by omega,rfl,w4,sz4,wm4,kp4,hS4.to hts.symm,inv,by rw [hts]; omega⟩
    ·have q3' : decide (fitE (l.take i) e = 0) = false:=decide_eq_false q3
     simp only [hm,q3',Bool.false_and,Bool.and_false] at inv
     simp (maxSteps:=2000000) (disch:=first | omega | assumption | (simp only [DS,Nat.reduceAdd, *]; done) | (simp only [DZ]; omega)) only [RUN,RU,zA2,zA1,zA0,zAA,reduceIte,Nat.reduceEqDiff,q3']
     exact kf _ w2 (by omega) (fun j hj=>(kN.get j (by omega)).trans (kp j hj)) inv
  ·obtain rfl : i = l.length:=by omega
   have q1 : decide ((l.length : Int) < l.length) = false:=decide_eq_false (by omega)
   rw [List.drop_length,zAR] at inv
   rw [List.take_length] at hH tl
   simp (maxSteps:=2000000) (disch:=first | omega | assumption | (simp only [DS,Nat.reduceAdd, *]; done) | (simp only [DZ]; omega)) only [RUN,RU,zA2,zA1,zA0,zAA,reduceIte,Nat.reduceEqDiff,g4,g13,g14]
   exact kt _ _ w sz wm kp inv hH tl
end Go.Proofs.YtakefgebklfhpaaGreat
namespace Go.Proofs.YtakefgebklfhpaaGreat
open Go Go.Ax
variable {fuel : Nat} {M : Mem} {Q : AV → Mem → Prop} {d : Nat} {x : Eid} {l : List Op} {o : Op} {ra ops a : AV} {B id m : Nat} {v : Lb}
abbrev opH (o : Op) : List AV:=[U8 o.kd,U8 o.hd.lb.lv,U32 o.hd.lb.cats,U8 o.hd.num,I64 o.sr,U8 o.sp.f.hd.lb.lv,U32 o.sp.f.hd.lb.cats,U8 o.sp.f.hd.num,I64 o.sp.f.c,I64 o.sp.n,U8 o.af.hd.lb.lv,U32 o.af.hd.lb.cats,U8 o.af.hd.num,I64 o.af.c,U8 o.to.lv,U32 o.to.cats]
def opK : NK Op Int where
 st:=17
 H:=opH
 f:=Op.rs
 T:=zB4
 ok:=Op.ok
 hl:=fun _=>rfl
 hz:=fun o y hy=>by
  simp only [opH,List.mem_cons,List.not_mem_nil,or_false] at hy
  rcases hy with rfl | rfl | rfl | rfl | rfl | rfl | rfl | rfl | rfl | rfl | rfl | rfl | rfl | rfl | rfl | rfl
  all_goals exact zCD _ _
 ft:=zGX
theorem zd7 (h : Sl opK.st opK.is a l) : Sl 17 isOp a l:=h
theorem zEF (hS : Sl 17 isOp a l) (hl : l.length ≤ 10000) (hf : l.length + 400 < fuel) (M : Mem) : zAE Tryz.prog (fsT tbl) fuel (d + 14) (.fn 31) [a] M = some (I64 (err (zAR [] l)),M):=by
 apply zBI
 refine zAJ tf31 rfl (by simp only [icyL,fun M=>hS.icy M 12 (by omega)]) (by simp [a31]) fun b' ht hx=>?_
 have h0:=hx 0 _ rfl
 clear hx
 simp only [a31,c31] at ht ⊢
 simp (maxSteps:=2000000) (disch:=first | omega | assumption | (simp only [DS,Nat.reduceAdd, *]; done) | (simp only [DZ]; omega)) only [RUN,RU,zA2,zA1,reduceIte,Nat.reduceEqDiff,h0]
 refine of_0 (d:=d) hS hl hf Wf.mem0 (Nat.le_refl _) (fun N w s k hh=>?_) (fun N ops w s wm k hh _ _=>?_)
 ·rw [hh]
  simp (maxSteps:=2000000) (disch:=first | omega | assumption | (simp only [DS,Nat.reduceAdd, *]; done) | (simp only [DZ]; omega)) only [RUN,RU,zA2,zA1,zA0,zAA,frzL,reduceIte,Nat.reduceEqDiff,zBF]
 ·rw [hh]
  simp (maxSteps:=2000000) (disch:=first | omega | assumption | (simp only [DS,Nat.reduceAdd, *]; done) | (simp only [DZ]; omega)) only [RUN,RU,zA2,zA1,zA0,zAA,frzL,reduceIte,Nat.reduceEqDiff,zB0]
def zFD (l : List Op) (v : Lb) : Int:=err (zAR [] l && v.may)
def lowL (l : List Op) (v : Lb) : List Op:=l.filter fun o=>o.hd.lb.leq v
theorem zKG (l : List Op) (o : Op) (v : Lb) : lowL (l ++ [o]) v = lowL l v ++ (if o.hd.lb.leq v then [o] else []):=by
 unfold lowL
 rw [List.filter_append]
 cases h : o.hd.lb.leq v <;> simp [h]
theorem zKF (l : List Op) (v : Lb) : (lowL l v).length ≤ l.length:=List.length_filter_le _ _
def zd6 (l : List Op) (v : Lb) (r : AV) : Prop:=∃ r1,r = .tup [r1,I64 (zFD l v)] ∧ Sl 17 isOp r1 (if zFD l v = 0 then lowL l v else [])
set_option maxHeartbeats 8000000 in
theorem zWY (hS : Sl 17 isOp a l) (hl : l.length ≤ 10000) (hf : l.length + 400 < fuel) (hd : ∀ o ∈ l,o.rs.length ≤ 1000000000) : ∃ r,zd6 l v r ∧ ∀ M,zAE Tryz.prog (fsT tbl) fuel (d + 15) (.fn 18) [a,lbA v] M = some (r,M):=by
 have ll:=hS.len
 have hck:=fun M=>zEF (fuel:=fuel) (d:=d) hS hl hf M
 have hlc:=fun M=>@zEU fuel (d + 13) v M
 refine zFT tf18 rfl (fun M=>by simp only [icyL,fun M=>hS.icy M 12 (by omega),zB2 (zDS v) (show 1 < 12 by omega)]) ?_
 refine zAJ tf18 rfl (by simp only [icyL,fun M=>hS.icy M 12 (by omega),zB2 (zDS v) (show 1 < 12 by omega)]) (by simp [a18]) fun b' ht hx=>?_
 have h0:=hx 0 _ rfl
 have h1:=hx 1 _ rfl
 clear hx
 simp only [a18,c18] at ht ⊢
 unfold zd6 zFD
 cases q1 : zAR [] l with
 | false =>
  rw [q1] at hck
  cases q2 : v.may <;> rw [q2] at hlc
  all_goals
   simp (maxSteps:=2000000) (disch:=first | omega | assumption | (simp only [DS,Nat.reduceAdd, *]; done) | (simp only [DZ]; omega)) only [RUN,RU,zA2,zA1,zA0,zAA,frzL,slot,reduceIte,Nat.reduceEqDiff,Nat.reduceBEq,Nat.reduceAdd,Int.reduceEq,h0,h1,hck,hlc,zB0,zBF,zCW,BMM,IMX]
   exact ⟨_,⟨NIL,rfl,.inl ⟨rfl,rfl⟩⟩,rfl⟩
 | true =>
  rw [q1] at hck
  cases q2 : v.may <;> rw [q2] at hlc
  ·simp (maxSteps:=2000000) (disch:=first | omega | assumption | (simp only [DS,Nat.reduceAdd, *]; done) | (simp only [DZ]; omega)) only [RUN,RU,zA2,zA1,zA0,zAA,frzL,slot,reduceIte,Nat.reduceEqDiff,Nat.reduceBEq,Nat.reduceAdd,Int.reduceEq,h0,h1,hck,hlc,zB0,zBF,zCW,BMM,IMX]
   exact ⟨_,⟨NIL,rfl,.inl ⟨rfl,rfl⟩⟩,rfl⟩
  ·simp (maxSteps:=2000000) (disch:=first | omega | assumption | (simp only [DS,Nat.reduceAdd, *]; done) | (simp only [DZ]; omega)) only [RUN,RU,zA2,zA1,slot,reduceIte,Nat.reduceEqDiff,Nat.reduceBEq,Nat.reduceAdd,h0,h1,hck,hlc,zB0,zCW,BMM,IMX,ll]
   refine zBG (I:=fun n t N => ∃ (i : Nat) (out : AV),n = l.length - i ∧ i ≤ l.length ∧ nth zA5 t 3 = .ptr 0 0 ∧ nth zA5 t 4 = out ∧ nth zA5 t 17 = a ∧ nth zA5 t 18 = I64 l.length ∧ nth zA5 t 19 = I64 i ∧ Wf N ∧ N.get 0 = some (.row false (lbR v)) ∧ N.wm = 0 ∧ opK.NN N 1 out (lowL (l.take i) v)) (n:=l.length) (by omega) ?_ ?_
   ·refine ⟨0,NIL,rfl,Nat.zero_le _, ?_, ?_, ?_, ?_, ?_,Wf.mem0.add _,by simp (maxSteps:=2000000) (disch:=first | omega | assumption | (simp only [DS,Nat.reduceAdd, *]; done) | (simp only [DZ]; omega)) only [RUN],rfl,NK.NN.nil _ _⟩ <;> simp (maxSteps:=2000000) (disch:=first | omega | assumption | (simp only [DS,Nat.reduceAdd, *]; done) | (simp only [DZ]; omega)) only [RUN,reduceIte,Nat.reduceEqDiff]
    all_goals first | rfl | assumption | done
   ·rintro n t N hlt ⟨i,out,rfl,hi,g3,g4,g17,g18,g19,w,g,wm,hN⟩
    simp only [ht] at hlt ⊢
    by_cases hc : i < l.length
    ·have q3 : decide ((i : Int) < l.length) = true:=decide_eq_true (by omega)
     have w1 : IntKind.i64.wrap ((i : Int) + 1) = ((i + 1 : Nat) : Int):=by rw [wrap_i64] <;> omega
     obtain ⟨r,hiad,hr,hrl⟩:=hS.iad i hc
     have hls:=zKG (l.take i) l[i] v
     rw [← take_snoc l i hc] at hls
     have hlo:=hd l[i] (List.getElem_mem hc)
     have hll:=zKF (l.take i) v
     rw [List.length_take] at hll
     generalize l[i] = e at *
     obtain ⟨ra,rfl,hra,hok⟩:=hr
     have ora:=hra.one
     have lN:=Mem.get_lt g
     have hle:=fun M=>@zGI fuel (d + 13) e.hd.lb v M
     have kX:=((Kept.refl w).add (.row false (opR ⟨0,Hd.z,0,⟨Eid.z,0⟩,Eid.z,Lb.z,[]⟩ NIL))).upd (by omega) (Nat.le_refl _) (.row false (opR e ra))
     cases q4 : e.hd.lb.leq v with
     | false =>
      rw [q4] at hle
      rw [q4,if_neg (by decide),List.append_nil] at hls
      simp (maxSteps:=2000000) (disch:=first | omega | assumption | (simp only [DS,Nat.reduceAdd, *]; done) | (simp only [DZ]; omega)) only [RUN,RU,zA2,zA1,slot,lay,reduceIte,Nat.reduceEqDiff,Nat.reduceAdd,g3,g4,g17,g18,g19,q3,hiad,w,g,hle,w1]
      exact ⟨hlt,l.length - (i + 1),by omega,i + 1,out,rfl,by omega,rfl,rfl,wm,by rw [hls]; exact hN.keep fun j a b=>kX.get j b⟩
     | true =>
      rw [q4] at hle
      rw [q4,if_pos rfl] at hls
      have oo:=hN.one
      have oc:=hN.cells
      simp (maxSteps:=2000000) (disch:=first | omega | assumption | (simp only [DS,Nat.reduceAdd, *]; done) | (simp only [DZ]; omega)) only [RUN,RU,zA2,zA1,slot,lay,reduceIte,Nat.reduceEqDiff,Nat.reduceAdd,g3,g4,g17,g18,g19,q3,hiad,g,hle]
      refine zX3 (d:=d + 12) hra hlo kX.wf (by rw [kX.wm]; omega) fun a' N2 hN2 sm2 nw2=>?_
      have k2:=kX.trans hN2
      have w2:=k2.wf
      have oa:=sm2.one
      have ca:=sm2.cells
      have rl2:=zAT sm2.rl (Nat.le_refl N2.size)
      have rr2:=hN.rows (show N.size ≤ N2.size + 1 by have:=k2.le; omega)
      simp (maxSteps:=2000000) (disch:=first | omega | assumption | (simp only [DS,Nat.reduceAdd, *]; done) | (simp only [DZ]; omega)) only [RUN,RU,zA2,zA1,lay,zAI,zAB,reduceIte,Nat.reduceEqDiff,Nat.reduceBEq,Nat.reduceAdd,rr2]
      have hsz : N.size + 1 ≤ N2.size:=hN2.le
      refine NK.NN.app (K:=opK) (B:=1) (l:=lowL (l.take i) v) (x:=e) (ra:=a') w2 (hN.keep fun j a b=>k2.get j b) ⟨rfl,oa,ca⟩ ⟨sm2,fun j hj=>by have:=nw2 j hj; simp only [zA9,zA6] at this; omega,hok⟩ (fun j hj hj2=>by have h1:=hN.lt j hj; have h2:=nw2 j hj2; simp only [zA9,zA6] at h2; omega) (by omega) (by omega) (by omega) fun o' M' hN' w' le' kp' nw' wm'=>?_
      simp (maxSteps:=2000000) (disch:=first | omega | assumption | (simp only [DS,Nat.reduceAdd, *]; done) | (simp only [DZ]; omega)) only [RUN,RU,zA2,zA1,reduceIte,Nat.reduceEqDiff,g3,g4,g17,g18,g19,w1]
      refine ⟨hlt,l.length - (i + 1),by omega,i + 1,o',rfl,by omega,rfl,rfl,w', ?_, ?_,by rw [hls]; exact hN'⟩
      ·rw [kp' 0 (by omega) (fun h=>by have:=hN.lt 0 h; omega),k2.get 0 lN]; exact g
      ·rw [wm',k2.wm]; exact wm
    ·obtain rfl : i = l.length:=by omega
     have q3 : decide ((l.length : Int) < l.length) = false:=decide_eq_false (by omega)
     rw [List.take_length] at hN
     obtain ⟨o',hz,hs⟩:=hN.frz (k:=11) (by omega)
     have hz:=hz N (fun _ _=>rfl)
     simp (maxSteps:=2000000) (disch:=first | omega | assumption | (simp only [DS,Nat.reduceAdd, *]; done) | (simp only [DZ]; omega)) only [RUN,RU,zA2,zA1,zA0,zAA,frzL,reduceIte,Nat.reduceEqDiff,g4,g18,g19,hz]
     exact ⟨_,⟨o',rfl,zd7 hs⟩,rfl⟩
end Go.Proofs.YtakefgebklfhpaaGreat
namespace Go.Proofs.YtakefgebklfhpaaGreat
open Go Go.Ax
variable {fuel : Nat} {M : Mem} {Q : AV → Mem → Prop} {d : Nat} {l : List Op} {a : AV} {x : Eid}
def zCK (l : List Op) (x : Eid) : Bool:=l.any fun o=>decide (o.kd = 2) && (o.sp.has x).isSome
theorem zW1 (l m : List Op) (x : Eid) : zCK (l ++ m) x = (zCK l x || zCK m x):=List.any_append
theorem za1 {o : Op} {ra : AV} {y : Nat} (hR : Sl 1 zB4 ra o.rs) (wf : Wf M) (hy : M.get y = some (.row false (idR x))) (k : ∀ N,Kept M N → Q (BL (decide (o.kd = 2) && (o.sp.has x).isSome)) N) : W3 (zAE Tryz.prog (fsT tbl) fuel (d + 6) (.fn 38) [.agg (opR o ra),.ptr y 0] M) Q:=by
 have ly:=Mem.get_lt hy
 have ora:=hR.one
 have hh:=fun M=>@zNC fuel d o.sp x M
 refine zB6 tf38 rfl (by simp [a38]) fun b' ht hx=>?_
 have h0:=hx 0 _ rfl
 have h1:=hx 1 _ rfl
 clear hx
 simp only [a38,c38] at ht ⊢
 cases q1 : decide (o.kd = 2) with
 | false =>
  simp (maxSteps:=2000000) (disch:=first | omega | assumption | (simp only [DS,Nat.reduceAdd, *]; done) | (simp only [DZ]; omega)) only [RUN,RU,zA2,zA1,zA0,zAA,slot,reduceIte,Nat.reduceEqDiff,h0,h1,hy,hh,q1]
  rw [q1,Bool.false_and] at k
  exact k _ ((Kept.refl wf).add _)
 | true =>
  simp (maxSteps:=2000000) (disch:=first | omega | assumption | (simp only [DS,Nat.reduceAdd, *]; done) | (simp only [DZ]; omega)) only [RUN,RU,zA2,zA1,zA0,zAA,slot,reduceIte,Nat.reduceEqDiff,h0,h1,hy,hh,q1]
  rw [q1,Bool.true_and] at k
  exact k _ ((Kept.refl wf).add _)
set_option maxHeartbeats 4000000 in
theorem zW3 (hS : Sl 17 isOp a l) (hl : l.length ≤ 10000) (hf : l.length + 400 < fuel) (M : Mem) : zAE Tryz.prog (fsT tbl) fuel (d + 15) (.fn 23) [a,idA x] M = some (.tup [BL (zAR [] l && zCK l x),I64 (err (zAR [] l))],M):=by
 have hck:=fun M=>zEF (fuel:=fuel) (d:=d) hS hl hf M
 apply zBI
 refine zAJ tf23 rfl (by simp only [icyL,fun M=>hS.icy M 12 (by omega),zB2 (zEA x) (show 1 < 12 by omega)]) (by simp [a23]) fun b' ht hx=>?_
 have h0:=hx 0 _ rfl
 have h1:=hx 1 _ rfl
 clear hx
 simp only [a23,c23] at ht ⊢
 cases q1 : zAR [] l with
 | false =>
  rw [q1] at hck
  simp (maxSteps:=2000000) (disch:=first | omega | assumption | (simp only [DS,Nat.reduceAdd, *]; done) | (simp only [DZ]; omega)) only [RUN,RU,zA2,zA1,zA0,zAA,frzL,reduceIte,Nat.reduceEqDiff,Int.reduceEq,h0,h1,hck,zBF,Bool.false_and]
 | true =>
  rw [q1] at hck
  unfold zCK
  simp (maxSteps:=2000000) (disch:=first | omega | assumption | (simp only [DS,Nat.reduceAdd, *]; done) | (simp only [DZ]; omega)) only [RUN,RU,zA2,zA1,reduceIte,Nat.reduceEqDiff,h0,h1,hck,zB0]
  refine zSL (st:=17) (ag:=true) (n:=d + 12) (first:=[]) (cap:=[.ptr 0 0]) tf37 tf62 (by simp) zN7 hS (by omega) (by omega) (p:=fun o=>decide (o.kd = 2) && (o.sp.has x).isSome) (by simp (maxSteps:=2000000) (disch:=first | omega | assumption | (simp only [DS,Nat.reduceAdd, *]; done) | (simp only [DZ]; omega)) only [RUN]) (fun n hn=>by simp only [zA6,zB1] at hn; simp (maxSteps:=2000000) (disch:=first | omega | assumption | (simp only [DS,Nat.reduceAdd, *]; done) | (simp only [DZ]; omega)) only [RUN,RU]) (fun r o hr _ N Q' hk hQ=>?_) fun N hk=>?_
  ·obtain ⟨ra,rfl,hra,_⟩:=hr
   refine za1 (d:=d + 6) hra hk.wf ?_ (fun N' hk'=>hQ N' (hk.trans hk'))
   rw [hk.get 0 (by simp (maxSteps:=2000000) (disch:=first | omega | assumption | (simp only [DS,Nat.reduceAdd, *]; done) | (simp only [DZ]; omega)) only [RUN,RU,Nat.reduceLT])]
   simp (maxSteps:=2000000) (disch:=first | omega | assumption | (simp only [DS,Nat.reduceAdd, *]; done) | (simp only [DZ]; omega)) only [RUN]
  ·simp (maxSteps:=2000000) (disch:=first | omega | assumption | (simp only [DS,Nat.reduceAdd, *]; done) | (simp only [DZ]; omega)) only [RUN,RU,zA2,zA1,zA0,zAA,frzL,reduceIte,Nat.reduceEqDiff]
end Go.Proofs.YtakefgebklfhpaaGreat
namespace Go.Proofs.YtakefgebklfhpaaGreat
open Go Go.Ax
variable {fuel : Nat} {M : Mem} {Q : AV → Mem → Prop} {d : Nat} {a : AV} {x : Eid} {v : Lb} {l : List Op}
def askE (l : List Op) (x : Eid) (v : Lb) : Int:=if zCH l = 0 then err (x.may && v.may) else zCH l
theorem zRH (hS : Sl 17 isOp a l) (hl : l.length ≤ 40000) (hf : l.length + 200 < fuel) (M : Mem) : zAE Tryz.prog (fsT tbl) fuel (d + 10) (.fn 40) [a,idA x,lbA v] M = some (I64 (askE l x v),M):=by
 have hch:=fun M=>zHP (fuel:=fuel) (d:=d) hS hl hf M
 have hc:=fun M=>@zJR fuel (d + 6) x M
 have hv:=fun M=>@zEU fuel (d + 8) v M
 apply zBI
 refine zAJ tf40 rfl (by simp only [icyL,fun M=>hS.icy M 12 (by omega),zB2 (zEA x) (show 1 < 12 by omega),zB2 (zDS v) (show 1 < 12 by omega)]) (by simp [a40]) fun b' ht hx=>?_
 have h0:=hx 0 _ rfl
 have h1:=hx 1 _ rfl
 have h2:=hx 2 _ rfl
 clear hx
 simp only [a40,c40] at ht ⊢
 unfold askE
 by_cases q0 : zCH l = 0
 ·rw [q0] at hch
  rw [if_pos q0]
  cases h5 : x.may <;> cases h6 : v.may <;> rw [h5] at hc <;> rw [h6] at hv
  all_goals simp (maxSteps:=2000000) (disch:=first | omega | assumption | (simp only [DS,Nat.reduceAdd, *]; done) | (simp only [DZ]; omega)) only [RUN,RU,zA2,zA1,zA0,zAA,frzL,slot,reduceIte,Nat.reduceEqDiff,Nat.reduceBEq,Nat.reduceAdd,h0,h1,h2,hch,hc,hv,zB0,zBF,zCW,BMM]
  all_goals rfl
 ·have q1 : decide (zCH l = 0) = false:=decide_eq_false q0
  rw [if_neg q0]
  simp (maxSteps:=2000000) (disch:=first | omega | assumption | (simp only [DS,Nat.reduceAdd, *]; done) | (simp only [DZ]; omega)) only [RUN,RU,zA2,zA1,zA0,zAA,frzL,reduceIte,Nat.reduceEqDiff,Nat.reduceAdd,h0,h1,h2,hch,q1]
def zEN (l : List Op) (x : Eid) (v : Lb) : Bool:=decide (askE l x v = 0) && !((made l x v).any fun to => !to.leq v)
theorem zXN {to : Lb} {y : Nat} (wf : Wf M) (hy : M.get y = some (.row false (lbR v))) (k : ∀ N,Kept M N → Q (BL (!to.leq v)) N) : W3 (zAE Tryz.prog (fsT tbl) fuel (d + 2) (.fn 41) [lbA to,.ptr y 0] M) Q:=by
 have ly:=Mem.get_lt hy
 have hl:=fun M=>@zGI fuel d to v M
 refine zB6 tf41 rfl (by simp [a41]) fun b' ht hx=>?_
 have h0:=hx 0 _ rfl
 have h1:=hx 1 _ rfl
 clear hx
 simp only [a41,c41] at ht ⊢
 simp (maxSteps:=2000000) (disch:=first | omega | assumption | (simp only [DS,Nat.reduceAdd, *]; done) | (simp only [DZ]; omega)) only [RUN,RU,zA2,zA1,zA0,zAA,slot,reduceIte,Nat.reduceEqDiff,h0,h1,hy,hl]
 exact k _ ((Kept.refl wf).add _)
set_option maxHeartbeats 4000000 in
theorem zU2 (hS : Sl 17 isOp a l) (hl : l.length ≤ 40000) (hf : l.length + 200 < fuel) (hx : x.ok) (M : Mem) : zAE Tryz.prog (fsT tbl) fuel (d + 11) (.fn 24) [a,idA x,lbA v] M = some (.tup [BL (zEN l x v),I64 (askE l x v)],M):=by
 have has:=fun M=>zRH (fuel:=fuel) (d:=d) (x:=x) (v:=v) hS hl hf M
 apply zBI
 refine zAJ tf24 rfl (by simp only [icyL,fun M=>hS.icy M 12 (by omega),zB2 (zEA x) (show 1 < 12 by omega),zB2 (zDS v) (show 1 < 12 by omega)]) (by simp [a24]) fun b' ht hx=>?_
 have h0:=hx 0 _ rfl
 have h1:=hx 1 _ rfl
 have h2:=hx 2 _ rfl
 clear hx
 simp only [a24,c24] at ht ⊢
 unfold zEN
 by_cases q0 : askE l x v = 0
 ·rw [q0] at has
  obtain ⟨r,hr,hm⟩:=zOZ (fuel:=fuel) (d:=d + 3) (x:=x) (v:=v) hS hl (by omega) hx
  rw [q0]
  simp (maxSteps:=2000000) (disch:=first | omega | assumption | (simp only [DS,Nat.reduceAdd, *]; done) | (simp only [DZ]; omega)) only [RUN,RU,zA2,zA1,slot,reduceIte,Nat.reduceEqDiff,Nat.reduceAdd,h0,h1,h2,has,hm]
  have hml:=zOY l x v
  refine zSL (st:=2) (ag:=true) (n:=d + 8) (first:=[]) (cap:=[.ptr 1 0]) tf42 tf66 (by simp) zSE hr (by omega) (by omega) (p:=fun to => !to.leq v) (by simp (maxSteps:=2000000) (disch:=first | omega | assumption | (simp only [DS,Nat.reduceAdd, *]; done) | (simp only [DZ]; omega)) only [RUN]) (fun n hn=>by simp only [zA6,zB1] at hn; simp (maxSteps:=2000000) (disch:=first | omega | assumption | (simp only [DS,Nat.reduceAdd, *]; done) | (simp only [DZ]; omega)) only [RUN,RU]) (fun r to hr _ N Q' hk hQ=>?_) fun N hk=>?_
  ·obtain ⟨rfl,_⟩:=hr
   refine zXN (d:=d + 6) hk.wf ?_ (fun N' hk'=>hQ N' (hk.trans hk'))
   rw [hk.get 1 (by simp (maxSteps:=2000000) (disch:=first | omega | assumption | (simp only [DS,Nat.reduceAdd, *]; done) | (simp only [DZ]; omega)) only [RUN,RU,Nat.reduceLT,Nat.reduceAdd])]
   simp (maxSteps:=2000000) (disch:=first | omega | assumption | (simp only [DS,Nat.reduceAdd, *]; done) | (simp only [DZ]; omega)) only [RUN]
  ·simp (maxSteps:=2000000) (disch:=first | omega | assumption | (simp only [DS,Nat.reduceAdd, *]; done) | (simp only [DZ]; omega)) only [RUN,RU,zA2,zA1,zA0,zAA,frzL,reduceIte,Nat.reduceEqDiff]
 ·have q1 : decide (askE l x v = 0) = false:=decide_eq_false q0
  simp (maxSteps:=2000000) (disch:=first | omega | assumption | (simp only [DS,Nat.reduceAdd, *]; done) | (simp only [DZ]; omega)) only [RUN,RU,zA2,zA1,zA0,zAA,frzL,slot,reduceIte,Nat.reduceEqDiff,Nat.reduceAdd,h0,h1,h2,has,q1,Bool.false_and]
end Go.Proofs.YtakefgebklfhpaaGreat
namespace Go.Proofs.YtakefgebklfhpaaGreat
open Go Go.Ax
variable {fuel : Nat} {M : Mem} {Q : AV → Mem → Prop} {d : Nat} {low : List Op} {al : AV} {v : Lb}
def zHJ (l : List Op) (v : Lb) (c : CellV) : CellV:=⟨c.id,if zEN l c.id v = true then c.ch else -1⟩
def zHZ (l : List Op) (v : Lb) (c : List CellV) : List CellV:=(c.filter fun x => !zCK l x.id).map (zHJ l v)
theorem zQJ (l : List Op) (v : Lb) (c : List CellV) (x : CellV) : zHZ l v (c ++ [x]) = zHZ l v c ++ (if zCK l x.id = true then [] else [zHJ l v x]):=by
 unfold zHZ
 rw [List.filter_append,List.map_append]
 cases h : zCK l x.id <;> simp [h]
theorem zSU (l : List Op) (v : Lb) (c : List CellV) : (zHZ l v c).length ≤ c.length:=by
 unfold zHZ
 rw [List.length_map]
 exact List.length_filter_le _ _
set_option maxHeartbeats 4000000 in
theorem zVA {bl bv : Nat} {c : CellV} (hS : Sl 17 isOp al low) (hh : zAR [] low = true) (hl : low.length ≤ 10000) (hf : low.length + 400 < fuel) (hc : c.id.ok) (wf : Wf M) (hw : M.wm ≤ M.size) (g1 : M.get bl = some (.row false [al])) (g2 : M.get bv = some (.row false (lbR v))) (k : ∀ N,Kept M N → Q (.tup [zc5 (zHJ low v c),BL (!zCK low c.id)]) N) : W3 (zAE Tryz.prog (fsT tbl) fuel (d + 16) (.fn 22) [zc5 c,.ptr bl 0,.ptr bv 0] M) Q:=by
 have l1:=Mem.get_lt g1
 have l2:=Mem.get_lt g2
 have oa:=hS.one
 have hgo:=fun M=>zW3 (fuel:=fuel) (d:=d) (x:=c.id) hS hl hf M
 have hsh:=fun M=>zU2 (fuel:=fuel) (d:=d + 4) (v:=v) hS (by omega) (by omega) hc M
 simp only [hh,Bool.true_and] at hgo
 have kk:=fun q r=>(((((Kept.refl wf).add (.row false (zFN c))).add (.row false (zFN ⟨Eid.z,0⟩))).upd hw (Nat.le_refl _) q).upd hw (Nat.le_succ M.size) r)
 have kk1:=fun r=>((((Kept.refl wf).add (.row false (zFN c))).add (.row false (zFN ⟨Eid.z,0⟩))).upd hw (Nat.le_succ M.size) r)
 unfold zHJ at k
 refine zB6 tf22 rfl (by simp [a22]) fun b' ht hx=>?_
 have h0:=hx 0 _ rfl
 have h1:=hx 1 _ rfl
 have h2:=hx 2 _ rfl
 clear hx
 simp only [a22,c22] at ht ⊢
 cases q : zEN low c.id v with
 | true =>
  rw [q] at k
  simp only [q] at hsh
  rw [if_pos rfl] at k
  simp (maxSteps:=2000000) (disch:=first | omega | assumption | (simp only [DS,Nat.reduceAdd, *]; done) | (simp only [DZ]; omega)) only [RUN,RU,zA2,zA1,zA0,zAA,slot,lay,reduceIte,Nat.reduceEqDiff,Nat.reduceAdd,h0,h1,h2,g1,g2,hgo,hsh]
  exact k _ (kk1 _)
 | false =>
  rw [q] at k
  simp only [q] at hsh
  rw [if_neg (by decide)] at k
  simp (maxSteps:=2000000) (disch:=first | omega | assumption | (simp only [DS,Nat.reduceAdd, *]; done) | (simp only [DZ]; omega)) only [RUN,RU,zA2,zA1,zA0,zAA,slot,lay,reduceIte,Nat.reduceEqDiff,Nat.reduceAdd,h0,h1,h2,g1,g2,hgo,hsh]
  exact k _ (kk _ _)
set_option maxHeartbeats 8000000 in
theorem zbB {a : AV} {cs : List CellV} {bl bv : Nat} (hA : Sl 5 zD6 a cs) (hcl : cs.length ≤ 1000000) (hS : Sl 17 isOp al low) (hh : zAR [] low = true) (hl : low.length ≤ 10000) (hf : low.length + cs.length + 400 < fuel) (wf : Wf M) (hw : M.wm ≤ M.size) (m1 : M.get bl = some (.row false [al])) (m2 : M.get bv = some (.row false (lbR v)))
  (k : ∀ o N,Wf N → M.size ≤ N.size → (∀ j,j < M.size → N.get j = M.get j) → SlM N 5 zD6 o (zHZ low v cs) → (∀ j,rowOf o = some j → M.size ≤ j) → N.wm = M.wm → Q o N) :
  W3 (zAE Tryz.prog (fsT tbl) fuel (d + 17) (.fn 20) [a,.fn 22 [] [.ptr bl 0,.ptr bv 0]] M) Q:=by
 have la:=hA.len
 have l1:=Mem.get_lt m1
 have l2:=Mem.get_lt m2
 refine zB6 tf20 rfl (by simp [a20]) fun b' ht hx=>?_
 have h0:=hx 0 _ rfl
 have h1:=hx 1 _ rfl
 clear hx
 simp only [a20,c20] at ht ⊢
 simp (maxSteps:=2000000) (disch:=first | omega | assumption | (simp only [DS,Nat.reduceAdd, *]; done) | (simp only [DZ]; omega)) only [RUN,RU,zA2,zA1,reduceIte,Nat.reduceEqDiff,h0,la]
 refine zBG (I:=fun n t N => ∃ (i : Nat) (o : AV),n = cs.length - i ∧ i ≤ cs.length ∧ nth zA5 t 1 = .fn 22 [] [.ptr bl 0,.ptr bv 0] ∧ nth zA5 t 4 = o ∧ nth zA5 t 9 = a ∧ nth zA5 t 10 = I64 cs.length ∧ nth zA5 t 11 = I64 i ∧ Wf N ∧ M.size ≤ N.size ∧ (∀ j,j < M.size → N.get j = M.get j) ∧ N.wm = M.wm ∧ SlM N 5 zD6 o (zHZ low v (cs.take i)) ∧ (∀ j,rowOf o = some j → M.size ≤ j)) (n:=cs.length) (by omega) ?_ ?_
 ·refine ⟨0,NIL,rfl,Nat.zero_le _, ?_, ?_, ?_, ?_, ?_,wf,Nat.le_refl _,(fun _ _=>rfl),rfl,SlM.nil,(fun _ h=>by cases h)⟩ <;> simp (maxSteps:=2000000) (disch:=first | omega | assumption | (simp only [DS,Nat.reduceAdd, *]; done) | (simp only [DZ]; omega)) only [RUN,reduceIte,Nat.reduceEqDiff,h1]
  all_goals first | rfl | assumption | done
 ·rintro n t N hlt ⟨i,o,rfl,hi,g1,g4,g9,g10,g11,w,le,kp,wm,sm,nr⟩
  simp only [ht] at hlt ⊢
  have oo:=sm.one
  have oc:=sm.cells
  by_cases hc : i < cs.length
  ·have q1 : decide ((i : Int) < cs.length) = true:=decide_eq_true (by omega)
   have w1 : IntKind.i64.wrap ((i : Int) + 1) = ((i + 1 : Nat) : Int):=by rw [wrap_i64] <;> omega
   obtain ⟨r,hiad,hr,hrl⟩:=hA.iad i hc
   have hts:=zQJ low v (cs.take i) cs[i]
   rw [← take_snoc cs i hc] at hts
   have hkl:=zSU low v (cs.take i)
   rw [List.length_take] at hkl
   generalize cs[i] = c at *
   obtain ⟨rfl,hok⟩:=hr
   have hwN : N.wm ≤ N.size:=by rw [wm]; exact Nat.le_trans hw le
   have kX:=((Kept.refl w).add (.row false (zFN ⟨Eid.z,0⟩))).upd hwN (Nat.le_refl _) (.row false (zFN c))
   simp (maxSteps:=2000000) (disch:=first | omega | assumption | (simp only [DS,Nat.reduceAdd, *]; done) | (simp only [DZ]; omega)) only [RUN,RU,zA2,zA1,slot,lay,reduceIte,Nat.reduceEqDiff,Nat.reduceAdd,g1,g9,g10,g11,q1,hiad]
   refine zVA (d:=d) (c:=c) hS hh hl (by omega) hok kX.wf (by rw [kX.wm]; exact Nat.le_trans hwN kX.le) ((kX.get bl (by omega)).trans ((kp bl l1).trans m1)) ((kX.get bv (by omega)).trans ((kp bv l2).trans m2)) fun N2 k2=>?_
   have w2:=k2.wf
   have k3:=kX.trans k2
   have le2:=k2.le
   simp only [zA9,zA6] at le2
   have smX : SlM N2 5 zD6 o (zHZ low v (cs.take i)):=sm.keep fun j hj=>by
    have:=sm.lt j hj
    rw [k2.get j (by simp only [zA9,zA6]; omega),zA4 (w.add _) _ _ _ (by omega),zAF w _ _ this]
   have smY : ∀ y z,SlM ((N2.add y).upd N2.size z) 5 zD6 o (zHZ low v (cs.take i)):=fun y z=>smX.keep fun j hj=>by
    have:=smX.lt j hj
    rw [zA4 (w2.add _) _ _ _ (by omega),zAF w2 _ _ this]
   cases q2 : zCK low c.id with
   | true =>
    rw [q2,if_pos rfl,List.append_nil] at hts
    have k4:=(k3.add (.row false (zFN ⟨Eid.z,0⟩))).upd hwN k3.le (.row false (zFN (zHJ low v c)))
    simp (maxSteps:=2000000) (disch:=first | omega | assumption | (simp only [DS,Nat.reduceAdd, *]; done) | (simp only [DZ]; omega)) only [RUN,RU,zA2,zA1,lay,reduceIte,Nat.reduceEqDiff,Nat.reduceAdd,g1,g4,g9,g10,g11,w2,w1]
    exact ⟨hlt,cs.length - (i + 1),by omega,i + 1,o,rfl,by omega,rfl,rfl,by have:=k3.le; omega,fun j hj=>(k4.get j (by omega)).trans (kp j hj),k4.wm.trans wm,by rw [hts]; exact smY _ _,nr⟩
   | false =>
    rw [q2,if_neg (by decide)] at hts
    simp (maxSteps:=2000000) (disch:=first | omega | assumption | (simp only [DS,Nat.reduceAdd, *]; done) | (simp only [DZ]; omega)) only [RUN,RU,zA2,zA1,slot,lay,zAI,zAB,reduceIte,Nat.reduceEqDiff,Nat.reduceBEq,Nat.reduceAdd,g4]
    refine ⟨zAT smX.rl (by omega), ?_⟩
    refine app1 (bytes:=32) (x:=zHJ low v c) ((w2.add _).upd _ _) (smY _ _) zEG ⟨rfl,hok⟩ rfl (by omega) (by omega) (by omega) fun p2 M2 m2' wf2 le3 kp2 nw2 wm2 rl2 on2 oc2=>?_
    simp only [zA9,zA6] at le3
    have k5:=(k3.add (.row false (zFN ⟨Eid.z,0⟩))).upd hwN k3.le (.row false (zFN (zHJ low v c)))
    simp (maxSteps:=2000000) (disch:=first | omega | assumption | (simp only [DS,Nat.reduceAdd, *]; done) | (simp only [DZ]; omega)) only [RUN,RU,zA2,zA1,reduceIte,Nat.reduceEqDiff,g1,g4,g9,g10,g11,wf2,w1]
    refine ⟨hlt,cs.length - (i + 1),by omega,i + 1,p2,rfl,by omega,rfl,rfl, ?_,fun j hj=>?_,(wm2.trans k5.wm).trans wm,by rw [hts]; exact m2',fun j hj=>?_⟩
    ·have:=k3.le; omega
    ·rw [kp2 j (by have:=k3.le; simp only [zA9,zA6]; omega) (fun h=>by have:=nr _ h; omega)]; exact (k5.get j (by omega)).trans (kp j hj)
    ·rcases nw2 j hj with h | h
     ·exact nr j h
     ·simp only [zA9,zA6] at h; have:=k3.le; omega
  ·obtain rfl : i = cs.length:=by omega
   have q1 : decide ((cs.length : Int) < cs.length) = false:=decide_eq_false (by omega)
   rw [List.take_length] at sm
   simp (maxSteps:=2000000) (disch:=first | omega | assumption | (simp only [DS,Nat.reduceAdd, *]; done) | (simp only [DZ]; omega)) only [RUN,RU,zA2,zA1,zA0,zAA,reduceIte,Nat.reduceEqDiff,g4,g10,g11]
   exact k _ _ w le kp sm nr wm
end Go.Proofs.YtakefgebklfhpaaGreat
namespace Go.Proofs.YtakefgebklfhpaaGreat
open Go Go.Ax
theorem zK3 {s : Spn} {x : Eid} {k : Int} : s.has x = some k ↔ s.may = true ∧ 0 ≤ k ∧ k < s.n ∧ s.at k = x:=by
 obtain ⟨hd,c⟩:=x
 unfold Spn.has Spn.at
 simp only
 constructor
 ·intro h
  split at h
  ·rename_i g
   injection h with h
   refine ⟨g.1,by omega,by omega, ?_⟩
   rw [g.2.1]; congr 1; omega
  ·cases h
 ·rintro ⟨h1,h2,h3,h4⟩
  injection h4 with h4 h5
  rw [if_pos ⟨h1,h4.symm,by omega,by omega⟩]
  congr 1; omega
theorem za3 {r : Rn} (hr : r.may = true) (x : Eid) : r.sp.has x = none ↔ ∀ e ∈ r.elR,e.id ≠ x:=by
 have br:=Spn.may_le (Rn.may_sp hr)
 constructor
 ·intro h e he k
  obtain ⟨i,hi,rfl⟩:=List.getElem_of_mem he
  rw [zB8] at hi
  rw [zBQ] at k
  have:=(zK3 (k:=(i : Int))).2 ⟨Rn.may_sp hr,by omega,by omega,k⟩
  rw [h] at this
  cases this
 ·intro h
  cases hh : r.sp.has x with
  | none=>rfl
  | some k =>
   obtain ⟨h1,h2,h3,h4⟩:=zK3.1 hh
   have hl : k.toNat < r.elR.length:=by rw [zB8]; omega
   refine absurd ?_ (h _ (List.getElem_mem hl))
   rw [zBQ]
   have : ((k.toNat : Nat) : Int) = k:=by omega
   rw [this]; exact h4
theorem zML {l : List Rn} (h : ∀ r ∈ l,r.may = true) (x : Eid) : zBB l x = none ↔ ∀ e ∈ elsR l,e.id ≠ x:=by
 induction l with
 | nil=>exact ⟨fun _ e he=>absurd he (by simp [elsR]),fun _=>rfl⟩
 | cons r l ih =>
  have hr:=h r List.mem_cons_self
  have ih:=ih fun y hy=>h y (List.mem_cons_of_mem _ hy)
  have he : elsR (r :: l) = r.elR ++ elsR l:=by simp [elsR]
  rw [he]
  unfold zBB
  have hh:=za3 hr x
  cases hc : r.sp.has x with
  | none =>
   rw [hc] at hh
   have hh:=hh.1 rfl
   simp only [Option.map_eq_none_iff]
   rw [ih]
   constructor
   ·intro h1 e he
    rcases List.mem_append.1 he with he | he
    ·exact hh e he
    ·exact h1 e he
   ·exact fun h1 e he=>h1 e (List.mem_append_right _ he)
  | some k =>
   rw [hc] at hh
   simp only [reduceCtorEq,false_iff] at hh ⊢
   exact fun h1=>hh fun e he=>h1 e (List.mem_append_left _ he)
theorem zGQ : ∀ {l : List Rn} {x : Eid} {n : Nat} {k : Int},zBB l x = some (n,k) → ∃ L1 q L2,l = L1 ++ q :: L2 ∧ L1.length = n ∧ q.sp.may = true ∧ 0 ≤ k ∧ k < q.sp.n ∧ q.sp.at k = x
 | [],_,_,_,h=>by cases h
 | r :: l,x,n,k,h=>by
  unfold zBB at h
  cases hc : r.sp.has x with
  | none =>
   rw [hc] at h
   simp only at h
   cases hw : zBB l x with
   | none=>rw [hw] at h; cases h
   | some p =>
    rw [hw] at h
    obtain ⟨n',k'⟩:=p
    simp only [Option.map_some,Option.some.injEq,Prod.mk.injEq] at h
    obtain ⟨rfl,rfl⟩:=h
    obtain ⟨L1,q,L2,rfl,rfl,hh⟩:=zGQ hw
    exact ⟨r :: L1,q,L2,rfl,rfl,hh⟩
  | some k' =>
   rw [hc] at h
   simp only [Option.some.injEq,Prod.mk.injEq] at h
   obtain ⟨rfl,rfl⟩:=h
   obtain ⟨h1,h2,h3,h4⟩:=zK3.1 hc
   exact ⟨[],r,l,rfl,rfl,h1,h2,h3,h4⟩
def zB5 (l : List Rn) (x : Eid) : List Rn × Nat :=
 if x = Eid.z then (l,0) else
 match zBB l x with
 | none=>(l,0)
 | some (n,k)=>if (l.getD n Rn.z).cutE (k + 1) = 0 then (l.take n ++ [(l.getD n Rn.z).fst (k + 1),(l.getD n Rn.z).snd (k + 1)] ++ l.drop (n + 1),n + 1) else (l,n + 1)
def zEY (l : List Rn) (x : Eid) (n : Nat) : Nat:=n + ((l.drop n).takeWhile fun r=>x.less r.sp.f).length
def insL (l : List Rn) (r : Rn) : List Rn:=zBO ((zB5 l r.af).1.take (zEY (zB5 l r.af).1 r.sp.f (zB5 l r.af).2) ++ [r] ++ (zB5 l r.af).1.drop (zEY (zB5 l r.af).1 r.sp.f (zB5 l r.af).2))
open Classical in
noncomputable def putE (l : List Rn) (r : Rn) : Int :=
  if zDE l ∧ r.may = true then
    (if r.af ≠ Eid.z ∧ zBB l r.af = none then 6
     else if ∃ i : Nat,(i : Int) < r.sp.n ∧ zBB l (r.sp.at i) ≠ none then 2
     else if 8192 < zB3 l + r.sp.n then 4 else 0)
  else 8
theorem zNK {l : List Rn} {x : Eid} (h : ∀ r ∈ l,r.may = true) (hx : x = Eid.z ∨ zBB l x ≠ none) : (zB5 l x).2 ≤ (zB5 l x).1.length ∧ (∀ r ∈ (zB5 l x).1,r.may = true) ∧ elsR (zB5 l x).1 = elsR l ∧ ((x = Eid.z ∧ (zB5 l x).2 = 0) ∨ ∃ A w,elsR ((zB5 l x).1.take (zB5 l x).2) = A ++ [w] ∧ w.id = x):=by
 unfold zB5
 by_cases hz : x = Eid.z
 ·rw [if_pos hz]
  exact ⟨Nat.zero_le _,h,rfl,.inl ⟨hz,rfl⟩⟩
 ·rw [if_neg hz]
  rcases hx with hx | hx
  ·exact absurd hx hz
  ·cases hw : zBB l x with
   | none=>exact absurd hw hx
   | some p =>
    obtain ⟨n,k⟩:=p
    obtain ⟨L1,q,L2,rfl,rfl,h1,h2,h3,h4⟩:=zGQ hw
    have hq:=h q (by simp)
    have hg : (L1 ++ q :: L2).getD L1.length Rn.z = q:=by
     rw [List.getD_eq_getElem?_getD,List.getElem?_append_right (Nat.le_refl _)]; simp
    simp only [hg]
    obtain ⟨m,rfl⟩ : ∃ m : Nat,k = m:=⟨k.toNat,by omega⟩
    have hm1 : ((m : Int) + 1) = ((m + 1 : Nat) : Int):=by omega
    have hlast : q.elR.take (m + 1) = q.elR.take m ++ [⟨x,q.afAt m,q.rs.getD m 0⟩]:=by
     have hl : m < q.elR.length:=by rw [zB8]; omega
     rw [zBL _ _ hl,zBQ,h4]
    by_cases hc : q.cutE ((m : Int) + 1) = 0
    ·rw [if_pos hc]
     rw [Rn.cutE_iff] at hc
     have hd : (L1 ++ q :: L2).drop (L1.length + 1) = L2:=by simp
     have ht : (L1 ++ q :: L2).take L1.length = L1:=by simp
     simp only [hd,ht,hm1]
     refine ⟨by simp,fun r hr=>?_, ?_,.inr ⟨elsR L1 ++ q.elR.take m,⟨x,q.afAt m,q.rs.getD m 0⟩, ?_,rfl⟩⟩
     ·rcases List.mem_append.1 hr with hr | hr
      ·rcases List.mem_append.1 hr with hr | hr
       ·exact h r (by simp [hr])
       ·rcases List.mem_cons.1 hr with rfl | hr
        ·exact zOL hq (by omega) (by omega)
        ·rw [List.mem_singleton] at hr; subst hr
         exact zPL hq (by omega) (by omega)
      ·exact h r (by simp [hr])
     ·have e1 : elsR (L1 ++ q :: L2) = elsR L1 ++ q.elR ++ elsR L2:=by simp [elsR]
      have e2 : elsR [q.fst ((m + 1 : Nat) : Int),q.snd ((m + 1 : Nat) : Int)] = q.elR:=by
       have : elsR [q.fst ((m + 1 : Nat) : Int),q.snd ((m + 1 : Nat) : Int)] = (q.fst ((m + 1 : Nat) : Int)).elR ++ (q.snd ((m + 1 : Nat) : Int)).elR:=by simp [elsR]
       rw [this,zSD (by omega),zU8 (by omega),List.take_append_drop]
      rw [zEP,zEP,e1,e2]
     ·have e1 : (L1 ++ [q.fst ((m + 1 : Nat) : Int),q.snd ((m + 1 : Nat) : Int)] ++ L2).take (L1.length + 1) = L1 ++ [q.fst ((m + 1 : Nat) : Int)]:=by
       rw [List.append_assoc,List.take_length_add_append]; rfl
      rw [e1,zCS,zSD (by omega),hlast,List.append_assoc]
    ·rw [if_neg hc]
     rw [Rn.cutE_iff] at hc
     have hmn : (m : Int) + 1 = q.sp.n:=Classical.byContradiction fun k=>hc ⟨hq,by omega,by omega⟩
     refine ⟨by simp,h,rfl,.inr ⟨elsR L1 ++ q.elR.take m,⟨x,q.afAt m,q.rs.getD m 0⟩, ?_,rfl⟩⟩
     have e1 : (L1 ++ q :: L2).take (L1.length + 1) = L1 ++ [q]:=by
      rw [List.take_length_add_append]; rfl
     rw [e1,zCS,List.append_assoc,← hlast,List.take_of_length_le (by rw [zB8]; omega)]
theorem zc6 {r : Rn} (hr : r.may = true) {x : Eid} (h : x.less r.sp.f = true) : ∀ e ∈ r.elR,x.less e.id = true:=by
 intro e he
 obtain ⟨i,hi,rfl⟩:=List.getElem_of_mem he
 rw [zBQ]
 cases i with
 | zero=>simpa [Spn.at] using h
 | succ i =>
  refine zJ8 h (zLK ?_)
  simp only [Spn.at]; omega
structure Put (l : List Rn) (r : Rn) (A0 A1 B : List El) : Prop where
 e : elsR l = A0 ++ A1 ++ B
 a : (r.af = Eid.z ∧ A0 = []) ∨ ∃ A w,A0 = A ++ [w] ∧ w.id = r.af
 g : ∀ x ∈ A1,r.sp.f.less x.id = true
 t : TxtM (A0 ++ A1 ++ r.elR ++ B)
 i : insL l r = zCY (A0 ++ A1 ++ r.elR ++ B)
theorem zPC {l : List Rn} {r : Rn} : putE l r = 0 ↔ zDE l ∧ r.may = true ∧ (r.af = Eid.z ∨ ∃ e ∈ elsR l,e.id = r.af) ∧ (∀ x ∈ r.elR,∀ e ∈ elsR l,x.id ≠ e.id) ∧ (elsR l).length + r.elR.length ≤ 8192:=by
 unfold putE
 by_cases h : zDE l ∧ r.may = true
 ·rw [if_pos h]
  obtain ⟨ht,hr⟩:=h
  have hw:=fun x=>zML ht.1 x
  have br:=Spn.may_le (Rn.may_sp hr)
  have hn : (r.elR.length : Int) = r.sp.n:=by rw [zB8]; omega
  rw [zDP ht.1]
  by_cases h1 : r.af ≠ Eid.z ∧ zBB l r.af = none
  ·rw [if_pos h1]
   refine ⟨fun h=>(by cases h), ?_⟩
   rintro ⟨_,_,h3,_⟩
   rcases h3 with h3 | ⟨e,he,h3⟩
   ·exact absurd h3 h1.1
   ·exact absurd h3 ((hw _).1 h1.2 e he)
  ·rw [if_neg h1]
   have h1' : r.af = Eid.z ∨ ∃ e ∈ elsR l,e.id = r.af:=by
    by_cases hz : r.af = Eid.z
    ·exact .inl hz
    ·right
     have : ¬∀ e ∈ elsR l,e.id ≠ r.af:=fun k=>h1 ⟨hz,(hw _).2 k⟩
     exact Classical.byContradiction fun k=>this fun e he k2=>k ⟨e,he,k2⟩
   by_cases h2 : ∃ i : Nat,(i : Int) < r.sp.n ∧ zBB l (r.sp.at i) ≠ none
   ·rw [if_pos h2]
    refine ⟨fun h=>(by cases h), ?_⟩
    rintro ⟨_,_,_,h3,_⟩
    obtain ⟨i,hi,h2⟩:=h2
    refine absurd ((hw _).2 fun e he=>?_) h2
    have hl : i < r.elR.length:=by omega
    have:=h3 _ (List.getElem_mem hl) e he
    rw [zBQ] at this
    exact fun k=>this k.symm
   ·rw [if_neg h2]
    have h2' : ∀ x ∈ r.elR,∀ e ∈ elsR l,x.id ≠ e.id:=fun x hx e he k=>by
     obtain ⟨i,hi,rfl⟩:=List.getElem_of_mem hx
     rw [zBQ] at k
     refine h2 ⟨i,by omega,fun k2=>?_⟩
     exact (hw _).1 k2 e he k.symm
    by_cases h3 : 8192 < ((elsR l).length : Int) + r.sp.n
    ·rw [if_pos h3]
     refine ⟨fun h=>(by cases h), ?_⟩
     rintro ⟨_,_,_,_,h4⟩
     omega
    ·rw [if_neg h3]
     exact ⟨fun _=>⟨ht,hr,h1',h2',by omega⟩,fun _=>rfl⟩
 ·rw [if_neg h]
  exact ⟨fun h=>(by cases h),fun k=>absurd ⟨k.1,k.2.1⟩ h⟩
theorem put_ok {l : List Rn} {r : Rn} (h : putE l r = 0) : ∃ A0 A1 B,Put l r A0 A1 B:=by
 obtain ⟨ht,hr,ha,hf,hn⟩:=zPC.1 h
 obtain ⟨hE,hl⟩:=zE2 ht
 have hx : r.af = Eid.z ∨ zBB l r.af ≠ none:=by
  rcases ha with ha | ⟨e,he,ha⟩
  ·exact .inl ha
  ·exact .inr fun k=>(zML ht.1 _).1 k e he ha
 obtain ⟨p1,p2,p3,p4⟩:=zNK ht.1 hx
 have hi : insL l r = zBO ((zB5 l r.af).1.take (zEY (zB5 l r.af).1 r.sp.f (zB5 l r.af).2) ++ [r] ++ (zB5 l r.af).1.drop (zEY (zB5 l r.af).1 r.sp.f (zB5 l r.af).2)):=rfl
 generalize zB5 l r.af = P at *
 obtain ⟨l',n⟩:=P
 simp only at p1 p2 p3 p4 hi
 have hsp : l' = l'.take n ++ ((l'.drop n).takeWhile fun q=>r.sp.f.less q.sp.f) ++ ((l'.drop n).dropWhile fun q=>r.sp.f.less q.sp.f):=by
  rw [List.append_assoc,List.takeWhile_append_dropWhile,List.take_append_drop]
 have hg1 : ∀ q ∈ (l'.drop n).takeWhile fun q=>r.sp.f.less q.sp.f,r.sp.f.less q.sp.f = true:=fun q hq=>by
  have:=List.all_takeWhile (l:=l'.drop n) (p:=fun q=>r.sp.f.less q.sp.f)
  exact List.all_eq_true.1 this q hq
 have hg2 : ∀ q D,((l'.drop n).dropWhile fun q=>r.sp.f.less q.sp.f) = q :: D → r.sp.f.less q.sp.f = false:=fun q D e=>by
  have:=List.head?_dropWhile_not (fun q : Rn=>r.sp.f.less q.sp.f) (l'.drop n)
  rw [e] at this
  simpa using this
 have hlen : (l'.take n).length = n:=by rw [List.length_take]; omega
 unfold zEY at hi
 generalize hD1 : (l'.drop n).takeWhile (fun q=>r.sp.f.less q.sp.f) = D1 at *
 generalize (l'.drop n).dropWhile (fun q=>r.sp.f.less q.sp.f) = D2 at *
 generalize l'.take n = T at *
 clear hD1
 have htk : l'.take (n + D1.length) = T ++ D1:=by
  rw [hsp,List.take_append_of_le_length (by rw [List.length_append]; omega),List.take_of_length_le (by rw [List.length_append]; omega)]
 have hdr : l'.drop (n + D1.length) = D2:=by
  rw [hsp,List.drop_append_of_le_length (by rw [List.length_append]; omega),List.drop_of_length_le (by rw [List.length_append]; omega),List.nil_append]
 rw [htk,hdr] at hi
 have hE' : elsR l = elsR T ++ elsR D1 ++ elsR D2:=by rw [← p3,hsp,zEP,zEP]
 have hmT : ∀ q ∈ T,q.may = true:=fun q hq=>p2 q (by rw [hsp]; simp [hq])
 have hmD1 : ∀ q ∈ D1,q.may = true:=fun q hq=>p2 q (by rw [hsp]; simp [hq])
 have hmD2 : ∀ q ∈ D2,q.may = true:=fun q hq=>p2 q (by rw [hsp]; simp [hq])
 have br:=Spn.may_le (Rn.may_sp hr)
 have hg : ∀ x ∈ elsR D1,r.sp.f.less x.id = true:=fun x hx=>by
  obtain ⟨q,hq,hx⟩:=List.mem_flatMap.1 hx
  exact zc6 (hmD1 q hq) (hg1 q hq) x hx
 have hA : (r.af = Eid.z ∧ elsR T = []) ∨ ∃ A w,elsR T = A ++ [w] ∧ w.id = r.af:=by
  rcases p4 with ⟨h1,h2⟩ | h1
  ·have : T = []:=List.eq_nil_of_length_eq_zero (by omega)
   subst this
   exact .inl ⟨h1,rfl⟩
  ·exact .inr h1
 have hB : ∀ b B',elsR D2 = b :: B' → r.sp.f.less b.id = false:=fun b B' e=>by
  cases D2 with
  | nil=>exact absurd e (by simp [elsR])
  | cons q D =>
   have bq:=Spn.may_le (Rn.may_sp (hmD2 q List.mem_cons_self))
   have e2 : elsR (q :: D) = q.elR ++ elsR D:=by simp [elsR]
   rw [e2,zCN (by omega),List.cons_append] at e
   injection e with e _
   rw [← e]
   exact hg2 q D rfl
 have hcons:=zCN (r:=r) (by omega)
 have hT : Txt (elsR T ++ elsR D1 ++ r.elR ++ elsR D2):=Txt.put (r:=⟨r.sp.f,r.af,r.rs.getD 0 0⟩) (by rw [← hE']; exact hE.t) hcons (zZM hr) hA (fun x hx y hy=>hf x hx y (by rw [hE']; exact hy)) hg hB
 have hmR:=zJV hr
 refine ⟨elsR T,elsR D1,elsR D2,hE',hA,hg,⟨hT,fun x hx=>?_, ?_⟩, ?_⟩
 ·rcases List.mem_append.1 hx with h | h
  ·rcases List.mem_append.1 h with h | h
   ·exact hE.m x (by rw [hE']; exact List.mem_append_left _ h)
   ·exact hmR x h
  ·exact hE.m x (by rw [hE']; exact List.mem_append_right _ h)
 ·rw [hE'] at hn
  simp only [List.length_append] at hn ⊢
  omega
 ·rw [hi,(zC7 (fun q hq=>?_)).1]
  ·rw [zEP,zCS,zEP]
  ·rcases List.mem_append.1 hq with hq | hq
   ·rcases List.mem_append.1 hq with hq | hq
    ·rcases List.mem_append.1 hq with hq | hq
     ·exact hmT q hq
     ·exact hmD1 q hq
    ·rw [List.mem_singleton] at hq; subst hq; exact hr
   ·exact hmD2 q hq
theorem Put.mem {l : List Rn} {r : Rn} {A0 A1 B : List El} (h : Put l r A0 A1 B) (x : El) : x ∈ elsR (insL l r) ↔ x ∈ elsR l ∨ x ∈ r.elR:=by
 rw [h.i,(zCR _).1,h.e]
 simp only [List.mem_append]
 constructor
 ·rintro (((h | h) | h) | h)
  ·exact .inl (.inl (.inl h))
  ·exact .inl (.inl (.inr h))
  ·exact .inr h
  ·exact .inl (.inr h)
 ·rintro (((h | h) | h) | h)
  ·exact .inl (.inl (.inl h))
  ·exact .inl (.inl (.inr h))
  ·exact .inr h
  ·exact .inl (.inr h)
theorem zHY {l : List Rn} {r : Rn} (h : putE l r = 0) (x : El) : x ∈ elsR (insL l r) ↔ x ∈ elsR l ∨ x ∈ r.elR:=by
 obtain ⟨A0,A1,B,h⟩:=put_ok h
 exact h.mem x
theorem zcT {l : List Rn} {r : Rn} (h : putE l r = 0) : zDE (insL l r):=by
 obtain ⟨A0,A1,B,h⟩:=put_ok h
 rw [h.i]
 exact zMG h.t
theorem zaA {l : List Rn} {r : Rn} (h : putE l r = 0) : (elsR (insL l r)).length = (elsR l).length + r.elR.length:=by
 obtain ⟨A0,A1,B,h⟩:=put_ok h
 rw [h.i,(zCR _).1,h.e]
 simp only [List.length_append]
 omega
theorem text_eq {l m : List Rn} (hl : zDE l) (hm : zDE m) (h : ∀ x,x ∈ elsR l ↔ x ∈ elsR m) : l = m:=by
 obtain ⟨h1,e1⟩:=zE2 hl
 obtain ⟨h2,e2⟩:=zE2 hm
 rw [e1,e2,h1.t.eq h2.t h]
/-! ### Up to a label -/
def zJT (l : List Rn) : Bool:=l.all fun r=>r.af.hd.lb.leq r.sp.f.hd.lb
def upTo (v : Lb) (l : List Rn) : List Rn:=zBO (l.filter fun r=>r.sp.f.hd.lb.leq v)
def lowE (v : Lb) (x : El) : Bool:=x.id.hd.lb.leq v
theorem zL8 {r : Rn} {x : El} (h : x ∈ r.elR) : x.id.hd = r.sp.f.hd:=by
 obtain ⟨i,hi,rfl⟩:=List.getElem_of_mem h
 rw [zBQ]; rfl
theorem zQ6 (v : Lb) (l : List Rn) : elsR (l.filter fun r=>r.sp.f.hd.lb.leq v) = (elsR l).filter (lowE v):=by
 induction l with
 | nil=>rfl
 | cons r l ih =>
  have he : elsR (r :: l) = r.elR ++ elsR l:=by simp [elsR]
  rw [he,List.filter_append,← ih]
  cases h : r.sp.f.hd.lb.leq v with
  | true =>
   rw [List.filter_cons_of_pos (p:=fun r : Rn=>r.sp.f.hd.lb.leq v) h]
   have e2 : elsR (r :: l.filter fun r=>r.sp.f.hd.lb.leq v) = r.elR ++ elsR (l.filter fun r=>r.sp.f.hd.lb.leq v):=by simp [elsR]
   rw [e2]
   congr 1
   symm
   rw [List.filter_eq_self]
   exact fun x hx=>by unfold lowE; rw [zL8 hx]; exact h
  | false =>
   rw [List.filter_cons_of_neg (p:=fun r : Rn=>r.sp.f.hd.lb.leq v) (by rw [h]; simp)]
   have : r.elR.filter (lowE v) = []:=by
    rw [List.filter_eq_nil_iff]
    exact fun x hx=>by unfold lowE; rw [zL8 hx,h]; simp
   rw [this,List.nil_append]
def zJJ (E : List El) : Prop:=∀ x ∈ E,x.af.hd.lb.leq x.id.hd.lb = true
theorem zQ3 {l : List Rn} (h : ∀ r ∈ l,r.may = true) (hrefl : ∀ a : Lb,a.leq a = true) : zJT l = true ↔ zJJ (elsR l):=by
 unfold zJT zJJ
 rw [List.all_eq_true]
 constructor
 ·intro k x hx
  obtain ⟨r,hr,hx⟩:=List.mem_flatMap.1 hx
  have hk:=k r hr
  obtain ⟨i,hi,rfl⟩:=List.getElem_of_mem hx
  rw [zBQ]
  simp only [Spn.at]
  unfold Rn.afAt
  by_cases h0 : (0 : Int) < i
  ·rw [if_pos h0]; exact hrefl _
  ·rw [if_neg h0]; exact hk
 ·intro k r hr
  have br:=Spn.may_le (Rn.may_sp (h r hr))
  have hm : (⟨r.sp.f,r.af,r.rs.getD 0 0⟩ : El) ∈ elsR l:=List.mem_flatMap.2 ⟨r,hr,by rw [zCN (by omega)]; exact List.mem_cons_self⟩
  exact k _ hm
theorem zaG {E : List El} (h : TxtM E) (hc : zJJ E) (htrans : ∀ a b c : Lb,a.leq b = true → b.leq c = true → a.leq c = true) (v : Lb) : TxtM (E.filter (lowE v)):=by
 refine ⟨h.t.filter _ fun x hx y hy h1 h2=>?_,fun x hx=>h.m x (List.mem_filter.1 hx).1,Nat.le_trans (List.length_filter_le _ _) h.n⟩
 unfold lowE at h1 ⊢
 rw [h2]
 exact htrans _ _ _ (hc x hx) h1
theorem zPP {l : List Rn} (h : ∀ r ∈ l,r.may = true) (v : Lb) : upTo v l = zCY ((elsR l).filter (lowE v)):=by
 unfold upTo
 rw [(zC7 fun r hr=>h r (List.mem_filter.1 hr).1).1,zQ6]
end Go.Proofs.YtakefgebklfhpaaGreat
namespace Go.Proofs.YtakefgebklfhpaaGreat
open Go Go.Ax
theorem zK5 : ∀ {pre l : List Op},zAR pre l = true → ∀ o ∈ l,o.may = true
 | _,[],_,_,h=>by cases h
 | pre,o :: l,h,p,hp=>by
  simp only [zAR,Bool.and_eq_true] at h
  rcases List.mem_cons.1 hp with rfl | hp
  ·exact h.1.1
  ·exact zK5 h.2 p hp
end Go.Proofs.YtakefgebklfhpaaGreat
namespace Go.Proofs.YtakefgebklfhpaaGreat
open Go Go.Ax
theorem zGH (a b : Int) : zSX a b = 0 ↔ BitVec.ofInt 32 a &&& ~~~ BitVec.ofInt 32 b = 0#32:=by
 have e : zSX a b = ((BitVec.ofInt 32 a &&& ~~~ BitVec.ofInt 32 b).toNat : Int):=by
  have:=(BitVec.ofInt 32 a &&& ~~~ BitVec.ofInt 32 b).isLt
  unfold zSX
  generalize (BitVec.ofInt 32 a &&& ~~~ BitVec.ofInt 32 b).toNat = z at *
  simp [IntKind.wrap,IntKind.bits,IntKind.signed]
  omega
 rw [e,← BitVec.toNat_inj]
 simp
theorem zPY (x y z : BitVec 32) (h1 : x &&& ~~~ y = 0#32) (h2 : y &&& ~~~ z = 0#32) : x &&& ~~~ z = 0#32:=by
 apply BitVec.eq_of_getLsbD_eq
 intro i hi
 have a1:=congrArg (fun v=>BitVec.getLsbD v i) h1
 have a2:=congrArg (fun v=>BitVec.getLsbD v i) h2
 simp only [BitVec.getLsbD_and,BitVec.getLsbD_not,hi,BitVec.getLsbD_zero,decide_true,Bool.true_and] at a1 a2 ⊢
 cases hx : x.getLsbD i <;> cases hy : y.getLsbD i <;> cases hz : z.getLsbD i <;> simp_all
theorem zI0 {a b c : Lb} (h1 : a.leq b = true) (h2 : b.leq c = true) : a.leq c = true:=by
 unfold Lb.leq at *
 simp only [Bool.and_eq_true,decide_eq_true_eq,zGH] at *
 exact ⟨Int.le_trans h1.1 h2.1,zPY _ _ _ h1.2 h2.2⟩
theorem zFX (a : Lb) : a.leq a = true:=by
 unfold Lb.leq
 simp only [Bool.and_eq_true,decide_eq_true_eq,zGH]
 refine ⟨Int.le_refl _, ?_⟩
 apply BitVec.eq_of_getLsbD_eq
 intro i hi
 simp only [BitVec.getLsbD_and,BitVec.getLsbD_not,hi,BitVec.getLsbD_zero,decide_true,Bool.true_and]
 cases (BitVec.ofInt 32 a.cats).getLsbD i <;> rfl
/-! ### Raises -/
theorem zQR (l : List Op) (v u : Lb) (h : u.leq v = true) (x : Eid) : zBZ (lowL l v) x u = zBZ l x u:=by
 unfold zBZ lowL
 rw [List.filter_filter]
 congr 1
 apply List.filter_congr
 intro o _
 cases hc : zC8 x u o with
 | false=>rfl
 | true =>
  have hl : o.hd.lb.leq u = true:=by
   unfold zC8 at hc
   simp only [Bool.and_eq_true] at hc
   exact hc.2
  rw [zI0 hl h]; rfl
theorem zWO (l : List Op) (v u : Lb) (h : u.leq v = true) (x : Eid) : made (lowL l v) x u = made l x u:=by
 unfold made
 rw [zQR l v u h]
theorem zNV (l : List Op) (v : Lb) (o : Op) (h : o.hd.lb.leq v = true) : zDL (lowL l v) o = zDL l o:=by
 unfold zDL
 simp only [zWO l v _ h]
/-! ### A history is right -/
theorem zS9 {pre : List Op} {o : Op} (h : fitE pre o = 0) : pre.length < 2048:=by
 unfold fitE at h
 split at h
 ·split at h
  ·cases h
  ·omega
 ·rename_i h1; exact absurd h h1
theorem zH7 {pre : List Op} {o : Op} (h : fitE pre o = 0) : zDJ pre o = 0:=by
 unfold fitE at h
 split at h
 ·assumption
 ·exact h
theorem zSA {pre : List Op} {o : Op} (hm : o.may = true) (h : fitE pre o = 0) : zDL pre o = true:=by
 by_cases hk : o.kd = 3
 ·have h1:=zH7 h
  unfold zDJ at h1
  rw [if_neg (by omega),if_neg (by omega)] at h1
  unfold raiE at h1
  split at h1
  ·split at h1
   ·rename_i h2
    have:=h2.2
    unfold chfB at this
    simp only [Bool.and_eq_true] at this
    exact this.2
   ·cases h1
  ·cases h1
 ·unfold zDL
  rw [if_neg hk]
theorem zJ4 : ∀ {pre l : List Op},zAR pre l = true → zH1 pre l = true
 | _,[],_=>rfl
 | pre,o :: l,h=>by
  simp only [zAR,Bool.and_eq_true,decide_eq_true_eq] at h
  simp only [zH1,Bool.and_eq_true]
  exact ⟨⟨h.1.1,zSA h.1.1 h.1.2⟩,zJ4 h.2⟩
theorem zOO : ∀ {pre l : List Op},zAR pre l = true → l ≠ [] → pre.length + l.length ≤ 2048
 | _,[],_,h=>absurd rfl h
 | pre,[o],h,_=>by
  simp only [zAR,Bool.and_eq_true,decide_eq_true_eq] at h
  have:=zS9 h.1.2
  simp only [List.length_singleton]
  omega
 | pre,o :: p :: l,h,_=>by
  simp only [zAR,Bool.and_eq_true] at h
  have:=zOO (pre:=pre ++ [o]) (l:=p :: l) (by simp only [zAR,Bool.and_eq_true]; exact h.2) (by simp)
  simp only [List.length_append,List.length_cons,List.length_nil] at this ⊢
  omega
theorem zDT {l : List Op} (h : zAR [] l = true) : zCH l = 0:=by
 have h1 : ¬2048 < l.length:=by
  by_cases e : l = []
  ·subst e; simp
  ·have:=zOO h e
   simp only [List.length_nil] at this
   omega
 unfold zCH
 rw [if_neg h1,zJ4 h]
 rfl
end Go.Proofs.YtakefgebklfhpaaGreat
namespace Go.Proofs.YtakefgebklfhpaaGreat
open Go Go.Ax
theorem zFC {o : Op} (h : o.may = true) (hk : o.kd = 1) : o.sp.f.hd = o.hd ∧ (o.rs.length : Int) = o.sp.n:=by
 unfold Op.may Op.part at h
 rw [if_pos hk] at h
 simp only [Bool.and_eq_true,decide_eq_true_eq] at h
 exact ⟨h.2.1.1.2,h.2.1.2⟩
theorem zKH {s : Spn} {x : Eid} (h : x ∈ s.ids) : x.hd = s.f.hd:=by
 unfold Spn.ids at h
 obtain ⟨i,_,rfl⟩:=List.mem_map.1 h
 rfl
theorem zLN {l : List Op} {x : Eid} : x ∈ zAP l ↔ ∃ o ∈ l,o.kd = 1 ∧ x ∈ o.sp.ids:=by
 unfold zAP
 rw [List.mem_flatMap]
 constructor
 ·rintro ⟨o,ho,h⟩
  split at h
  ·exact ⟨o,ho,by assumption,h⟩
  ·cases h
 ·rintro ⟨o,ho,hk,h⟩
  exact ⟨o,ho,by rw [if_pos hk]; exact h⟩
theorem zIU {l : List Op} (hm : ∀ o ∈ l,o.may = true) {v : Lb} {x : Eid} (hx : x.hd.lb.leq v = true) : x ∈ zAP (lowL l v) ↔ x ∈ zAP l:=by
 rw [zLN,zLN]
 constructor
 ·rintro ⟨o,ho,h⟩
  exact ⟨o,(List.mem_filter.1 ho).1,h⟩
 ·rintro ⟨o,ho,hk,h⟩
  refine ⟨o,List.mem_filter.2 ⟨ho, ?_⟩,hk,h⟩
  have:=zKH h
  rw [← (zFC (hm o ho) hk).1,← this]
  exact hx
theorem zKY (l : List Op) (v : Lb) : (zAP (lowL l v)).length ≤ (zAP l).length:=by
 induction l with
 | nil=>exact Nat.le_refl _
 | cons o l ih =>
  unfold lowL zAP at *
  rw [List.filter_cons]
  split
  ·simp only [List.flatMap_cons,List.length_append]; omega
  ·simp only [List.flatMap_cons,List.length_append]; omega
section
variable {pre : List Op} {o : Op} {v : Lb}
theorem zPI (hm : ∀ o ∈ pre,o.may = true) (ho : o.hd.lb.leq v = true) (x : Eid) : zEM (lowL pre v) o x = zEM pre o x:=by
 unfold zEM
 cases h : x.hd.lb.leq o.hd.lb with
 | false=>simp
 | true =>
  have:=zIU hm (zI0 h ho)
  rw [decide_eq_decide.2 this]
theorem zR9 (hm : ∀ o ∈ pre,o.may = true) (ho : o.hd.lb.leq v = true) : allB (lowL pre v) o = allB pre o:=by
 unfold allB
 congr 1
 funext x
 exact zPI hm ho x
theorem zWH (hm : ∀ o ∈ pre,o.may = true) (ho : o.hd.lb.leq v = true) (hom : o.may = true) (hc : zCH pre = 0) (hc2 : zCH (lowL pre v) = 0) (hb : o.kd = 1 → ¬8192 < ((zAP pre).length : Int) + o.sp.n) : zDJ (lowL pre v) o = zDJ pre o:=by
 unfold zDJ
 by_cases hk : o.kd = 1
 ·rw [if_pos hk,if_pos hk]
  unfold insE
  have h1 : (o.sp.ids.any fun x=>decide (x ∈ zAP (lowL pre v))) = (o.sp.ids.any fun x=>decide (x ∈ zAP pre)):=by
   rw [Bool.eq_iff_iff,List.any_eq_true,List.any_eq_true]
   constructor
   ·rintro ⟨x,hx,h⟩
    refine ⟨x,hx, ?_⟩
    rw [decide_eq_true_eq] at h ⊢
    exact (zIU hm (by rw [zKH hx,(zFC hom hk).1]; exact ho)).1 h
   ·rintro ⟨x,hx,h⟩
    refine ⟨x,hx, ?_⟩
    rw [decide_eq_true_eq] at h ⊢
    exact (zIU hm (by rw [zKH hx,(zFC hom hk).1]; exact ho)).2 h
  have:=zKY pre v
  have hb:=hb hk
  rw [zPI hm ho,h1,if_neg (show ¬8192 < ((zAP (lowL pre v)).length : Int) + o.sp.n by omega),if_neg hb]
 ·rw [if_neg hk,if_neg hk]
  split
  ·unfold remE
   rw [zR9 hm ho]
  ·unfold raiE chfB chfE
   rw [zR9 hm ho,hc,hc2,zNV pre v o ho]
theorem zWC (h : zDJ pre o = 0) : o.kd = 1 → ¬8192 < ((zAP pre).length : Int) + o.sp.n:=by
 intro hk hb
 unfold zDJ insE at h
 rw [if_pos hk] at h
 split at h
 ·cases h
 ·split at h
  ·cases h
  ·first | (rw [if_pos hb] at h; cases h) | cases h
theorem zQB (hm : ∀ o ∈ pre,o.may = true) (ho : o.hd.lb.leq v = true) (hom : o.may = true) (hc : zCH pre = 0) (hc2 : zCH (lowL pre v) = 0) (hb : o.kd = 1 → ¬8192 < ((zAP pre).length : Int) + o.sp.n) (hl : pre.length < 2048) : fitE (lowL pre v) o = fitE pre o:=by
 have:=zKF pre v
 unfold fitE
 rw [zWH hm ho hom hc hc2 hb,if_neg (show ¬2048 ≤ pre.length by omega),if_neg (show ¬2048 ≤ (lowL pre v).length by omega)]
theorem zZS (hm : ∀ o ∈ pre,o.may = true) (ho : o.hd.lb.leq v = true) (hom : o.may = true) (hc : zCH pre = 0) (hc2 : zCH (lowL pre v) = 0) (h : fitE pre o = 0) : fitE (lowL pre v) o = 0:=by
 rw [zQB hm ho hom hc hc2 (zWC (zH7 h)) (zS9 h)]
 exact h
end
theorem zFU : ∀ (pre a b : List Op),zAR pre (a ++ b) = (zAR pre a && zAR (pre ++ a) b)
 | pre,[],b=>by simp [zAR]
 | pre,o :: a,b=>by
  simp only [List.cons_append,zAR]
  rw [zFU (pre ++ [o]) a b,List.append_assoc]
  simp only [List.cons_append,List.nil_append,Bool.and_assoc]
theorem zK4 (v : Lb) : ∀ (l pre : List Op),zAR [] pre = true → zAR [] (lowL pre v) = true → zAR pre l = true → zAR (lowL pre v) (lowL l v) = true
 | [],pre,_,_,_=>rfl
 | o :: l,pre,hp,hq,h=>by
  simp only [zAR,Bool.and_eq_true,decide_eq_true_eq] at h
  have hp' : zAR [] (pre ++ [o]) = true:=by
   rw [zFU,hp]
   simp only [List.nil_append,zAR,h.1.1,h.1.2,decide_true,Bool.and_self]
  have hs:=zKG pre o v
  unfold lowL at hs ⊢
  rw [List.filter_cons]
  cases ho : o.hd.lb.leq v with
  | false =>
   rw [ho,if_neg (by decide),List.append_nil] at hs
   have:=zK4 v l (pre ++ [o]) hp' (by unfold lowL; rw [hs]; exact hq) h.2
   unfold lowL at this
   rw [hs] at this
   simpa using this
  | true =>
   rw [ho,if_pos rfl] at hs
   have hf:=zZS (zK5 hp) ho h.1.1 (zDT hp) (zDT hq) h.1.2
   unfold lowL at hf
   have hq' : zAR [] (lowL (pre ++ [o]) v) = true:=by
    unfold lowL
    rw [hs,zFU]
    unfold lowL at hq
    rw [hq]
    simp only [List.nil_append,zAR,h.1.1,hf,decide_true,Bool.and_self]
   have:=zK4 v l (pre ++ [o]) hp' hq' h.2
   unfold lowL at this
   rw [hs] at this
   simp only [if_true,zAR,h.1.1,hf,decide_true,Bool.true_and]
   exact this
theorem zD5 {l : List Op} (v : Lb) (h : zAR [] l = true) : zAR [] (lowL l v) = true:=zK4 v l [] rfl rfl h
end Go.Proofs.YtakefgebklfhpaaGreat
namespace Go.Proofs.YtakefgebklfhpaaGreat
open Go Go.Ax
def stepT (t : List Rn) (o : Op) : List Rn:=if rofE o = 0 then insL t o.rn else t
def textOf (l : List Op) : List Rn:=l.foldl stepT []
theorem zE9 (l : List Op) (o : Op) : textOf (l ++ [o]) = stepT (textOf l) o:=by simp [textOf]
theorem zDU (l : List Op) (o : Op) : zAR [] (l ++ [o]) = (zAR [] l && (o.may && decide (fitE l o = 0))):=by
 rw [zFU]
 simp [zAR]
theorem zHS (o : Op) : o.rn.elR.map (·.id) = o.sp.ids:=by
 simp [Rn.elR,Spn.ids,Op.rn,Function.comp_def]
theorem zIL {o : Op} (h : rofE o = 0) : o.may = true ∧ o.kd = 1 ∧ o.rn.may = true:=by
 unfold rofE at h
 split at h
 ·rename_i h1
  split at h
  ·rename_i h2; exact ⟨h1,h2.1,h2.2⟩
  ·cases h
 ·cases h
structure HT (l : List Op) (t : List Rn) : Prop where
 ok : zDE t
 mem : ∀ x,x ∈ elsR t ↔ ∃ o ∈ l,rofE o = 0 ∧ x ∈ o.rn.elR
 ids : ∀ y,y ∈ zAP l ↔ ∃ x ∈ elsR t,x.id = y
 len : (elsR t).length = (zAP l).length
 cl : (∀ o ∈ l,o.ok) → zJJ (elsR t)
theorem z_leq {b : Lb} (h : b.ok) : Lb.z.leq b = true:=by
 unfold Lb.leq
 simp only [Bool.and_eq_true,decide_eq_true_eq,zGH]
 refine ⟨h.1, ?_⟩
 simp
theorem HT.step {l : List Op} {t : List Rn} {o : Op} (h : HT l t) (hf : fitE l o = 0) (hm : o.may = true) : HT (l ++ [o]) (stepT t o) ∧ (o.kd = 1 → putE t o.rn = 0 ∧ rofE o = 0):=by
 have hk:=zH7 hf
 have hth:=zJH l o
 by_cases h1 : o.kd = 1
 ·unfold zDJ at hk
  rw [if_pos h1] at hk
  unfold insE at hk
  split at hk
  ·cases hk
  rename_i hs
  split at hk
  ·cases hk
  rename_i hr
  split at hk
  ·cases hk
  rename_i hn
  have hr0 : rofE o = 0:=Classical.byContradiction fun k=>hr (.inl k)
  have hfr : ∀ y ∈ o.sp.ids,y ∉ zAP l:=fun y hy k=>hr (.inr (List.any_eq_true.2 ⟨y,hy,decide_eq_true k⟩))
  obtain ⟨_,_,hrm⟩:=zIL hr0
  have hsee : o.af ≠ Eid.z → zEM l o o.af = true:=fun hz=>Classical.byContradiction fun k=>hs ⟨hz,by simpa using k⟩
  have hp : putE t o.rn = 0:=by
   rw [zPC]
   refine ⟨h.ok,hrm, ?_,fun x hx e he k=>?_, ?_⟩
   ·by_cases hz : o.af = Eid.z
    ·exact .inl hz
    ·right
     have:=hsee hz
     unfold zEM at this
     simp only [Bool.and_eq_true,decide_eq_true_eq] at this
     exact (h.ids _).1 this.1
   ·have h2 : x.id ∈ o.sp.ids:=by rw [← zHS]; exact List.mem_map.2 ⟨x,hx,rfl⟩
    exact hfr _ h2 ((h.ids _).2 ⟨e,he,k.symm⟩)
   ·have hl : o.rn.elR.length = o.sp.n.toNat:=zB8 _
    have hb:=Spn.may_le (Rn.may_sp hrm)
    have e1 : o.rn.sp.n = o.sp.n:=rfl
    rw [e1] at hb
    rw [h.len,hl]
    omega
  have hst : stepT t o = insL t o.rn:=by unfold stepT; rw [if_pos hr0]
  rw [hst]
  refine ⟨⟨zcT hp,fun x=>?_,fun y=>?_, ?_,fun hok=>?_⟩,fun _=>⟨hp,hr0⟩⟩
  ·rw [zHY hp,h.mem]
   constructor
   ·rintro (⟨p,h2,h3⟩ | h2)
    ·exact ⟨p,List.mem_append_left _ h2,h3⟩
    ·exact ⟨o,List.mem_append_right _ List.mem_cons_self,hr0,h2⟩
   ·rintro ⟨p,h2,h3,h4⟩
    rcases List.mem_append.1 h2 with h2 | h2
    ·exact .inl ⟨p,h2,h3,h4⟩
    ·rw [List.mem_singleton] at h2; subst h2; exact .inr h4
  ·rw [hth,if_pos h1,List.mem_append,h.ids]
   constructor
   ·rintro (⟨x,h2,h3⟩ | h2)
    ·exact ⟨x,(zHY hp x).2 (.inl h2),h3⟩
    ·rw [← zHS] at h2
     obtain ⟨x,h3,h4⟩:=List.mem_map.1 h2
     exact ⟨x,(zHY hp x).2 (.inr h3),h4⟩
   ·rintro ⟨x,h2,h3⟩
    rcases (zHY hp x).1 h2 with h2 | h2
    ·exact .inl ⟨x,h2,h3⟩
    ·right
     rw [← zHS]
     exact List.mem_map.2 ⟨x,h2,h3⟩
  ·rw [zaA hp,hth,if_pos h1,List.length_append,h.len,← zHS,List.length_map]
  ·intro x hx
   rcases (zHY hp x).1 hx with hx | hx
   ·exact h.cl (fun p hp=>hok p (List.mem_append_left _ hp)) x hx
   ·have hhd:=(zFC hm h1).1
    have ho:=hok o (List.mem_append_right _ List.mem_cons_self)
    rw [zL8 hx]
    obtain ⟨i,hi,rfl⟩:=List.getElem_of_mem hx
    rw [zBQ]
    unfold Rn.afAt
    by_cases h0 : (0 : Int) < i
    ·rw [if_pos h0]; exact zFX _
    ·rw [if_neg h0]
     show o.af.hd.lb.leq o.sp.f.hd.lb = true
     by_cases hz : o.af = Eid.z
     ·rw [hz,hhd]; exact z_leq ho.2.1.1
     ·have:=hsee hz
      unfold zEM at this
      simp only [Bool.and_eq_true,decide_eq_true_eq] at this
      rw [hhd]; exact this.2
 ·have hr0 : ¬rofE o = 0:=fun k=>h1 (zIL k).2.1
  have hst : stepT t o = t:=by unfold stepT; rw [if_neg hr0]
  rw [hst]
  refine ⟨⟨h.ok,fun x=>?_,fun y=>?_, ?_,fun hok=>h.cl fun p hp=>hok p (List.mem_append_left _ hp)⟩,fun k=>absurd k h1⟩
  ·rw [h.mem]
   constructor
   ·rintro ⟨p,h2,h3⟩
    exact ⟨p,List.mem_append_left _ h2,h3⟩
   ·rintro ⟨p,h2,h3,h4⟩
    rcases List.mem_append.1 h2 with h2 | h2
    ·exact ⟨p,h2,h3,h4⟩
    ·rw [List.mem_singleton] at h2; subst h2; exact absurd h3 hr0
  ·rw [hth,if_neg h1,List.append_nil]; exact h.ids y
  ·rw [hth,if_neg h1,List.append_nil]; exact h.len
theorem zNY : zDE []:=⟨fun _ h=>absurd h (by simp),by simp [zB3],by rw [show elsL [] = [] from rfl]; exact Ord.nil,rfl⟩
theorem zcO : HT [] []:=⟨zNY,fun x=>by simp [elsR],fun y=>by simp [zAP,elsR],rfl,fun _ x hx=>absurd hx (by simp [elsR])⟩
theorem zBV {l : List Op} : zAR [] l = true → HT l (textOf l):=by
 refine zCP (P:=fun l=>zAR [] l = true → HT l (textOf l)) (fun _=>zcO) (fun l o ih h=>?_) l
 rw [zDU] at h
 simp only [Bool.and_eq_true,decide_eq_true_eq] at h
 rw [zE9]
 exact ((ih h.1).step h.2.2 h.2.1).1
theorem zOP {l m : List Op} (h : zAR [] (l ++ m) = true) : zAR [] l = true:=by
 rw [zFU] at h
 simp only [Bool.and_eq_true] at h
 exact h.1
theorem zW5 {l m : List Op} {o : Op} (h : zAR [] (l ++ o :: m) = true) (hr : rofE o = 0) : putE (textOf l) o.rn = 0:=by
 have e : l ++ o :: m = (l ++ [o]) ++ m:=by simp
 rw [e] at h
 have h:=zOP h
 rw [zDU] at h
 simp only [Bool.and_eq_true,decide_eq_true_eq] at h
 exact (((zBV h.1).step h.2.2 h.2.1).2 (zIL hr).2.1).1
theorem zXU {l : List Op} (h : zAR [] l = true) (hok : ∀ o ∈ l,o.ok) (v : Lb) : textOf (lowL l v) = upTo v (textOf l) ∧ zJT (textOf l) = true:=by
 have hT:=zBV h
 have hL:=zBV (zD5 v h)
 have hE:=(zE2 hT.ok).1
 have hC:=hT.cl hok
 have hcl : zJT (textOf l) = true:=(zQ3 hT.ok.1 zFX).2 hC
 refine ⟨?_,hcl⟩
 rw [zPP hT.ok.1]
 have hM:=zaG hE hC (fun _ _ _=>zI0) v
 refine text_eq hL.ok (zMG hM) fun x=>?_
 rw [(zCR _).1,List.mem_filter,hL.mem,hT.mem]
 have hmay:=zK5 h
 constructor
 ·rintro ⟨o,ho,h1,h2⟩
  obtain ⟨h3,h4⟩:=List.mem_filter.1 ho
  refine ⟨⟨o,h3,h1,h2⟩, ?_⟩
  unfold lowE
  rw [zL8 h2]
  show o.sp.f.hd.lb.leq v = true
  rw [(zFC (hmay o h3) (zIL h1).2.1).1]
  exact h4
 ·rintro ⟨⟨o,h3,h1,h2⟩,h4⟩
  refine ⟨o,List.mem_filter.2 ⟨h3, ?_⟩,h1,h2⟩
  unfold lowE at h4
  rw [zL8 h2] at h4
  have h5 : o.sp.f.hd.lb.leq v = true:=h4
  rw [(zFC (hmay o h3) (zIL h1).2.1).1] at h5
  exact h5
end Go.Proofs.YtakefgebklfhpaaGreat
namespace Go.Proofs.YtakefgebklfhpaaGreat
open Go Go.Ax
theorem za5 {s : Spn} {x : Eid} (h : (s.has x).isSome = true) : x ∈ s.ids:=by
 obtain ⟨k,hk⟩:=Option.isSome_iff_exists.1 h
 obtain ⟨_,h0,h1,rfl⟩:=zK3.1 hk
 unfold Spn.ids
 exact List.mem_map.2 ⟨k.toNat,List.mem_range.2 (by omega),by rw [Int.toNat_of_nonneg h0]⟩
theorem zWP {out : List Lb} {x y : Lb} : y ∈ addL out x ↔ y ∈ out ∨ y = x:=by
 unfold addL
 split
 ·rename_i h
  obtain ⟨z,hz,e⟩:=List.any_eq_true.1 h
  have e:=of_decide_eq_true e
  subst e
  constructor
  ·exact .inl
  ·rintro (h | rfl)
   ·exact h
   ·exact hz
 ·simp
theorem zLM : ∀ (r out : List Lb) (y : Lb),y ∈ r.foldl addL out ↔ y ∈ out ∨ y ∈ r
 | [],out,y=>by simp
 | x :: r,out,y=>by
  rw [List.foldl_cons,zLM r,zWP]
  simp only [List.mem_cons]
  exact or_assoc
theorem zKI {l : List Op} {x : Eid} {v y : Lb} : y ∈ made l x v ↔ y = x.hd.lb ∨ ∃ o ∈ l,zC8 x v o = true ∧ o.to = y:=by
 unfold made zBZ
 rw [zLM]
 simp [List.mem_map,List.mem_filter,and_assoc]
theorem zQP {x : Eid} {v : Lb} {o : Op} : zC8 x v o = true ↔ o.kd = 3 ∧ (o.sp.has x).isSome = true ∧ o.hd.lb.leq v = true:=by
 unfold zC8
 simp [and_assoc]
theorem zU0 {l : List Op} (h : zAR [] l = true) {x : Eid} {v : Lb} : zEN l x v = true ↔ (x.may = true ∧ v.may = true) ∧ x.hd.lb.leq v = true ∧ ∀ o ∈ l,zC8 x v o = true → o.to.leq v = true:=by
 unfold zEN askE
 rw [zDT h,if_pos rfl,Bool.and_eq_true,decide_eq_true_eq]
 have e1 : err (x.may && v.may) = 0 ↔ (x.may = true ∧ v.may = true):=by
  unfold err
  cases x.may <;> cases v.may <;> simp
 have e2 : (!((made l x v).any fun to => !to.leq v)) = true ↔ x.hd.lb.leq v = true ∧ ∀ o ∈ l,zC8 x v o = true → o.to.leq v = true:=by
  rw [Bool.not_eq_true',List.any_eq_false]
  constructor
  ·intro hh
   have hh : ∀ y ∈ made l x v,y.leq v = true:=fun y hy=>by simpa using hh y hy
   exact ⟨hh _ (zKI.2 (.inl rfl)),fun o ho hc=>hh _ (zKI.2 (.inr ⟨o,ho,hc,rfl⟩))⟩
  ·rintro ⟨h1,h2⟩ y hy
   rcases zKI.1 hy with rfl | ⟨o,ho,hc,rfl⟩
   ·simp [h1]
   ·simp [h2 o ho hc]
 rw [e1,e2]
end Go.Proofs.YtakefgebklfhpaaGreat
namespace Go.Proofs.YtakefgebklfhpaaGreat
open Go Go.Ax
def cellV (l : List Op) (v : Lb) (x : El) : CellV:=⟨x.id,if zEN l x.id v = true then x.ch else -1⟩
def zC4 (l : List Op) (v : Lb) : List CellV:=((elsR (textOf (lowL l v))).filter fun x => !zCK (lowL l v) x.id).map (cellV (lowL l v) v)
end Go.Proofs.YtakefgebklfhpaaGreat
