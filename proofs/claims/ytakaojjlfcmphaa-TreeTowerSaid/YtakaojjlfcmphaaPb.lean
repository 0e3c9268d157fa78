/-
  Texts joined: TrD TpD TpE SbP TrG TrH TrI TrJ TrK.
-/
import Derived.Test.YtakaojjlfcmphaaEf
import Derived.Test.YtakaojjlfcmphaaPa
set_option linter.unusedSimpArgs false
set_option linter.unusedVariables false
set_option maxRecDepth 100000
namespace Go.Proofs.Ytakaojjlfcmphaa
open Go Go.Ax
variable {fuel : Nat} {M : Mem} {Q : AV → Mem → Prop} {d : Nat}
def zKF (q r : Rn) : Bool:=decide (r.af = q.last) && decide (r.sp.f = (⟨r.af.hd,IntKind.i64.wrap (r.af.c + 1)⟩ : Eid))
def room (q : Rn) : Int:=IntKind.i64.wrap (64 - q.sp.n)
def addR (out : List Rn) (r : Rn) : List Rn :=
  match out.getLast? with
  | none=>out ++ [r]
  | some q=>if zKF q r = true then
      (if r.cutE (room q) = 0 then out.set (out.length - 1) (zED q (r.fst (room q))) ++ [r.snd (room q)]
       else if zGP q r = 0 then out.set (out.length - 1) (zED q r)
       else out ++ [r])
    else out ++ [r]
def zBM (l : List Rn) : List Rn:=l.foldl addR []
theorem zKD (l : List Rn) (r : Rn) : zBM (l ++ [r]) = addR (zBM l) r:=by simp [zBM]
theorem zMG (out : List Rn) (r : Rn) : (addR out r).length ≤ out.length + 1:=by
 unfold addR
 split
 ·simp
 ·split
  ·split
   ·simp
   ·split <;> simp
  ·simp
theorem Rn.z_ok : Rn.z.ok:=⟨⟨Eid.z_ok,by decide,by decide⟩,Eid.z_ok,fun _ h=>by cases h⟩
theorem zFC {a b : Rn} : zGP a b = 0 ↔ a.may = true ∧ b.may = true ∧ (a.both b).cutE a.sp.n = 0 ∧ (a.both b).fst a.sp.n = a ∧ (a.both b).snd a.sp.n = b:=by
 unfold zGP
 by_cases h : a.may = true ∧ b.may = true
 ·rw [if_pos h]
  by_cases k : (a.both b).cutE a.sp.n = 0 ∧ (a.both b).fst a.sp.n = a ∧ (a.both b).snd a.sp.n = b
  ·rw [if_pos k]; exact ⟨fun _=>⟨h.1,h.2,k⟩,fun _=>rfl⟩
  ·rw [if_neg k]; exact ⟨fun e=>(by cases e),fun e=>absurd e.2.2 k⟩
 ·rw [if_neg h]; exact ⟨fun e=>(by cases e),fun e=>absurd ⟨e.1,e.2.1⟩ h⟩
theorem zMZ {a b : Rn} (ha : a.ok) (hb : b.ok) : (zED a b).ok:=by
 unfold zED
 split
 ·rename_i h
  obtain ⟨ma,mb,_⟩:=zFC.1 h
  have ba:=Spn.may_le (Rn.may_sp ma)
  have bb:=Spn.may_le (Rn.may_sp mb)
  refine ⟨⟨ha.1.1, ?_⟩,ha.2.1,fun x hx=>?_⟩
  ·show i64R (a.sp.n + b.sp.n)
   unfold i64R; omega
  ·rcases List.mem_append.1 hx with h | h
   ·exact ha.2.2 x h
   ·exact hb.2.2 x h
 ·exact Rn.z_ok
theorem zK9 (a b : Rn) : (zED a b).rs.length ≤ 1000:=by
 unfold zED
 split
 ·rename_i h
  obtain ⟨ma,mb,_⟩:=zFC.1 h
  have ba:=Spn.may_le (Rn.may_sp ma)
  have bb:=Spn.may_le (Rn.may_sp mb)
  have la:=Rn.may_len ma
  have lb:=Rn.may_len mb
  show (a.rs ++ b.rs).length ≤ _
  rw [List.length_append]; omega
 ·exact Nat.zero_le _
theorem zV3 {r : Rn} {n : Int} (h : r.ok) (hc : r.cutE n = 0) : (r.fst n).ok:=by
 obtain ⟨hm,h0,h1⟩:=Rn.cutE_iff.1 hc
 have hb:=Spn.may_le (Rn.may_sp hm)
 exact ⟨⟨h.1.1,by show i64R n; unfold i64R; omega⟩,h.2.1,fun x hx=>h.2.2 x (List.mem_of_mem_take hx)⟩
theorem zVO {r : Rn} {n : Int} (h : r.ok) (hc : r.cutE n = 0) : (r.snd n).ok:=by
 obtain ⟨hm,h0,h1⟩:=Rn.cutE_iff.1 hc
 have hb:=Spn.may_le (Rn.may_sp hm)
 exact ⟨⟨⟨h.1.1.1,by show i64R (r.sp.f.c + n); unfold i64R; omega⟩,by show i64R (r.sp.n - n); unfold i64R; omega⟩,⟨h.1.1.1,by show i64R (r.sp.f.c + (n - 1)); unfold i64R; omega⟩,fun x hx=>h.2.2 x (List.mem_of_mem_drop hx)⟩
set_option maxHeartbeats 32000000 in
theorem zEP {a : AV} {l : List Rn} (hS : Sl 10 isRn a l) (hl : l.length ≤ 100000) (hd : ∀ r ∈ l,r.rs.length ≤ 1000000) (hf : l.length + 3000000 < fuel) : ∃ r,Sl 10 isRn r (zBM l) ∧ ∀ M,zAF Try.prog (fsT tbl) fuel (d + 9) (.fn 19) [a] M = some (r,M):=by
 have ll:=hS.len
 refine zK0 tf19 rfl (fun M=>by simp only [icyL,fun M=>hS.icy M 12 (by omega)]) ?_
 refine zAX tf19 rfl (by simp only [icyL,fun M=>hS.icy M 12 (by omega)]) (by simp [a19]) fun b' ht hx=>?_
 have h0:=hx 0 _ rfl
 clear hx
 simp only [a19,c19,zz0,zz2,zzm] at ht ⊢
 simp (maxSteps:=2000000) (disch:=first | omega | assumption | (simp only [DS,Nat.reduceAdd, *]; done) | (simp only [DZ]; omega)) only [RUN,RU,zA4,zA2,zA1,zA5,frzL,slot,lay,icyL,zA6,zA0,kR,reduceIte,Nat.reduceEqDiff,Nat.reduceBEq,Nat.reduceLT,Nat.reduceAdd,Nat.reduceLeDiff,Nat.reduceSub,Nat.reduceMul,Int.reduceLT,Int.reduceLE,Int.reduceEq,Int.reduceAdd,Int.reduceSub,Int.reduceMul,h0,ll,hS.fz.rows,hS.fz.one,hS.fz.cells,hS.fz.icy,hS.fz.frz]
 refine zCH (I:=fun n t N => ∃ (i : Nat) (o : AV),n = l.length - i ∧ i ≤ l.length ∧ nth zAC t 2 = o ∧ nth zAC t 13 = a ∧ nth zAC t 14 = I64 l.length ∧ nth zAC t 15 = I64 i ∧ Wf N ∧ SlM N 10 isRn o (zBM (l.take i)) ∧ (zBM (l.take i)).length ≤ i ∧ (∀ q ∈ zBM (l.take i),q.rs.length ≤ 1000000)) (n:=l.length) (by omega) ?_ ?_
 ·refine ⟨0,NIL,rfl,Nat.zero_le _, ?_, ?_, ?_, ?_,Wf.mem0,SlM.nil,Nat.le_refl 0,(fun _ h=>by cases h)⟩ <;> simp (maxSteps:=2000000) (disch:=first | omega | assumption | (simp only [DS,Nat.reduceAdd, *]; done) | (simp only [DZ]; omega)) only [RUN,RU,zA4,zA2,zA1,zA5,frzL,slot,lay,icyL,zA6,zA0,kR,reduceIte,Nat.reduceEqDiff,Nat.reduceBEq,Nat.reduceLT,Nat.reduceAdd,Nat.reduceLeDiff,Nat.reduceSub,Nat.reduceMul,Int.reduceLT,Int.reduceLE,Int.reduceEq,Int.reduceAdd,Int.reduceSub,Int.reduceMul,h0,ll]
  all_goals first | rfl | assumption | done
 ·rintro n t N hlt ⟨i,o,rfl,hi,g2,g13,g14,g15,w,sm,bl,bd⟩
  simp only [ht] at hlt ⊢
  have oo:=sm.one
  have oc:=sm.cells
  by_cases hc : i < l.length
  ·have q1 : decide ((i : Int) < l.length) = true:=decide_eq_true (by omega)
   have w1 : IntKind.i64.wrap ((i : Int) + 1) = ((i + 1 : Nat) : Int):=by rw [wrap_i64] <;> omega
   obtain ⟨r,hiad,hr,hrl⟩:=hS.iad i hc
   have hts:=zKD (l.take i) l[i]
   rw [← zBJ l i hc] at hts
   have hal:=zMG (zBM (l.take i)) l[i]
   have hde:=hd l[i] (List.getElem_mem hc)
   generalize l[i] = e at *
   generalize zBM (l.take i) = out at *
   obtain ⟨ra,rfl,hra,hok⟩:=hr
   have ora:=hra.one
   have olen:=sm.len
   have rlo : ∀ m,N.size ≤ m → ((rowsOf o).all fun i=>Nat.blt i m) = true:=fun m h=>zBB sm.rl h
   obtain ⟨rt,hrt,htw⟩:=zHR (fuel:=fuel) (d:=d + 6) hra (by omega)
   have ort:=hrt.one
   by_cases hz : out.length = 0
   ·have ho : out = []:=List.eq_nil_of_length_eq_zero hz
    subst ho
    have olen' : ∀ N,lenO N o = some (I64 0,N):=olen
    have w2 : IntKind.i64.wrap (-1) = -1:=by decide
    have q2 : decide ((0 : Int) ≤ -1) = false:=by decide
    have eA : addR [] e = [] ++ [e]:=rfl
    rw [eA] at hts hal
    simp (maxSteps:=2000000) (disch:=first | omega | assumption | (simp only [DS,Nat.reduceAdd, *]; done) | (simp only [DZ]; omega)) only [RUN,RU,zA4,zA2,zA1,zA5,frzL,slot,lay,icyL,zA6,zA0,kR,reduceIte,Nat.reduceEqDiff,Nat.reduceBEq,Nat.reduceLT,Nat.reduceAdd,Nat.reduceLeDiff,Nat.reduceSub,Nat.reduceMul,Int.reduceLT,Int.reduceLE,Int.reduceEq,Int.reduceAdd,Int.reduceSub,Int.reduceMul,g2,g13,g14,g15,q1,hiad,hra.fz.rows,hra.fz.one,hra.fz.cells,hra.fz.icy,hra.fz.frz,hrt.fz.rows,hrt.fz.one,hrt.fz.cells,hrt.fz.icy,hrt.fz.frz,w,oo,oc,rlo,olen',w2,q2,htw]
    refine app1 (bytes:=80) (x:=e) ((w.add _).upd _ _) (sm.keep fun j hj=>?_) zCJ ⟨rt,rfl,hrt,hok⟩ rfl (by omega) (by simp) (by simp) fun o' M' sm' w' le' kp nw wm' rl on oc'=>?_
    ·have:=sm.lt j hj
     rw [zA7 (w.add _) _ _ _ (by omega),zAP w _ _ this]
    simp (maxSteps:=2000000) (disch:=first | omega | assumption | (simp only [DS,Nat.reduceAdd, *]; done) | (simp only [DZ]; omega)) only [RUN,RU,zA4,zA2,zA1,zA5,frzL,slot,lay,icyL,zA6,zA0,kR,reduceIte,Nat.reduceEqDiff,Nat.reduceBEq,Nat.reduceLT,Nat.reduceAdd,Nat.reduceLeDiff,Nat.reduceSub,Nat.reduceMul,Int.reduceLT,Int.reduceLE,Int.reduceEq,Int.reduceAdd,Int.reduceSub,Int.reduceMul,g2,g13,g14,g15,w1]
    refine ⟨hlt,l.length - (i + 1),by omega,i + 1,o',rfl,by omega,rfl,rfl,w',by rw [hts]; exact sm',by rw [hts]; simp,fun q hq=>?_⟩
    rw [hts] at hq
    simp at hq
    subst hq
    exact hde
   ·obtain ⟨n,hn⟩ : ∃ n : Nat,out.length = n + 1:=⟨out.length - 1,by omega⟩
    have hnl : n < out.length:=by omega
    have w2 : IntKind.i64.wrap ((out.length : Int) - 1) = (n : Int):=by rw [wrap_i64] <;> omega
    have q2 : decide ((0 : Int) ≤ (n : Int)) = true:=decide_eq_true (by omega)
    obtain ⟨id,cs,r,hrow,lid,hg,hcs,hoad,hr2,hrl2,hpt,hgt,hpp,hset⟩:=sm.atS hnl
    have hgl : out.getLast? = some out[n]:=by rw [List.getLast?_eq_getElem?,hn,Nat.add_sub_cancel,List.getElem?_eq_getElem hnl]
    have hqd:=bd out[n] (List.getElem_mem hnl)
    have hon1 : out.length - 1 = n:=by omega
    unfold addR at hts hal
    rw [hgl] at hts hal
    simp only [hon1] at hts hal
    generalize out[n] = q at *
    obtain ⟨rq,rfl,hrq,hqok⟩:=hr2
    have orq:=hrq.one
    have hla:=fun M=>@zTE fuel (d + 2) q rq hrq hqok M
    have idN : id ≠ N.size:=by omega
    have hn10 : (n : Nat) * 10 + 10 ≤ cs.length:=by omega
    have fin : ∀ (x : Rn) (o' : AV) (M' : Mem),zBM (l.take (i + 1)) = out ++ [x] → x = e → SlM M' 10 isRn o' (out ++ [x]) → Wf M' → Wf M' ∧ SlM M' 10 isRn o' (zBM (l.take (i + 1))) ∧ (zBM (l.take (i + 1))).length ≤ i + 1 ∧ ∀ q ∈ zBM (l.take (i + 1)),q.rs.length ≤ 1000000:=by
     intro x o' M' h1 h2 h3 h4
     subst h2
     rw [h1]
     refine ⟨h4,h3,by simp; omega,fun q hq=>?_⟩
     rcases List.mem_append.1 hq with h | h
     ·exact bd q h
     ·rw [List.mem_singleton] at h; subst h; exact hde
    cases c1 : zKF q e with
    | false =>
     rw [c1] at hts hal
     simp only [Bool.false_eq_true,if_false] at hts hal
     unfold zKF at c1
     cases c2 : decide (e.af = q.last) with
     | false =>
      simp (maxSteps:=2000000) (disch:=first | omega | assumption | (simp only [DS,Nat.reduceAdd, *]; done) | (simp only [DZ]; omega)) only [RUN,RU,zA4,zA2,zA1,zA5,frzL,slot,lay,icyL,zA6,zA0,kR,reduceIte,Nat.reduceEqDiff,Nat.reduceBEq,Nat.reduceLT,Nat.reduceAdd,Nat.reduceLeDiff,Nat.reduceSub,Nat.reduceMul,Int.reduceLT,Int.reduceLE,Int.reduceEq,Int.reduceAdd,Int.reduceSub,Int.reduceMul,g2,g13,g14,g15,q1,hiad,hra.fz.rows,hra.fz.one,hra.fz.cells,hra.fz.icy,hra.fz.frz,hrt.fz.rows,hrt.fz.one,hrt.fz.cells,hrt.fz.icy,hrt.fz.frz,hrq.fz.rows,hrq.fz.one,hrq.fz.cells,hrq.fz.icy,hrq.fz.frz,w,oo,oc,rlo,olen,w2,q2,htw,hoad,hg,hpt,hla,↓pIdE,zAK,↓pIdN,zAH,↓pHdE,zAI,↓pHdN,zAJ,↓pLbE,zAL,↓pLbN,zAM,↓pSpE,zAN,↓pSpN,zAO,ETA,c2]
      refine app1 (bytes:=80) (x:=e) ((w.add _).upd _ _) (sm.keep fun j hj=>?_) zCJ ⟨rt,rfl,hrt,hok⟩ rfl (by omega) (by omega) (by omega) fun o' M' sm' w' le' kp nw wm' rl on oc'=>?_
      ·have:=sm.lt j hj
       rw [zA7 (w.add _) _ _ _ (by omega),zAP w _ _ this]
      simp (maxSteps:=2000000) (disch:=first | omega | assumption | (simp only [DS,Nat.reduceAdd, *]; done) | (simp only [DZ]; omega)) only [RUN,RU,zA4,zA2,zA1,zA5,frzL,slot,lay,icyL,zA6,zA0,kR,reduceIte,Nat.reduceEqDiff,Nat.reduceBEq,Nat.reduceLT,Nat.reduceAdd,Nat.reduceLeDiff,Nat.reduceSub,Nat.reduceMul,Int.reduceLT,Int.reduceLE,Int.reduceEq,Int.reduceAdd,Int.reduceSub,Int.reduceMul,g2,g13,g14,g15,w1]
      exact ⟨hlt,l.length - (i + 1),by omega,i + 1,o',rfl,by omega,rfl,rfl,fin e o' M' hts rfl sm' w'⟩
     | true =>
      rw [c2,Bool.true_and] at c1
      simp (maxSteps:=2000000) (disch:=first | omega | assumption | (simp only [DS,Nat.reduceAdd, *]; done) | (simp only [DZ]; omega)) only [RUN,RU,zA4,zA2,zA1,zA5,frzL,slot,lay,icyL,zA6,zA0,kR,reduceIte,Nat.reduceEqDiff,Nat.reduceBEq,Nat.reduceLT,Nat.reduceAdd,Nat.reduceLeDiff,Nat.reduceSub,Nat.reduceMul,Int.reduceLT,Int.reduceLE,Int.reduceEq,Int.reduceAdd,Int.reduceSub,Int.reduceMul,g2,g13,g14,g15,q1,hiad,hra.fz.rows,hra.fz.one,hra.fz.cells,hra.fz.icy,hra.fz.frz,hrt.fz.rows,hrt.fz.one,hrt.fz.cells,hrt.fz.icy,hrt.fz.frz,hrq.fz.rows,hrq.fz.one,hrq.fz.cells,hrq.fz.icy,hrq.fz.frz,w,oo,oc,rlo,olen,w2,q2,htw,hoad,hg,hpt,hla,↓pIdE,zAK,↓pIdN,zAH,↓pHdE,zAI,↓pHdN,zAJ,↓pLbE,zAL,↓pLbN,zAM,↓pSpE,zAN,↓pSpN,zAO,ETA,c2,c1]
      refine app1 (bytes:=80) (x:=e) ((w.add _).upd _ _) (sm.keep fun j hj=>?_) zCJ ⟨rt,rfl,hrt,hok⟩ rfl (by omega) (by omega) (by omega) fun o' M' sm' w' le' kp nw wm' rl on oc'=>?_
      ·have:=sm.lt j hj
       rw [zA7 (w.add _) _ _ _ (by omega),zAP w _ _ this]
      simp (maxSteps:=2000000) (disch:=first | omega | assumption | (simp only [DS,Nat.reduceAdd, *]; done) | (simp only [DZ]; omega)) only [RUN,RU,zA4,zA2,zA1,zA5,frzL,slot,lay,icyL,zA6,zA0,kR,reduceIte,Nat.reduceEqDiff,Nat.reduceBEq,Nat.reduceLT,Nat.reduceAdd,Nat.reduceLeDiff,Nat.reduceSub,Nat.reduceMul,Int.reduceLT,Int.reduceLE,Int.reduceEq,Int.reduceAdd,Int.reduceSub,Int.reduceMul,g2,g13,g14,g15,w1]
      exact ⟨hlt,l.length - (i + 1),by omega,i + 1,o',rfl,by omega,rfl,rfl,fin e o' M' hts rfl sm' w'⟩
    | true =>
     rw [c1] at hts hal
     simp only [if_true] at hts hal
     unfold zKF at c1
     simp only [Bool.and_eq_true] at c1
     obtain ⟨c1,c2⟩:=c1
     obtain ⟨v,⟨ca,cb,rfl,hca,hcb⟩,hcut⟩:=zG7 (fuel:=fuel) (d:=d + 1) (n:=room q) hra (by omega)
     have oca:=hca.one
     have ocb:=hcb.one
     have hpn:=hgt 4 (by omega)
     have hnx : decide (e.sp.f = (⟨e.af.hd,IntKind.i64.wrap (e.af.c + 1)⟩ : Eid)) = true:=c2
     have wA : ∀ (M : Mem) p q,Wf M → Wf ((M.add p).upd M.size q):=fun M p q h=>(h.add p).upd _ _
     have hzR : (rnR (⟨⟨Eid.z,0⟩,Eid.z,[]⟩ : Rn) NIL).length = 10:=rfl
     by_cases q3 : e.cutE (room q) = 0
     ·have q3' : decide (e.cutE (room q) = 0) = true:=decide_eq_true q3
      have eA : e.cutA (room q) = e.fst (room q):=by unfold Rn.cutA; rw [if_pos q3]
      have eB : e.cutB (room q) = e.snd (room q):=by unfold Rn.cutB; rw [if_pos q3]
      simp only [q3,if_true] at hts hal
      rw [eA] at hca hcut
      rw [eB] at hcb hcut
      have okA:=zV3 hok q3
      have okB:=zVO hok q3
      have lA : (e.fst (room q)).rs.length ≤ 1000000:=by simp only [Rn.fst,List.length_take]; omega
      have lB : (e.snd (room q)).rs.length ≤ 1000000:=by simp only [Rn.snd,List.length_drop]; omega
      have hjl:=zK9 q (e.fst (room q))
      have hjok:=zMZ hqok okA
      obtain ⟨v2,⟨jr,rfl,hjr⟩,hjoin⟩:=zHQ (fuel:=fuel) (d:=d) hrq hca hqok okA hqd lA (by omega)
      obtain ⟨bt,hbt,hbw⟩:=zHR (fuel:=fuel) (d:=d + 6) hcb (by omega)
      have ojr:=hjr.one
      have obt:=hbt.one
      generalize e.fst (room q) = eF at *
      generalize e.snd (room q) = eS at *
      generalize zED q eF = jj at *
      unfold room at hcut q3 q3'
      clear hpp
      simp (maxSteps:=2000000) (disch:=first | omega | assumption | (simp only [DS,Nat.reduceAdd, *]; done) | (simp only [DZ]; omega)) only [RUN,RU,zA4,zA2,zA1,zA5,frzL,slot,lay,icyL,zA6,zA0,kR,reduceIte,Nat.reduceEqDiff,Nat.reduceBEq,Nat.reduceLT,Nat.reduceAdd,Nat.reduceLeDiff,Nat.reduceSub,Nat.reduceMul,Int.reduceLT,Int.reduceLE,Int.reduceEq,Int.reduceAdd,Int.reduceSub,Int.reduceMul,g2,g13,g14,g15,q1,hiad,hra.fz.rows,hra.fz.one,hra.fz.cells,hra.fz.icy,hra.fz.frz,hrt.fz.rows,hrt.fz.one,hrt.fz.cells,hrt.fz.icy,hrt.fz.frz,hrq.fz.rows,hrq.fz.one,hrq.fz.cells,hrq.fz.icy,hrq.fz.frz,w,oo,oc,rlo,olen,w2,q2,htw,hoad,hg,hpt,hla,↓pIdE,zAK,↓pIdN,zAH,↓pHdE,zAI,↓pHdN,zAJ,↓pLbE,zAL,↓pLbN,zAM,↓pSpE,zAN,↓pSpN,zAO,ETA,c1,hnx,hpn,hcut,q3',hca.fz.rows,hca.fz.one,hca.fz.cells,hca.fz.icy,hca.fz.frz,hcb.fz.rows,hcb.fz.one,hcb.fz.cells,hcb.fz.icy,hcb.fz.frz,hjoin,hjr.fz.rows,hjr.fz.one,hjr.fz.cells,hjr.fz.icy,hjr.fz.frz,hbw,hbt.fz.rows,hbt.fz.one,hbt.fz.cells,hbt.fz.icy,hbt.fz.frz]
      have hidn1 : id ≠ N.size + 1:=by omega
      have hidn2 : id ≠ N.size + 1 + 1:=by omega
      refine app1 (bytes:=80) (x:=eS) (by simp (maxSteps:=2000000) (disch:=first | omega | assumption | (simp only [DS,Nat.reduceAdd, *]; done) | (simp only [DZ]; omega)) only [RUN,RU,zA4,zA2,zA1,zA5,frzL,slot,lay,icyL,zA6,zA0,kR,reduceIte,Nat.reduceEqDiff,Nat.reduceBEq,Nat.reduceLT,Nat.reduceAdd,Nat.reduceLeDiff,Nat.reduceSub,Nat.reduceMul,Int.reduceLT,Int.reduceLE,Int.reduceEq,Int.reduceAdd,Int.reduceSub,Int.reduceMul,w]) (hset (rnR jj jr) jj ⟨jr,rfl,hjr,hjok⟩ rfl _ ?hgX) zCJ ⟨bt,rfl,hbt,okB⟩ rfl (by omega) (by rw [List.length_set]; omega) (by rw [List.length_set]; omega) fun o' M' sm' w' le' kp nw wm' rl on oc'=>?mainX
      case hgX=>simp (maxSteps:=2000000) (disch:=first | omega | assumption | (simp only [DS,Nat.reduceAdd, *]; done) | (simp only [DZ]; omega)) only [RUN,RU,zA4,zA2,zA1,zA5,frzL,slot,lay,icyL,zA6,zA0,kR,reduceIte,Nat.reduceEqDiff,Nat.reduceBEq,Nat.reduceLT,Nat.reduceAdd,Nat.reduceLeDiff,Nat.reduceSub,Nat.reduceMul,Int.reduceLT,Int.reduceLE,Int.reduceEq,Int.reduceAdd,Int.reduceSub,Int.reduceMul,w]
      case mainX =>
       simp (maxSteps:=2000000) (disch:=first | omega | assumption | (simp only [DS,Nat.reduceAdd, *]; done) | (simp only [DZ]; omega)) only [RUN,RU,zA4,zA2,zA1,zA5,frzL,slot,lay,icyL,zA6,zA0,kR,reduceIte,Nat.reduceEqDiff,Nat.reduceBEq,Nat.reduceLT,Nat.reduceAdd,Nat.reduceLeDiff,Nat.reduceSub,Nat.reduceMul,Int.reduceLT,Int.reduceLE,Int.reduceEq,Int.reduceAdd,Int.reduceSub,Int.reduceMul,g2,g13,g14,g15,w1]
       refine ⟨hlt,l.length - (i + 1),by omega,i + 1,o',rfl,by omega,rfl,rfl,w',by rw [hts]; exact sm',by rw [hts]; simp; omega,fun q' hq=>?_⟩
       rw [hts] at hq
       rcases List.mem_append.1 hq with h | h
       ·rcases List.mem_or_eq_of_mem_set h with h | rfl
        ·exact bd q' h
        ·omega
       ·rw [List.mem_singleton] at h; subst h; exact lB
     ·have q3' : decide (e.cutE (room q) = 0) = false:=decide_eq_false q3
      simp only [q3,if_false] at hts hal
      have hjl:=zK9 q e
      have hjok:=zMZ hqok hok
      obtain ⟨v2,⟨jr,rfl,hjr⟩,hjoin⟩:=zHQ (fuel:=fuel) (d:=d) hrq hra hqok hok hqd hde (by omega)
      have ojr:=hjr.one
      have hidn1 : id ≠ N.size + 1:=by omega
      have hidn2 : id ≠ N.size + 1 + 1:=by omega
      have hidn3 : id ≠ N.size + 1 + 1 + 1:=by omega
      generalize zED q e = jj at *
      unfold room at q3 q3'
      generalize e.cutA (room q) = eF at *
      generalize e.cutB (room q) = eS at *
      unfold room at hcut
      clear hpp
      by_cases q4 : zGP q e = 0
      ·have q4' : decide (zGP q e = 0) = true:=decide_eq_true q4
       simp only [q4,if_true] at hts hal
       simp (maxSteps:=2000000) (disch:=first | omega | assumption | (simp only [DS,Nat.reduceAdd, *]; done) | (simp only [DZ]; omega)) only [RUN,RU,zA4,zA2,zA1,zA5,frzL,slot,lay,icyL,zA6,zA0,kR,reduceIte,Nat.reduceEqDiff,Nat.reduceBEq,Nat.reduceLT,Nat.reduceAdd,Nat.reduceLeDiff,Nat.reduceSub,Nat.reduceMul,Int.reduceLT,Int.reduceLE,Int.reduceEq,Int.reduceAdd,Int.reduceSub,Int.reduceMul,g2,g13,g14,g15,q1,hiad,hra.fz.rows,hra.fz.one,hra.fz.cells,hra.fz.icy,hra.fz.frz,hrt.fz.rows,hrt.fz.one,hrt.fz.cells,hrt.fz.icy,hrt.fz.frz,hrq.fz.rows,hrq.fz.one,hrq.fz.cells,hrq.fz.icy,hrq.fz.frz,w,oo,oc,rlo,olen,w2,q2,htw,hoad,hg,hpt,hla,↓pIdE,zAK,↓pIdN,zAH,↓pHdE,zAI,↓pHdN,zAJ,↓pLbE,zAL,↓pLbN,zAM,↓pSpE,zAN,↓pSpN,zAO,ETA,c1,hnx,hpn,hcut,q3',hca.fz.rows,hca.fz.one,hca.fz.cells,hca.fz.icy,hca.fz.frz,hcb.fz.rows,hcb.fz.one,hcb.fz.cells,hcb.fz.icy,hcb.fz.frz,hjoin,hjr.fz.rows,hjr.fz.one,hjr.fz.cells,hjr.fz.icy,hjr.fz.frz,q4',w1]
       refine ⟨hlt,l.length - (i + 1),by omega,i + 1,o,rfl,by omega,rfl,by simp (maxSteps:=2000000) (disch:=first | omega | assumption | (simp only [DS,Nat.reduceAdd, *]; done) | (simp only [DZ]; omega)) only [RUN,RU,zA4,zA2,zA1,zA5,frzL,slot,lay,icyL,zA6,zA0,kR,reduceIte,Nat.reduceEqDiff,Nat.reduceBEq,Nat.reduceLT,Nat.reduceAdd,Nat.reduceLeDiff,Nat.reduceSub,Nat.reduceMul,Int.reduceLT,Int.reduceLE,Int.reduceEq,Int.reduceAdd,Int.reduceSub,Int.reduceMul,w], ?_,by rw [hts]; simp; omega,fun q' hq=>?_⟩
       ·rw [hts]
        refine hset (rnR jj jr) jj ⟨jr,rfl,hjr,hjok⟩ rfl _ ?_
        simp (maxSteps:=2000000) (disch:=first | omega | assumption | (simp only [DS,Nat.reduceAdd, *]; done) | (simp only [DZ]; omega)) only [RUN,RU,zA4,zA2,zA1,zA5,frzL,slot,lay,icyL,zA6,zA0,kR,reduceIte,Nat.reduceEqDiff,Nat.reduceBEq,Nat.reduceLT,Nat.reduceAdd,Nat.reduceLeDiff,Nat.reduceSub,Nat.reduceMul,Int.reduceLT,Int.reduceLE,Int.reduceEq,Int.reduceAdd,Int.reduceSub,Int.reduceMul,w]
       ·rw [hts] at hq
        rcases List.mem_or_eq_of_mem_set hq with h | rfl
        ·exact bd q' h
        ·omega
      ·have q4' : decide (zGP q e = 0) = false:=decide_eq_false q4
       simp only [q4,if_false] at hts hal
       simp (maxSteps:=2000000) (disch:=first | omega | assumption | (simp only [DS,Nat.reduceAdd, *]; done) | (simp only [DZ]; omega)) only [RUN,RU,zA4,zA2,zA1,zA5,frzL,slot,lay,icyL,zA6,zA0,kR,reduceIte,Nat.reduceEqDiff,Nat.reduceBEq,Nat.reduceLT,Nat.reduceAdd,Nat.reduceLeDiff,Nat.reduceSub,Nat.reduceMul,Int.reduceLT,Int.reduceLE,Int.reduceEq,Int.reduceAdd,Int.reduceSub,Int.reduceMul,g2,g13,g14,g15,q1,hiad,hra.fz.rows,hra.fz.one,hra.fz.cells,hra.fz.icy,hra.fz.frz,hrt.fz.rows,hrt.fz.one,hrt.fz.cells,hrt.fz.icy,hrt.fz.frz,hrq.fz.rows,hrq.fz.one,hrq.fz.cells,hrq.fz.icy,hrq.fz.frz,w,oo,oc,rlo,olen,w2,q2,htw,hoad,hg,hpt,hla,↓pIdE,zAK,↓pIdN,zAH,↓pHdE,zAI,↓pHdN,zAJ,↓pLbE,zAL,↓pLbN,zAM,↓pSpE,zAN,↓pSpN,zAO,ETA,c1,hnx,hpn,hcut,q3',hca.fz.rows,hca.fz.one,hca.fz.cells,hca.fz.icy,hca.fz.frz,hcb.fz.rows,hcb.fz.one,hcb.fz.cells,hcb.fz.icy,hcb.fz.frz,hjoin,hjr.fz.rows,hjr.fz.one,hjr.fz.cells,hjr.fz.icy,hjr.fz.frz,q4']
       refine app1 (bytes:=80) (x:=e) (by simp (maxSteps:=2000000) (disch:=first | omega | assumption | (simp only [DS,Nat.reduceAdd, *]; done) | (simp only [DZ]; omega)) only [RUN,RU,zA4,zA2,zA1,zA5,frzL,slot,lay,icyL,zA6,zA0,kR,reduceIte,Nat.reduceEqDiff,Nat.reduceBEq,Nat.reduceLT,Nat.reduceAdd,Nat.reduceLeDiff,Nat.reduceSub,Nat.reduceMul,Int.reduceLT,Int.reduceLE,Int.reduceEq,Int.reduceAdd,Int.reduceSub,Int.reduceMul,w]) (sm.keep fun j hj=>?_) zCJ ⟨rt,rfl,hrt,hok⟩ rfl (by omega) (by omega) (by omega) fun o' M' sm' w' le' kp nw wm' rl on oc'=>?_
       ·have:=sm.lt j hj
        simp (maxSteps:=2000000) (disch:=first | omega | assumption | (simp only [DS,Nat.reduceAdd, *]; done) | (simp only [DZ]; omega)) only [RUN,RU,zA4,zA2,zA1,zA5,frzL,slot,lay,icyL,zA6,zA0,kR,reduceIte,Nat.reduceEqDiff,Nat.reduceBEq,Nat.reduceLT,Nat.reduceAdd,Nat.reduceLeDiff,Nat.reduceSub,Nat.reduceMul,Int.reduceLT,Int.reduceLE,Int.reduceEq,Int.reduceAdd,Int.reduceSub,Int.reduceMul,w]
       simp (maxSteps:=2000000) (disch:=first | omega | assumption | (simp only [DS,Nat.reduceAdd, *]; done) | (simp only [DZ]; omega)) only [RUN,RU,zA4,zA2,zA1,zA5,frzL,slot,lay,icyL,zA6,zA0,kR,reduceIte,Nat.reduceEqDiff,Nat.reduceBEq,Nat.reduceLT,Nat.reduceAdd,Nat.reduceLeDiff,Nat.reduceSub,Nat.reduceMul,Int.reduceLT,Int.reduceLE,Int.reduceEq,Int.reduceAdd,Int.reduceSub,Int.reduceMul,g2,g13,g14,g15,w1]
       exact ⟨hlt,l.length - (i + 1),by omega,i + 1,o',rfl,by omega,rfl,rfl,fin e o' M' hts rfl sm' w'⟩
  ·obtain rfl : i = l.length:=by omega
   have q1 : decide ((l.length : Int) < l.length) = false:=decide_eq_false (by omega)
   rw [List.take_length] at sm
   obtain ⟨ro,hro,hfr⟩:=zFN sm zCJ.cel 12 (by omega)
   have hfr:=hfr N (fun _ _=>rfl)
   simp (maxSteps:=2000000) (disch:=first | omega | assumption | (simp only [DS,Nat.reduceAdd, *]; done) | (simp only [DZ]; omega)) only [RUN,RU,zA4,zA2,zA1,zA5,frzL,slot,lay,icyL,zA6,zA0,kR,reduceIte,Nat.reduceEqDiff,Nat.reduceBEq,Nat.reduceLT,Nat.reduceAdd,Nat.reduceLeDiff,Nat.reduceSub,Nat.reduceMul,Int.reduceLT,Int.reduceLE,Int.reduceEq,Int.reduceAdd,Int.reduceSub,Int.reduceMul,g2,g13,g14,g15,q1,hfr,oo,oc]
   exact ⟨_,hro,rfl⟩
end Go.Proofs.Ytakaojjlfcmphaa
namespace Go.Proofs.Ytakaojjlfcmphaa
open Go Go.Ax
def Rn.elR (r : Rn) : List El:=(List.range r.sp.n.toNat).map fun (i : Nat)=>⟨r.sp.at i,r.afAt i,r.rs.getD i 0⟩
def elsR (l : List Rn) : List El:=l.flatMap Rn.elR
theorem zEL (l m : List Rn) : elsR (l ++ m) = elsR l ++ elsR m:=by simp [elsR]
theorem zD1 (l : List Rn) (r : Rn) : elsR (l ++ [r]) = elsR l ++ r.elR:=by simp [elsR]
theorem zXI (r : Rn) : prs r.elR = r.els:=by simp [prs,Rn.elR,Rn.els,Function.comp_def]
theorem zJE (l : List Rn) : prs (elsR l) = elsL l:=by
 induction l with
 | nil=>rfl
 | cons r l ih =>
  have : elsR (r :: l) = r.elR ++ elsR l:=by simp [elsR]
  rw [this]
  unfold prs at *
  rw [List.map_append,ih]
  have:=zXI r
  unfold prs at this
  rw [this]
  simp [elsL]
theorem zBD (r : Rn) : r.elR.length = r.sp.n.toNat:=by simp [Rn.elR]
theorem zBR (r : Rn) (i : Nat) (h : i < r.elR.length) : r.elR[i] = ⟨r.sp.at i,r.afAt i,r.rs.getD i 0⟩:=by simp [Rn.elR]
def goes (q : Rn) (x : El) : Bool:=decide (q.sp.n < 64) && decide (x.af = q.sp.at (q.sp.n - 1)) && decide (x.id = q.sp.at q.sp.n)
def one (x : El) : Rn:=⟨⟨x.id,1⟩,x.af,[x.ch]⟩
def more (q : Rn) (x : El) : Rn:=⟨⟨q.sp.f,q.sp.n + 1⟩,q.af,q.rs ++ [x.ch]⟩
def addX (out : List Rn) (x : El) : List Rn :=
 match out.getLast? with
 | none=>out ++ [one x]
 | some q=>if goes q x then out.set (out.length - 1) (more q x) else out ++ [one x]
theorem zNI {α : Type} (o : List α) (q x : α) : (o ++ [q]).set ((o ++ [q]).length - 1) x = o ++ [x]:=by simp
theorem zIM (x : El) : addX [] x = [one x]:=rfl
theorem zDL (o : List Rn) (q : Rn) (x : El) : addX (o ++ [q]) x = if goes q x then o ++ [more q x] else o ++ [q] ++ [one x]:=by
 unfold addX
 rw [List.getLast?_concat]
 simp only [zNI]
theorem zOV (o : List Rn) (q r : Rn) : addR (o ++ [q]) r = if zKF q r = true then (if r.cutE (room q) = 0 then o ++ [zED q (r.fst (room q))] ++ [r.snd (room q)] else if zGP q r = 0 then o ++ [zED q r] else o ++ [q] ++ [r]) else o ++ [q] ++ [r]:=by
 unfold addR
 rw [List.getLast?_concat]
 simp only [zNI]
def zCU (E : List El) : List Rn:=E.foldl addX []
theorem at_at (s : Spn) (a b n : Int) : (⟨s.at a,n⟩ : Spn).at b = s.at (a + b):=by
 simp only [Spn.at]
 rw [Int.add_assoc]
theorem zRK {r : Rn} {k : Nat} (hk : 0 < k) : (r.snd k).elR = r.elR.drop k:=by
 apply List.ext_getElem
 ·rw [List.length_drop,zBD,zBD]
  simp only [Rn.snd]; omega
 ·intro i h1 h2
  rw [List.getElem_drop,zBR,zBR]
  have e1 : (r.snd k).sp.at i = r.sp.at ((k + i : Nat) : Int):=by
   simp only [Rn.snd,at_at]; congr 1
  have e2 : (r.snd k).afAt i = r.afAt ((k + i : Nat) : Int):=by
   unfold Rn.afAt
   rw [if_pos (show (0 : Int) < ((k + i : Nat) : Int) by omega)]
   by_cases h : (0 : Int) < i
   ·rw [if_pos h]
    simp only [Rn.snd,at_at]; congr 1; omega
   ·rw [if_neg h]
    simp only [Rn.snd]; congr 1; omega
  have e3 : (r.snd k).rs.getD i 0 = r.rs.getD (k + i) 0:=by
   simp only [Rn.snd,Int.toNat_natCast,List.getD_eq_getElem?_getD,List.getElem?_drop]
  rw [e1,e2,e3]
theorem zPY {r : Rn} {k : Nat} (hk : (k : Int) ≤ r.sp.n) : (r.fst k).elR = r.elR.take k:=by
 apply List.ext_getElem
 ·rw [List.length_take,zBD,zBD]
  simp only [Rn.fst]; omega
 ·intro i h1 h2
  rw [List.length_take,zBD] at h2
  rw [List.getElem_take,zBR,zBR]
  have e3 : (r.fst k).rs.getD i 0 = r.rs.getD i 0:=by
   simp only [Rn.fst,Int.toNat_natCast,List.getD_eq_getElem?_getD]
   rw [List.getElem?_take_of_lt (by omega)]
  rw [e3]
  rfl
theorem zFW {α : Type} (l : List α) (i : Nat) (h : i < l.length) : l.drop i = l[i] :: l.drop (i + 1):=List.drop_eq_getElem_cons h
theorem feed {q r : Rn} (o : List Rn) (n : Nat) (hn : r.sp.n = n) (hl : r.rs.length = n) (k : Nat) : ∀ (j : Nat),j + k ≤ n → q.sp.n + j + k ≤ 64 → 0 ≤ q.sp.n → (∀ i : Nat,j ≤ i → i < j + k → r.sp.at i = q.sp.at (q.sp.n + i) ∧ r.afAt i = q.sp.at (q.sp.n + i - 1)) →
  ((r.elR.drop j).take k).foldl addX (o ++ [⟨⟨q.sp.f,q.sp.n + j⟩,q.af,q.rs ++ r.rs.take j⟩]) = o ++ [⟨⟨q.sp.f,q.sp.n + (j + k : Nat)⟩,q.af,q.rs ++ r.rs.take (j + k)⟩]:=by
 induction k with
 | zero=>intro j _ _ _ _; simp
 | succ k ih =>
  intro j h1 h2 h3 h4
  have hj : j < r.elR.length:=by rw [zBD]; omega
  have hjr : j < r.rs.length:=by omega
  rw [zFW _ _ hj,List.take_succ_cons,List.foldl_cons,zDL,zBR]
  have hg : goes (⟨⟨q.sp.f,q.sp.n + j⟩,q.af,q.rs ++ r.rs.take j⟩ : Rn) ⟨r.sp.at j,r.afAt j,r.rs.getD j 0⟩ = true:=by
   unfold goes
   simp only [Bool.and_eq_true,decide_eq_true_eq]
   exact ⟨⟨by omega,(h4 j (by omega) (by omega)).2⟩,(h4 j (by omega) (by omega)).1⟩
  rw [if_pos hg]
  have hm : more (⟨⟨q.sp.f,q.sp.n + j⟩,q.af,q.rs ++ r.rs.take j⟩ : Rn) ⟨r.sp.at j,r.afAt j,r.rs.getD j 0⟩ = ⟨⟨q.sp.f,q.sp.n + (j + 1 : Nat)⟩,q.af,q.rs ++ r.rs.take (j + 1)⟩:=by
   unfold more
   have e : r.rs.getD j 0 = r.rs[j]:=by rw [List.getD_eq_getElem?_getD,List.getElem?_eq_getElem hjr]; rfl
   rw [e,zBJ _ _ hjr,List.append_assoc]
   simp only [Int.natCast_add,Int.natCast_one,Int.add_assoc]
  rw [hm,ih (j + 1) (by omega) (by omega) h3 fun i hj' hi=>h4 i (by omega) (by omega)]
  rw [show j + 1 + k = j + (k + 1) by omega]
theorem zCM {r : Rn} (h : 1 ≤ r.sp.n) : r.elR = ⟨r.sp.f,r.af,r.rs.getD 0 0⟩ :: r.elR.drop 1:=by
 have h0 : 0 < r.elR.length:=by rw [zBD]; omega
 have:=zFW r.elR 0 h0
 rw [List.drop_zero] at this
 refine this.trans ?_
 rw [zBR]
 simp [Spn.at,Rn.afAt]
theorem zSY {r : Rn} (o : List Rn) (n : Nat) (hn : r.sp.n = n) (hl : r.rs.length = n) (h1 : 1 ≤ n) (h2 : n ≤ 64) : (r.elR.drop 1).foldl addX (o ++ [one ⟨r.sp.f,r.af,r.rs.getD 0 0⟩]) = o ++ [r]:=by
 have e : (r.elR.drop 1).take (n - 1) = r.elR.drop 1:=by
  rw [List.take_of_length_le]
  rw [List.length_drop,zBD]; omega
 rw [← e]
 have:=feed (q:=⟨⟨r.sp.f,0⟩,r.af,[]⟩) (r:=r) o n hn hl (n - 1) 1 (by omega) (by simp only; omega) (Int.le_refl _) fun i hj hi=>?_
 ·have e1 : (⟨⟨r.sp.f,0 + (1 : Nat)⟩,r.af,[] ++ r.rs.take 1⟩ : Rn) = one ⟨r.sp.f,r.af,r.rs.getD 0 0⟩:=by
   unfold one
   have e0 : r.rs.take 1 = [r.rs.getD 0 0]:=by
    rw [zBJ r.rs 0 (by omega),List.getD_eq_getElem?_getD,List.getElem?_eq_getElem (show 0 < r.rs.length by omega)]
    simp
   rw [e0]; rfl
  have e2 : (⟨⟨r.sp.f,0 + (1 + (n - 1) : Nat)⟩,r.af,[] ++ r.rs.take (1 + (n - 1))⟩ : Rn) = r:=by
   have : 1 + (n - 1) = n:=by omega
   rw [this,List.take_of_length_le (by omega),List.nil_append,Int.zero_add,← hn]
  simp only at this
  rw [e1,e2] at this
  exact this
 ·unfold Rn.afAt
  rw [if_pos (show (0 : Int) < i by omega)]
  simp only [Spn.at,Int.zero_add,true_and]
theorem zW5 {l : List Int} : chkR l = 0 ↔ l.length ≤ 64 ∧ l.all okR = true:=by
 unfold chkR
 by_cases h : 64 < l.length
 ·rw [if_pos h]; simp; omega
 ·rw [if_neg h]
  cases l.all okR <;> simp [err]
  omega
theorem Rn.may_iff {r : Rn} : r.may = true ↔ r.sp.may = true ∧ (r.af = Eid.z ∨ (r.af.may = true ∧ r.af.c < r.sp.f.c)) ∧ (r.rs.length : Int) = r.sp.n ∧ r.rs.length ≤ 64 ∧ r.rs.all okR = true:=by
 unfold Rn.may
 simp only [Bool.and_eq_true,Bool.or_eq_true,decide_eq_true_eq,zW5,and_assoc]
theorem Spn.may_iff {s : Spn} : s.may = true ↔ s.f.may = true ∧ 1 ≤ s.n ∧ s.n ≤ 64 ∧ s.f.c + s.n ≤ 1099511627777:=by
 unfold Spn.may
 simp only [Bool.and_eq_true,decide_eq_true_eq,and_assoc]
theorem Eid.may_iff {x : Eid} : x.may = true ↔ x.hd.may = true ∧ 1 ≤ x.c ∧ x.c ≤ 1099511627776:=by
 unfold Eid.may
 simp only [Bool.and_eq_true,decide_eq_true_eq,and_assoc]
theorem zGQ {q r : Rn} (hq : q.may = true) (hr : r.may = true) (h1 : r.sp.f = q.sp.at q.sp.n) (h2 : q.sp.n + r.sp.n ≤ 64) : (q.both r).may = true:=by
 rw [Rn.may_iff] at *
 obtain ⟨a1,a2,a3,a4,a5⟩:=hq
 obtain ⟨b1,b2,b3,b4,b5⟩:=hr
 rw [Spn.may_iff] at *
 rw [h1] at b1
 simp only [Rn.both,Spn.at,List.length_append,List.all_append,a5,b5,Bool.and_self,and_true,Int.natCast_add] at *
 exact ⟨⟨a1.1,by omega,by omega,by omega⟩,a2,by omega,by omega⟩
theorem zMT {r : Rn} {k : Nat} (hr : r.may = true) (h0 : 0 < k) (h1 : (k : Int) ≤ r.sp.n) : (r.fst k).may = true:=by
 rw [Rn.may_iff] at *
 obtain ⟨a1,a2,a3,a4,a5⟩:=hr
 rw [Spn.may_iff] at *
 simp only [Rn.fst,Int.toNat_natCast,List.length_take]
 refine ⟨⟨a1.1,by omega,by omega,by omega⟩,a2,by omega,by omega, ?_⟩
 rw [List.all_eq_true] at *
 exact fun x hx=>a5 x (List.mem_of_mem_take hx)
theorem zNK {r : Rn} {k : Nat} (hr : r.may = true) (h0 : 0 < k) (h1 : (k : Int) < r.sp.n) : (r.snd k).may = true:=by
 rw [Rn.may_iff] at *
 obtain ⟨a1,a2,a3,a4,a5⟩:=hr
 rw [Spn.may_iff,Eid.may_iff] at *
 simp only [Rn.snd,Spn.at,Int.toNat_natCast,List.length_drop,Eid.may_iff]
 refine ⟨⟨⟨a1.1.1,by omega,by omega⟩,by omega,by omega,by omega⟩,.inr ⟨⟨a1.1.1,by omega,by omega⟩,by omega⟩,by omega,by omega, ?_⟩
 rw [List.all_eq_true] at *
 exact fun x hx=>a5 x (List.mem_of_mem_drop hx)
theorem Rn.last_at {q : Rn} (h : q.may = true) : q.last = q.sp.at (q.sp.n - 1):=by
 unfold Rn.last
 rw [if_pos (Rn.may_sp h)]
theorem zN3 {q r : Rn} (hq : q.may = true) : zKF q r = true ↔ r.af = q.sp.at (q.sp.n - 1) ∧ r.sp.f = q.sp.at q.sp.n:=by
 unfold zKF
 rw [Rn.last_at hq]
 simp only [Bool.and_eq_true,decide_eq_true_eq]
 have hb:=Spn.may_le (Rn.may_sp hq)
 constructor
 ·rintro ⟨h1,h2⟩
  refine ⟨h1, ?_⟩
  rw [h2,h1]
  simp only [Spn.at]
  rw [wrap_i64 (by omega) (by omega)]
  congr 1; omega
 ·rintro ⟨h1,h2⟩
  refine ⟨h1, ?_⟩
  rw [h2,h1]
  simp only [Spn.at]
  rw [wrap_i64 (by omega) (by omega)]
  congr 1; omega
theorem zJ3 {q r : Rn} (hq : q.may = true) (hr : r.may = true) (h1 : r.af = q.sp.at (q.sp.n - 1)) (h2 : r.sp.f = q.sp.at q.sp.n) (h3 : q.sp.n + r.sp.n ≤ 64) : zGP q r = 0:=by
 have bq:=Spn.may_le (Rn.may_sp hq)
 have br:=Spn.may_le (Rn.may_sp hr)
 have lq:=Rn.may_len hq
 rw [zFC,Rn.cutE_iff]
 refine ⟨hq,hr,⟨zGQ hq hr h2 h3,by omega,by simp only [Rn.both]; omega⟩, ?_, ?_⟩
 ·unfold Rn.both Rn.fst
  simp only
  rw [List.take_append_of_le_length (by omega),List.take_of_length_le (by omega)]
 ·unfold Rn.both Rn.snd
  simp only
  have e1 : q.sp.n.toNat = q.rs.length:=by omega
  rw [e1,List.drop_left]
  have e2 : (⟨q.sp.f,q.sp.n + r.sp.n⟩ : Spn).at q.sp.n = r.sp.f:=h2.symm
  have e3 : (⟨q.sp.f,q.sp.n + r.sp.n⟩ : Spn).at (q.sp.n - 1) = r.af:=h1.symm
  rw [e2,e3,show q.sp.n + r.sp.n - q.sp.n = r.sp.n by omega]
theorem zRX {o : List Rn} {q r : Rn} (hq : q.may = true) (hr : r.may = true) : addR (o ++ [q]) r = r.elR.foldl addX (o ++ [q]) ∧ ∃ o' q',addR (o ++ [q]) r = o' ++ [q'] ∧ (∀ x ∈ o',x ∈ o ∨ x.may = true) ∧ q'.may = true:=by
 have bq:=Spn.may_le (Rn.may_sp hq)
 have br:=Spn.may_le (Rn.may_sp hr)
 have lq:=Rn.may_len hq
 have lr:=Rn.may_len hr
 obtain ⟨n,hn⟩ : ∃ n : Nat,r.sp.n = n:=⟨r.sp.n.toNat,by omega⟩
 have hrm : room q = 64 - q.sp.n:=by unfold room; rw [wrap_i64 (by omega) (by omega)]
 have hqo : ∀ x ∈ o ++ [q],x ∈ o ∨ x.may = true:=fun x hx=>by
  rcases List.mem_append.1 hx with h | h
  ·exact .inl h
  ·rw [List.mem_singleton] at h; subst h; exact .inr hq
 rw [zOV]
 by_cases h : zKF q r = true
 ·rw [if_pos h]
  rw [zN3 hq] at h
  obtain ⟨h1,h2⟩:=h
  have h4 : ∀ i : Nat,i < n → r.sp.at i = q.sp.at (q.sp.n + i) ∧ r.afAt i = q.sp.at (q.sp.n + i - 1):=fun i hi=>by
   have e : r.sp.at i = q.sp.at (q.sp.n + i):=by
    simp only [Spn.at] at h2 ⊢
    rw [h2]
    simp only [Int.add_assoc]
   refine ⟨e, ?_⟩
   unfold Rn.afAt
   by_cases h0 : (0 : Int) < i
   ·rw [if_pos h0]
    simp only [Spn.at] at h2 ⊢
    rw [h2]
    simp only
    congr 1; omega
   ·have : (i : Int) = 0:=by omega
    rw [if_neg h0,this,h1,Int.add_zero]
  have hq0 : o ++ [q] = o ++ [⟨⟨q.sp.f,q.sp.n + (0 : Nat)⟩,q.af,q.rs ++ r.rs.take 0⟩]:=by simp
  by_cases h5 : q.sp.n + r.sp.n ≤ 64
  ·have hc : ¬r.cutE (room q) = 0:=by rw [Rn.cutE_iff,hrm]; omega
   rw [if_neg hc,if_pos (zJ3 hq hr h1 h2 h5)]
   have hj : zED q r = q.both r:=by unfold zED; rw [if_pos (zJ3 hq hr h1 h2 h5)]
   rw [hj]
   refine ⟨?_,o,_,rfl,fun x hx => .inl hx,zGQ hq hr h2 h5⟩
   have:=feed (q:=q) (r:=r) o n hn (by omega) n 0 (by omega) (by omega) (by omega) fun i _ hi=>h4 i (by omega)
   rw [← hq0,List.drop_zero,List.take_of_length_le (by rw [zBD]; omega)] at this
   rw [this]
   unfold Rn.both
   rw [Nat.zero_add,List.take_of_length_le (by omega),hn]
  ·by_cases h6 : q.sp.n < 64
   ·obtain ⟨k,hk⟩ : ∃ k : Nat,room q = k:=⟨(room q).toNat,by omega⟩
    have hc : r.cutE (room q) = 0:=by rw [Rn.cutE_iff,hrm]; exact ⟨hr,by omega,by omega⟩
    rw [if_pos hc,hk]
    have fm:=zMT (k:=k) hr (by omega) (by omega)
    have sm:=zNK (k:=k) hr (by omega) (by omega)
    have je:=zJ3 hq fm h1 h2 (by simp only [Rn.fst]; omega)
    have hj : zED q (r.fst k) = q.both (r.fst k):=by unfold zED; rw [if_pos je]
    rw [hj]
    refine ⟨?_,_,_,rfl,fun x hx=>?_,sm⟩
    ·have:=feed (q:=q) (r:=r) o n hn (by omega) k 0 (by omega) (by omega) (by omega) fun i _ hi=>h4 i (by omega)
     rw [← hq0,List.drop_zero] at this
     rw [← List.take_append_drop k r.elR,List.foldl_append,this]
     have e1 : (⟨⟨q.sp.f,q.sp.n + ((0 + k : Nat) : Int)⟩,q.af,q.rs ++ r.rs.take (0 + k)⟩ : Rn) = q.both (r.fst k):=by
      unfold Rn.both Rn.fst
      rw [Nat.zero_add,Int.toNat_natCast]
     rw [e1,← zRK (by omega),zCM (Spn.may_le (Rn.may_sp sm)).2.2.1,List.foldl_cons,zDL,if_neg]
     ·have hsn : (r.snd k).sp.n = (n - k : Nat):=by simp only [Rn.snd]; omega
      have hsl : (r.snd k).rs.length = n - k:=by have:=Rn.may_len sm; omega
      exact (zSY _ (n - k) hsn hsl (by omega) (by omega)).symm
     ·intro hg
      unfold goes at hg
      rw [Bool.and_eq_true,Bool.and_eq_true] at hg
      have:=of_decide_eq_true hg.1.1
      simp only [Rn.both,Rn.fst] at this
      omega
    ·rcases List.mem_append.1 hx with hx | hx
     ·exact .inl hx
     ·rw [List.mem_singleton] at hx; subst hx
      exact .inr (zGQ hq fm h2 (by simp only [Rn.fst]; omega))
   ·have hc : ¬r.cutE (room q) = 0:=by rw [Rn.cutE_iff,hrm]; omega
    have hj : ¬zGP q r = 0:=by
     rw [zFC,Rn.cutE_iff]
     rintro ⟨_,_,⟨hm,_⟩,_⟩
     have:=(Spn.may_le (Rn.may_sp hm)).2.2.2.1
     simp only [Rn.both] at this
     omega
    rw [if_neg hc,if_neg hj]
    refine ⟨?_,_,_,rfl,hqo,hr⟩
    rw [zCM (by omega),List.foldl_cons,zDL,if_neg]
    ·exact (zSY _ n hn (by omega) (by omega) (by omega)).symm
    ·unfold goes
     simp only [Bool.and_eq_true,decide_eq_true_eq]
     omega
 ·rw [if_neg h]
  refine ⟨?_,_,_,rfl,hqo,hr⟩
  rw [zCM (by omega),List.foldl_cons,zDL,if_neg]
  ·exact (zSY _ n hn (by omega) (by omega) (by omega)).symm
  ·unfold goes
   simp only [Bool.and_eq_true,decide_eq_true_eq]
   rintro ⟨⟨_,h2⟩,h3⟩
   exact h ((zN3 hq).2 ⟨h2,h3⟩)
theorem zC6 {l : List Rn} (h : ∀ r ∈ l,r.may = true) : zBM l = zCU (elsR l) ∧ ∀ r ∈ zBM l,r.may = true:=by
 revert h
 refine zE3 (P:=fun l=>(∀ r ∈ l,r.may = true) → zBM l = zCU (elsR l) ∧ ∀ r ∈ zBM l,r.may = true) (fun _=>⟨rfl,fun r hr=>absurd hr (by simp [zBM])⟩) (fun l r ih h=>?_) l
 obtain ⟨e,hm⟩:=ih fun x hx=>h x (List.mem_append_left _ hx)
 have hr:=h r (List.mem_append_right _ List.mem_cons_self)
 have br:=Spn.may_le (Rn.may_sp hr)
 have lr:=Rn.may_len hr
 have hs : zBM (l ++ [r]) = addR (zBM l) r:=by simp [zBM]
 rw [hs,zD1]
 unfold zCU at *
 rw [List.foldl_append,← e]
 generalize zBM l = out at *
 rcases zDD out with rfl | ⟨o,q,rfl⟩
 ·have ha : addR [] r = [r]:=rfl
  rw [ha]
  refine ⟨?_,fun x hx=>by rw [List.mem_singleton] at hx; subst hx; exact hr⟩
  rw [zCM (by omega),List.foldl_cons,zIM]
  exact (zSY [] r.sp.n.toNat (by omega) (by omega) (by omega) (by omega)).symm
 ·have hq:=hm q (List.mem_append_right _ List.mem_cons_self)
  obtain ⟨h1,o',q',h2,h3,h4⟩:=zRX (o:=o) hq hr
  refine ⟨h1,fun x hx=>?_⟩
  rw [h2] at hx
  rcases List.mem_append.1 hx with hx | hx
  ·rcases h3 x hx with k | k
   ·exact hm x (List.mem_append_left _ k)
   ·exact k
  ·rw [List.mem_singleton] at hx; subst hx; exact h4
def El.may (x : El) : Bool:=x.id.may && (decide (x.af = Eid.z) || (x.af.may && decide (x.af.c < x.id.c))) && okR x.ch
theorem El.may_iff {x : El} : x.may = true ↔ x.id.may = true ∧ (x.af = Eid.z ∨ (x.af.may = true ∧ x.af.c < x.id.c)) ∧ okR x.ch = true:=by
 unfold El.may
 simp only [Bool.and_eq_true,Bool.or_eq_true,decide_eq_true_eq,and_assoc]
theorem El.may_ct {x : El} (h : x.may = true) : x.af.c < x.id.c ∧ 0 < x.id.c:=by
 rw [El.may_iff,Eid.may_iff] at h
 obtain ⟨h1,h2,_⟩:=h
 rcases h2 with h2 | h2
 ·rw [h2]; exact ⟨by show (0 : Int) < _; omega,by omega⟩
 ·exact ⟨h2.2,by omega⟩
theorem zLI {r : Rn} (hr : r.may = true) : ∀ x ∈ r.elR,x.may = true:=by
 intro x hx
 have br:=Spn.may_le (Rn.may_sp hr)
 have lr:=Rn.may_len hr
 obtain ⟨i,hi,rfl⟩:=List.getElem_of_mem hx
 rw [zBD] at hi
 rw [zBR]
 rw [Rn.may_iff,Spn.may_iff,Eid.may_iff] at hr
 obtain ⟨⟨h1,h2⟩,h3,h4,h5,h6⟩:=hr
 rw [El.may_iff,Eid.may_iff]
 simp only [Spn.at]
 refine ⟨⟨h1.1,by omega,by omega⟩, ?_, ?_⟩
 ·unfold Rn.afAt
  by_cases h0 : (0 : Int) < i
  ·rw [if_pos h0,Eid.may_iff]
   simp only [Spn.at]
   exact .inr ⟨⟨h1.1,by omega,by omega⟩,by omega⟩
  ·rw [if_neg h0]
   rcases h3 with h3 | h3
   ·exact .inl h3
   ·exact .inr ⟨h3.1,by omega⟩
 ·rw [List.getD_eq_getElem?_getD,List.getElem?_eq_getElem (by omega)]
  exact List.all_eq_true.1 h6 _ (List.getElem_mem _)
theorem zSR {l : List Rn} (h : ∀ r ∈ l,r.may = true) : ∀ x ∈ elsR l,x.may = true:=by
 intro x hx
 obtain ⟨r,hr,hx⟩:=List.mem_flatMap.1 hx
 exact zLI (h r hr) x hx
theorem zW8 {r : Rn} (hr : r.may = true) : Chn r.af r.elR:=by
 have br:=Spn.may_le (Rn.may_sp hr)
 have key : ∀ k i : Nat,i + k = r.sp.n.toNat → 0 < i → Chn (r.sp.at ((i : Int) - 1)) (r.elR.drop i):=by
  intro k
  induction k with
  | zero=>intro i hi _; rw [List.drop_of_length_le (by rw [zBD]; omega)]; trivial
  | succ k ih =>
   intro i hi h0
   have hl : i < r.elR.length:=by rw [zBD]; omega
   rw [zFW _ _ hl,zBR]
   have:=ih (i + 1) (by omega) (by omega)
   refine ⟨?_, ?_, ?_⟩
   ·unfold Rn.afAt
    rw [if_pos (by omega)]
   ·simp only [Spn.at]; omega
   ·have e : ((i + 1 : Nat) : Int) - 1 = i:=by omega
    rw [e] at this
    exact this
 rw [zCM (by omega)]
 have:=key (r.sp.n.toNat - 1) 1 (by omega) (by omega)
 refine ⟨rfl, ?_, ?_⟩
 ·have:=(El.may_ct (zLI hr ⟨r.sp.f,r.af,r.rs.getD 0 0⟩ (by rw [zCM (by omega)]; exact List.mem_cons_self))).1
  exact this
 ·simpa [Spn.at] using this
theorem zE9 (E : List El) : elsR (zCU E) = E ∧ ∀ q ∈ zCU E,1 ≤ q.sp.n ∧ (q.rs.length : Int) = q.sp.n:=by
 refine zE3 (P:=fun E=>elsR (zCU E) = E ∧ ∀ q ∈ zCU E,1 ≤ q.sp.n ∧ (q.rs.length : Int) = q.sp.n) ⟨rfl,fun q hq=>absurd hq (by simp [zCU])⟩ (fun E x ih=>?_) E
 obtain ⟨h1,h2⟩:=ih
 have hs : zCU (E ++ [x]) = addX (zCU E) x:=by simp [zCU]
 rw [hs]
 have ho : (one x).elR = [x]:=by
  rw [zCM (by simp only [one]; omega),List.drop_of_length_le (by rw [zBD]; simp [one])]
  simp [one]
 have h1x : 1 ≤ (one x).sp.n ∧ ((one x).rs.length : Int) = (one x).sp.n:=⟨Int.le_refl _,rfl⟩
 generalize zCU E = out at *
 rcases zDD out with rfl | ⟨o,q,rfl⟩
 ·rw [zIM]
  have : E = []:=by rw [← h1]; rfl
  subst this
  refine ⟨?_,fun q hq=>by rw [List.mem_singleton] at hq; subst hq; exact h1x⟩
  simp [elsR,ho]
 ·rw [zDL]
  obtain ⟨hq1,hq2⟩:=h2 q (List.mem_append_right _ List.mem_cons_self)
  by_cases hg : goes q x = true
  ·rw [if_pos hg]
   unfold goes at hg
   simp only [Bool.and_eq_true,decide_eq_true_eq] at hg
   obtain ⟨⟨g1,g2⟩,g3⟩:=hg
   refine ⟨?_,fun y hy=>?_⟩
   ·rw [zD1] at h1
    rw [zD1,← h1,List.append_assoc]
    congr 1
    apply List.ext_getElem
    ·rw [List.length_append,zBD,zBD]
     simp only [more,List.length_singleton]; omega
    ·intro i i1 i2
     rw [zBR]
     by_cases hi : i < q.elR.length
     ·rw [List.getElem_append_left hi,zBR]
      rw [zBD] at hi
      have e3 : (more q x).rs.getD i 0 = q.rs.getD i 0:=by
       simp only [more,List.getD_eq_getElem?_getD]
       rw [List.getElem?_append_left (by omega)]
      rw [e3]; rfl
     ·have hi' : i = q.elR.length:=by
       rw [zBD] at i1 hi ⊢
       simp only [more] at i1
       omega
      rw [List.getElem_append_right (Nat.le_of_not_lt hi),List.getElem_singleton]
      rw [zBD] at hi'
      rw [hi']
      clear hi' i1 i2 hi
      obtain ⟨xi,xa,xc⟩:=x
      simp only at g2 g3
      have e : ((q.sp.n.toNat : Nat) : Int) = q.sp.n:=by omega
      have e3 : (more q ⟨xi,xa,xc⟩).rs.getD q.sp.n.toNat 0 = xc:=by
       simp only [more,List.getD_eq_getElem?_getD]
       rw [List.getElem?_append_right (by omega),show q.sp.n.toNat - q.rs.length = 0 by omega]
       rfl
      have e2 : (more q ⟨xi,xa,xc⟩).afAt ((q.sp.n.toNat : Nat) : Int) = xa:=by
       unfold Rn.afAt
       rw [if_pos (by omega),e,g2]
       rfl
      rw [e2,e3,e,g3]
      rfl
   ·rcases List.mem_append.1 hy with hy | hy
    ·exact h2 y (List.mem_append_left _ hy)
    ·rw [List.mem_singleton] at hy; subst hy
     simp only [more,List.length_append,List.length_singleton]
     omega
  ·rw [if_neg hg]
   refine ⟨by rw [zD1,ho,h1],fun y hy=>?_⟩
   rcases List.mem_append.1 hy with hy | hy
   ·exact h2 y hy
   ·rw [List.mem_singleton] at hy; subst hy; exact h1x
theorem zPG {E : List El} (h : ∀ x ∈ E,x.may = true) : ∀ q ∈ zCU E,q.may = true:=by
 revert h
 refine zE3 (P:=fun E=>(∀ x ∈ E,x.may = true) → ∀ q ∈ zCU E,q.may = true) (fun _ q hq=>absurd hq (by simp [zCU])) (fun E x ih h=>?_) E
 have h2:=ih fun y hy=>h y (List.mem_append_left _ hy)
 have hx:=h x (List.mem_append_right _ List.mem_cons_self)
 have hs : zCU (E ++ [x]) = addX (zCU E) x:=by simp [zCU]
 rw [hs]
 have h1x : (one x).may = true:=by
  rw [El.may_iff,Eid.may_iff] at hx
  rw [Rn.may_iff,Spn.may_iff,Eid.may_iff]
  simp only [one,List.length_singleton,List.all_cons,List.all_nil,Bool.and_true]
  exact ⟨⟨⟨hx.1.1,hx.1.2⟩,by omega,by omega,by omega⟩,hx.2.1,by omega,by omega,hx.2.2⟩
 generalize zCU E = out at *
 rcases zDD out with rfl | ⟨o,q,rfl⟩
 ·rw [zIM]
  exact fun q hq=>by rw [List.mem_singleton] at hq; subst hq; exact h1x
 ·rw [zDL]
  have hq:=h2 q (List.mem_append_right _ List.mem_cons_self)
  by_cases hg : goes q x = true
  ·rw [if_pos hg]
   unfold goes at hg
   simp only [Bool.and_eq_true,decide_eq_true_eq] at hg
   obtain ⟨⟨g1,g2⟩,g3⟩:=hg
   intro y hy
   rcases List.mem_append.1 hy with hy | hy
   ·exact h2 y (List.mem_append_left _ hy)
   ·rw [List.mem_singleton] at hy; subst hy
    have : more q x = q.both (one x):=rfl
    rw [this]
    exact zGQ hq h1x g3 (by simp only [one]; omega)
  ·rw [if_neg hg]
   intro y hy
   rcases List.mem_append.1 hy with hy | hy
   ·exact h2 y hy
   ·rw [List.mem_singleton] at hy; subst hy; exact h1x
theorem zDO {l : List Rn} (h : ∀ r ∈ l,r.may = true) : zB5 l = (elsR l).length:=by
 induction l with
 | nil=>rfl
 | cons r l ih =>
  have br:=Spn.may_le (Rn.may_sp (h r List.mem_cons_self))
  have : elsR (r :: l) = r.elR ++ elsR l:=by simp [elsR]
  rw [this,List.length_append,zBD]
  simp only [zB5]
  rw [ih fun x hx=>h x (List.mem_cons_of_mem _ hx)]
  omega
def zCC (l : List Rn) : Prop:=(∀ r ∈ l,r.may = true) ∧ zB5 l ≤ 8192 ∧ Ord (elsL l) ∧ zBM l = l
structure TxtM (E : List El) : Prop where
 t : Txt E
 m : ∀ x ∈ E,x.may = true
 n : E.length ≤ 8192
theorem zL0 {E : List El} (h : TxtM E) : zCC (zCU E):=by
 have hm:=zPG h.m
 obtain ⟨he,_⟩:=zE9 E
 refine ⟨hm, ?_, ?_, ?_⟩
 ·rw [zDO hm,he]; have:=h.n; omega
 ·rw [← zJE,he]; exact (zQY fun x hx=>El.may_ct (h.m x hx)).2 h.t
 ·rw [(zC6 hm).1,he]
theorem zEQ {l : List Rn} (h : zCC l) : TxtM (elsR l) ∧ l = zCU (elsR l):=by
 obtain ⟨h1,h2,h3,h4⟩:=h
 have hm:=zSR h1
 refine ⟨⟨?_,hm, ?_⟩, ?_⟩
 ·rw [← zJE] at h3; exact (zQY fun x hx=>El.may_ct (hm x hx)).1 h3
 ·rw [zDO h1] at h2; omega
 ·rw [← (zC6 h1).1,h4]
end Go.Proofs.Ytakaojjlfcmphaa
namespace Go.Proofs.Ytakaojjlfcmphaa
open Go Go.Ax
theorem zLR {s : Spn} {x : Eid} {k : Int} : s.has x = some k ↔ s.may = true ∧ 0 ≤ k ∧ k < s.n ∧ s.at k = x:=by
 obtain ⟨hd,c⟩:=x
 unfold Spn.has Spn.at
 simp only
 constructor
 ·intro h
  split at h
  ·rename_i g
   injection h with h
   refine ⟨g.1,by omega,by omega, ?_⟩
   rw [g.2.1]; congr 1; omega
  ·cases h
 ·rintro ⟨h1,h2,h3,h4⟩
  injection h4 with h4 h5
  rw [if_pos ⟨h1,h4.symm,by omega,by omega⟩]
  congr 1; omega
theorem zWN {r : Rn} (hr : r.may = true) (x : Eid) : r.sp.has x = none ↔ ∀ e ∈ r.elR,e.id ≠ x:=by
 have br:=Spn.may_le (Rn.may_sp hr)
 constructor
 ·intro h e he k
  obtain ⟨i,hi,rfl⟩:=List.getElem_of_mem he
  rw [zBD] at hi
  rw [zBR] at k
  have:=(zLR (k:=(i : Int))).2 ⟨Rn.may_sp hr,by omega,by omega,k⟩
  rw [h] at this
  cases this
 ·intro h
  cases hh : r.sp.has x with
  | none=>rfl
  | some k =>
   obtain ⟨h1,h2,h3,h4⟩:=zLR.1 hh
   have hl : k.toNat < r.elR.length:=by rw [zBD]; omega
   refine absurd ?_ (h _ (List.getElem_mem hl))
   rw [zBR]
   have : ((k.toNat : Nat) : Int) = k:=by omega
   rw [this]; exact h4
theorem zL3 {l : List Rn} (h : ∀ r ∈ l,r.may = true) (x : Eid) : zB9 l x = none ↔ ∀ e ∈ elsR l,e.id ≠ x:=by
 induction l with
 | nil=>exact ⟨fun _ e he=>absurd he (by simp [elsR]),fun _=>rfl⟩
 | cons r l ih =>
  have hr:=h r List.mem_cons_self
  have ih:=ih fun y hy=>h y (List.mem_cons_of_mem _ hy)
  have he : elsR (r :: l) = r.elR ++ elsR l:=by simp [elsR]
  rw [he]
  unfold zB9
  have hh:=zWN hr x
  cases hc : r.sp.has x with
  | none =>
   rw [hc] at hh
   have hh:=hh.1 rfl
   simp only [Option.map_eq_none_iff]
   rw [ih]
   constructor
   ·intro h1 e he
    rcases List.mem_append.1 he with he | he
    ·exact hh e he
    ·exact h1 e he
   ·exact fun h1 e he=>h1 e (List.mem_append_right _ he)
  | some k =>
   rw [hc] at hh
   simp only [reduceCtorEq,false_iff] at hh ⊢
   exact fun h1=>hh fun e he=>h1 e (List.mem_append_left _ he)
theorem zGB : ∀ {l : List Rn} {x : Eid} {n : Nat} {k : Int},zB9 l x = some (n,k) → ∃ L1 q L2,l = L1 ++ q :: L2 ∧ L1.length = n ∧ q.sp.may = true ∧ 0 ≤ k ∧ k < q.sp.n ∧ q.sp.at k = x
 | [],_,_,_,h=>by cases h
 | r :: l,x,n,k,h=>by
  unfold zB9 at h
  cases hc : r.sp.has x with
  | none =>
   rw [hc] at h
   simp only at h
   cases hw : zB9 l x with
   | none=>rw [hw] at h; cases h
   | some p =>
    rw [hw] at h
    obtain ⟨n',k'⟩:=p
    simp only [Option.map_some,Option.some.injEq,Prod.mk.injEq] at h
    obtain ⟨rfl,rfl⟩:=h
    obtain ⟨L1,q,L2,rfl,rfl,hh⟩:=zGB hw
    exact ⟨r :: L1,q,L2,rfl,rfl,hh⟩
  | some k' =>
   rw [hc] at h
   simp only [Option.some.injEq,Prod.mk.injEq] at h
   obtain ⟨rfl,rfl⟩:=h
   obtain ⟨h1,h2,h3,h4⟩:=zLR.1 hc
   exact ⟨[],r,l,rfl,rfl,h1,h2,h3,h4⟩
def zB7 (l : List Rn) (x : Eid) : List Rn × Nat :=
 if x = Eid.z then (l,0) else
 match zB9 l x with
 | none=>(l,0)
 | some (n,k)=>if (l.getD n Rn.z).cutE (k + 1) = 0 then (l.take n ++ [(l.getD n Rn.z).fst (k + 1),(l.getD n Rn.z).snd (k + 1)] ++ l.drop (n + 1),n + 1) else (l,n + 1)
def zET (l : List Rn) (x : Eid) (n : Nat) : Nat:=n + ((l.drop n).takeWhile fun r=>x.less r.sp.f).length
def insL (l : List Rn) (r : Rn) : List Rn:=zBM ((zB7 l r.af).1.take (zET (zB7 l r.af).1 r.sp.f (zB7 l r.af).2) ++ [r] ++ (zB7 l r.af).1.drop (zET (zB7 l r.af).1 r.sp.f (zB7 l r.af).2))
open Classical in
noncomputable def putE (l : List Rn) (r : Rn) : Int :=
  if zCC l ∧ r.may = true then
    (if r.af ≠ Eid.z ∧ zB9 l r.af = none then 6
     else if ∃ i : Nat,(i : Int) < r.sp.n ∧ zB9 l (r.sp.at i) ≠ none then 2
     else if 8192 < zB5 l + r.sp.n then 4 else 0)
  else 8
theorem zLW {l : List Rn} {x : Eid} (h : ∀ r ∈ l,r.may = true) (hx : x = Eid.z ∨ zB9 l x ≠ none) : (zB7 l x).2 ≤ (zB7 l x).1.length ∧ (∀ r ∈ (zB7 l x).1,r.may = true) ∧ elsR (zB7 l x).1 = elsR l ∧ ((x = Eid.z ∧ (zB7 l x).2 = 0) ∨ ∃ A w,elsR ((zB7 l x).1.take (zB7 l x).2) = A ++ [w] ∧ w.id = x):=by
 unfold zB7
 by_cases hz : x = Eid.z
 ·rw [if_pos hz]
  exact ⟨Nat.zero_le _,h,rfl,.inl ⟨hz,rfl⟩⟩
 ·rw [if_neg hz]
  rcases hx with hx | hx
  ·exact absurd hx hz
  ·cases hw : zB9 l x with
   | none=>exact absurd hw hx
   | some p =>
    obtain ⟨n,k⟩:=p
    obtain ⟨L1,q,L2,rfl,rfl,h1,h2,h3,h4⟩:=zGB hw
    have hq:=h q (by simp)
    have hg : (L1 ++ q :: L2).getD L1.length Rn.z = q:=by
     rw [List.getD_eq_getElem?_getD,List.getElem?_append_right (Nat.le_refl _)]; simp
    simp only [hg]
    obtain ⟨m,rfl⟩ : ∃ m : Nat,k = m:=⟨k.toNat,by omega⟩
    have hm1 : ((m : Int) + 1) = ((m + 1 : Nat) : Int):=by omega
    have hlast : q.elR.take (m + 1) = q.elR.take m ++ [⟨x,q.afAt m,q.rs.getD m 0⟩]:=by
     have hl : m < q.elR.length:=by rw [zBD]; omega
     rw [zBJ _ _ hl,zBR,h4]
    by_cases hc : q.cutE ((m : Int) + 1) = 0
    ·rw [if_pos hc]
     rw [Rn.cutE_iff] at hc
     have hd : (L1 ++ q :: L2).drop (L1.length + 1) = L2:=by simp
     have ht : (L1 ++ q :: L2).take L1.length = L1:=by simp
     simp only [hd,ht,hm1]
     refine ⟨by simp,fun r hr=>?_, ?_,.inr ⟨elsR L1 ++ q.elR.take m,⟨x,q.afAt m,q.rs.getD m 0⟩, ?_,rfl⟩⟩
     ·rcases List.mem_append.1 hr with hr | hr
      ·rcases List.mem_append.1 hr with hr | hr
       ·exact h r (by simp [hr])
       ·rcases List.mem_cons.1 hr with rfl | hr
        ·exact zMT hq (by omega) (by omega)
        ·rw [List.mem_singleton] at hr; subst hr
         exact zNK hq (by omega) (by omega)
      ·exact h r (by simp [hr])
     ·have e1 : elsR (L1 ++ q :: L2) = elsR L1 ++ q.elR ++ elsR L2:=by simp [elsR]
      have e2 : elsR [q.fst ((m + 1 : Nat) : Int),q.snd ((m + 1 : Nat) : Int)] = q.elR:=by
       have : elsR [q.fst ((m + 1 : Nat) : Int),q.snd ((m + 1 : Nat) : Int)] = (q.fst ((m + 1 : Nat) : Int)).elR ++ (q.snd ((m + 1 : Nat) : Int)).elR:=by simp [elsR]
       rw [this,zPY (by omega),zRK (by omega),List.take_append_drop]
      rw [zEL,zEL,e1,e2]
     ·have e1 : (L1 ++ [q.fst ((m + 1 : Nat) : Int),q.snd ((m + 1 : Nat) : Int)] ++ L2).take (L1.length + 1) = L1 ++ [q.fst ((m + 1 : Nat) : Int)]:=by
       rw [List.append_assoc,List.take_length_add_append]; rfl
      rw [e1,zD1,zPY (by omega),hlast,List.append_assoc]
    ·rw [if_neg hc]
     rw [Rn.cutE_iff] at hc
     have hmn : (m : Int) + 1 = q.sp.n:=Classical.byContradiction fun k=>hc ⟨hq,by omega,by omega⟩
     refine ⟨by simp,h,rfl,.inr ⟨elsR L1 ++ q.elR.take m,⟨x,q.afAt m,q.rs.getD m 0⟩, ?_,rfl⟩⟩
     have e1 : (L1 ++ q :: L2).take (L1.length + 1) = L1 ++ [q]:=by
      rw [List.take_length_add_append]; rfl
     rw [e1,zD1,List.append_assoc,← hlast,List.take_of_length_le (by rw [zBD]; omega)]
theorem zYN {r : Rn} (hr : r.may = true) {x : Eid} (h : x.less r.sp.f = true) : ∀ e ∈ r.elR,x.less e.id = true:=by
 intro e he
 obtain ⟨i,hi,rfl⟩:=List.getElem_of_mem he
 rw [zBR]
 cases i with
 | zero=>simpa [Spn.at] using h
 | succ i =>
  refine zIB h (zKB ?_)
  simp only [Spn.at]; omega
structure Put (l : List Rn) (r : Rn) (A0 A1 B : List El) : Prop where
 e : elsR l = A0 ++ A1 ++ B
 a : (r.af = Eid.z ∧ A0 = []) ∨ ∃ A w,A0 = A ++ [w] ∧ w.id = r.af
 g : ∀ x ∈ A1,r.sp.f.less x.id = true
 t : TxtM (A0 ++ A1 ++ r.elR ++ B)
 i : insL l r = zCU (A0 ++ A1 ++ r.elR ++ B)
theorem zFH {l : List Rn} {r : Rn} : putE l r = 0 ↔ zCC l ∧ r.may = true ∧ (r.af = Eid.z ∨ ∃ e ∈ elsR l,e.id = r.af) ∧ (∀ x ∈ r.elR,∀ e ∈ elsR l,x.id ≠ e.id) ∧ (elsR l).length + r.elR.length ≤ 8192:=by
 unfold putE
 by_cases h : zCC l ∧ r.may = true
 ·rw [if_pos h]
  obtain ⟨ht,hr⟩:=h
  have hw:=fun x=>zL3 ht.1 x
  have br:=Spn.may_le (Rn.may_sp hr)
  have hn : (r.elR.length : Int) = r.sp.n:=by rw [zBD]; omega
  rw [zDO ht.1]
  by_cases h1 : r.af ≠ Eid.z ∧ zB9 l r.af = none
  ·rw [if_pos h1]
   refine ⟨fun h=>(by cases h), ?_⟩
   rintro ⟨_,_,h3,_⟩
   rcases h3 with h3 | ⟨e,he,h3⟩
   ·exact absurd h3 h1.1
   ·exact absurd h3 ((hw _).1 h1.2 e he)
  ·rw [if_neg h1]
   have h1' : r.af = Eid.z ∨ ∃ e ∈ elsR l,e.id = r.af:=by
    by_cases hz : r.af = Eid.z
    ·exact .inl hz
    ·right
     have : ¬∀ e ∈ elsR l,e.id ≠ r.af:=fun k=>h1 ⟨hz,(hw _).2 k⟩
     exact Classical.byContradiction fun k=>this fun e he k2=>k ⟨e,he,k2⟩
   by_cases h2 : ∃ i : Nat,(i : Int) < r.sp.n ∧ zB9 l (r.sp.at i) ≠ none
   ·rw [if_pos h2]
    refine ⟨fun h=>(by cases h), ?_⟩
    rintro ⟨_,_,_,h3,_⟩
    obtain ⟨i,hi,h2⟩:=h2
    refine absurd ((hw _).2 fun e he=>?_) h2
    have hl : i < r.elR.length:=by omega
    have:=h3 _ (List.getElem_mem hl) e he
    rw [zBR] at this
    exact fun k=>this k.symm
   ·rw [if_neg h2]
    have h2' : ∀ x ∈ r.elR,∀ e ∈ elsR l,x.id ≠ e.id:=fun x hx e he k=>by
     obtain ⟨i,hi,rfl⟩:=List.getElem_of_mem hx
     rw [zBR] at k
     refine h2 ⟨i,by omega,fun k2=>?_⟩
     exact (hw _).1 k2 e he k.symm
    by_cases h3 : 8192 < ((elsR l).length : Int) + r.sp.n
    ·rw [if_pos h3]
     refine ⟨fun h=>(by cases h), ?_⟩
     rintro ⟨_,_,_,_,h4⟩
     omega
    ·rw [if_neg h3]
     exact ⟨fun _=>⟨ht,hr,h1',h2',by omega⟩,fun _=>rfl⟩
 ·rw [if_neg h]
  exact ⟨fun h=>(by cases h),fun k=>absurd ⟨k.1,k.2.1⟩ h⟩
theorem put_ok {l : List Rn} {r : Rn} (h : putE l r = 0) : ∃ A0 A1 B,Put l r A0 A1 B:=by
 obtain ⟨ht,hr,ha,hf,hn⟩:=zFH.1 h
 obtain ⟨hE,hl⟩:=zEQ ht
 have hx : r.af = Eid.z ∨ zB9 l r.af ≠ none:=by
  rcases ha with ha | ⟨e,he,ha⟩
  ·exact .inl ha
  ·exact .inr fun k=>(zL3 ht.1 _).1 k e he ha
 obtain ⟨p1,p2,p3,p4⟩:=zLW ht.1 hx
 have hi : insL l r = zBM ((zB7 l r.af).1.take (zET (zB7 l r.af).1 r.sp.f (zB7 l r.af).2) ++ [r] ++ (zB7 l r.af).1.drop (zET (zB7 l r.af).1 r.sp.f (zB7 l r.af).2)):=rfl
 generalize zB7 l r.af = P at *
 obtain ⟨l',n⟩:=P
 simp only at p1 p2 p3 p4 hi
 have hsp : l' = l'.take n ++ ((l'.drop n).takeWhile fun q=>r.sp.f.less q.sp.f) ++ ((l'.drop n).dropWhile fun q=>r.sp.f.less q.sp.f):=by
  rw [List.append_assoc,List.takeWhile_append_dropWhile,List.take_append_drop]
 have hg1 : ∀ q ∈ (l'.drop n).takeWhile fun q=>r.sp.f.less q.sp.f,r.sp.f.less q.sp.f = true:=fun q hq=>by
  have:=List.all_takeWhile (l:=l'.drop n) (p:=fun q=>r.sp.f.less q.sp.f)
  exact List.all_eq_true.1 this q hq
 have hg2 : ∀ q D,((l'.drop n).dropWhile fun q=>r.sp.f.less q.sp.f) = q :: D → r.sp.f.less q.sp.f = false:=fun q D e=>by
  have:=List.head?_dropWhile_not (fun q : Rn=>r.sp.f.less q.sp.f) (l'.drop n)
  rw [e] at this
  simpa using this
 have hlen : (l'.take n).length = n:=by rw [List.length_take]; omega
 unfold zET at hi
 generalize hD1 : (l'.drop n).takeWhile (fun q=>r.sp.f.less q.sp.f) = D1 at *
 generalize (l'.drop n).dropWhile (fun q=>r.sp.f.less q.sp.f) = D2 at *
 generalize l'.take n = T at *
 clear hD1
 have htk : l'.take (n + D1.length) = T ++ D1:=by
  rw [hsp,List.take_append_of_le_length (by rw [List.length_append]; omega),List.take_of_length_le (by rw [List.length_append]; omega)]
 have hdr : l'.drop (n + D1.length) = D2:=by
  rw [hsp,List.drop_append_of_le_length (by rw [List.length_append]; omega),List.drop_of_length_le (by rw [List.length_append]; omega),List.nil_append]
 rw [htk,hdr] at hi
 have hE' : elsR l = elsR T ++ elsR D1 ++ elsR D2:=by rw [← p3,hsp,zEL,zEL]
 have hmT : ∀ q ∈ T,q.may = true:=fun q hq=>p2 q (by rw [hsp]; simp [hq])
 have hmD1 : ∀ q ∈ D1,q.may = true:=fun q hq=>p2 q (by rw [hsp]; simp [hq])
 have hmD2 : ∀ q ∈ D2,q.may = true:=fun q hq=>p2 q (by rw [hsp]; simp [hq])
 have br:=Spn.may_le (Rn.may_sp hr)
 have hg : ∀ x ∈ elsR D1,r.sp.f.less x.id = true:=fun x hx=>by
  obtain ⟨q,hq,hx⟩:=List.mem_flatMap.1 hx
  exact zYN (hmD1 q hq) (hg1 q hq) x hx
 have hA : (r.af = Eid.z ∧ elsR T = []) ∨ ∃ A w,elsR T = A ++ [w] ∧ w.id = r.af:=by
  rcases p4 with ⟨h1,h2⟩ | h1
  ·have : T = []:=List.eq_nil_of_length_eq_zero (by omega)
   subst this
   exact .inl ⟨h1,rfl⟩
  ·exact .inr h1
 have hB : ∀ b B',elsR D2 = b :: B' → r.sp.f.less b.id = false:=fun b B' e=>by
  cases D2 with
  | nil=>exact absurd e (by simp [elsR])
  | cons q D =>
   have bq:=Spn.may_le (Rn.may_sp (hmD2 q List.mem_cons_self))
   have e2 : elsR (q :: D) = q.elR ++ elsR D:=by simp [elsR]
   rw [e2,zCM (by omega),List.cons_append] at e
   injection e with e _
   rw [← e]
   exact hg2 q D rfl
 have hcons:=zCM (r:=r) (by omega)
 have hT : Txt (elsR T ++ elsR D1 ++ r.elR ++ elsR D2):=Txt.put (r:=⟨r.sp.f,r.af,r.rs.getD 0 0⟩) (by rw [← hE']; exact hE.t) hcons (zW8 hr) hA (fun x hx y hy=>hf x hx y (by rw [hE']; exact hy)) hg hB
 have hmR:=zLI hr
 refine ⟨elsR T,elsR D1,elsR D2,hE',hA,hg,⟨hT,fun x hx=>?_, ?_⟩, ?_⟩
 ·rcases List.mem_append.1 hx with h | h
  ·rcases List.mem_append.1 h with h | h
   ·exact hE.m x (by rw [hE']; exact List.mem_append_left _ h)
   ·exact hmR x h
  ·exact hE.m x (by rw [hE']; exact List.mem_append_right _ h)
 ·rw [hE'] at hn
  simp only [List.length_append] at hn ⊢
  omega
 ·rw [hi,(zC6 (fun q hq=>?_)).1]
  ·rw [zEL,zD1,zEL]
  ·rcases List.mem_append.1 hq with hq | hq
   ·rcases List.mem_append.1 hq with hq | hq
    ·rcases List.mem_append.1 hq with hq | hq
     ·exact hmT q hq
     ·exact hmD1 q hq
    ·rw [List.mem_singleton] at hq; subst hq; exact hr
   ·exact hmD2 q hq
theorem Put.mem {l : List Rn} {r : Rn} {A0 A1 B : List El} (h : Put l r A0 A1 B) (x : El) : x ∈ elsR (insL l r) ↔ x ∈ elsR l ∨ x ∈ r.elR:=by
 rw [h.i,(zE9 _).1,h.e]
 simp only [List.mem_append]
 constructor
 ·rintro (((h | h) | h) | h)
  ·exact .inl (.inl (.inl h))
  ·exact .inl (.inl (.inr h))
  ·exact .inr h
  ·exact .inl (.inr h)
 ·rintro (((h | h) | h) | h)
  ·exact .inl (.inl (.inl h))
  ·exact .inl (.inl (.inr h))
  ·exact .inr h
  ·exact .inl (.inr h)
theorem zJ1 {l : List Rn} {r : Rn} (h : putE l r = 0) (x : El) : x ∈ elsR (insL l r) ↔ x ∈ elsR l ∨ x ∈ r.elR:=by
 obtain ⟨A0,A1,B,h⟩:=put_ok h
 exact h.mem x
theorem zI7 {l : List Rn} {r : Rn} (h : putE l r = 0) : zCC (insL l r):=by
 obtain ⟨A0,A1,B,h⟩:=put_ok h
 rw [h.i]
 exact zL0 h.t
theorem text_eq {l m : List Rn} (hl : zCC l) (hm : zCC m) (h : ∀ x,x ∈ elsR l ↔ x ∈ elsR m) : l = m:=by
 obtain ⟨h1,e1⟩:=zEQ hl
 obtain ⟨h2,e2⟩:=zEQ hm
 rw [e1,e2,h1.t.eq h2.t h]
/-! ### Up to a label -/
def zC5 (l : List Rn) : Bool:=l.all fun r=>r.af.hd.lb.leq r.sp.f.hd.lb
def upTo (v : Lb) (l : List Rn) : List Rn:=zBM (l.filter fun r=>r.sp.f.hd.lb.leq v)
open Classical in
noncomputable def upE (l : List Rn) (v : Lb) : Int:=if zCC l ∧ v.may = true then (if zC5 l = true then 0 else 2) else 8
def lowE (v : Lb) (x : El) : Bool:=x.id.hd.lb.leq v
theorem zMO {r : Rn} {x : El} (h : x ∈ r.elR) : x.id.hd = r.sp.f.hd:=by
 obtain ⟨i,hi,rfl⟩:=List.getElem_of_mem h
 rw [zBR]; rfl
theorem zO0 (v : Lb) (l : List Rn) : elsR (l.filter fun r=>r.sp.f.hd.lb.leq v) = (elsR l).filter (lowE v):=by
 induction l with
 | nil=>rfl
 | cons r l ih =>
  have he : elsR (r :: l) = r.elR ++ elsR l:=by simp [elsR]
  rw [he,List.filter_append,← ih]
  cases h : r.sp.f.hd.lb.leq v with
  | true =>
   rw [List.filter_cons_of_pos (p:=fun r : Rn=>r.sp.f.hd.lb.leq v) h]
   have e2 : elsR (r :: l.filter fun r=>r.sp.f.hd.lb.leq v) = r.elR ++ elsR (l.filter fun r=>r.sp.f.hd.lb.leq v):=by simp [elsR]
   rw [e2]
   congr 1
   symm
   rw [List.filter_eq_self]
   exact fun x hx=>by unfold lowE; rw [zMO hx]; exact h
  | false =>
   rw [List.filter_cons_of_neg (p:=fun r : Rn=>r.sp.f.hd.lb.leq v) (by rw [h]; simp)]
   have : r.elR.filter (lowE v) = []:=by
    rw [List.filter_eq_nil_iff]
    exact fun x hx=>by unfold lowE; rw [zMO hx,h]; simp
   rw [this,List.nil_append]
def zL7 (E : List El) : Prop:=∀ x ∈ E,x.af.hd.lb.leq x.id.hd.lb = true
theorem zDN {l : List Rn} (h : ∀ r ∈ l,r.may = true) (hrefl : ∀ a : Lb,a.leq a = true) : zC5 l = true ↔ zL7 (elsR l):=by
 unfold zC5 zL7
 rw [List.all_eq_true]
 constructor
 ·intro k x hx
  obtain ⟨r,hr,hx⟩:=List.mem_flatMap.1 hx
  have hk:=k r hr
  obtain ⟨i,hi,rfl⟩:=List.getElem_of_mem hx
  rw [zBR]
  simp only [Spn.at]
  unfold Rn.afAt
  by_cases h0 : (0 : Int) < i
  ·rw [if_pos h0]; exact hrefl _
  ·rw [if_neg h0]; exact hk
 ·intro k r hr
  have br:=Spn.may_le (Rn.may_sp (h r hr))
  have hm : (⟨r.sp.f,r.af,r.rs.getD 0 0⟩ : El) ∈ elsR l:=List.mem_flatMap.2 ⟨r,hr,by rw [zCM (by omega)]; exact List.mem_cons_self⟩
  exact k _ hm
theorem zWY {E : List El} (h : TxtM E) (hc : zL7 E) (htrans : ∀ a b c : Lb,a.leq b = true → b.leq c = true → a.leq c = true) (v : Lb) : TxtM (E.filter (lowE v)):=by
 refine ⟨h.t.filter _ fun x hx y hy h1 h2=>?_,fun x hx=>h.m x (List.mem_filter.1 hx).1,Nat.le_trans (List.length_filter_le _ _) h.n⟩
 unfold lowE at h1 ⊢
 rw [h2]
 exact htrans _ _ _ (hc x hx) h1
theorem zNM {l : List Rn} (h : ∀ r ∈ l,r.may = true) (v : Lb) : upTo v l = zCU ((elsR l).filter (lowE v)):=by
 unfold upTo
 rw [(zC6 fun r hr=>h r (List.mem_filter.1 hr).1).1,zO0]
end Go.Proofs.Ytakaojjlfcmphaa
namespace Go.Proofs.Ytakaojjlfcmphaa
open Go Go.Ax
variable {fuel : Nat} {M : Mem} {Q : AV → Mem → Prop} {d : Nat} {x : Eid} {l : List Op}
def idV (x : Eid) : List Value:=[.int .u8 x.hd.lb.lv,.int .u32 x.hd.lb.cats,.int .u8 x.hd.num,.int .i64 x.c]
theorem zV7 (x : Eid) : PT.iss [.st [.st [.int .u8,.int .u32],.int .u8],.int .i64] (idV x):=by
 simp only [PT.iss,PT.is]
 exact ⟨[.int .u8 x.hd.lb.lv,.int .u32 x.hd.lb.cats,.int .u8 x.hd.num],[.int .i64 x.c],rfl,⟨[.int .u8 x.hd.lb.lv,.int .u32 x.hd.lb.cats],[.int .u8 x.hd.num],rfl,⟨[.int .u8 x.hd.lb.lv],[.int .u32 x.hd.lb.cats],rfl,⟨_,rfl⟩,⟨[.int .u32 x.hd.lb.cats],[],rfl,⟨_,rfl⟩,rfl⟩⟩,⟨[.int .u8 x.hd.num],[],rfl,⟨_,rfl⟩,rfl⟩⟩,⟨[.int .i64 x.c],[],rfl,⟨_,rfl⟩,rfl⟩⟩
theorem zWP (x y : Eid) : idV x = idV y ↔ x = y:=by
 obtain ⟨⟨⟨a,b⟩,c⟩,e⟩:=x
 obtain ⟨⟨⟨a',b'⟩,c'⟩,e'⟩:=y
 simp [idV,and_assoc]
theorem id_ck (b : Bool) (n1 n2 n3 n4 : Int) : (zAQ Try.prog (Instr.checkKey b 10000 29 (.agg #[.int .u8 n1,.int .u32 n2,.int .u8 n3,.int .i64 n4]))).isSome = true:=by
 cases b <;> kernel_rfl
def zO9 : KeyT Try.prog 29 idA where
 val x:=.agg (idV x).toArray
 hval x:=rfl
 ck b x:=id_ck b _ _ _ _
 eq x y:=by
  obtain ⟨r,h1,h2⟩:=PT.eq (P:=Try.prog) (.st [.st [.st [.int .u8,.int .u32],.int .u8],.int .i64]) 29 10000 (by kernel_rfl) (by decide) (xs:=idV x) (ys:=idV y) (by simpa only [PT.is] using zV7 x) (by simpa only [PT.is] using zV7 y)
  have e : r = decide (x = y):=by
   rw [Bool.eq_iff_iff,h2,zWP]
   simp
  rw [← e]
  exact h1
 same x:=by simp [Instr.sameBits,idV]
end Go.Proofs.Ytakaojjlfcmphaa
namespace Go.Proofs.Ytakaojjlfcmphaa
open Go Go.Ax
variable {fuel : Nat} {M : Mem} {Q : AV → Mem → Prop} {d : Nat}
def cO1 : ACode:=(.seq (.region [⟨some 5,.alloc 29 (.agg #[(.int .u8 0),(.int .u32 0),(.int .u8 0),(.int .i64 0)]),none,[]⟩,⟨none,.store 4 (.tmp 5) (.tmp 12),none,[]⟩] false) (.region [⟨some 6,.alloc 29 (.agg #[(.int .u8 0),(.int .u32 0),(.int .u8 0),(.int .i64 0)]),none,[]⟩,⟨none,.store 4 (.tmp 6) (.tmp 13),none,[]⟩] false))
def cO2 : ACode:=(.block 1 (.scope (.seq (.region [⟨some 7,.alloc 29 (.agg #[(.int .u8 0),(.int .u32 0),(.int .u8 0),(.int .i64 0)]),none,[]⟩] false) (.seq .label (.seq (.block 2 (.loop (.seq (.seq (.region [⟨some 14,.load 1 false (.tmp 3),none,[]⟩,⟨some 15,.len (.tmp 14),none,[]⟩,⟨some 16,.pur (mkO (.binOp .gtr 3 (.tmp 15) (.const (.int .i64 0)) 3) 4),none,[]⟩] false) (.cond (.tmp 16) .skip (.exit 2))) (.block 3 (.seq (.region [⟨some 17,.load 1 false (.tmp 3),none,[1,2,3,6]⟩,⟨some 18,.load 1 false (.tmp 3),none,[0,6]⟩,⟨some 19,.len (.tmp 18),none,[0,6]⟩,⟨some 20,.pur (mkO (.binOp .sub 3 (.tmp 19) (.const (.int .i64 1)) 3) 3),none,[0,6]⟩,⟨some 21,.iad 4 (.tmp 17) (.tmp 20),none,[6]⟩,⟨some 22,.load 4 true (.tmp 21),none,[6]⟩,⟨some 8,.alloc 29 (.agg #[(.int .u8 0),(.int .u32 0),(.int .u8 0),(.int .i64 0)]),none,[0,1,2,3,4,5]⟩,⟨none,.store 4 (.tmp 8) (.tmp 22),none,[]⟩] false) (.seq (.seq (.region [⟨some 23,.load 4 true (.tmp 8),none,[1]⟩,⟨some 24,.load 4 true (.tmp 6),none,[0]⟩,⟨some 25,.pur (mkO (.binOp .eql 29 (.tmp 23) (.tmp 24) 29) 4),none,[]⟩] false) (.cond (.tmp 25) (.exit 2) .skip)) (.region [⟨some 26,.load 4 true (.tmp 8),none,[1,2,3,4,5]⟩,⟨some 27,.load 1 false (.tmp 3),none,[0,2,3,4,6]⟩,⟨some 28,.load 1 false (.tmp 3),none,[0,1,6]⟩,⟨some 29,.len (.tmp 28),none,[0,1,6]⟩,⟨some 30,.pur (mkO (.binOp .sub 3 (.tmp 29) (.const (.int .i64 1)) 3) 3),none,[0,1,6]⟩,⟨some 31,.slc 4 (.tmp 27) none (some (.tmp 30)) none,none,[0,6]⟩,⟨none,.store 4 (.tmp 7) (.tmp 26),none,[1,2,3,4,5]⟩,⟨none,.store 1 (.tmp 3) (.tmp 31),none,[]⟩] true))))))) (.seq (.seq (.region [⟨some 32,.load 1 false (.tmp 3),none,[]⟩,⟨some 33,.len (.tmp 32),none,[]⟩,⟨some 34,.pur (mkO (.binOp .eql 3 (.tmp 33) (.const (.int .i64 0)) 3) 4),none,[]⟩,⟨some 35,.mov (.tmp 34),none,[]⟩,⟨some 36,.load 4 true (.tmp 6),some (35,true),[5]⟩,⟨some 37,.build (.agg #[(.int .u8 0),(.int .u32 0),(.int .u8 0),(.int .i64 0)]) [],some (35,true),[4]⟩,⟨some 38,.pur (mkO (.binOp .neq 29 (.tmp 36) (.tmp 37) 29) 4),some (35,true),[]⟩,⟨some 39,.pick (.tmp 35) (.tmp 38) (.const (.bool false)),none,[]⟩,⟨some 40,.mov (.tmp 39),none,[]⟩,⟨some 41,.load 4 true (.tmp 7),some (40,false),[10]⟩,⟨some 42,.build (.agg #[(.int .u8 0),(.int .u32 0),(.int .u8 0),(.int .i64 0)]) [],some (40,false),[9]⟩,⟨some 43,.pur (mkO (.binOp .neq 29 (.tmp 41) (.tmp 42) 29) 4),some (40,false),[]⟩,⟨some 44,.mov (.tmp 43),some (40,false),[]⟩,⟨some 45,.load 4 true (.tmp 5),some (44,true),[14]⟩,⟨some 46,.load 4 true (.tmp 7),some (44,true),[13]⟩,⟨some 47,.call (.func 33) [(.tmp 45),(.tmp 46)],some (44,true),[]⟩,⟨some 48,.pur (mkO (.unOp .not 4 (.tmp 47)) 4),some (44,true),[]⟩,⟨some 49,.pick (.tmp 44) (.tmp 48) (.const (.bool false)),some (40,false),[]⟩,⟨some 50,.pick (.tmp 40) (.const (.bool true)) (.tmp 49),none,[]⟩,⟨some 51,.mov (.tmp 50),none,[]⟩,⟨some 52,.load 1 false (.tmp 4),some (51,false),[21]⟩,⟨some 53,.load 4 true (.tmp 5),some (51,false),[20]⟩,⟨some 54,.lookup 29 (.int .i64 0) (.tmp 52) (.tmp 53) false,some (51,false),[]⟩,⟨some 55,.pur (mkO (.binOp .gtr 3 (.tmp 54) (.const (.int .i64 0)) 3) 4),some (51,false),[]⟩,⟨some 56,.pick (.tmp 51) (.const (.bool true)) (.tmp 55),none,[]⟩] false) (.cond (.tmp 56) (.seq (.region [⟨none,.store 1 (.tmp 2) (.const (.bool false)),none,[]⟩] false) .ret) .skip)) (.seq (.region [⟨some 57,.load 1 false (.tmp 4),none,[1]⟩,⟨some 58,.load 4 true (.tmp 5),none,[0]⟩,⟨none,.mupd 29 (.tmp 57) (.tmp 58) (.const (.int .i64 1)),none,[]⟩] false) (.region [⟨some 59,.load 1 false (.tmp 3),none,[1,2]⟩,⟨some 60,.load 4 true (.tmp 5),none,[0]⟩,⟨some 61,.bsl 29 4 (.agg #[(.int .u8 0),(.int .u32 0),(.int .u8 0),(.int .i64 0)]) 1 [(0,4,(.tmp 60))],none,[0]⟩,⟨some 62,.app 29 4 24 (.agg #[(.int .u8 0),(.int .u32 0),(.int .u8 0),(.int .i64 0)]) (.tmp 59) (.tmp 61),none,[]⟩,⟨none,.store 1 (.tmp 3) (.tmp 62),none,[]⟩] false))))))))
structure OI (tm : List AV) (pre : List (Eid × Eid)) (O : Nat → Prop) (N : Mem) : Prop where
 wf : Wf N
 sz : 7 ≤ N.size
 g0 : N.get 0 = some (.row false [BL false])
 g1 : ∃ o,N.get 1 = some (.row false [o]) ∧ SlP N 4 zOC o (stk pre).reverse ∧ ∀ j,rowOf o = some j → O j ∧ 7 ≤ j
 g2 : ∃ obj,N.get 2 = some obj ∧ zL9 idA (I64 1) obj (pre.map (·.1))
 g3 : N.get 3 = some (.row false [.mp 2])
 g5 : N.get 5 = some (.dfr false)
 g6 : N.get 6 = some (.loop .ready none tm [12,13] cO1 cO2 5)
 o1 : O 1
 o2 : O 2
 o6 : O 6
 ol : ∀ j,O j → j < N.size ∧ (j = 1 ∨ j = 2 ∨ 6 ≤ j)
 od : Ord pre
theorem OI.keep {tm : List AV} {pre : List (Eid × Eid)} {O : Nat → Prop} {N N' : Mem} (h : OI tm pre O N) (wf : Wf N') (hs : N.size ≤ N'.size) (k : ∀ j,j < N.size → N'.get j = N.get j) : OI tm pre O N':=by
 have:=h.sz
 obtain ⟨o,h1,h2,h3⟩:=h.g1
 obtain ⟨obj,h4,h5⟩:=h.g2
 exact ⟨wf,by omega,(k 0 (by omega)).trans h.g0,⟨o,(k 1 (by omega)).trans h1,h2.keep fun j hj=>k j (h2.lt j hj),h3⟩,⟨obj,(k 2 (by omega)).trans h4,h5⟩,(k 3 (by omega)).trans h.g3,(k 5 (by omega)).trans h.g5,(k 6 (by omega)).trans h.g6,h.o1,h.o2,h.o6,fun j hj=>⟨by have:=(h.ol j hj).1; omega,(h.ol j hj).2⟩,h.od⟩
structure OS (tm : List AV) (N : Mem) : Prop where
 wf : Wf N
 sz : 7 ≤ N.size
 g0 : N.get 0 = some (.row false [BL false])
 g5 : N.get 5 = some (.dfr false)
 g6 : N.get 6 = some (.loop .done (some .ret) tm [12,13] cO1 cO2 5)
theorem zGS : FzT zOC:=fun r x h y hy=>by
 obtain ⟨rfl,_⟩:=h
 exact zJZ x y hy
theorem zNB (af : Eid) : ∀ (s : List Eid) (el : Eid),(popT af s el).2.length ≤ s.length
 | [],_=>Nat.le_refl _
 | t :: s,el=>by
  rw [popT]
  split
  ·exact Nat.le_refl _
  ·exact Nat.le_trans (zNB af s t) (Nat.le_succ _)
theorem zXV (l : List (Eid × Eid)) : (stk l).length ≤ l.length:=by
 refine zE3 (P:=fun l=>(stk l).length ≤ l.length) (Nat.le_refl _) (fun l x ih=>?_) l
 rw [zE4,List.length_cons,List.length_append]
 have:=zNB x.2 (stk l) Eid.z
 simp only [List.length_singleton]
 omega
theorem z01 : decide ((0 : Int) < 1) = true:=rfl
theorem z0lt : decide ((0 : Int) < 0) = false:=rfl
set_option maxHeartbeats 16000000 in
theorem zaA {B : Nat} {tm : List AV} {pre : List (Eid × Eid)} {O : Nat → Prop} {x : Eid × Eid} (h : OI tm pre O M) (h2 : nth zAC tm 2 = .ptr 0 0) (h3' : nth zAC tm 3 = .ptr 1 0) (h4' : nth zAC tm 4 = .ptr 3 0) (hlen : tm.length = 63) (hx : x.1.ok) (hn : pre.length ≤ 100000) (hf : pre.length + 10 < fuel) :
  W3 (zAF Try.prog (fsT tbl) fuel (d + 7) (.yl 6) [idA x.1,idA x.2] M) (fun v N'=>(v = BL true ∧ Yl (OI tm) (pre ++ [x]) O B M N') ∨ (v = BL false ∧ OS tm N' ∧ ordS x (stk pre) (pre.map (·.1)) = false)):=by
 obtain ⟨o,g1,sp,ro⟩:=h.g1
 obtain ⟨obj,gm2,hset⟩:=h.g2
 have wf:=h.wf
 have sz:=h.sz
 have hsl:=zXV pre
 have g0:=h.g0
 have g3:=h.g3
 have g6:=h.g6
 have oo:=sp.one
 refine zSG g6 rfl ?_
 have e1 : zGN tm [12,13] [idA x.1,idA x.2] = St tm [(13,idA x.2),(12,idA x.1)]:=rfl
 rw [e1]
 unfold cO1 cO2
 simp (maxSteps:=2000000) (disch:=first | omega | assumption | (simp only [DS,Nat.reduceAdd, *]; done) | (simp only [DZ]; omega)) only [RUN,RU,zA4,zA2,zA1,zA5,frzL,slot,lay,icyL,zA6,zA0,kR,reduceIte,Nat.reduceEqDiff,Nat.reduceBEq,Nat.reduceLT,Nat.reduceAdd,Nat.reduceLeDiff,Nat.reduceSub,Nat.reduceMul,Int.reduceLT,Int.reduceLE,Int.reduceEq,Int.reduceAdd,Int.reduceSub,Int.reduceMul,h2,h3',h4',wf]
 refine ⟨tm,[12,13],_,_,5,g6, ?_⟩
 generalize hX : ((((((M.add _).upd M.size _).add _).upd (M.size + 1) _).upd 6 _).add _) = X
 have wX : Wf X:=by rw [← hX]; exact ((((((wf.add _).upd _ _).add _).upd _ _).upd _ _).add _)
 have sX : X.size = M.size + 1 + 1 + 1:=by rw [← hX]; rfl
 have gX : ∀ j,j < M.size → j ≠ 6 → X.get j = M.get j:=fun j a b=>by
  rw [← hX,zAP (((((wf.add _).upd _ _).add _).upd _ _).upd _ _) _ _ (by simp only [zAE,zAD]; omega),zA7 ((((wf.add _).upd _ _).add _).upd _ _) _ _ _ (fun e=>b e.symm),zA7 (((wf.add _).upd _ _).add _) _ _ _ (by omega),zAP ((wf.add _).upd _ _) _ _ (by simp only [zAE,zAD]; omega),zA7 (wf.add _) _ _ _ (by omega),zAP wf _ _ a]
 have x6 : X.get 6 = some (.loop .busy none tm [12,13] cO1 cO2 5):=by
  rw [← hX,zAP (((((wf.add _).upd _ _).add _).upd _ _).upd _ _) _ _ (by simp only [zAE,zAD]; omega),zAG ((((wf.add _).upd _ _).add _).upd _ _) _ _ (by simp only [zAE,zAD]; omega)]
 have xa : X.get M.size = some (.row false (idR x.1)):=by
  rw [← hX,zAP (((((wf.add _).upd _ _).add _).upd _ _).upd _ _) _ _ (by simp only [zAE,zAD]; omega),zA7 ((((wf.add _).upd _ _).add _).upd _ _) _ _ _ (by omega),zA7 (((wf.add _).upd _ _).add _) _ _ _ (by omega),zAP ((wf.add _).upd _ _) _ _ (by simp only [zAE,zAD]; omega),zAG (wf.add _) _ _ (by simp only [zAD]; omega)]
 have xb : X.get (M.size + 1) = some (.row false (idR x.2)):=by
  rw [← hX,zAP (((((wf.add _).upd _ _).add _).upd _ _).upd _ _) _ _ (by simp only [zAE,zAD]; omega),zA7 ((((wf.add _).upd _ _).add _).upd _ _) _ _ _ (by omega),zAG (((wf.add _).upd _ _).add _) _ _ (by simp only [zAE,zAD]; omega)]
 have xc : X.get (M.size + 1 + 1) = some (.row false (idR Eid.z)):=by
  rw [← hX]
  exact zAS (((((wf.add _).upd _ _).add _).upd _ _).upd _ _) _ _ (by simp only [zAE,zAD]; omega) (by simp only [zAE,zAD]; omega)
 clear hX
 have spX : SlP X 4 zOC o (stk pre).reverse:=sp.keep fun j hj=>gX j (sp.lt j hj) (by have:=ro j hj; omega)
 refine zCH (I:=fun n t N => ∃ (i : Nat) (o' : AV),n = (stk pre).length - i ∧ i ≤ (stk pre).length ∧ nth zAC t 2 = .ptr 0 0 ∧ nth zAC t 3 = .ptr 1 0 ∧ nth zAC t 4 = .ptr 3 0 ∧ nth zAC t 5 = .ptr M.size 0 ∧ nth zAC t 6 = .ptr (M.size + 1) 0 ∧ nth zAC t 7 = .ptr (M.size + 1 + 1) 0 ∧ Wf N ∧ X.size ≤ N.size ∧ (∀ j,j < M.size → j ≠ 1 → N.get j = X.get j) ∧ N.get 1 = some (.row false [o']) ∧ SlP N 4 zOC o' ((stk pre).drop i).reverse ∧ rowOf o' = rowOf o ∧ N.get M.size = some (.row false (idR x.1)) ∧ N.get (M.size + 1) = some (.row false (idR x.2)) ∧ N.get (M.size + 1 + 1) = some (.row false (idR (((stk pre).take i).getLast?.getD Eid.z))) ∧ (∀ t ∈ (stk pre).take i,t ≠ x.2)) (n:=(stk pre).length) (by omega) ?_ ?_
 ·refine ⟨0,o,rfl,Nat.zero_le _, ?_, ?_, ?_, ?_, ?_, ?_,wX,Nat.le_refl _,(fun _ _ _=>rfl),((gX 1 (by omega) (by omega)).trans g1),(by rw [List.drop_zero]; exact spX),rfl,xa,xb,(by rw [List.take_zero]; exact xc),(fun t ht=>absurd ht (by simp))⟩ <;> simp (maxSteps:=2000000) (disch:=first | omega | assumption | (simp only [DS,Nat.reduceAdd, *]; done) | (simp only [DZ]; omega)) only [RUN,RU,zA4,zA2,zA1,zA5,frzL,slot,lay,icyL,zA6,zA0,kR,reduceIte,Nat.reduceEqDiff,Nat.reduceBEq,Nat.reduceLT,Nat.reduceAdd,Nat.reduceLeDiff,Nat.reduceSub,Nat.reduceMul,Int.reduceLT,Int.reduceLE,Int.reduceEq,Int.reduceAdd,Int.reduceSub,Int.reduceMul,h2,h3',h4']
  all_goals first | rfl | assumption | done
 ·rintro n t N hlt ⟨i,o',rfl,hi,g2,g3,g4,g5,g6,g7,w,le,kk,c1,spN,ro',ca,cb,cc,hm⟩
  simp only [hlen] at hlt ⊢
  have olen:=spN.len
  have oo':=spN.one
  rw [List.length_reverse,List.length_drop] at olen
  have l1:=Mem.get_lt c1
  have la:=Mem.get_lt ca
  have lb:=Mem.get_lt cb
  have lc:=Mem.get_lt cc
  by_cases hc : i < (stk pre).length
  ·have q1 : decide ((0 : Int) < ((stk pre).length - i : Nat)) = true:=decide_eq_true (by omega)
   have hil : (stk pre).length - i - 1 < ((stk pre).drop i).reverse.length:=by rw [List.length_reverse,List.length_drop]; omega
   obtain ⟨rid,cs,r,hrow,lrid,hgr,hiad,hr,hrl,hpt⟩:=spN.at hil
   have w1 : IntKind.i64.wrap (((stk pre).length - i : Nat) - 1) = ((stk pre).length - i - 1 : Nat):=by rw [wrap_i64] <;> omega
   obtain ⟨oc,hslc,spc,roc⟩:=spN.cut (by omega) (n:=(stk pre).length - i - 1) (by omega)
   have hel : ((stk pre).drop i).reverse[(stk pre).length - i - 1] = (stk pre)[i]:=by
    rw [List.getElem_reverse,List.getElem_drop]
    congr 1
    rw [List.length_drop]; omega
   rw [hel] at hr
   obtain ⟨rfl,hrok⟩:=hr
   simp (maxSteps:=2000000) (disch:=first | omega | assumption | (simp only [DS,Nat.reduceAdd, *]; done) | (simp only [DZ]; omega)) only [RUN,RU,zA4,zA2,zA1,zA5,frzL,slot,lay,icyL,zA6,zA0,kR,reduceIte,Nat.reduceEqDiff,Nat.reduceBEq,Nat.reduceLT,Nat.reduceAdd,Nat.reduceLeDiff,Nat.reduceSub,Nat.reduceMul,Int.reduceLT,Int.reduceLE,Int.reduceEq,Int.reduceAdd,Int.reduceSub,Int.reduceMul,g2,g3,g4,g5,g6,g7,olen,q1,w1,c1,hiad,hgr,hpt,oo',ca,cb,cc,w,↓pIdE,zAK,↓pIdN,zAH,↓pHdE,zAI,↓pHdN,zAJ,↓pLbE,zAL,↓pLbN,zAM,↓pSpE,zAN,↓pSpN,zAO,ETA]
   by_cases hte : (stk pre)[i] = x.2
   ·have q2 : decide ((stk pre)[i] = x.2) = true:=decide_eq_true hte
    have hpop:=zHH (el:=Eid.z) (q:=(stk pre).drop i) hm (.inr ⟨(stk pre).drop (i + 1),by rw [List.drop_eq_getElem_cons hc,hte]⟩)
    rw [List.take_append_drop] at hpop
    have hne : decide (((((stk pre).length - i : Nat) : Int)) = 0) = false:=decide_eq_false (by omega)
    have hqz : decide ((stk pre).drop i = []) = false:=decide_eq_false (fun e=>by have:=congrArg List.length e; rw [List.length_drop] at this; simp at this; omega)
    simp (maxSteps:=2000000) (disch:=first | omega | assumption | (simp only [DS,Nat.reduceAdd, *]; done) | (simp only [DZ]; omega)) only [RUN,RU,zA4,zA2,zA1,zA5,frzL,slot,lay,icyL,zA6,zA0,kR,reduceIte,Nat.reduceEqDiff,Nat.reduceBEq,Nat.reduceLT,Nat.reduceAdd,Nat.reduceLeDiff,Nat.reduceSub,Nat.reduceMul,Int.reduceLT,Int.reduceLE,Int.reduceEq,Int.reduceAdd,Int.reduceSub,Int.reduceMul,g2,g3,g4,g5,g6,g7,olen,q1,q2,c1,hiad,hgr,hpt,oo',ca,cb,cc,w,↓pIdE,zAK,↓pIdN,zAH,↓pHdE,zAI,↓pHdN,zAJ,↓pLbE,zAL,↓pLbN,zAM,↓pSpE,zAN,↓pSpN,zAO,ETA]
    generalize hY : (N.add _).upd N.size _ = Y
    have wY : Wf Y:=by rw [← hY]; exact (w.add _).upd _ _
    have lY : N.size ≤ Y.size:=by rw [← hY,zAE,zAD]; omega
    have kY : ∀ j,j < N.size → Y.get j = N.get j:=fun j hj=>by
     rw [← hY,zA7 (w.add _) _ _ _ (by omega),zAP w _ _ hj]
    clear hY
    have y0 : Y.get 0 = some (.row false [BL false]):=(kY 0 (by omega)).trans ((kk 0 (by omega) (by omega)).trans ((gX 0 (by omega) (by omega)).trans h.g0))
    have y1:=(kY 1 (by omega)).trans c1
    have y2:=(kY 2 (by omega)).trans ((kk 2 (by omega) (by omega)).trans ((gX 2 (by omega) (by omega)).trans gm2))
    have y3:=(kY 3 (by omega)).trans ((kk 3 (by omega) (by omega)).trans ((gX 3 (by omega) (by omega)).trans h.g3))
    have y6:=(kY 6 (by omega)).trans ((kk 6 (by omega) (by omega)).trans x6)
    have ya:=(kY _ (by omega)).trans ca
    have yb:=(kY _ (by omega)).trans cb
    have yc:=(kY _ (by omega)).trans cc
    have yj : ∀ j,j < M.size → j ≠ 1 → j ≠ 6 → Y.get j = M.get j:=fun j a b c=>(kY j (by omega)).trans ((kk j a b).trans (gX j a c))
    have spY : SlP Y 4 zOC o' ((stk pre).drop i).reverse:=spN.keep fun j hj=>kY j (spN.lt j hj)
    clear kY kk w c1 ca cb cc spN l1 la lb lc
    have l1:=Mem.get_lt y1
    have la:=Mem.get_lt ya
    have lb:=Mem.get_lt yb
    have lc:=Mem.get_lt yc
    have l2:=Mem.get_lt y2
    have l3:=Mem.get_lt y3
    have l0:=Mem.get_lt y0
    have hlk:=zVI zO9 (z:=.int .i64 0) y2 hset x.1
    unfold ordS
    rw [hpop]
    simp only [hqz]
    have hql : ((stk pre).drop i).length ≤ pre.length:=by rw [List.length_drop]; omega
    generalize (stk pre).drop i = q at *
    generalize ((stk pre).take i).getLast?.getD Eid.z = el at *
    have hls:=fun M=>@zEO fuel (d + 4) x.1 el M
    have c2 : True:=trivial
    cases c3 : decide (el = Eid.z)
    ·cases c4 : x.1.less el
     ·rw [c4] at hls
      simp (maxSteps:=2000000) (disch:=first | omega | assumption | (simp only [DS,Nat.reduceAdd, *]; done) | (simp only [DZ]; omega)) only [RUN,RU,zA4,zA2,zA1,zA5,frzL,slot,lay,icyL,zA6,zA0,kR,reduceIte,Nat.reduceEqDiff,Nat.reduceBEq,Nat.reduceLT,Nat.reduceAdd,Nat.reduceLeDiff,Nat.reduceSub,Nat.reduceMul,Int.reduceLT,Int.reduceLE,Int.reduceEq,Int.reduceAdd,Int.reduceSub,Int.reduceMul,g2,g3,g4,g5,g6,g7,hne,oo',y0,y1,y3,ya,yb,yc,wY,↓pIdE,zAK,↓pIdN,zAH,↓pHdE,zAI,↓pHdN,zAJ,↓pLbE,zAL,↓pLbN,zAM,↓pSpE,zAN,↓pSpN,zAO,ETA,c2,c3,hls]
      have os : OS tm ((Y.upd 0 (.row false [BL false])).upd 6 (.loop .done (some .ret) tm [12,13] cO1 cO2 5)):=by
       refine ⟨(wY.upd _ _).upd _ _,by simp only [zAE]; omega, ?_, ?_, ?_⟩
       ·rw [zA7 (wY.upd _ _) _ _ _ (by omega)]
        exact zAG wY _ _ l0
       ·rw [zA7 (wY.upd _ _) _ _ _ (by omega),zA7 wY _ _ _ (by omega)]
        exact (yj 5 (by omega) (by omega) (by omega)).trans h.g5
       ·exact zAG (wY.upd _ _) _ _ (by simp only [zAE]; omega)
      refine ⟨_,_,_,_,_,_,_,y6,.inr (.inr ?_)⟩
      first
      | exact os
      | exact ⟨os,by simp [*]⟩
     ·rw [c4] at hls
      by_cases c5 : x.1 ∈ pre.map (·.1)
      ·simp only [c5,if_true] at hlk
       simp (maxSteps:=2000000) (disch:=first | omega | assumption | (simp only [DS,Nat.reduceAdd, *]; done) | (simp only [DZ]; omega)) only [RUN,RU,zA4,zA2,zA1,zA5,frzL,slot,lay,icyL,zA6,zA0,kR,reduceIte,Nat.reduceEqDiff,Nat.reduceBEq,Nat.reduceLT,Nat.reduceAdd,Nat.reduceLeDiff,Nat.reduceSub,Nat.reduceMul,Int.reduceLT,Int.reduceLE,Int.reduceEq,Int.reduceAdd,Int.reduceSub,Int.reduceMul,g2,g3,g4,g5,g6,g7,hne,oo',y0,y1,y3,ya,yb,yc,wY,↓pIdE,zAK,↓pIdN,zAH,↓pHdE,zAI,↓pHdN,zAJ,↓pLbE,zAL,↓pLbN,zAM,↓pSpE,zAN,↓pSpN,zAO,ETA,c2,c3,hls,x_lk,hlk,z01,z0lt]
       have os : OS tm ((Y.upd 0 (.row false [BL false])).upd 6 (.loop .done (some .ret) tm [12,13] cO1 cO2 5)):=by
        refine ⟨(wY.upd _ _).upd _ _,by simp only [zAE]; omega, ?_, ?_, ?_⟩
        ·rw [zA7 (wY.upd _ _) _ _ _ (by omega)]
         exact zAG wY _ _ l0
        ·rw [zA7 (wY.upd _ _) _ _ _ (by omega),zA7 wY _ _ _ (by omega)]
         exact (yj 5 (by omega) (by omega) (by omega)).trans h.g5
        ·exact zAG (wY.upd _ _) _ _ (by simp only [zAE]; omega)
       refine ⟨_,_,_,_,_,_,_,y6,.inr (.inr ?_)⟩
       first
       | exact os
       | exact ⟨os,by simp [*]⟩
      ·simp only [c5,if_false] at hlk
       simp (maxSteps:=2000000) (disch:=first | omega | assumption | (simp only [DS,Nat.reduceAdd, *]; done) | (simp only [DZ]; omega)) only [RUN,RU,zA4,zA2,zA1,zA5,frzL,slot,lay,icyL,zA6,zA0,kR,reduceIte,Nat.reduceEqDiff,Nat.reduceBEq,Nat.reduceLT,Nat.reduceAdd,Nat.reduceLeDiff,Nat.reduceSub,Nat.reduceMul,Int.reduceLT,Int.reduceLE,Int.reduceEq,Int.reduceAdd,Int.reduceSub,Int.reduceMul,g2,g3,g4,g5,g6,g7,hne,oo',y0,y1,y3,ya,yb,yc,wY,↓pIdE,zAK,↓pIdN,zAH,↓pHdE,zAI,↓pHdN,zAJ,↓pLbE,zAL,↓pLbN,zAM,↓pSpE,zAN,↓pSpN,zAO,ETA,c2,c3,hls,x_lk,hlk,z01,z0lt,x_mu]
       refine zN2 zO9 wY l2 y2 hset x.1 fun obj' hset'=>?_
       simp only [c5,if_false] at hset'
       simp (maxSteps:=2000000) (disch:=first | omega | assumption | (simp only [DS,Nat.reduceAdd, *]; done) | (simp only [DZ]; omega)) only [RUN,RU,zA4,zA2,zA1,zA5,frzL,slot,lay,icyL,zA6,zA0,kR,reduceIte,Nat.reduceEqDiff,Nat.reduceBEq,Nat.reduceLT,Nat.reduceAdd,Nat.reduceLeDiff,Nat.reduceSub,Nat.reduceMul,Int.reduceLT,Int.reduceLE,Int.reduceEq,Int.reduceAdd,Int.reduceSub,Int.reduceMul,g2,g3,g4,g5,g6,g7,oo',y1,y3,ya,yb,yc,wY]
       refine ⟨spY.rows (by omega),SlP.app1 (bytes:=24) (x:=x.1) (wY.upd 2 obj') (spY.keep fun j hj=>zA7 wY _ _ _ (by have:=(ro j (ro' ▸ hj)).2; omega)) zGS ⟨rfl,hx⟩ rfl (by omega) (by rw [List.length_reverse]; omega) (by rw [List.length_reverse]; omega) fun o2 M2 sp2 w2 le2 kp2 nw2 rl2 on2 oc2=>?_⟩
       rw [zAE] at le2 kp2 nw2
       have hS : ordS x (stk pre) (pre.map (·.1)) = true:=by
        unfold ordS
        rw [hpop]
        simp [*]
       have hst : (stk (pre ++ [x])).reverse = q.reverse ++ [x.1]:=by rw [zE4,hpop,List.reverse_cons]
       have ro2 : ∀ j,rowOf o' = some j → O j ∧ 7 ≤ j:=fun j hj=>ro j (ro' ▸ hj)
       have k2 : ∀ j,j < M.size → j ≠ 1 → j ≠ 2 → j ≠ 6 → rowOf o' ≠ some j → M2.get j = M.get j:=fun j a b c e f=>by
        rw [kp2 j (by omega) f,zA7 wY _ _ _ (fun e=>c e.symm)]
        exact yj j a b e
       have m6 : M2.get 6 = some (.loop .busy none tm [12,13] cO1 cO2 5):=by
        rw [kp2 6 (by omega) (fun e=>by have:=(ro2 6 e).2; omega),zA7 wY _ _ _ (by omega)]
        exact y6
       have m2 : M2.get 2 = some obj':=by
        rw [kp2 2 (by omega) (fun e=>by have:=(ro2 2 e).2; omega)]
        exact zAG wY _ _ l2
       have m1 : 1 < M2.size:=by omega
       have n1 : M2.get 1 = some (.row false [o']):=by
        rw [kp2 1 (by omega) (fun e=>by have:=(ro2 1 e).2; omega),zA7 wY _ _ _ (by omega)]
        exact y1
       simp (maxSteps:=2000000) (disch:=first | omega | assumption | (simp only [DS,Nat.reduceAdd, *]; done) | (simp only [DZ]; omega)) only [RUN,RU,zA4,zA2,zA1,zA5,frzL,slot,lay,icyL,zA6,zA0,kR,reduceIte,Nat.reduceEqDiff,Nat.reduceBEq,Nat.reduceLT,Nat.reduceAdd,Nat.reduceLeDiff,Nat.reduceSub,Nat.reduceMul,Int.reduceLT,Int.reduceLE,Int.reduceEq,Int.reduceAdd,Int.reduceSub,Int.reduceMul,g2,g3,g4,g5,g6,g7,on2,oc2,rl2,w2,m6,n1]
       have yl : Yl (OI tm) (pre ++ [x]) O B M ((M2.upd 1 (.row false [o2])).upd 6 (.loop .ready none tm [12,13] cO1 cO2 5)):=by
        have wZ:=w2.upd 1 (.row false [o2])
        have zk : ∀ j,j ≠ 1 → j ≠ 6 → ((M2.upd 1 (.row false [o2])).upd 6 (.loop .ready none tm [12,13] cO1 cO2 5)).get j = M2.get j:=fun j a b=>by
         rw [zA7 wZ _ _ _ (fun e=>b e.symm),zA7 w2 _ _ _ (fun e=>a e.symm)]
        have nro : ∀ j,j < 7 → rowOf o' ≠ some j:=fun j hj e=>by have:=(ro2 j e).2; omega
        have no2 : ∀ j,rowOf o2 = some j → 7 ≤ j ∧ (O j ∨ M.size ≤ j):=fun j hj=>by
         rcases nw2 j hj with e | e
         ·exact ⟨(ro2 j e).2,.inl (ro2 j e).1⟩
         ·exact ⟨by omega,.inr (by omega)⟩
        refine ⟨⟨fun j=>O j ∨ rowOf o2 = some j,⟨wZ.upd _ _,by simp only [zAE]; omega, ?_,⟨o2, ?_, ?_,fun j hj=>⟨.inr hj,(no2 j hj).1⟩⟩,⟨obj', ?_, ?_⟩, ?_, ?_, ?_,.inl h.o1,.inl h.o2,.inl h.o6, ?_,h.od.snoc hS⟩, ?_⟩,wZ.upd _ _,by simp only [zAE]; omega, ?_⟩
        ·rw [zk 0 (by omega) (by omega),k2 0 (by omega) (by omega) (by omega) (by omega) (nro 0 (by omega))]; exact h.g0
        ·rw [zA7 wZ _ _ _ (by omega)]; exact zAG w2 _ _ m1
        ·rw [hst]
         exact sp2.keep fun j hj=>zk j (by have:=(no2 j hj).1; omega) (by have:=(no2 j hj).1; omega)
        ·rw [zk 2 (by omega) (by omega)]; exact m2
        ·rw [List.map_append]; exact hset'
        ·rw [zk 3 (by omega) (by omega),k2 3 (by omega) (by omega) (by omega) (by omega) (nro 3 (by omega))]; exact h.g3
        ·rw [zk 5 (by omega) (by omega),k2 5 (by omega) (by omega) (by omega) (by omega) (nro 5 (by omega))]; exact h.g5
        ·exact zAG wZ _ _ (by simp only [zAE]; omega)
        ·intro j hj
         simp only [zAE]
         rcases hj with hj | hj
         ·exact ⟨by have:=(h.ol j hj).1; omega,(h.ol j hj).2⟩
         ·exact ⟨sp2.lt j hj,.inr (.inr (by have:=(no2 j hj).1; omega))⟩
        ·rintro j (hj | hj)
         ·exact .inl hj
         ·exact (no2 j hj).2
        ·intro j hj hO
         have h1 : j ≠ 1:=fun e=>hO (e ▸ h.o1)
         have h2 : j ≠ 2:=fun e=>hO (e ▸ h.o2)
         have h6 : j ≠ 6:=fun e=>hO (e ▸ h.o6)
         rw [zk j h1 h6]
         exact k2 j hj h1 h2 h6 fun e=>hO (ro2 j e).1
       exact ⟨_,_,_,_,_,_,_,rfl,.inl (.inl yl)⟩
    ·skip
     by_cases c5 : x.1 ∈ pre.map (·.1)
     ·simp only [c5,if_true] at hlk
      simp (maxSteps:=2000000) (disch:=first | omega | assumption | (simp only [DS,Nat.reduceAdd, *]; done) | (simp only [DZ]; omega)) only [RUN,RU,zA4,zA2,zA1,zA5,frzL,slot,lay,icyL,zA6,zA0,kR,reduceIte,Nat.reduceEqDiff,Nat.reduceBEq,Nat.reduceLT,Nat.reduceAdd,Nat.reduceLeDiff,Nat.reduceSub,Nat.reduceMul,Int.reduceLT,Int.reduceLE,Int.reduceEq,Int.reduceAdd,Int.reduceSub,Int.reduceMul,g2,g3,g4,g5,g6,g7,hne,oo',y0,y1,y3,ya,yb,yc,wY,↓pIdE,zAK,↓pIdN,zAH,↓pHdE,zAI,↓pHdN,zAJ,↓pLbE,zAL,↓pLbN,zAM,↓pSpE,zAN,↓pSpN,zAO,ETA,c2,c3,hls,x_lk,hlk,z01,z0lt]
      have os : OS tm ((Y.upd 0 (.row false [BL false])).upd 6 (.loop .done (some .ret) tm [12,13] cO1 cO2 5)):=by
       refine ⟨(wY.upd _ _).upd _ _,by simp only [zAE]; omega, ?_, ?_, ?_⟩
       ·rw [zA7 (wY.upd _ _) _ _ _ (by omega)]
        exact zAG wY _ _ l0
       ·rw [zA7 (wY.upd _ _) _ _ _ (by omega),zA7 wY _ _ _ (by omega)]
        exact (yj 5 (by omega) (by omega) (by omega)).trans h.g5
       ·exact zAG (wY.upd _ _) _ _ (by simp only [zAE]; omega)
      refine ⟨_,_,_,_,_,_,_,y6,.inr (.inr ?_)⟩
      first
      | exact os
      | exact ⟨os,by simp [*]⟩
     ·simp only [c5,if_false] at hlk
      simp (maxSteps:=2000000) (disch:=first | omega | assumption | (simp only [DS,Nat.reduceAdd, *]; done) | (simp only [DZ]; omega)) only [RUN,RU,zA4,zA2,zA1,zA5,frzL,slot,lay,icyL,zA6,zA0,kR,reduceIte,Nat.reduceEqDiff,Nat.reduceBEq,Nat.reduceLT,Nat.reduceAdd,Nat.reduceLeDiff,Nat.reduceSub,Nat.reduceMul,Int.reduceLT,Int.reduceLE,Int.reduceEq,Int.reduceAdd,Int.reduceSub,Int.reduceMul,g2,g3,g4,g5,g6,g7,hne,oo',y0,y1,y3,ya,yb,yc,wY,↓pIdE,zAK,↓pIdN,zAH,↓pHdE,zAI,↓pHdN,zAJ,↓pLbE,zAL,↓pLbN,zAM,↓pSpE,zAN,↓pSpN,zAO,ETA,c2,c3,hls,x_lk,hlk,z01,z0lt,x_mu]
      refine zN2 zO9 wY l2 y2 hset x.1 fun obj' hset'=>?_
      simp only [c5,if_false] at hset'
      simp (maxSteps:=2000000) (disch:=first | omega | assumption | (simp only [DS,Nat.reduceAdd, *]; done) | (simp only [DZ]; omega)) only [RUN,RU,zA4,zA2,zA1,zA5,frzL,slot,lay,icyL,zA6,zA0,kR,reduceIte,Nat.reduceEqDiff,Nat.reduceBEq,Nat.reduceLT,Nat.reduceAdd,Nat.reduceLeDiff,Nat.reduceSub,Nat.reduceMul,Int.reduceLT,Int.reduceLE,Int.reduceEq,Int.reduceAdd,Int.reduceSub,Int.reduceMul,g2,g3,g4,g5,g6,g7,oo',y1,y3,ya,yb,yc,wY]
      refine ⟨spY.rows (by omega),SlP.app1 (bytes:=24) (x:=x.1) (wY.upd 2 obj') (spY.keep fun j hj=>zA7 wY _ _ _ (by have:=(ro j (ro' ▸ hj)).2; omega)) zGS ⟨rfl,hx⟩ rfl (by omega) (by rw [List.length_reverse]; omega) (by rw [List.length_reverse]; omega) fun o2 M2 sp2 w2 le2 kp2 nw2 rl2 on2 oc2=>?_⟩
      rw [zAE] at le2 kp2 nw2
      have hS : ordS x (stk pre) (pre.map (·.1)) = true:=by
       unfold ordS
       rw [hpop]
       simp [*]
      have hst : (stk (pre ++ [x])).reverse = q.reverse ++ [x.1]:=by rw [zE4,hpop,List.reverse_cons]
      have ro2 : ∀ j,rowOf o' = some j → O j ∧ 7 ≤ j:=fun j hj=>ro j (ro' ▸ hj)
      have k2 : ∀ j,j < M.size → j ≠ 1 → j ≠ 2 → j ≠ 6 → rowOf o' ≠ some j → M2.get j = M.get j:=fun j a b c e f=>by
       rw [kp2 j (by omega) f,zA7 wY _ _ _ (fun e=>c e.symm)]
       exact yj j a b e
      have m6 : M2.get 6 = some (.loop .busy none tm [12,13] cO1 cO2 5):=by
       rw [kp2 6 (by omega) (fun e=>by have:=(ro2 6 e).2; omega),zA7 wY _ _ _ (by omega)]
       exact y6
      have m2 : M2.get 2 = some obj':=by
       rw [kp2 2 (by omega) (fun e=>by have:=(ro2 2 e).2; omega)]
       exact zAG wY _ _ l2
      have m1 : 1 < M2.size:=by omega
      have n1 : M2.get 1 = some (.row false [o']):=by
       rw [kp2 1 (by omega) (fun e=>by have:=(ro2 1 e).2; omega),zA7 wY _ _ _ (by omega)]
       exact y1
      simp (maxSteps:=2000000) (disch:=first | omega | assumption | (simp only [DS,Nat.reduceAdd, *]; done) | (simp only [DZ]; omega)) only [RUN,RU,zA4,zA2,zA1,zA5,frzL,slot,lay,icyL,zA6,zA0,kR,reduceIte,Nat.reduceEqDiff,Nat.reduceBEq,Nat.reduceLT,Nat.reduceAdd,Nat.reduceLeDiff,Nat.reduceSub,Nat.reduceMul,Int.reduceLT,Int.reduceLE,Int.reduceEq,Int.reduceAdd,Int.reduceSub,Int.reduceMul,g2,g3,g4,g5,g6,g7,on2,oc2,rl2,w2,m6,n1]
      have yl : Yl (OI tm) (pre ++ [x]) O B M ((M2.upd 1 (.row false [o2])).upd 6 (.loop .ready none tm [12,13] cO1 cO2 5)):=by
       have wZ:=w2.upd 1 (.row false [o2])
       have zk : ∀ j,j ≠ 1 → j ≠ 6 → ((M2.upd 1 (.row false [o2])).upd 6 (.loop .ready none tm [12,13] cO1 cO2 5)).get j = M2.get j:=fun j a b=>by
        rw [zA7 wZ _ _ _ (fun e=>b e.symm),zA7 w2 _ _ _ (fun e=>a e.symm)]
       have nro : ∀ j,j < 7 → rowOf o' ≠ some j:=fun j hj e=>by have:=(ro2 j e).2; omega
       have no2 : ∀ j,rowOf o2 = some j → 7 ≤ j ∧ (O j ∨ M.size ≤ j):=fun j hj=>by
        rcases nw2 j hj with e | e
        ·exact ⟨(ro2 j e).2,.inl (ro2 j e).1⟩
        ·exact ⟨by omega,.inr (by omega)⟩
       refine ⟨⟨fun j=>O j ∨ rowOf o2 = some j,⟨wZ.upd _ _,by simp only [zAE]; omega, ?_,⟨o2, ?_, ?_,fun j hj=>⟨.inr hj,(no2 j hj).1⟩⟩,⟨obj', ?_, ?_⟩, ?_, ?_, ?_,.inl h.o1,.inl h.o2,.inl h.o6, ?_,h.od.snoc hS⟩, ?_⟩,wZ.upd _ _,by simp only [zAE]; omega, ?_⟩
       ·rw [zk 0 (by omega) (by omega),k2 0 (by omega) (by omega) (by omega) (by omega) (nro 0 (by omega))]; exact h.g0
       ·rw [zA7 wZ _ _ _ (by omega)]; exact zAG w2 _ _ m1
       ·rw [hst]
        exact sp2.keep fun j hj=>zk j (by have:=(no2 j hj).1; omega) (by have:=(no2 j hj).1; omega)
       ·rw [zk 2 (by omega) (by omega)]; exact m2
       ·rw [List.map_append]; exact hset'
       ·rw [zk 3 (by omega) (by omega),k2 3 (by omega) (by omega) (by omega) (by omega) (nro 3 (by omega))]; exact h.g3
       ·rw [zk 5 (by omega) (by omega),k2 5 (by omega) (by omega) (by omega) (by omega) (nro 5 (by omega))]; exact h.g5
       ·exact zAG wZ _ _ (by simp only [zAE]; omega)
       ·intro j hj
        simp only [zAE]
        rcases hj with hj | hj
        ·exact ⟨by have:=(h.ol j hj).1; omega,(h.ol j hj).2⟩
        ·exact ⟨sp2.lt j hj,.inr (.inr (by have:=(no2 j hj).1; omega))⟩
       ·rintro j (hj | hj)
        ·exact .inl hj
        ·exact (no2 j hj).2
       ·intro j hj hO
        have h1 : j ≠ 1:=fun e=>hO (e ▸ h.o1)
        have h2 : j ≠ 2:=fun e=>hO (e ▸ h.o2)
        have h6 : j ≠ 6:=fun e=>hO (e ▸ h.o6)
        rw [zk j h1 h6]
        exact k2 j hj h1 h2 h6 fun e=>hO (ro2 j e).1
      exact ⟨_,_,_,_,_,_,_,rfl,.inl (.inl yl)⟩
   ·have q2 : decide ((stk pre)[i] = x.2) = false:=decide_eq_false hte
    simp (maxSteps:=2000000) (disch:=first | omega | assumption | (simp only [DS,Nat.reduceAdd, *]; done) | (simp only [DZ]; omega)) only [RUN,RU,zA4,zA2,zA1,zA5,frzL,slot,lay,icyL,zA6,zA0,kR,reduceIte,Nat.reduceEqDiff,Nat.reduceBEq,Nat.reduceLT,Nat.reduceAdd,Nat.reduceLeDiff,Nat.reduceSub,Nat.reduceMul,Int.reduceLT,Int.reduceLE,Int.reduceEq,Int.reduceAdd,Int.reduceSub,Int.reduceMul,g2,g3,g4,g5,g6,g7,olen,q1,q2,w1,c1,hiad,hgr,hpt,oo',ca,cb,cc,w,↓pIdE,zAK,↓pIdN,zAH,↓pHdE,zAI,↓pHdN,zAJ,↓pLbE,zAL,↓pLbN,zAM,↓pSpE,zAN,↓pSpN,zAO,ETA]
    refine ⟨spN.rows (by omega), ?_⟩
    rw [hslc _ (fun id hid=>by
     have:=spN.lt id hid
     rw [zA7 (w.add _) _ _ _ (by omega),zAP w _ _ this])]
    have oco:=spc.one
    have occ:=spc.cells
    have ocr:=fun m hm=>spc.rows (m:=m) hm
    simp (maxSteps:=2000000) (disch:=first | omega | assumption | (simp only [DS,Nat.reduceAdd, *]; done) | (simp only [DZ]; omega)) only [RUN,RU,zA4,zA2,zA1,zA5,frzL,slot,lay,icyL,zA6,zA0,kR,reduceIte,Nat.reduceEqDiff,Nat.reduceBEq,Nat.reduceLT,Nat.reduceAdd,Nat.reduceLeDiff,Nat.reduceSub,Nat.reduceMul,Int.reduceLT,Int.reduceLE,Int.reduceEq,Int.reduceAdd,Int.reduceSub,Int.reduceMul,g2,g3,g4,g5,g6,g7,oco,occ,ocr,c1,ca,cb,cc,w]
    have ror:=spN.row1 hrow
    have rid7 : 7 ≤ rid ∧ rid < M.size:=by
     have e : rowOf o = some rid:=ro' ▸ hrow
     exact ⟨(ro rid e).2,sp.lt rid e⟩
    refine ⟨?_,hlt,(stk pre).length - (i + 1),by omega,i + 1,oc,rfl,by omega,by omega,fun j a b=>?_,rfl, ?_,roc.trans ro', ?_, ?_⟩
    ·have e1 : ¬(M.size + 1 + 1 = 1):=by omega
     have e2 : ¬(M.size + 1 + 1 = rid):=by omega
     rw [ror]
     simp [FP.apart,disj,FP.reads,FP.writes,fpOf,e1,e2]
    ·rw [zA7 (((w.add _).upd _ _).upd _ _) _ _ _ (by omega),zA7 ((w.add _).upd _ _) _ _ _ (by omega),zA7 (w.add _) _ _ _ (by omega),zAP w _ _ (by omega)]
     exact kk j a b
    ·have e : ((stk pre).drop i).reverse.take ((stk pre).length - i - 1) = ((stk pre).drop (i + 1)).reverse:=by
      rw [List.take_reverse,List.drop_drop,List.length_drop]
      congr 2
      omega
     rw [← e]
     refine spc.keep fun j hj=>?_
     rw [roc,hrow] at hj
     injection hj with hj
     subst hj
     rw [zA7 (((w.add _).upd _ _).upd _ _) _ _ _ (by omega),zA7 ((w.add _).upd _ _) _ _ _ (by omega),zA7 (w.add _) _ _ _ (by omega),zAP w _ _ (by omega)]
    ·have e : ((stk pre).take (i + 1)).getLast?.getD Eid.z = (stk pre)[i]:=by
      rw [zBJ _ _ hc,List.getLast?_concat]; rfl
     rw [e]
    ·intro t ht
     rw [zBJ _ _ hc] at ht
     rcases List.mem_append.1 ht with ht | ht
     ·exact hm t ht
     ·rw [List.mem_singleton] at ht; subst ht; exact hte
  ·obtain rfl : i = (stk pre).length:=by omega
   have q1 : decide ((0 : Int) < ((stk pre).length - (stk pre).length : Nat)) = false:=decide_eq_false (by omega)
   have hne : decide (((((stk pre).length - (stk pre).length : Nat) : Int)) = 0) = true:=decide_eq_true (by omega)
   have hqz : decide ((stk pre).drop (stk pre).length = []) = true:=decide_eq_true (List.drop_length)
   have hpop:=zHH (el:=Eid.z) (q:=(stk pre).drop (stk pre).length) hm (.inl List.drop_length)
   rw [List.take_append_drop] at hpop
   simp (maxSteps:=2000000) (disch:=first | omega | assumption | (simp only [DS,Nat.reduceAdd, *]; done) | (simp only [DZ]; omega)) only [RUN,RU,zA4,zA2,zA1,zA5,frzL,slot,lay,icyL,zA6,zA0,kR,reduceIte,Nat.reduceEqDiff,Nat.reduceBEq,Nat.reduceLT,Nat.reduceAdd,Nat.reduceLeDiff,Nat.reduceSub,Nat.reduceMul,Int.reduceLT,Int.reduceLE,Int.reduceEq,Int.reduceAdd,Int.reduceSub,Int.reduceMul,g2,g3,g4,g5,g6,g7,olen,q1,c1,oo',ca,cb,cc,w,↓pIdE,zAK,↓pIdN,zAH,↓pHdE,zAI,↓pHdN,zAJ,↓pLbE,zAL,↓pLbN,zAM,↓pSpE,zAN,↓pSpN,zAO,ETA]
   obtain ⟨Y,hY⟩ : ∃ Y,Y = N:=⟨N,rfl⟩
   rw [← hY]
   have wY : Wf Y:=by rw [hY]; exact w
   have lY : N.size ≤ Y.size:=by rw [hY]; omega
   have kY : ∀ j,j < N.size → Y.get j = N.get j:=fun j hj=>by rw [hY]
   clear hY
   have y0 : Y.get 0 = some (.row false [BL false]):=(kY 0 (by omega)).trans ((kk 0 (by omega) (by omega)).trans ((gX 0 (by omega) (by omega)).trans h.g0))
   have y1:=(kY 1 (by omega)).trans c1
   have y2:=(kY 2 (by omega)).trans ((kk 2 (by omega) (by omega)).trans ((gX 2 (by omega) (by omega)).trans gm2))
   have y3:=(kY 3 (by omega)).trans ((kk 3 (by omega) (by omega)).trans ((gX 3 (by omega) (by omega)).trans h.g3))
   have y6:=(kY 6 (by omega)).trans ((kk 6 (by omega) (by omega)).trans x6)
   have ya:=(kY _ (by omega)).trans ca
   have yb:=(kY _ (by omega)).trans cb
   have yc:=(kY _ (by omega)).trans cc
   have yj : ∀ j,j < M.size → j ≠ 1 → j ≠ 6 → Y.get j = M.get j:=fun j a b c=>(kY j (by omega)).trans ((kk j a b).trans (gX j a c))
   have spY : SlP Y 4 zOC o' ((stk pre).drop (stk pre).length).reverse:=spN.keep fun j hj=>kY j (spN.lt j hj)
   clear kY kk w c1 ca cb cc spN l1 la lb lc
   have l1:=Mem.get_lt y1
   have la:=Mem.get_lt ya
   have lb:=Mem.get_lt yb
   have lc:=Mem.get_lt yc
   have l2:=Mem.get_lt y2
   have l3:=Mem.get_lt y3
   have l0:=Mem.get_lt y0
   have hlk:=zVI zO9 (z:=.int .i64 0) y2 hset x.1
   unfold ordS
   rw [hpop]
   simp only [hqz]
   have hql : ((stk pre).drop (stk pre).length).length ≤ pre.length:=by rw [List.length_drop]; omega
   generalize (stk pre).drop (stk pre).length = q at *
   generalize ((stk pre).take (stk pre).length).getLast?.getD Eid.z = el at *
   have hls:=fun M=>@zEO fuel (d + 4) x.1 el M
   cases c2 : decide (x.2 = Eid.z)
   ·simp (maxSteps:=2000000) (disch:=first | omega | assumption | (simp only [DS,Nat.reduceAdd, *]; done) | (simp only [DZ]; omega)) only [RUN,RU,zA4,zA2,zA1,zA5,frzL,slot,lay,icyL,zA6,zA0,kR,reduceIte,Nat.reduceEqDiff,Nat.reduceBEq,Nat.reduceLT,Nat.reduceAdd,Nat.reduceLeDiff,Nat.reduceSub,Nat.reduceMul,Int.reduceLT,Int.reduceLE,Int.reduceEq,Int.reduceAdd,Int.reduceSub,Int.reduceMul,g2,g3,g4,g5,g6,g7,hne,oo',y0,y1,y3,ya,yb,yc,wY,↓pIdE,zAK,↓pIdN,zAH,↓pHdE,zAI,↓pHdN,zAJ,↓pLbE,zAL,↓pLbN,zAM,↓pSpE,zAN,↓pSpN,zAO,ETA,c2]
    have os : OS tm ((Y.upd 0 (.row false [BL false])).upd 6 (.loop .done (some .ret) tm [12,13] cO1 cO2 5)):=by
     refine ⟨(wY.upd _ _).upd _ _,by simp only [zAE]; omega, ?_, ?_, ?_⟩
     ·rw [zA7 (wY.upd _ _) _ _ _ (by omega)]
      exact zAG wY _ _ l0
     ·rw [zA7 (wY.upd _ _) _ _ _ (by omega),zA7 wY _ _ _ (by omega)]
      exact (yj 5 (by omega) (by omega) (by omega)).trans h.g5
     ·exact zAG (wY.upd _ _) _ _ (by simp only [zAE]; omega)
    refine ⟨_,_,_,_,_,_,_,y6,.inr (.inr ?_)⟩
    first
    | exact os
    | exact ⟨os,by simp [*]⟩
   ·skip
    cases c3 : decide (el = Eid.z)
    ·cases c4 : x.1.less el
     ·rw [c4] at hls
      simp (maxSteps:=2000000) (disch:=first | omega | assumption | (simp only [DS,Nat.reduceAdd, *]; done) | (simp only [DZ]; omega)) only [RUN,RU,zA4,zA2,zA1,zA5,frzL,slot,lay,icyL,zA6,zA0,kR,reduceIte,Nat.reduceEqDiff,Nat.reduceBEq,Nat.reduceLT,Nat.reduceAdd,Nat.reduceLeDiff,Nat.reduceSub,Nat.reduceMul,Int.reduceLT,Int.reduceLE,Int.reduceEq,Int.reduceAdd,Int.reduceSub,Int.reduceMul,g2,g3,g4,g5,g6,g7,hne,oo',y0,y1,y3,ya,yb,yc,wY,↓pIdE,zAK,↓pIdN,zAH,↓pHdE,zAI,↓pHdN,zAJ,↓pLbE,zAL,↓pLbN,zAM,↓pSpE,zAN,↓pSpN,zAO,ETA,c2,c3,hls]
      have os : OS tm ((Y.upd 0 (.row false [BL false])).upd 6 (.loop .done (some .ret) tm [12,13] cO1 cO2 5)):=by
       refine ⟨(wY.upd _ _).upd _ _,by simp only [zAE]; omega, ?_, ?_, ?_⟩
       ·rw [zA7 (wY.upd _ _) _ _ _ (by omega)]
        exact zAG wY _ _ l0
       ·rw [zA7 (wY.upd _ _) _ _ _ (by omega),zA7 wY _ _ _ (by omega)]
        exact (yj 5 (by omega) (by omega) (by omega)).trans h.g5
       ·exact zAG (wY.upd _ _) _ _ (by simp only [zAE]; omega)
      refine ⟨_,_,_,_,_,_,_,y6,.inr (.inr ?_)⟩
      first
      | exact os
      | exact ⟨os,by simp [*]⟩
     ·rw [c4] at hls
      by_cases c5 : x.1 ∈ pre.map (·.1)
      ·simp only [c5,if_true] at hlk
       simp (maxSteps:=2000000) (disch:=first | omega | assumption | (simp only [DS,Nat.reduceAdd, *]; done) | (simp only [DZ]; omega)) only [RUN,RU,zA4,zA2,zA1,zA5,frzL,slot,lay,icyL,zA6,zA0,kR,reduceIte,Nat.reduceEqDiff,Nat.reduceBEq,Nat.reduceLT,Nat.reduceAdd,Nat.reduceLeDiff,Nat.reduceSub,Nat.reduceMul,Int.reduceLT,Int.reduceLE,Int.reduceEq,Int.reduceAdd,Int.reduceSub,Int.reduceMul,g2,g3,g4,g5,g6,g7,hne,oo',y0,y1,y3,ya,yb,yc,wY,↓pIdE,zAK,↓pIdN,zAH,↓pHdE,zAI,↓pHdN,zAJ,↓pLbE,zAL,↓pLbN,zAM,↓pSpE,zAN,↓pSpN,zAO,ETA,c2,c3,hls,x_lk,hlk,z01,z0lt]
       have os : OS tm ((Y.upd 0 (.row false [BL false])).upd 6 (.loop .done (some .ret) tm [12,13] cO1 cO2 5)):=by
        refine ⟨(wY.upd _ _).upd _ _,by simp only [zAE]; omega, ?_, ?_, ?_⟩
        ·rw [zA7 (wY.upd _ _) _ _ _ (by omega)]
         exact zAG wY _ _ l0
        ·rw [zA7 (wY.upd _ _) _ _ _ (by omega),zA7 wY _ _ _ (by omega)]
         exact (yj 5 (by omega) (by omega) (by omega)).trans h.g5
        ·exact zAG (wY.upd _ _) _ _ (by simp only [zAE]; omega)
       refine ⟨_,_,_,_,_,_,_,y6,.inr (.inr ?_)⟩
       first
       | exact os
       | exact ⟨os,by simp [*]⟩
      ·simp only [c5,if_false] at hlk
       simp (maxSteps:=2000000) (disch:=first | omega | assumption | (simp only [DS,Nat.reduceAdd, *]; done) | (simp only [DZ]; omega)) only [RUN,RU,zA4,zA2,zA1,zA5,frzL,slot,lay,icyL,zA6,zA0,kR,reduceIte,Nat.reduceEqDiff,Nat.reduceBEq,Nat.reduceLT,Nat.reduceAdd,Nat.reduceLeDiff,Nat.reduceSub,Nat.reduceMul,Int.reduceLT,Int.reduceLE,Int.reduceEq,Int.reduceAdd,Int.reduceSub,Int.reduceMul,g2,g3,g4,g5,g6,g7,hne,oo',y0,y1,y3,ya,yb,yc,wY,↓pIdE,zAK,↓pIdN,zAH,↓pHdE,zAI,↓pHdN,zAJ,↓pLbE,zAL,↓pLbN,zAM,↓pSpE,zAN,↓pSpN,zAO,ETA,c2,c3,hls,x_lk,hlk,z01,z0lt,x_mu]
       refine zN2 zO9 wY l2 y2 hset x.1 fun obj' hset'=>?_
       simp only [c5,if_false] at hset'
       simp (maxSteps:=2000000) (disch:=first | omega | assumption | (simp only [DS,Nat.reduceAdd, *]; done) | (simp only [DZ]; omega)) only [RUN,RU,zA4,zA2,zA1,zA5,frzL,slot,lay,icyL,zA6,zA0,kR,reduceIte,Nat.reduceEqDiff,Nat.reduceBEq,Nat.reduceLT,Nat.reduceAdd,Nat.reduceLeDiff,Nat.reduceSub,Nat.reduceMul,Int.reduceLT,Int.reduceLE,Int.reduceEq,Int.reduceAdd,Int.reduceSub,Int.reduceMul,g2,g3,g4,g5,g6,g7,oo',y1,y3,ya,yb,yc,wY]
       refine ⟨spY.rows (by omega),SlP.app1 (bytes:=24) (x:=x.1) (wY.upd 2 obj') (spY.keep fun j hj=>zA7 wY _ _ _ (by have:=(ro j (ro' ▸ hj)).2; omega)) zGS ⟨rfl,hx⟩ rfl (by omega) (by rw [List.length_reverse]; omega) (by rw [List.length_reverse]; omega) fun o2 M2 sp2 w2 le2 kp2 nw2 rl2 on2 oc2=>?_⟩
       rw [zAE] at le2 kp2 nw2
       have hS : ordS x (stk pre) (pre.map (·.1)) = true:=by
        unfold ordS
        rw [hpop]
        simp [*]
       have hst : (stk (pre ++ [x])).reverse = q.reverse ++ [x.1]:=by rw [zE4,hpop,List.reverse_cons]
       have ro2 : ∀ j,rowOf o' = some j → O j ∧ 7 ≤ j:=fun j hj=>ro j (ro' ▸ hj)
       have k2 : ∀ j,j < M.size → j ≠ 1 → j ≠ 2 → j ≠ 6 → rowOf o' ≠ some j → M2.get j = M.get j:=fun j a b c e f=>by
        rw [kp2 j (by omega) f,zA7 wY _ _ _ (fun e=>c e.symm)]
        exact yj j a b e
       have m6 : M2.get 6 = some (.loop .busy none tm [12,13] cO1 cO2 5):=by
        rw [kp2 6 (by omega) (fun e=>by have:=(ro2 6 e).2; omega),zA7 wY _ _ _ (by omega)]
        exact y6
       have m2 : M2.get 2 = some obj':=by
        rw [kp2 2 (by omega) (fun e=>by have:=(ro2 2 e).2; omega)]
        exact zAG wY _ _ l2
       have m1 : 1 < M2.size:=by omega
       have n1 : M2.get 1 = some (.row false [o']):=by
        rw [kp2 1 (by omega) (fun e=>by have:=(ro2 1 e).2; omega),zA7 wY _ _ _ (by omega)]
        exact y1
       simp (maxSteps:=2000000) (disch:=first | omega | assumption | (simp only [DS,Nat.reduceAdd, *]; done) | (simp only [DZ]; omega)) only [RUN,RU,zA4,zA2,zA1,zA5,frzL,slot,lay,icyL,zA6,zA0,kR,reduceIte,Nat.reduceEqDiff,Nat.reduceBEq,Nat.reduceLT,Nat.reduceAdd,Nat.reduceLeDiff,Nat.reduceSub,Nat.reduceMul,Int.reduceLT,Int.reduceLE,Int.reduceEq,Int.reduceAdd,Int.reduceSub,Int.reduceMul,g2,g3,g4,g5,g6,g7,on2,oc2,rl2,w2,m6,n1]
       have yl : Yl (OI tm) (pre ++ [x]) O B M ((M2.upd 1 (.row false [o2])).upd 6 (.loop .ready none tm [12,13] cO1 cO2 5)):=by
        have wZ:=w2.upd 1 (.row false [o2])
        have zk : ∀ j,j ≠ 1 → j ≠ 6 → ((M2.upd 1 (.row false [o2])).upd 6 (.loop .ready none tm [12,13] cO1 cO2 5)).get j = M2.get j:=fun j a b=>by
         rw [zA7 wZ _ _ _ (fun e=>b e.symm),zA7 w2 _ _ _ (fun e=>a e.symm)]
        have nro : ∀ j,j < 7 → rowOf o' ≠ some j:=fun j hj e=>by have:=(ro2 j e).2; omega
        have no2 : ∀ j,rowOf o2 = some j → 7 ≤ j ∧ (O j ∨ M.size ≤ j):=fun j hj=>by
         rcases nw2 j hj with e | e
         ·exact ⟨(ro2 j e).2,.inl (ro2 j e).1⟩
         ·exact ⟨by omega,.inr (by omega)⟩
        refine ⟨⟨fun j=>O j ∨ rowOf o2 = some j,⟨wZ.upd _ _,by simp only [zAE]; omega, ?_,⟨o2, ?_, ?_,fun j hj=>⟨.inr hj,(no2 j hj).1⟩⟩,⟨obj', ?_, ?_⟩, ?_, ?_, ?_,.inl h.o1,.inl h.o2,.inl h.o6, ?_,h.od.snoc hS⟩, ?_⟩,wZ.upd _ _,by simp only [zAE]; omega, ?_⟩
        ·rw [zk 0 (by omega) (by omega),k2 0 (by omega) (by omega) (by omega) (by omega) (nro 0 (by omega))]; exact h.g0
        ·rw [zA7 wZ _ _ _ (by omega)]; exact zAG w2 _ _ m1
        ·rw [hst]
         exact sp2.keep fun j hj=>zk j (by have:=(no2 j hj).1; omega) (by have:=(no2 j hj).1; omega)
        ·rw [zk 2 (by omega) (by omega)]; exact m2
        ·rw [List.map_append]; exact hset'
        ·rw [zk 3 (by omega) (by omega),k2 3 (by omega) (by omega) (by omega) (by omega) (nro 3 (by omega))]; exact h.g3
        ·rw [zk 5 (by omega) (by omega),k2 5 (by omega) (by omega) (by omega) (by omega) (nro 5 (by omega))]; exact h.g5
        ·exact zAG wZ _ _ (by simp only [zAE]; omega)
        ·intro j hj
         simp only [zAE]
         rcases hj with hj | hj
         ·exact ⟨by have:=(h.ol j hj).1; omega,(h.ol j hj).2⟩
         ·exact ⟨sp2.lt j hj,.inr (.inr (by have:=(no2 j hj).1; omega))⟩
        ·rintro j (hj | hj)
         ·exact .inl hj
         ·exact (no2 j hj).2
        ·intro j hj hO
         have h1 : j ≠ 1:=fun e=>hO (e ▸ h.o1)
         have h2 : j ≠ 2:=fun e=>hO (e ▸ h.o2)
         have h6 : j ≠ 6:=fun e=>hO (e ▸ h.o6)
         rw [zk j h1 h6]
         exact k2 j hj h1 h2 h6 fun e=>hO (ro2 j e).1
       exact ⟨_,_,_,_,_,_,_,rfl,.inl (.inl yl)⟩
    ·skip
     by_cases c5 : x.1 ∈ pre.map (·.1)
     ·simp only [c5,if_true] at hlk
      simp (maxSteps:=2000000) (disch:=first | omega | assumption | (simp only [DS,Nat.reduceAdd, *]; done) | (simp only [DZ]; omega)) only [RUN,RU,zA4,zA2,zA1,zA5,frzL,slot,lay,icyL,zA6,zA0,kR,reduceIte,Nat.reduceEqDiff,Nat.reduceBEq,Nat.reduceLT,Nat.reduceAdd,Nat.reduceLeDiff,Nat.reduceSub,Nat.reduceMul,Int.reduceLT,Int.reduceLE,Int.reduceEq,Int.reduceAdd,Int.reduceSub,Int.reduceMul,g2,g3,g4,g5,g6,g7,hne,oo',y0,y1,y3,ya,yb,yc,wY,↓pIdE,zAK,↓pIdN,zAH,↓pHdE,zAI,↓pHdN,zAJ,↓pLbE,zAL,↓pLbN,zAM,↓pSpE,zAN,↓pSpN,zAO,ETA,c2,c3,hls,x_lk,hlk,z01,z0lt]
      have os : OS tm ((Y.upd 0 (.row false [BL false])).upd 6 (.loop .done (some .ret) tm [12,13] cO1 cO2 5)):=by
       refine ⟨(wY.upd _ _).upd _ _,by simp only [zAE]; omega, ?_, ?_, ?_⟩
       ·rw [zA7 (wY.upd _ _) _ _ _ (by omega)]
        exact zAG wY _ _ l0
       ·rw [zA7 (wY.upd _ _) _ _ _ (by omega),zA7 wY _ _ _ (by omega)]
        exact (yj 5 (by omega) (by omega) (by omega)).trans h.g5
       ·exact zAG (wY.upd _ _) _ _ (by simp only [zAE]; omega)
      refine ⟨_,_,_,_,_,_,_,y6,.inr (.inr ?_)⟩
      first
      | exact os
      | exact ⟨os,by simp [*]⟩
     ·simp only [c5,if_false] at hlk
      simp (maxSteps:=2000000) (disch:=first | omega | assumption | (simp only [DS,Nat.reduceAdd, *]; done) | (simp only [DZ]; omega)) only [RUN,RU,zA4,zA2,zA1,zA5,frzL,slot,lay,icyL,zA6,zA0,kR,reduceIte,Nat.reduceEqDiff,Nat.reduceBEq,Nat.reduceLT,Nat.reduceAdd,Nat.reduceLeDiff,Nat.reduceSub,Nat.reduceMul,Int.reduceLT,Int.reduceLE,Int.reduceEq,Int.reduceAdd,Int.reduceSub,Int.reduceMul,g2,g3,g4,g5,g6,g7,hne,oo',y0,y1,y3,ya,yb,yc,wY,↓pIdE,zAK,↓pIdN,zAH,↓pHdE,zAI,↓pHdN,zAJ,↓pLbE,zAL,↓pLbN,zAM,↓pSpE,zAN,↓pSpN,zAO,ETA,c2,c3,hls,x_lk,hlk,z01,z0lt,x_mu]
      refine zN2 zO9 wY l2 y2 hset x.1 fun obj' hset'=>?_
      simp only [c5,if_false] at hset'
      simp (maxSteps:=2000000) (disch:=first | omega | assumption | (simp only [DS,Nat.reduceAdd, *]; done) | (simp only [DZ]; omega)) only [RUN,RU,zA4,zA2,zA1,zA5,frzL,slot,lay,icyL,zA6,zA0,kR,reduceIte,Nat.reduceEqDiff,Nat.reduceBEq,Nat.reduceLT,Nat.reduceAdd,Nat.reduceLeDiff,Nat.reduceSub,Nat.reduceMul,Int.reduceLT,Int.reduceLE,Int.reduceEq,Int.reduceAdd,Int.reduceSub,Int.reduceMul,g2,g3,g4,g5,g6,g7,oo',y1,y3,ya,yb,yc,wY]
      refine ⟨spY.rows (by omega),SlP.app1 (bytes:=24) (x:=x.1) (wY.upd 2 obj') (spY.keep fun j hj=>zA7 wY _ _ _ (by have:=(ro j (ro' ▸ hj)).2; omega)) zGS ⟨rfl,hx⟩ rfl (by omega) (by rw [List.length_reverse]; omega) (by rw [List.length_reverse]; omega) fun o2 M2 sp2 w2 le2 kp2 nw2 rl2 on2 oc2=>?_⟩
      rw [zAE] at le2 kp2 nw2
      have hS : ordS x (stk pre) (pre.map (·.1)) = true:=by
       unfold ordS
       rw [hpop]
       simp [*]
      have hst : (stk (pre ++ [x])).reverse = q.reverse ++ [x.1]:=by rw [zE4,hpop,List.reverse_cons]
      have ro2 : ∀ j,rowOf o' = some j → O j ∧ 7 ≤ j:=fun j hj=>ro j (ro' ▸ hj)
      have k2 : ∀ j,j < M.size → j ≠ 1 → j ≠ 2 → j ≠ 6 → rowOf o' ≠ some j → M2.get j = M.get j:=fun j a b c e f=>by
       rw [kp2 j (by omega) f,zA7 wY _ _ _ (fun e=>c e.symm)]
       exact yj j a b e
      have m6 : M2.get 6 = some (.loop .busy none tm [12,13] cO1 cO2 5):=by
       rw [kp2 6 (by omega) (fun e=>by have:=(ro2 6 e).2; omega),zA7 wY _ _ _ (by omega)]
       exact y6
      have m2 : M2.get 2 = some obj':=by
       rw [kp2 2 (by omega) (fun e=>by have:=(ro2 2 e).2; omega)]
       exact zAG wY _ _ l2
      have m1 : 1 < M2.size:=by omega
      have n1 : M2.get 1 = some (.row false [o']):=by
       rw [kp2 1 (by omega) (fun e=>by have:=(ro2 1 e).2; omega),zA7 wY _ _ _ (by omega)]
       exact y1
      simp (maxSteps:=2000000) (disch:=first | omega | assumption | (simp only [DS,Nat.reduceAdd, *]; done) | (simp only [DZ]; omega)) only [RUN,RU,zA4,zA2,zA1,zA5,frzL,slot,lay,icyL,zA6,zA0,kR,reduceIte,Nat.reduceEqDiff,Nat.reduceBEq,Nat.reduceLT,Nat.reduceAdd,Nat.reduceLeDiff,Nat.reduceSub,Nat.reduceMul,Int.reduceLT,Int.reduceLE,Int.reduceEq,Int.reduceAdd,Int.reduceSub,Int.reduceMul,g2,g3,g4,g5,g6,g7,on2,oc2,rl2,w2,m6,n1]
      have yl : Yl (OI tm) (pre ++ [x]) O B M ((M2.upd 1 (.row false [o2])).upd 6 (.loop .ready none tm [12,13] cO1 cO2 5)):=by
       have wZ:=w2.upd 1 (.row false [o2])
       have zk : ∀ j,j ≠ 1 → j ≠ 6 → ((M2.upd 1 (.row false [o2])).upd 6 (.loop .ready none tm [12,13] cO1 cO2 5)).get j = M2.get j:=fun j a b=>by
        rw [zA7 wZ _ _ _ (fun e=>b e.symm),zA7 w2 _ _ _ (fun e=>a e.symm)]
       have nro : ∀ j,j < 7 → rowOf o' ≠ some j:=fun j hj e=>by have:=(ro2 j e).2; omega
       have no2 : ∀ j,rowOf o2 = some j → 7 ≤ j ∧ (O j ∨ M.size ≤ j):=fun j hj=>by
        rcases nw2 j hj with e | e
        ·exact ⟨(ro2 j e).2,.inl (ro2 j e).1⟩
        ·exact ⟨by omega,.inr (by omega)⟩
       refine ⟨⟨fun j=>O j ∨ rowOf o2 = some j,⟨wZ.upd _ _,by simp only [zAE]; omega, ?_,⟨o2, ?_, ?_,fun j hj=>⟨.inr hj,(no2 j hj).1⟩⟩,⟨obj', ?_, ?_⟩, ?_, ?_, ?_,.inl h.o1,.inl h.o2,.inl h.o6, ?_,h.od.snoc hS⟩, ?_⟩,wZ.upd _ _,by simp only [zAE]; omega, ?_⟩
       ·rw [zk 0 (by omega) (by omega),k2 0 (by omega) (by omega) (by omega) (by omega) (nro 0 (by omega))]; exact h.g0
       ·rw [zA7 wZ _ _ _ (by omega)]; exact zAG w2 _ _ m1
       ·rw [hst]
        exact sp2.keep fun j hj=>zk j (by have:=(no2 j hj).1; omega) (by have:=(no2 j hj).1; omega)
       ·rw [zk 2 (by omega) (by omega)]; exact m2
       ·rw [List.map_append]; exact hset'
       ·rw [zk 3 (by omega) (by omega),k2 3 (by omega) (by omega) (by omega) (by omega) (nro 3 (by omega))]; exact h.g3
       ·rw [zk 5 (by omega) (by omega),k2 5 (by omega) (by omega) (by omega) (by omega) (nro 5 (by omega))]; exact h.g5
       ·exact zAG wZ _ _ (by simp only [zAE]; omega)
       ·intro j hj
        simp only [zAE]
        rcases hj with hj | hj
        ·exact ⟨by have:=(h.ol j hj).1; omega,(h.ol j hj).2⟩
        ·exact ⟨sp2.lt j hj,.inr (.inr (by have:=(no2 j hj).1; omega))⟩
       ·rintro j (hj | hj)
        ·exact .inl hj
        ·exact (no2 j hj).2
       ·intro j hj hO
        have h1 : j ≠ 1:=fun e=>hO (e ▸ h.o1)
        have h2 : j ≠ 2:=fun e=>hO (e ▸ h.o2)
        have h6 : j ≠ 6:=fun e=>hO (e ▸ h.o6)
        rw [zk j h1 h6]
        exact k2 j hj h1 h2 h6 fun e=>hO (ro2 j e).1
      exact ⟨_,_,_,_,_,_,_,rfl,.inl (.inl yl)⟩
end Go.Proofs.Ytakaojjlfcmphaa
namespace Go.Proofs.Ytakaojjlfcmphaa
open Go Go.Ax
variable {fuel : Nat} {M : Mem} {Q : AV → Mem → Prop} {d : Nat}
theorem zNY {a : AV} {l : List Rn} (hS : Sl 10 isRn a l) (wf : Wf M) (k : Q (.fn 63 [] [.ptr M.size 0]) (M.add (.row false [a]))) :
  W3 (zAF Try.prog (fsT tbl) fuel (d + 1) (.fn 47) [a] M) Q:=by
 have oa:=hS.one
 refine zCS tf47 rfl (by simp [a47]) fun b' ht hx=>?_
 have h0:=hx 0 _ rfl
 clear hx
 simp only [a47,c47,zzm] at ht ⊢
 simp (maxSteps:=2000000) (disch:=first | omega | assumption | (simp only [DS,Nat.reduceAdd, *]; done) | (simp only [DZ]; omega)) only [RUN,RU,zA4,zA2,zA1,zA5,frzL,slot,lay,icyL,zA6,zA0,kR,reduceIte,Nat.reduceEqDiff,Nat.reduceBEq,Nat.reduceLT,Nat.reduceAdd,Nat.reduceLeDiff,Nat.reduceSub,Nat.reduceMul,Int.reduceLT,Int.reduceLE,Int.reduceEq,Int.reduceAdd,Int.reduceSub,Int.reduceMul,h0,hS.fz.rows,hS.fz.one,hS.fz.cells,hS.fz.icy,hS.fz.frz,wf]
 exact k
theorem zXM {a : AV} {l : List Rn} (hS : Sl 10 isRn a l) : ∀ r ∈ l,r.ok:=by
 intro r hr
 obtain ⟨i,hi,rfl⟩:=List.getElem_of_mem hr
 obtain ⟨_,_,⟨_,_,_,hok⟩,_⟩:=hS.iad i hi
 exact hok
theorem zV0 {l : List Rn} (h : ∀ r ∈ l,r.ok) (hm : ∀ r ∈ l,r.may = true) : ∀ x ∈ elsL l,x.1.ok:=by
 intro x hx
 obtain ⟨r,hr,hx⟩:=List.mem_flatMap.1 hx
 obtain ⟨i,hi,rfl⟩:=List.mem_map.1 hx
 rw [List.mem_range] at hi
 have hb:=Spn.may_le (Rn.may_sp (hm r hr))
 have hk:=h r hr
 refine ⟨hk.1.1.1, ?_⟩
 simp only [Spn.at,i64R]
 omega
theorem zI0 {l : List Rn} (hm : ∀ r ∈ l,r.may = true) : (elsL l).length ≤ 64 * l.length:=by
 have:=zEA hm
 have e:=zDO hm
 rw [← zJE]
 unfold prs
 rw [List.length_map]
 omega
theorem zW9 {X : Mem} {tm : List AV} {a : AV} {l : List Rn} (hS : Sl 10 isRn a l) (hl : l.length ≤ 1000) (hm : ∀ r ∈ l,r.may = true) (hf : 64 * l.length + 1000 < fuel) (w : Wf X) (h2 : nth zAC tm 2 = .ptr 0 0) (h3 : nth zAC tm 3 = .ptr 1 0) (h4 : nth zAC tm 4 = .ptr 3 0) (hlen : tm.length = 63) (hX : X.size = 5) (g0 : X.get 0 = some (.row false [BL false])) (g1 : X.get 1 = some (.row false [NIL])) (g2 : X.get 2 = some (.map [] 0)) (g3 : X.get 3 = some (.row false [.mp 2])) (g4 : X.get 4 = some (.row false [a]))
  (kt : Ord (elsL l) → ∀ u O N,OI tm (elsL l) O N → Q u N) (ks : ¬Ord (elsL l) → ∀ u N,OS tm N → Q u N) :
  W3 (zAF Try.prog (fsT tbl) fuel (d + 8) (.fn 63) ([] ++ [.yl (X.size + 1)] ++ [.ptr 4 0]) ((X.add (.dfr false)).add (.loop .ready none tm [12,13] cO1 cO2 X.size))) Q:=by
 have w1:=w.add (.dfr false)
 have hel:=zI0 hm
 have heo:=zV0 (zXM hS) hm
 have e : X.size + 1 = 6:=by omega
 have u : ∀ j,j < 5 → ((X.add (.dfr false)).add (.loop .ready none tm [12,13] cO1 cO2 X.size)).get j = X.get j:=fun j hj=>by
  rw [zAP w1 _ _ (by rw [zAD]; omega),zAP w _ _ (by omega)]
 have hJ0 : OI tm [] (fun j=>j = 1 ∨ j = 2 ∨ j = 6) ((X.add (.dfr false)).add (.loop .ready none tm [12,13] cO1 cO2 X.size)):=by
  refine ⟨w1.add _,by simp only [zAD]; omega,(u 0 (by omega)).trans g0,⟨NIL,(u 1 (by omega)).trans g1,SlP.nil,fun j hj=>by cases hj⟩,⟨_,(u 2 (by omega)).trans g2,zL9.nil _ _⟩,(u 3 (by omega)).trans g3, ?_, ?_,.inl rfl,.inr (.inl rfl),.inr (.inr rfl), ?_,Ord.nil⟩
  ·rw [zAP w1 _ _ (by rw [zAD]; omega),← hX]
   exact zAS w _ _ (Nat.le_refl _) (Nat.lt_succ_self _)
  ·have:=zAS w1 (.loop .ready none tm [12,13] cO1 cO2 X.size) 6 (by rw [zAD]; omega) (by rw [zAD]; omega)
   rw [hX] at this ⊢
   exact this
  ·intro j hj
   simp only [zAD]
   rcases hj with rfl | rfl | rfl <;> omega
 have key:=zSQ (d:=d) (fuel:=fuel) (Q:=Q) (J:=OI tm) (S:=fun N=>OS tm N ∧ ¬Ord (elsL l)) (id:=6) (p:=4) hS (by omega) hm (by omega) (w1.add _) ((u 4 (by omega)).trans g4) hJ0 (fun pre O N N' h wf le k=>h.keep wf le k) (fun pre O N h j hj=>(h.ol j hj).1) (fun pre x post O N he h wf le=>?_) (fun u N O h _ _=>kt h.od u O N h) (fun u N h=>ks h.2 u N h.1)
 ·rw [← e] at key
  exact key
 ·have hxm : x ∈ elsL l:=by rw [he]; simp
  have hpl : pre.length ≤ (elsL l).length:=by rw [he]; simp
  obtain ⟨v,N',hc,hv⟩:=zaA (fuel:=fuel) (d:=d) (B:=((X.add (.dfr false)).add (.loop .ready none tm [12,13] cO1 cO2 X.size)).size) h h2 h3 h4 hlen (heo x hxm) (by omega) (by omega)
  refine ⟨v,N',hc, ?_⟩
  rcases hv with ⟨rfl,hv⟩ | ⟨rfl,hv,ho⟩
  ·exact .inl ⟨rfl,hv⟩
  ·refine .inr ⟨rfl,hv,fun k=>?_⟩
   rw [k pre x post he] at ho
   cases ho
open Classical in
set_option maxHeartbeats 4000000 in
theorem zLU {a : AV} {l : List Rn} (hS : Sl 10 isRn a l) (hl : l.length ≤ 1000) (hm : ∀ r ∈ l,r.may = true) (hf : 64 * l.length + 1000 < fuel) (M : Mem) : zAF Try.prog (fsT tbl) fuel (d + 9) (.fn 29) [a] M = some (BL (decide (Ord (elsL l))),M):=by
 have oa:=hS.one
 have hel:=zI0 hm
 have heo:=zV0 (zXM hS) hm
 apply zC1
 refine zAX tf29 rfl (by simp only [icyL,fun M=>hS.icy M 12 (by omega)]) (by simp [a29]) fun b' ht hx=>?_
 have h0:=hx 0 _ rfl
 clear hx
 simp only [a29,c29,zz2,zzm,zzg] at ht ⊢
 have cm : cellsA (.mp 2) = [.mp 2]:=rfl
 have om : oneA (.mp 2) = true:=rfl
 have sm : scs (.map none) = [.sc (.map none)]:=rfl
 simp (maxSteps:=2000000) (disch:=first | omega | assumption | (simp only [DS,Nat.reduceAdd, *]; done) | (simp only [DZ]; omega)) only [RUN,RU,zA4,zA2,zA1,zA5,frzL,slot,lay,icyL,zA6,zA0,kR,reduceIte,Nat.reduceEqDiff,Nat.reduceBEq,Nat.reduceLT,Nat.reduceAdd,Nat.reduceLeDiff,Nat.reduceSub,Nat.reduceMul,Int.reduceLT,Int.reduceLE,Int.reduceEq,Int.reduceAdd,Int.reduceSub,Int.reduceMul,h0,hS.fz.rows,hS.fz.one,hS.fz.cells,hS.fz.icy,hS.fz.frz,zYE,cm,om,sm]
 refine zNY hS (by simp (maxSteps:=2000000) (disch:=first | omega | assumption | (simp only [DS,Nat.reduceAdd, *]; done) | (simp only [DZ]; omega)) only [RUN,RU,zA4,zA2,zA1,zA5,frzL,slot,lay,icyL,zA6,zA0,kR,reduceIte,Nat.reduceEqDiff,Nat.reduceBEq,Nat.reduceLT,Nat.reduceAdd,Nat.reduceLeDiff,Nat.reduceSub,Nat.reduceMul,Int.reduceLT,Int.reduceLE,Int.reduceEq,Int.reduceAdd,Int.reduceSub,Int.reduceMul]) ?_
 simp (maxSteps:=2000000) (disch:=first | omega | assumption | (simp only [DS,Nat.reduceAdd, *]; done) | (simp only [DZ]; omega)) only [RUN,RU,zA4,zA2,zA1,zA5,frzL,slot,lay,icyL,zA6,zA0,kR,reduceIte,Nat.reduceEqDiff,Nat.reduceBEq,Nat.reduceLT,Nat.reduceAdd,Nat.reduceLeDiff,Nat.reduceSub,Nat.reduceMul,Int.reduceLT,Int.reduceLE,Int.reduceEq,Int.reduceAdd,Int.reduceSub,Int.reduceMul,h0,hS.fz.rows,hS.fz.one,hS.fz.cells,hS.fz.icy,hS.fz.frz]
 refine zUR (g:=63) (first:=[]) (cap:=[.ptr 4 0]) (by simp (maxSteps:=2000000) (disch:=first | omega | assumption | (simp only [DS,Nat.reduceAdd, *]; done) | (simp only [DZ]; omega)) only [RUN,RU,zA4,zA2,zA1,zA5,frzL,slot,lay,icyL,zA6,zA0,kR,reduceIte,Nat.reduceEqDiff,Nat.reduceBEq,Nat.reduceLT,Nat.reduceAdd,Nat.reduceLeDiff,Nat.reduceSub,Nat.reduceMul,Int.reduceLT,Int.reduceLE,Int.reduceEq,Int.reduceAdd,Int.reduceSub,Int.reduceMul]) (by simp (maxSteps:=2000000) (disch:=first | omega | assumption | (simp only [DS,Nat.reduceAdd, *]; done) | (simp only [DZ]; omega)) only [RUN,RU,zA4,zA2,zA1,zA5,frzL,slot,lay,icyL,zA6,zA0,kR,reduceIte,Nat.reduceEqDiff,Nat.reduceBEq,Nat.reduceLT,Nat.reduceAdd,Nat.reduceLeDiff,Nat.reduceSub,Nat.reduceMul,Int.reduceLT,Int.reduceLE,Int.reduceEq,Int.reduceAdd,Int.reduceSub,Int.reduceMul]) ?_
 refine zW9 (d:=d) hS hl hm hf ?_ ?_ ?_ ?_ ?_ ?_ ?_ ?_ ?_ ?_ ?_ (fun ho u O N h=>?_) (fun ho u N h=>?_)
 ·simp (maxSteps:=2000000) (disch:=first | omega | assumption | (simp only [DS,Nat.reduceAdd, *]; done) | (simp only [DZ]; omega)) only [RUN,RU,zA4,zA2,zA1,zA5,frzL,slot,lay,icyL,zA6,zA0,kR,reduceIte,Nat.reduceEqDiff,Nat.reduceBEq,Nat.reduceLT,Nat.reduceAdd,Nat.reduceLeDiff,Nat.reduceSub,Nat.reduceMul,Int.reduceLT,Int.reduceLE,Int.reduceEq,Int.reduceAdd,Int.reduceSub,Int.reduceMul]
 ·simp (maxSteps:=2000000) (disch:=first | omega | assumption | (simp only [DS,Nat.reduceAdd, *]; done) | (simp only [DZ]; omega)) only [RUN,RU,zA4,zA2,zA1,zA5,frzL,slot,lay,icyL,zA6,zA0,kR,reduceIte,Nat.reduceEqDiff,Nat.reduceBEq,Nat.reduceLT,Nat.reduceAdd,Nat.reduceLeDiff,Nat.reduceSub,Nat.reduceMul,Int.reduceLT,Int.reduceLE,Int.reduceEq,Int.reduceAdd,Int.reduceSub,Int.reduceMul]
 ·simp (maxSteps:=2000000) (disch:=first | omega | assumption | (simp only [DS,Nat.reduceAdd, *]; done) | (simp only [DZ]; omega)) only [RUN,RU,zA4,zA2,zA1,zA5,frzL,slot,lay,icyL,zA6,zA0,kR,reduceIte,Nat.reduceEqDiff,Nat.reduceBEq,Nat.reduceLT,Nat.reduceAdd,Nat.reduceLeDiff,Nat.reduceSub,Nat.reduceMul,Int.reduceLT,Int.reduceLE,Int.reduceEq,Int.reduceAdd,Int.reduceSub,Int.reduceMul]
 ·simp (maxSteps:=2000000) (disch:=first | omega | assumption | (simp only [DS,Nat.reduceAdd, *]; done) | (simp only [DZ]; omega)) only [RUN,RU,zA4,zA2,zA1,zA5,frzL,slot,lay,icyL,zA6,zA0,kR,reduceIte,Nat.reduceEqDiff,Nat.reduceBEq,Nat.reduceLT,Nat.reduceAdd,Nat.reduceLeDiff,Nat.reduceSub,Nat.reduceMul,Int.reduceLT,Int.reduceLE,Int.reduceEq,Int.reduceAdd,Int.reduceSub,Int.reduceMul]
 ·rw [zME]; exact ht
 ·simp (maxSteps:=2000000) (disch:=first | omega | assumption | (simp only [DS,Nat.reduceAdd, *]; done) | (simp only [DZ]; omega)) only [RUN,RU,zA4,zA2,zA1,zA5,frzL,slot,lay,icyL,zA6,zA0,kR,reduceIte,Nat.reduceEqDiff,Nat.reduceBEq,Nat.reduceLT,Nat.reduceAdd,Nat.reduceLeDiff,Nat.reduceSub,Nat.reduceMul,Int.reduceLT,Int.reduceLE,Int.reduceEq,Int.reduceAdd,Int.reduceSub,Int.reduceMul]
 ·simp (maxSteps:=2000000) (disch:=first | omega | assumption | (simp only [DS,Nat.reduceAdd, *]; done) | (simp only [DZ]; omega)) only [RUN,RU,zA4,zA2,zA1,zA5,frzL,slot,lay,icyL,zA6,zA0,kR,reduceIte,Nat.reduceEqDiff,Nat.reduceBEq,Nat.reduceLT,Nat.reduceAdd,Nat.reduceLeDiff,Nat.reduceSub,Nat.reduceMul,Int.reduceLT,Int.reduceLE,Int.reduceEq,Int.reduceAdd,Int.reduceSub,Int.reduceMul]
 ·simp (maxSteps:=2000000) (disch:=first | omega | assumption | (simp only [DS,Nat.reduceAdd, *]; done) | (simp only [DZ]; omega)) only [RUN,RU,zA4,zA2,zA1,zA5,frzL,slot,lay,icyL,zA6,zA0,kR,reduceIte,Nat.reduceEqDiff,Nat.reduceBEq,Nat.reduceLT,Nat.reduceAdd,Nat.reduceLeDiff,Nat.reduceSub,Nat.reduceMul,Int.reduceLT,Int.reduceLE,Int.reduceEq,Int.reduceAdd,Int.reduceSub,Int.reduceMul]
 ·simp (maxSteps:=2000000) (disch:=first | omega | assumption | (simp only [DS,Nat.reduceAdd, *]; done) | (simp only [DZ]; omega)) only [RUN,RU,zA4,zA2,zA1,zA5,frzL,slot,lay,icyL,zA6,zA0,kR,reduceIte,Nat.reduceEqDiff,Nat.reduceBEq,Nat.reduceLT,Nat.reduceAdd,Nat.reduceLeDiff,Nat.reduceSub,Nat.reduceMul,Int.reduceLT,Int.reduceLE,Int.reduceEq,Int.reduceAdd,Int.reduceSub,Int.reduceMul]
 ·simp (maxSteps:=2000000) (disch:=first | omega | assumption | (simp only [DS,Nat.reduceAdd, *]; done) | (simp only [DZ]; omega)) only [RUN,RU,zA4,zA2,zA1,zA5,frzL,slot,lay,icyL,zA6,zA0,kR,reduceIte,Nat.reduceEqDiff,Nat.reduceBEq,Nat.reduceLT,Nat.reduceAdd,Nat.reduceLeDiff,Nat.reduceSub,Nat.reduceMul,Int.reduceLT,Int.reduceLE,Int.reduceEq,Int.reduceAdd,Int.reduceSub,Int.reduceMul]
 ·simp (maxSteps:=2000000) (disch:=first | omega | assumption | (simp only [DS,Nat.reduceAdd, *]; done) | (simp only [DZ]; omega)) only [RUN,RU,zA4,zA2,zA1,zA5,frzL,slot,lay,icyL,zA6,zA0,kR,reduceIte,Nat.reduceEqDiff,Nat.reduceBEq,Nat.reduceLT,Nat.reduceAdd,Nat.reduceLeDiff,Nat.reduceSub,Nat.reduceMul,Int.reduceLT,Int.reduceLE,Int.reduceEq,Int.reduceAdd,Int.reduceSub,Int.reduceMul]
 ·have wf:=h.wf
  have sz:=h.sz
  have l0:=Mem.get_lt h.g0
  have l5:=Mem.get_lt h.g5
  have e6 : (mem0.add (.row false [BL false])).size = 1:=rfl
  refine ⟨wf,by simp only [zAD,zAE,zBQ]; omega,_,_,_,_,_,_,_,.inl rfl,h.g6, ?_⟩
  generalize hX : N.upd _ _ = X
  have wX : Wf X:=by rw [← hX]; exact wf.upd _ _
  have sX : X.size = N.size:=by rw [← hX]; rfl
  have gX : ∀ j,j ≠ 6 → X.get j = N.get j:=fun j hj=>by rw [← hX]; exact zA7 wf _ _ _ (fun e=>hj e.symm)
  have x0:=(gX 0 (by omega)).trans h.g0
  have x5:=(gX 5 (by omega)).trans h.g5
  have hd : decide (Ord (elsL l)) = true:=decide_eq_true ho
  rw [hd]
  simp (maxSteps:=2000000) (disch:=first | omega | assumption | (simp only [DS,Nat.reduceAdd, *]; done) | (simp only [DZ]; omega)) only [RUN,RU,zA4,zA2,zA1,zA5,frzL,slot,lay,icyL,zA6,zA0,kR,reduceIte,Nat.reduceEqDiff,Nat.reduceBEq,Nat.reduceLT,Nat.reduceAdd,Nat.reduceLeDiff,Nat.reduceSub,Nat.reduceMul,Int.reduceLT,Int.reduceLE,Int.reduceEq,Int.reduceAdd,Int.reduceSub,Int.reduceMul,x0,wX,Option.getD_none,Option.getD_some]
  refine zMP (by simp (maxSteps:=2000000) (disch:=first | omega | assumption | (simp only [DS,Nat.reduceAdd, *]; done) | (simp only [DZ]; omega)) only [RUN,RU,zA4,zA2,zA1,zA5,frzL,slot,lay,icyL,zA6,zA0,kR,reduceIte,Nat.reduceEqDiff,Nat.reduceBEq,Nat.reduceLT,Nat.reduceAdd,Nat.reduceLeDiff,Nat.reduceSub,Nat.reduceMul,Int.reduceLT,Int.reduceLE,Int.reduceEq,Int.reduceAdd,Int.reduceSub,Int.reduceMul,wX]) (by simp (maxSteps:=2000000) (disch:=first | omega | assumption | (simp only [DS,Nat.reduceAdd, *]; done) | (simp only [DZ]; omega)) only [RUN,RU,zA4,zA2,zA1,zA5,frzL,slot,lay,icyL,zA6,zA0,kR,reduceIte,Nat.reduceEqDiff,Nat.reduceBEq,Nat.reduceLT,Nat.reduceAdd,Nat.reduceLeDiff,Nat.reduceSub,Nat.reduceMul,Int.reduceLT,Int.reduceLE,Int.reduceEq,Int.reduceAdd,Int.reduceSub,Int.reduceMul,wX,x5]) ?_
  simp (maxSteps:=2000000) (disch:=first | omega | assumption | (simp only [DS,Nat.reduceAdd, *]; done) | (simp only [DZ]; omega)) only [RUN,RU,zA4,zA2,zA1,zA5,frzL,slot,lay,icyL,zA6,zA0,kR,reduceIte,Nat.reduceEqDiff,Nat.reduceBEq,Nat.reduceLT,Nat.reduceAdd,Nat.reduceLeDiff,Nat.reduceSub,Nat.reduceMul,Int.reduceLT,Int.reduceLE,Int.reduceEq,Int.reduceAdd,Int.reduceSub,Int.reduceMul,x0,wX]
 ·have wf:=h.wf
  have sz:=h.sz
  have l0:=Mem.get_lt h.g0
  have l5:=Mem.get_lt h.g5
  refine ⟨wf,by simp only [zAD,zAE,zBQ]; omega,_,_,_,_,_,_,_,.inr rfl,h.g6, ?_⟩
  generalize hX : N.upd _ _ = X
  have wX : Wf X:=by rw [← hX]; exact wf.upd _ _
  have sX : X.size = N.size:=by rw [← hX]; rfl
  have gX : ∀ j,j ≠ 6 → X.get j = N.get j:=fun j hj=>by rw [← hX]; exact zA7 wf _ _ _ (fun e=>hj e.symm)
  have x0:=(gX 0 (by omega)).trans h.g0
  have x5:=(gX 5 (by omega)).trans h.g5
  have hd : decide (Ord (elsL l)) = false:=decide_eq_false ho
  rw [hd]
  simp (maxSteps:=2000000) (disch:=first | omega | assumption | (simp only [DS,Nat.reduceAdd, *]; done) | (simp only [DZ]; omega)) only [RUN,RU,zA4,zA2,zA1,zA5,frzL,slot,lay,icyL,zA6,zA0,kR,reduceIte,Nat.reduceEqDiff,Nat.reduceBEq,Nat.reduceLT,Nat.reduceAdd,Nat.reduceLeDiff,Nat.reduceSub,Nat.reduceMul,Int.reduceLT,Int.reduceLE,Int.reduceEq,Int.reduceAdd,Int.reduceSub,Int.reduceMul,x0,wX,Option.getD_none,Option.getD_some]
  refine zMP (by simp (maxSteps:=2000000) (disch:=first | omega | assumption | (simp only [DS,Nat.reduceAdd, *]; done) | (simp only [DZ]; omega)) only [RUN,RU,zA4,zA2,zA1,zA5,frzL,slot,lay,icyL,zA6,zA0,kR,reduceIte,Nat.reduceEqDiff,Nat.reduceBEq,Nat.reduceLT,Nat.reduceAdd,Nat.reduceLeDiff,Nat.reduceSub,Nat.reduceMul,Int.reduceLT,Int.reduceLE,Int.reduceEq,Int.reduceAdd,Int.reduceSub,Int.reduceMul,wX]) (by simp (maxSteps:=2000000) (disch:=first | omega | assumption | (simp only [DS,Nat.reduceAdd, *]; done) | (simp only [DZ]; omega)) only [RUN,RU,zA4,zA2,zA1,zA5,frzL,slot,lay,icyL,zA6,zA0,kR,reduceIte,Nat.reduceEqDiff,Nat.reduceBEq,Nat.reduceLT,Nat.reduceAdd,Nat.reduceLeDiff,Nat.reduceSub,Nat.reduceMul,Int.reduceLT,Int.reduceLE,Int.reduceEq,Int.reduceAdd,Int.reduceSub,Int.reduceMul,wX,x5]) ?_
  simp (maxSteps:=2000000) (disch:=first | omega | assumption | (simp only [DS,Nat.reduceAdd, *]; done) | (simp only [DZ]; omega)) only [RUN,RU,zA4,zA2,zA1,zA5,frzL,slot,lay,icyL,zA6,zA0,kR,reduceIte,Nat.reduceEqDiff,Nat.reduceBEq,Nat.reduceLT,Nat.reduceAdd,Nat.reduceLeDiff,Nat.reduceSub,Nat.reduceMul,Int.reduceLT,Int.reduceLE,Int.reduceEq,Int.reduceAdd,Int.reduceSub,Int.reduceMul,x0,wX]
end Go.Proofs.Ytakaojjlfcmphaa
namespace Go.Proofs.Ytakaojjlfcmphaa
open Go Go.Ax
variable {fuel : Nat} {M : Mem} {Q : AV → Mem → Prop} {d : Nat}
theorem zNV {o : Rn} {ra : AV} (hR : Sl 1 zBU ra o.rs) (hf : 100 < fuel) (M : Mem) : zAF Try.prog (fsT tbl) fuel (d + 7) (.fn 26) [.agg (rnR o ra)] M = some (BL (!o.may),M):=by
 have ora:=hR.one
 have hck:=fun M=>@zC8 fuel d o ra hR hf M
 apply zC1
 refine zAX tf26 rfl (by simp only [icyL,zC7 hR.fz]) (by simp [a26]) fun b' ht hx=>?_
 have h0:=hx 0 _ rfl
 clear hx
 simp only [a26,c26,zzm] at ht ⊢
 cases hm : o.may <;> rw [hm] at hck <;> simp (maxSteps:=2000000) (disch:=first | omega | assumption | (simp only [DS,Nat.reduceAdd, *]; done) | (simp only [DZ]; omega)) only [RUN,RU,zA4,zA2,zA1,zA5,frzL,slot,lay,icyL,zA6,zA0,kR,reduceIte,Nat.reduceEqDiff,Nat.reduceBEq,Nat.reduceLT,Nat.reduceAdd,Nat.reduceLeDiff,Nat.reduceSub,Nat.reduceMul,Int.reduceLT,Int.reduceLE,Int.reduceEq,Int.reduceAdd,Int.reduceSub,Int.reduceMul,h0,hR.fz.rows,hR.fz.one,hR.fz.cells,hR.fz.icy,hR.fz.frz,hck,zBP,zD2,z00,z80]
open Classical in
noncomputable def zD9 (l : List Rn) : Bool:=decide (zCC l)
open Classical in
theorem zM8 {l : List Rn} (h : zCC l) : zD9 l = true:=by unfold zD9; exact decide_eq_true h
open Classical in
theorem zJM {l : List Rn} (h : ¬zCC l) : zD9 l = false:=by unfold zD9; exact decide_eq_false h
open Classical in
theorem zFP {l : List Rn} : zD9 l = true ↔ zCC l:=by unfold zD9; exact ⟨of_decide_eq_true,fun h=>decide_eq_true h⟩
theorem zDC {l : List Rn} (h : ∀ r ∈ l,r.may = true) : ∀ r ∈ l,r.rs.length ≤ 64:=fun r hr=>((Rn.may_iff.1 (h r hr)).2.2.2.1)
set_option maxHeartbeats 4000000 in
theorem zH2 {a : AV} {l : List Rn} (hS : Sl 10 isRn a l) (hl : l.length ≤ 1000) (hf : 64 * l.length + 3001000 < fuel) (M : Mem) : zAF Try.prog (fsT tbl) fuel (d + 10) (.fn 9) [a] M = some (I64 (err (zD9 l)),M):=by
 have oa:=hS.one
 have hh:=fun M=>zQ5 (P:=Try.prog) (fs:=fsT tbl) (fuel:=fuel) (l:=l) (ag:=true) (n:=d + 7) tf17 tf37 (fun h=>by cases h) zCJ hS (by omega) (by omega) (zPZ 26) (p:=fun x => !x.may) (fun r x hr _ M=>by
  obtain ⟨ra,rfl,hra,_⟩:=hr
  exact @zNV fuel d x ra hra (by omega) M) M
 rw [zLA] at hh
 apply zC1
 refine zAX tf9 rfl (by simp only [icyL,fun M=>hS.icy M 12 (by omega)]) (by simp [a9]) fun b' ht hx=>?_
 have h0:=hx 0 _ rfl
 clear hx
 simp only [a9,c9,zzm,zzg] at ht ⊢
 cases hb : l.all Rn.may with
 | false =>
  rw [hb] at hh
  have hno : zD9 l = false:=zJM fun k=>by
   rw [List.all_eq_true.2 k.1] at hb; cases hb
  rw [hno]
  simp (maxSteps:=2000000) (disch:=first | omega | assumption | (simp only [DS,Nat.reduceAdd, *]; done) | (simp only [DZ]; omega)) only [RUN,RU,zA4,zA2,zA1,zA5,frzL,slot,lay,icyL,zA6,zA0,kR,reduceIte,Nat.reduceEqDiff,Nat.reduceBEq,Nat.reduceLT,Nat.reduceAdd,Nat.reduceLeDiff,Nat.reduceSub,Nat.reduceMul,Int.reduceLT,Int.reduceLE,Int.reduceEq,Int.reduceAdd,Int.reduceSub,Int.reduceMul,h0,hS.fz.rows,hS.fz.one,hS.fz.cells,hS.fz.icy,hS.fz.frz,hh,zD2]
 | true =>
  rw [hb] at hh
  have hm : ∀ r ∈ l,r.may = true:=List.all_eq_true.1 hb
  have hrs:=zDC hm
  have hct:=fun M=>@zH4 fuel (d + 8) a l hS hm (by omega) (by omega) M
  have hord:=fun M=>@zLU fuel d a l hS hl hm (by omega) M
  obtain ⟨r,hr,hlong⟩:=zEP (fuel:=fuel) (d:=d) hS (by omega) (fun r hr=>by have:=hrs r hr; omega) (by omega)
  have hmL:=(zC6 hm).2
  have hrsL:=zDC hmL
  have hlenL : (zBM l).length ≤ 64000:=by
   have e1:=zDO hmL
   have e2:=zEA hm
   have e3:=zDO hm
   rw [(zC6 hm).1,(zE9 _).1] at e1
   have : (zBM l).length ≤ (zB5 (zBM l)):=by
    rw [(zC6 hm).1]
    have hh:=(zE9 (elsR l)).2
    generalize zCU (elsR l) = C at *
    clear e1
    induction C with
    | nil=>simp [zB5]
    | cons q C ih =>
     have:=ih (fun q hq=>hh q (List.mem_cons_of_mem _ hq))
     have:=(hh q List.mem_cons_self).1
     simp only [zB5,List.length_cons]
     omega
   rw [(zC6 hm).1] at this ⊢
   omega
  have hsame:=fun M=>@zFQ fuel (d + 5) r a (zBM l) l hr hS (by omega) (fun e he=>⟨by have:=hrsL e he; omega,by have:=hrsL e he; omega⟩) (by omega) M
  have or:=hr.one
  by_cases h1 : zB5 l ≤ 8192
  ·have q1 : decide (8192 < zB5 l) = false:=decide_eq_false (by omega)
   by_cases h2 : Ord (elsL l)
   ·have ho:=@decide_eq_true _ (Classical.propDecidable (Ord (elsL l))) h2
    rw [ho] at hord
    by_cases h3 : zBM l = l
    ·have hyes : zD9 l = true:=zM8 ⟨hm,h1,h2,h3⟩
     have hs : zJI (zBM l) l = true:=zEH.2 h3
     rw [hs] at hsame
     rw [hyes]
     simp (maxSteps:=2000000) (disch:=first | omega | assumption | (simp only [DS,Nat.reduceAdd, *]; done) | (simp only [DZ]; omega)) only [RUN,RU,zA4,zA2,zA1,zA5,frzL,slot,lay,icyL,zA6,zA0,kR,reduceIte,Nat.reduceEqDiff,Nat.reduceBEq,Nat.reduceLT,Nat.reduceAdd,Nat.reduceLeDiff,Nat.reduceSub,Nat.reduceMul,Int.reduceLT,Int.reduceLE,Int.reduceEq,Int.reduceAdd,Int.reduceSub,Int.reduceMul,h0,hS.fz.rows,hS.fz.one,hS.fz.cells,hS.fz.icy,hS.fz.frz,hr.fz.rows,hr.fz.one,hr.fz.cells,hr.fz.icy,hr.fz.frz,hh,hct,q1,hord,hlong,hsame,zBP]
    ·have hno : zD9 l = false:=zJM fun k=>h3 k.2.2.2
     have hs : zJI (zBM l) l = false:=by
      cases hq : zJI (zBM l) l with
      | false=>rfl
      | true=>exact absurd (zEH.1 hq) h3
     rw [hs] at hsame
     rw [hno]
     simp (maxSteps:=2000000) (disch:=first | omega | assumption | (simp only [DS,Nat.reduceAdd, *]; done) | (simp only [DZ]; omega)) only [RUN,RU,zA4,zA2,zA1,zA5,frzL,slot,lay,icyL,zA6,zA0,kR,reduceIte,Nat.reduceEqDiff,Nat.reduceBEq,Nat.reduceLT,Nat.reduceAdd,Nat.reduceLeDiff,Nat.reduceSub,Nat.reduceMul,Int.reduceLT,Int.reduceLE,Int.reduceEq,Int.reduceAdd,Int.reduceSub,Int.reduceMul,h0,hS.fz.rows,hS.fz.one,hS.fz.cells,hS.fz.icy,hS.fz.frz,hr.fz.rows,hr.fz.one,hr.fz.cells,hr.fz.icy,hr.fz.frz,hh,hct,q1,hord,hlong,hsame,zD2]
   ·have ho:=@decide_eq_false _ (Classical.propDecidable (Ord (elsL l))) h2
    rw [ho] at hord
    have hno : zD9 l = false:=zJM fun k=>h2 k.2.2.1
    rw [hno]
    simp (maxSteps:=2000000) (disch:=first | omega | assumption | (simp only [DS,Nat.reduceAdd, *]; done) | (simp only [DZ]; omega)) only [RUN,RU,zA4,zA2,zA1,zA5,frzL,slot,lay,icyL,zA6,zA0,kR,reduceIte,Nat.reduceEqDiff,Nat.reduceBEq,Nat.reduceLT,Nat.reduceAdd,Nat.reduceLeDiff,Nat.reduceSub,Nat.reduceMul,Int.reduceLT,Int.reduceLE,Int.reduceEq,Int.reduceAdd,Int.reduceSub,Int.reduceMul,h0,hS.fz.rows,hS.fz.one,hS.fz.cells,hS.fz.icy,hS.fz.frz,hh,hct,q1,hord,zD2]
  ·have q1 : decide (8192 < zB5 l) = true:=decide_eq_true (by omega)
   have hno : zD9 l = false:=zJM fun k=>h1 k.2.1
   rw [hno]
   simp (maxSteps:=2000000) (disch:=first | omega | assumption | (simp only [DS,Nat.reduceAdd, *]; done) | (simp only [DZ]; omega)) only [RUN,RU,zA4,zA2,zA1,zA5,frzL,slot,lay,icyL,zA6,zA0,kR,reduceIte,Nat.reduceEqDiff,Nat.reduceBEq,Nat.reduceLT,Nat.reduceAdd,Nat.reduceLeDiff,Nat.reduceSub,Nat.reduceMul,Int.reduceLT,Int.reduceLE,Int.reduceEq,Int.reduceAdd,Int.reduceSub,Int.reduceMul,h0,hS.fz.rows,hS.fz.one,hS.fz.cells,hS.fz.icy,hS.fz.frz,hh,hct,q1,zD2]
end Go.Proofs.Ytakaojjlfcmphaa
namespace Go.Proofs.Ytakaojjlfcmphaa
open Go Go.Ax
variable {fuel : Nat} {M : Mem} {Q : AV → Mem → Prop} {d : Nat}
abbrev zRn : Value:=.agg #[.int .u8 0,.int .u32 0,.int .u8 0,.int .i64 0,.int .i64 0,.int .u8 0,.int .u32 0,.int .u8 0,.int .i64 0,.slice none 0 0]
theorem zZ5 {n : Nat} (wf : Wf M) (hn : 0 < n) (hb : n ≤ 1000000) (k : Q (.sl M.size 0 0 none 10) (M.add (.row false (zA0 zRn n)))) :
  W3 (zAF Try.prog (fsT tbl) fuel (d + 1) (.fn 65) [NIL,I64 n] M) Q:=by
 have hz:=zSA (X:=M) (st:=10) (bytes:=80) (z:=zRn) wf rfl rfl hn (by omega) (by omega) (by omega)
 have e0 : decide ((n : Int) < 0) = false:=decide_eq_false (by omega)
 have e1 : decide ((0 : Int) < n) = true:=decide_eq_true (by omega)
 have w0 : IntKind.i64.wrap 0 = 0:=by decide
 have w1 : IntKind.i64.wrap ((n : Int) - 0) = n:=by rw [wrap_i64] <;> omega
 refine zCS tf65 rfl (by simp [a65]) fun b' ht hx=>?_
 have h0:=hx 0 _ rfl
 have h1:=hx 1 _ rfl
 clear hx
 simp only [a65,c65,zz0,zzm] at ht ⊢
 have hs:=zXT (M:=M.add (.row false (zA0 zRn n))) (st:=10) (n:=n) (zAS wf (.row false (zA0 zRn n)) M.size (Nat.le_refl _) (Nat.lt_succ_self _))
 simp (maxSteps:=2000000) (disch:=first | omega | assumption | (simp only [DS,Nat.reduceAdd, *]; done) | (simp only [DZ]; omega)) only [RUN,RU,zA4,zA2,zA1,zA5,frzL,slot,lay,icyL,zA6,zA0,kR,reduceIte,Nat.reduceEqDiff,Nat.reduceBEq,Nat.reduceLT,Nat.reduceAdd,Nat.reduceLeDiff,Nat.reduceSub,Nat.reduceMul,Int.reduceLT,Int.reduceLE,Int.reduceEq,Int.reduceAdd,Int.reduceSub,Int.reduceMul,h0,h1,e0,e1,w0,w1,zb1,x_cap,zW4,zUI,hz,hs]
 exact k
set_option maxHeartbeats 8000000 in
/-- One list of three. -/
theorem zPJ {id : Nat} {a0 a1 a2 : AV} {l0 l1 l2 : List Rn} (wf : Wf M) (hg : M.get id = some (.row false [a0,a1,a2])) (h0' : Sl 10 isRn a0 l0) (h1' : SlM M 10 isRn a1 l1) (h2' : Sl 10 isRn a2 l2) (hn : 0 < l1.length) (hb0 : l0.length ≤ 10000) (hb1 : l1.length ≤ 10000) (hb2 : l2.length ≤ 10000) (hf : 100 < fuel) (hw : M.wm ≤ M.size)
  (k : ∀ o N,SlM N 10 isRn o (l0 ++ l1 ++ l2) → Kept M N → (∀ j,rowOf o = some j → M.size ≤ j) → oneA o = true → cellsA o = [o] → ((rowsOf o).all fun i=>Nat.blt i N.size) = true → Q o N) :
  W3 (zAF Try.prog (fsT tbl) fuel (d + 2) (.fn 50) [.sl id 0 3 (some 3) 1] M) Q:=by
 have x0:=h0'.len
 have x1:=h1'.len
 have x2:=h2'.len
 have o0:=h0'.one
 have o1:=h1'.one
 have o2:=h2'.one
 have li:=Mem.get_lt hg
 have c3 : ((3 : Nat) : Int) = 3:=rfl
 have t0 : zF1 (I64 0) = some 0:=rfl
 have t1 : zF1 (I64 1) = some 1:=rfl
 have t2 : zF1 (I64 2) = some 2:=rfl
 have q03 : decide ((0 : Int) < 3) = true:=rfl
 have q13 : decide ((1 : Int) < 3) = true:=rfl
 have q23 : decide ((2 : Int) < 3) = true:=rfl
 have q33 : decide ((3 : Int) < 3) = false:=rfl
 have v1 : IntKind.i64.wrap 1 = 1:=by decide
 have v2 : IntKind.i64.wrap 2 = 2:=by decide
 have v3 : IntKind.i64.wrap 3 = 3:=by decide
 have w0 : IntKind.i64.wrap (0 + (l0.length : Int)) = (l0.length : Nat):=by rw [wrap_i64] <;> omega
 have w1 : IntKind.i64.wrap ((l0.length : Int) + (l1.length : Int)) = ((l0.length + l1.length : Nat) : Int):=by rw [wrap_i64] <;> omega
 have w2 : IntKind.i64.wrap (((l0.length + l1.length : Nat) : Int) + (l2.length : Int)) = ((l0.length + l1.length + l2.length : Nat) : Int):=by rw [wrap_i64] <;> omega
 have n0 : decide (((l0.length : Nat) : Int) < 0) = false:=decide_eq_false (by omega)
 have n1 : decide (((l0.length + l1.length : Nat) : Int) < 0) = false:=decide_eq_false (by omega)
 have n2 : decide (((l0.length + l1.length + l2.length : Nat) : Int) < 0) = false:=decide_eq_false (by omega)
 refine zCS tf50 rfl (by simp [a50]) fun b' ht hx=>?_
 have h0:=hx 0 _ rfl
 clear hx
 simp only [a50,c50,zz0,zzm] at ht ⊢
 simp (maxSteps:=2000000) (disch:=first | omega | assumption | (simp only [DS,Nat.reduceAdd, *]; done) | (simp only [DZ]; omega)) only [RUN,RU,zA4,zA2,zA1,zA5,frzL,slot,lay,icyL,zA6,zA0,kR,reduceIte,Nat.reduceEqDiff,Nat.reduceBEq,Nat.reduceLT,Nat.reduceAdd,Nat.reduceLeDiff,Nat.reduceSub,Nat.reduceMul,Int.reduceLT,Int.reduceLE,Int.reduceEq,Int.reduceAdd,Int.reduceSub,Int.reduceMul,h0]
 refine w_un (by omega) ?_
 simp (maxSteps:=2000000) (disch:=first | omega | assumption | (simp only [DS,Nat.reduceAdd, *]; done) | (simp only [DZ]; omega)) only [RUN,RU,zA4,zA2,zA1,zA5,frzL,slot,lay,icyL,zA6,zA0,kR,reduceIte,Nat.reduceEqDiff,Nat.reduceBEq,Nat.reduceLT,Nat.reduceAdd,Nat.reduceLeDiff,Nat.reduceSub,Nat.reduceMul,Int.reduceLT,Int.reduceLE,Int.reduceEq,Int.reduceAdd,Int.reduceSub,Int.reduceMul,h0,hg,c3,t0,q03,x0,w0,n0,v1,o0,zBX,zD5,zEE]
 refine w_un (by omega) ?_
 simp (maxSteps:=2000000) (disch:=first | omega | assumption | (simp only [DS,Nat.reduceAdd, *]; done) | (simp only [DZ]; omega)) only [RUN,RU,zA4,zA2,zA1,zA5,frzL,slot,lay,icyL,zA6,zA0,kR,reduceIte,Nat.reduceEqDiff,Nat.reduceBEq,Nat.reduceLT,Nat.reduceAdd,Nat.reduceLeDiff,Nat.reduceSub,Nat.reduceMul,Int.reduceLT,Int.reduceLE,Int.reduceEq,Int.reduceAdd,Int.reduceSub,Int.reduceMul,h0,hg,t1,q13,x1,w1,n1,v2,o1,zBX,zD5,zEE]
 refine w_un (by omega) ?_
 simp (maxSteps:=2000000) (disch:=first | omega | assumption | (simp only [DS,Nat.reduceAdd, *]; done) | (simp only [DZ]; omega)) only [RUN,RU,zA4,zA2,zA1,zA5,frzL,slot,lay,icyL,zA6,zA0,kR,reduceIte,Nat.reduceEqDiff,Nat.reduceBEq,Nat.reduceLT,Nat.reduceAdd,Nat.reduceLeDiff,Nat.reduceSub,Nat.reduceMul,Int.reduceLT,Int.reduceLE,Int.reduceEq,Int.reduceAdd,Int.reduceSub,Int.reduceMul,h0,hg,t2,q23,x2,w2,n2,v3,o2,zBX,zD5,zEE]
 refine w_un (by omega) ?_
 simp (maxSteps:=2000000) (disch:=first | omega | assumption | (simp only [DS,Nat.reduceAdd, *]; done) | (simp only [DZ]; omega)) only [RUN,RU,zA4,zA2,zA1,zA5,frzL,slot,lay,icyL,zA6,zA0,kR,reduceIte,Nat.reduceEqDiff,Nat.reduceBEq,Nat.reduceLT,Nat.reduceAdd,Nat.reduceLeDiff,Nat.reduceSub,Nat.reduceMul,Int.reduceLT,Int.reduceLE,Int.reduceEq,Int.reduceAdd,Int.reduceSub,Int.reduceMul,h0,q33,zBX,zD5,zEE]
 refine zZ5 (d:=d) (n:=l0.length + l1.length + l2.length) wf (by omega) (by omega) ?_
 have sq0:=SlQ.fresh (X:=M) (st:=10) (T:=isRn) (n:=l0.length + l1.length + l2.length) (z:=zRn) wf rfl
 have wX:=wf.add (.row false (zA0 zRn (l0.length + l1.length + l2.length)))
 have kX : ∀ j,j < M.size → (M.add (.row false (zA0 zRn (l0.length + l1.length + l2.length)))).get j = M.get j:=fun j hj=>zAP wf _ _ hj
 have sX : (M.add (.row false (zA0 zRn (l0.length + l1.length + l2.length)))).size = M.size + 1:=rfl
 have dX : (M.add (.row false (zA0 zRn (l0.length + l1.length + l2.length)))).dirty = M.dirty:=rfl
 have vX : (M.add (.row false (zA0 zRn (l0.length + l1.length + l2.length)))).wm = M.wm:=rfl
 generalize (M.add (.row false (zA0 zRn (l0.length + l1.length + l2.length)))) = X at *
 have gX:=(kX id li).trans hg
 simp (maxSteps:=2000000) (disch:=first | omega | assumption | (simp only [DS,Nat.reduceAdd, *]; done) | (simp only [DZ]; omega)) only [RUN,RU,zA4,zA2,zA1,zA5,frzL,slot,lay,icyL,zA6,zA0,kR,reduceIte,Nat.reduceEqDiff,Nat.reduceBEq,Nat.reduceLT,Nat.reduceAdd,Nat.reduceLeDiff,Nat.reduceSub,Nat.reduceMul,Int.reduceLT,Int.reduceLE,Int.reduceEq,Int.reduceAdd,Int.reduceSub,Int.reduceMul,h0,gX,wX,c3]
 refine w_un (by omega) ?_
 simp (maxSteps:=2000000) (disch:=first | omega | assumption | (simp only [DS,Nat.reduceAdd, *]; done) | (simp only [DZ]; omega)) only [RUN,RU,zA4,zA2,zA1,zA5,frzL,slot,lay,icyL,zA6,zA0,kR,reduceIte,Nat.reduceEqDiff,Nat.reduceBEq,Nat.reduceLT,Nat.reduceAdd,Nat.reduceLeDiff,Nat.reduceSub,Nat.reduceMul,Int.reduceLT,Int.reduceLE,Int.reduceEq,Int.reduceAdd,Int.reduceSub,Int.reduceMul,h0,gX,c3,t0,q03,v1,h0'.fz.rows,h0'.fz.one,h0'.fz.cells,h0'.fz.icy,h0'.fz.frz,zBX,zD5,zEE]
 obtain ⟨r0,y0,z0,A0,R0⟩:=h0'.cells2 X
 refine SlQ.app (bytes:=80) wX sq0 y0 z0 A0 R0 zCJ.cel (by omega) (by simp; omega) (by simp; omega) fun o' Y sq1 wY sY kY rY wmY diY=>?_
 have on1:=sq1.one
 have oc1:=sq1.cells
 have rl1:=sq1.rl (Nat.le_refl _)
 have ro1 : ∀ j,rowOf o' = some j → j = M.size:=fun j hj=>by rw [rY] at hj; cases hj; rfl
 have gY : Y.get id = some (.row false [a0,a1,a2]):=(kY id (fun e=>by cases e; omega)).trans gX
 have mY : ∀ j,j < M.size → Y.get j = M.get j:=fun j hj=>(kY j (fun e=>by cases e; omega)).trans (kX j hj)
 simp (maxSteps:=2000000) (disch:=first | omega | assumption | (simp only [DS,Nat.reduceAdd, *]; done) | (simp only [DZ]; omega)) only [RUN,RU,zA4,zA2,zA1,zA5,frzL,slot,lay,icyL,zA6,zA0,kR,reduceIte,Nat.reduceEqDiff,Nat.reduceBEq,Nat.reduceLT,Nat.reduceAdd,Nat.reduceLeDiff,Nat.reduceSub,Nat.reduceMul,Int.reduceLT,Int.reduceLE,Int.reduceEq,Int.reduceAdd,Int.reduceSub,Int.reduceMul,h0,wY,on1,oc1,rl1,v1,zBX,zD5,zEE]
 refine w_un (by omega) ?_
 have sm1 : SlM Y 10 isRn a1 l1:=h1'.keep fun j hj=>mY j (h1'.lt j hj)
 have rla:=zBB sm1.rl (Nat.le_refl _)
 simp (maxSteps:=2000000) (disch:=first | omega | assumption | (simp only [DS,Nat.reduceAdd, *]; done) | (simp only [DZ]; omega)) only [RUN,RU,zA4,zA2,zA1,zA5,frzL,slot,lay,icyL,zA6,zA0,kR,reduceIte,Nat.reduceEqDiff,Nat.reduceBEq,Nat.reduceLT,Nat.reduceAdd,Nat.reduceLeDiff,Nat.reduceSub,Nat.reduceMul,Int.reduceLT,Int.reduceLE,Int.reduceEq,Int.reduceAdd,Int.reduceSub,Int.reduceMul,h0,gY,c3,t1,q13,v2,on1,o1,rl1,rla,zBX,zD5,zEE]
 obtain ⟨r1,y1,z1,A1,R1⟩:=sm1.cells2
 refine SlQ.app (bytes:=80) wY sq1 y1 z1 A1 R1 zCJ.cel (by omega) (by simp; omega) (by simp; omega) fun o2' Z sq2 wZ sZ kZ rZ wmZ diZ=>?_
 have on2:=sq2.one
 have oc2:=sq2.cells
 have rl2:=sq2.rl (Nat.le_refl _)
 have ro2 : ∀ j,rowOf o2' = some j → j = M.size:=fun j hj=>ro1 j (rZ ▸ hj)
 have gZ : Z.get id = some (.row false [a0,a1,a2]):=(kZ id (fun e=>by have:=ro1 _ e; omega)).trans gY
 have mZ : ∀ j,j < M.size → Z.get j = M.get j:=fun j hj=>(kZ j (fun e=>by have:=ro1 _ e; omega)).trans (mY j hj)
 simp (maxSteps:=2000000) (disch:=first | omega | assumption | (simp only [DS,Nat.reduceAdd, *]; done) | (simp only [DZ]; omega)) only [RUN,RU,zA4,zA2,zA1,zA5,frzL,slot,lay,icyL,zA6,zA0,kR,reduceIte,Nat.reduceEqDiff,Nat.reduceBEq,Nat.reduceLT,Nat.reduceAdd,Nat.reduceLeDiff,Nat.reduceSub,Nat.reduceMul,Int.reduceLT,Int.reduceLE,Int.reduceEq,Int.reduceAdd,Int.reduceSub,Int.reduceMul,h0,wZ,on2,oc2,rl2,v2,zBX,zD5,zEE]
 refine w_un (by omega) ?_
 simp (maxSteps:=2000000) (disch:=first | omega | assumption | (simp only [DS,Nat.reduceAdd, *]; done) | (simp only [DZ]; omega)) only [RUN,RU,zA4,zA2,zA1,zA5,frzL,slot,lay,icyL,zA6,zA0,kR,reduceIte,Nat.reduceEqDiff,Nat.reduceBEq,Nat.reduceLT,Nat.reduceAdd,Nat.reduceLeDiff,Nat.reduceSub,Nat.reduceMul,Int.reduceLT,Int.reduceLE,Int.reduceEq,Int.reduceAdd,Int.reduceSub,Int.reduceMul,h0,gZ,c3,t2,q23,v3,on2,rl2,h2'.fz.rows,h2'.fz.one,h2'.fz.cells,h2'.fz.icy,h2'.fz.frz,zBX,zD5,zEE]
 obtain ⟨r2,y2,z2,A2,R2⟩:=h2'.cells2 Z
 refine SlQ.app (bytes:=80) wZ sq2 y2 z2 A2 R2 zCJ.cel (by omega) (by simp; omega) (by simp; omega) fun o3' U sq3 wU sU kU rU wmU diU=>?_
 have on3:=sq3.one
 have oc3:=sq3.cells
 have rl3:=sq3.rl (Nat.le_refl _)
 have ro3 : ∀ j,rowOf o3' = some j → j = M.size:=fun j hj=>ro2 j (rU ▸ hj)
 have mU : ∀ j,j < M.size → U.get j = M.get j:=fun j hj=>(kU j (fun e=>by have:=ro2 _ e; omega)).trans (mZ j hj)
 simp (maxSteps:=2000000) (disch:=first | omega | assumption | (simp only [DS,Nat.reduceAdd, *]; done) | (simp only [DZ]; omega)) only [RUN,RU,zA4,zA2,zA1,zA5,frzL,slot,lay,icyL,zA6,zA0,kR,reduceIte,Nat.reduceEqDiff,Nat.reduceBEq,Nat.reduceLT,Nat.reduceAdd,Nat.reduceLeDiff,Nat.reduceSub,Nat.reduceMul,Int.reduceLT,Int.reduceLE,Int.reduceEq,Int.reduceAdd,Int.reduceSub,Int.reduceMul,h0,wU,on3,oc3,rl3,v3,zBX,zD5,zEE]
 refine w_un (by omega) ?_
 simp (maxSteps:=2000000) (disch:=first | omega | assumption | (simp only [DS,Nat.reduceAdd, *]; done) | (simp only [DZ]; omega)) only [RUN,RU,zA4,zA2,zA1,zA5,frzL,slot,lay,icyL,zA6,zA0,kR,reduceIte,Nat.reduceEqDiff,Nat.reduceBEq,Nat.reduceLT,Nat.reduceAdd,Nat.reduceLeDiff,Nat.reduceSub,Nat.reduceMul,Int.reduceLT,Int.reduceLE,Int.reduceEq,Int.reduceAdd,Int.reduceSub,Int.reduceMul,h0,q33,on3,oc3,rl3,zBX,zD5,zEE]
 have e0 : l0.length + l1.length + l2.length - l0.length - l1.length - l2.length = 0:=by omega
 rw [e0] at sq3
 have d1:=diY (fun j hj=>by cases hj; omega)
 have d2:=diZ (fun j hj=>by have:=ro1 j hj; omega)
 have d3:=diU (fun j hj=>by have:=ro2 j hj; omega)
 exact k o3' U (by have:=sq3.slm; simpa using this) ⟨wU,by omega,mU,by omega,d3.trans (d2.trans (d1.trans dX))⟩ (fun j hj=>by have:=ro3 j hj; omega) on3 oc3 rl3
end Go.Proofs.Ytakaojjlfcmphaa
namespace Go.Proofs.Ytakaojjlfcmphaa
open Go Go.Ax
variable {fuel : Nat} {M : Mem} {Q : AV → Mem → Prop} {d : Nat}
set_option maxHeartbeats 16000000 in
theorem zKQ {a : AV} {l : List Rn} {x : Eid} (hS : Sl 10 isRn a l) (hm : ∀ r ∈ l,r.may = true) (hx : x = Eid.z ∨ zB9 l x ≠ none) (hl : l.length ≤ 9000) (hf : l.length + 100 < fuel) :
  ∃ r,Sl 10 isRn r (zB7 l x).1 ∧ ∀ M,zAF Try.prog (fsT tbl) fuel (d + 8) (.fn 32) [a,idA x] M = some (.tup [r,I64 (zB7 l x).2],M):=by
 have oa:=hS.one
 have la:=hS.len
 have hw:=fun M=>@zL4 fuel (d + 1) a l x hS (by omega) (by omega) M
 refine zK0 tf32 rfl (fun M=>by simp only [icyL,fun M=>hS.icy M 12 (by omega),zCK (zJZ x) (show 1 < 12 by omega)]) ?_
 refine zAX tf32 rfl (by simp only [icyL,fun M=>hS.icy M 12 (by omega),zCK (zJZ x) (show 1 < 12 by omega)]) (by simp [a32]) fun b' ht hx=>?_
 have h0:=hx 0 _ rfl
 have h1:=hx 1 _ rfl
 clear hx
 simp only [a32,c32,zz0,zz2,zzm] at ht ⊢
 by_cases hz : x = Eid.z
 ·have q : decide (x = Eid.z) = true:=decide_eq_true hz
  have hpl : zB7 l x = (l,0):=by unfold zB7; rw [if_pos hz]
  rw [hpl]
  simp (maxSteps:=2000000) (disch:=first | omega | assumption | (simp only [DS,Nat.reduceAdd, *]; done) | (simp only [DZ]; omega)) only [RUN,RU,zA4,zA2,zA1,zA5,frzL,slot,lay,icyL,zA6,zA0,kR,reduceIte,Nat.reduceEqDiff,Nat.reduceBEq,Nat.reduceLT,Nat.reduceAdd,Nat.reduceLeDiff,Nat.reduceSub,Nat.reduceMul,Int.reduceLT,Int.reduceLE,Int.reduceEq,Int.reduceAdd,Int.reduceSub,Int.reduceMul,h0,h1,hS.fz.rows,hS.fz.one,hS.fz.cells,hS.fz.icy,hS.fz.frz,↓pIdE,zAK,↓pIdN,zAH,↓pHdE,zAI,↓pHdN,zAJ,↓pLbE,zAL,↓pLbN,zAM,↓pSpE,zAN,↓pSpN,zAO,ETA,q]
  exact ⟨_,hS,rfl⟩
 ·have q : decide (x = Eid.z) = false:=decide_eq_false hz
  rcases hx with hx | hx
  ·exact absurd hx hz
  cases hwl : zB9 l x with
  | none=>exact absurd hwl hx
  | some p =>
   obtain ⟨n,k⟩:=p
   obtain ⟨L1,o,L2,hle,hln,h1',h2',h3',h4'⟩:=zGB hwl
   rw [hwl] at hw
   simp only [wN,wK] at hw
   have hnl : n < l.length:=by rw [hle,List.length_append,List.length_cons]; omega
   obtain ⟨r,hiad,hr,hrl⟩:=hS.iad n hnl
   have hgo : l.getD n Rn.z = l[n]:=by rw [List.getD_eq_getElem?_getD,List.getElem?_eq_getElem hnl]; rfl
   have hpl : zB7 l x = if (l.getD n Rn.z).cutE (k + 1) = 0 then (l.take n ++ [(l.getD n Rn.z).fst (k + 1),(l.getD n Rn.z).snd (k + 1)] ++ l.drop (n + 1),n + 1) else (l,n + 1):=by unfold zB7; rw [if_neg hz]; simp only [hwl]
   rw [hpl,hgo]
   clear hpl
   have hom:=hm l[n] (List.getElem_mem hnl)
   have hro:=zXM hS l[n] (List.getElem_mem hnl)
   have hon : o = l[n]:=by simp [hle,← hln]
   have hln':=hon ▸ h3'
   generalize l[n] = e at *
   obtain ⟨ra,rfl,hra,_⟩:=hr
   have ora:=hra.one
   have hb:=Spn.may_le (Rn.may_sp hom)
   have w1 : IntKind.i64.wrap (k + 1) = k + 1:=by rw [wrap_i64] <;> omega
   have w2 : IntKind.i64.wrap ((n : Int) + 1) = ((n + 1 : Nat) : Int):=by rw [wrap_i64] <;> omega
   obtain ⟨v,⟨ca,cb,rfl,hca,hcb⟩,hcut⟩:=zG7 (fuel:=fuel) (d:=d) (n:=k + 1) hra (by omega)
   have oca:=hca.one
   have ocb:=hcb.one
   by_cases hc : e.cutE (k + 1) = 0
   ·have q2 : decide (e.cutE (k + 1) = 0) = true:=decide_eq_true hc
    rw [if_pos hc]
    obtain ⟨r1,s1,b1⟩:=zaN hS (j:=n) (by omega)
    obtain ⟨r2,s2,b2⟩:=zRF hS (i:=n + 1) (by omega)
    have ob1:=b1.one
    have ob2:=b2.one
    have eA : e.cutA (k + 1) = e.fst (k + 1):=by unfold Rn.cutA; rw [if_pos hc]
    have eB : e.cutB (k + 1) = e.snd (k + 1):=by unfold Rn.cutB; rw [if_pos hc]
    have okA:=zV3 hro hc
    have okB:=zVO hro hc
    rw [eA] at hca hcut
    rw [eB] at hcb hcut
    generalize e.fst (k + 1) = eF at *
    generalize e.snd (k + 1) = eS at *
    have oca:=hca.one
    have ocb:=hcb.one
    simp (maxSteps:=2000000) (disch:=first | omega | assumption | (simp only [DS,Nat.reduceAdd, *]; done) | (simp only [DZ]; omega)) only [RUN,RU,zA4,zA2,zA1,zA5,frzL,slot,lay,icyL,zA6,zA0,kR,reduceIte,Nat.reduceEqDiff,Nat.reduceBEq,Nat.reduceLT,Nat.reduceAdd,Nat.reduceLeDiff,Nat.reduceSub,Nat.reduceMul,Int.reduceLT,Int.reduceLE,Int.reduceEq,Int.reduceAdd,Int.reduceSub,Int.reduceMul,h0,h1,hS.fz.rows,hS.fz.one,hS.fz.cells,hS.fz.icy,hS.fz.frz,↓pIdE,zAK,↓pIdN,zAH,↓pHdE,zAI,↓pHdN,zAJ,↓pLbE,zAL,↓pLbN,zAM,↓pSpE,zAN,↓pSpN,zAO,ETA,q,hw,hiad,hra.fz.rows,hra.fz.one,hra.fz.cells,hra.fz.icy,hra.fz.frz,w1,w2,hcut,hca.fz.rows,hca.fz.one,hca.fz.cells,hca.fz.icy,hca.fz.frz,hcb.fz.rows,hcb.fz.one,hcb.fz.cells,hcb.fz.icy,hcb.fz.frz,q2,s1,s2,b1.fz.rows,b1.fz.one,b1.fz.cells,b1.fz.icy,b1.fz.frz,b2.fz.rows,b2.fz.one,b2.fz.cells,b2.fz.icy,b2.fz.frz,zAT]
    refine zPJ (d:=d + 5) (id:=4) (a0:=r1) (a1:=.sl 3 0 2 (some 2) 10) (a2:=r2) (l1:=[eF,eS]) (by simp (maxSteps:=2000000) (disch:=first | omega | assumption | (simp only [DS,Nat.reduceAdd, *]; done) | (simp only [DZ]; omega)) only [RUN,RU,zA4,zA2,zA1,zA5,frzL,slot,lay,icyL,zA6,zA0,kR,reduceIte,Nat.reduceEqDiff,Nat.reduceBEq,Nat.reduceLT,Nat.reduceAdd,Nat.reduceLeDiff,Nat.reduceSub,Nat.reduceMul,Int.reduceLT,Int.reduceLE,Int.reduceEq,Int.reduceAdd,Int.reduceSub,Int.reduceMul]) ?_ b1 (zRH (zMY hca hcb okA okB) (by simp) rfl (.inr rfl) ?_) b2 (by simp) (by rw [List.length_take]; omega) (by simp) (by rw [List.length_drop]; omega) (by omega) (Nat.le_refl _) fun o' N sm kN nr on oc rl=>?_
    ·simp (maxSteps:=2000000) (disch:=first | omega | assumption | (simp only [DS,Nat.reduceAdd, *]; done) | (simp only [DZ]; omega)) only [RUN,RU,zA4,zA2,zA1,zA5,frzL,slot,lay,icyL,zA6,zA0,kR,reduceIte,Nat.reduceEqDiff,Nat.reduceBEq,Nat.reduceLT,Nat.reduceAdd,Nat.reduceLeDiff,Nat.reduceSub,Nat.reduceMul,Int.reduceLT,Int.reduceLE,Int.reduceEq,Int.reduceAdd,Int.reduceSub,Int.reduceMul]
    ·simp (maxSteps:=2000000) (disch:=first | omega | assumption | (simp only [DS,Nat.reduceAdd, *]; done) | (simp only [DZ]; omega)) only [RUN,RU,zA4,zA2,zA1,zA5,frzL,slot,lay,icyL,zA6,zA0,kR,reduceIte,Nat.reduceEqDiff,Nat.reduceBEq,Nat.reduceLT,Nat.reduceAdd,Nat.reduceLeDiff,Nat.reduceSub,Nat.reduceMul,Int.reduceLT,Int.reduceLE,Int.reduceEq,Int.reduceAdd,Int.reduceSub,Int.reduceMul]
     rfl
    ·have wN:=kN.wf
     have dN : N.dirty = false:=kN.di
     simp (maxSteps:=2000000) (disch:=first | omega | assumption | (simp only [DS,Nat.reduceAdd, *]; done) | (simp only [DZ]; omega)) only [RUN,RU,zA4,zA2,zA1,zA5,frzL,slot,lay,icyL,zA6,zA0,kR,reduceIte,Nat.reduceEqDiff,Nat.reduceBEq,Nat.reduceLT,Nat.reduceAdd,Nat.reduceLeDiff,Nat.reduceSub,Nat.reduceMul,Int.reduceLT,Int.reduceLE,Int.reduceEq,Int.reduceAdd,Int.reduceSub,Int.reduceMul,wN,dN,on,oc,rl]
     obtain ⟨ro,hro2,hfr⟩:=zFN sm zCJ.cel 12 (by omega)
     rw [hfr _ (fun id h=>by simp (maxSteps:=2000000) (disch:=first | omega | assumption | (simp only [DS,Nat.reduceAdd, *]; done) | (simp only [DZ]; omega)) only [RUN,RU,zA4,zA2,zA1,zA5,frzL,slot,lay,icyL,zA6,zA0,kR,reduceIte,Nat.reduceEqDiff,Nat.reduceBEq,Nat.reduceLT,Nat.reduceAdd,Nat.reduceLeDiff,Nat.reduceSub,Nat.reduceMul,Int.reduceLT,Int.reduceLE,Int.reduceEq,Int.reduceAdd,Int.reduceSub,Int.reduceMul,wN])]
     exact ⟨ro,hro2,by rw [w2]⟩
   ·have q2 : decide (e.cutE (k + 1) = 0) = false:=decide_eq_false hc
    rw [if_neg hc]
    simp (maxSteps:=2000000) (disch:=first | omega | assumption | (simp only [DS,Nat.reduceAdd, *]; done) | (simp only [DZ]; omega)) only [RUN,RU,zA4,zA2,zA1,zA5,frzL,slot,lay,icyL,zA6,zA0,kR,reduceIte,Nat.reduceEqDiff,Nat.reduceBEq,Nat.reduceLT,Nat.reduceAdd,Nat.reduceLeDiff,Nat.reduceSub,Nat.reduceMul,Int.reduceLT,Int.reduceLE,Int.reduceEq,Int.reduceAdd,Int.reduceSub,Int.reduceMul,h0,h1,hS.fz.rows,hS.fz.one,hS.fz.cells,hS.fz.icy,hS.fz.frz,↓pIdE,zAK,↓pIdN,zAH,↓pHdE,zAI,↓pHdN,zAJ,↓pLbE,zAL,↓pLbN,zAM,↓pSpE,zAN,↓pSpN,zAO,ETA,q,hw,hiad,hra.fz.rows,hra.fz.one,hra.fz.cells,hra.fz.icy,hra.fz.frz,w1,w2,hcut,hca.fz.rows,hca.fz.one,hca.fz.cells,hca.fz.icy,hca.fz.frz,hcb.fz.rows,hcb.fz.one,hcb.fz.cells,hcb.fz.icy,hcb.fz.frz,q2]
    exact ⟨_,hS,rfl⟩
end Go.Proofs.Ytakaojjlfcmphaa
