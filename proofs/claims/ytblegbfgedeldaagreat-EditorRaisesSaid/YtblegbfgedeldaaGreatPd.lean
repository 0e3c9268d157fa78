/-
  Texts joined: EdF SwV EdV.
-/
import Derived.Test.YtblegbfgedeldaaGreatEdT
import Derived.Test.YtblegbfgedeldaaGreatEf
import Derived.Test.YtblegbfgedeldaaGreatPc
set_option linter.unusedSimpArgs false
set_option linter.unusedVariables false
set_option maxRecDepth 100000
namespace Go.Proofs.YtblegbfgedeldaaGreat
open Go Go.Ax
variable {fuel : Nat} {M : Mem} {Q : AV → Mem → Prop} {d : Nat} {l : List Op} {a : AV} {v : Lb}
theorem zXL {l : List Op} (hok : ∀ o ∈ l,o.ok) (hl : l.length ≤ 25) {h : Hd} {s k m : Int} {to : Lb} (hz : rsE l h s k m to = 0) :
  zFH l h.lb = 0 ∧ (0 ≤ k ∧ k ≤ (zC2 l h.lb).length ∧ 1 ≤ m ∧ m ≤ (zC2 l h.lb).length - k) ∧ h.lb.leq to = true ∧ (spansOf ((midC l h.lb k m).map (·.id))).length ≤ 64 ∧
  (∀ i (hi : i < (zBO 3 h s to (spansOf ((midC l h.lb k m).map (·.id)))).length),zLG (l ++ (zBO 3 h s to (spansOf ((midC l h.lb k m).map (·.id)))).take i) (zBO 3 h s to (spansOf ((midC l h.lb k m).map (·.id))))[i] = 0) ∧
  zFH (l ++ zBO 3 h s to (spansOf ((midC l h.lb k m).map (·.id)))) h.lb = 0 ∧
  zC2 (l ++ zBO 3 h s to (spansOf ((midC l h.lb k m).map (·.id)))) h.lb = (zC2 l h.lb).map (upC to h.lb ((midC l h.lb k m).map (·.id))):=by
 unfold rsE at hz
 split at hz
 ·rename_i z1
  split at hz
  ·rename_i zt
   split at hz
   ·rename_i z2
    split at hz
    ·rename_i zl
     split at hz
     ·rename_i z3
      obtain ⟨e1,e2,e3,e4⟩:=ed_z z1
      obtain ⟨f1,f2⟩:=zcI z2
      obtain ⟨g0,g1⟩:=vsp_z f2
      have hlb:=(zJH g0).2
      have hnl:=zT9 (l:=l) (v:=h.lb) (k:=k) f1
      have hmay : ∀ x ∈ (midC l h.lb k m).map (·.id),x ∈ zAM l ∧ x.hd.lb.leq h.lb = true ∧ x.may = true:=fun x hx=>by
       obtain ⟨c,hc,rfl⟩:=List.mem_map.1 hx
       exact zQX e1 hok (List.mem_of_mem_drop (List.mem_of_mem_take hc))
      obtain ⟨s1,s2⟩:=zPL fun x hx=>(hmay x hx).2.2
      have hin : ∀ x ∈ spansOf ((midC l h.lb k m).map (·.id)),∀ y ∈ x.ids,y ∈ zAM l ∧ y.hd.lb.leq h.lb = true:=fun x hx y hy=>by
       have : y ∈ (midC l h.lb k m).map (·.id):=by rw [← s1]; exact List.mem_flatMap.2 ⟨x,hx,hy⟩
       exact ⟨(hmay y this).1,(hmay y this).2.1⟩
      have hnd : ((midC l h.lb k m).map (·.id)).Nodup:=(zPP e1 h.lb).sublist (((List.take_sublist _ _).trans (List.drop_sublist _ _)).map _)
      rw [← s1] at hnd
      have hfit:=zQR e1 (by omega) (h:=h) (s:=s) e2 zt ⟨e3,by omega⟩ hnl s2 hin hnd (fun o ho=>by
       have:=List.all_eq_true.1 z3 o ho
       unfold chfB at this
       exact (Bool.and_eq_true _ _ ▸ this).2)
      generalize hsp : spansOf ((midC l h.lb k m).map (·.id)) = sp at *
      have hh:=(hfit (zBO 3 h s to sp).length (Nat.le_refl _)).1
      rw [List.take_length] at hh
      refine ⟨g0,g1,zl,hnl,fun i hi=>(hfit i (by omega)).2 hi, ?_, ?_⟩
      ·unfold zFH
       rw [hh,hlb]
       rfl
      ·rw [zQP e1 hh s2,s1]
     ·cases hz
    ·cases hz
   ·rename_i z2; exact absurd hz z2
  ·cases hz
 ·rename_i z1; exact absurd hz z1
set_option maxHeartbeats 16000000 in
theorem zY1 {h : Hd} {s k m : Int} {to : Lb} (hS : Sl 17 isOp a l) (hok : ∀ o ∈ l,o.ok) (hho : h.ok) (hto : to.ok) (M : Mem) : zAE Tryz.prog (fsT tbl) 4000000 61 (.fn 5) [a,hdA h,I64 s,I64 k,I64 m,lbA to] M = some (BL true,M):=by
 have ll:=hS.len
 have hal:=zRA
 have hgr:=fun M=>zSK (fuel:=4000000) (d:=59) (many:=20) hS (by omega) M
 have hle:=fun M=>zEM (fuel:=4000000) (d:=59) h.lb to M
 have hle2:=fun M=>zEM (fuel:=4000000) (d:=59) to h.lb M
 apply zBM
 refine zAJ tf5 rfl (by simp only [icyL,fun M=>hS.icy M 12 (by omega),zAS (zJ8 h) (show 1 < 12 by omega),zAS (zCW to) (show 1 < 12 by omega),zGL]) (by simp [a5]) fun b' ht hx=>?_
 have h0:=hx 0 _ rfl
 have h1:=hx 1 _ rfl
 have h2:=hx 2 _ rfl
 have h3:=hx 3 _ rfl
 have h4:=hx 4 _ rfl
 have h5:=hx 5 _ rfl
 clear hx
 simp only [a5,c5,zz0,zzm,zzg] at ht ⊢
 cases q1 : zLN l 20 with
 | true =>
  rw [q1] at hgr
  simp (maxSteps:=2000000) (disch:=first | omega | assumption | (simp only [DS,Nat.reduceAdd, *]; done) | (simp only [DZ]; omega)) only [RUN,RU,zA2,zA1,zA0,zAA,frzL,reduceIte,Nat.reduceEqDiff,Nat.reduceAdd,h0,h1,h5,hal,hgr]
 | false =>
  rw [q1] at hgr
  obtain ⟨hl20,hrs⟩:=zNG (by omega) q1
  have hrs2 : ∀ o ∈ l,o.rs.length ≤ 1000000000:=fun o ho=>by have:=hrs o ho; omega
  obtain ⟨rd,⟨r1,rfl,hr1⟩,hde⟩:=zTT (fuel:=4000000) (d:=39) (h:=h) (s:=s) (k:=k) (m:=m) (to:=to) hS hho hto (by omega) (by omega) hrs2
  by_cases q2 : rsE l h s k m to = 0
  ·obtain ⟨g0,⟨g1,g2,g3,g4⟩,glq,hnl,hfit,hon,hvw⟩:=zXL hok (by omega) q2
   obtain ⟨rc,⟨r2,rfl,hr2⟩,hc2⟩:=zHR (fuel:=4000000) (d:=42) (v:=h.lb) hS (by omega) (by omega) hrs2
   rw [q2] at hr1 hde
   rw [g0] at hr2 hc2
   rw [glq] at hle
   simp only [if_true] at hr1 hr2
   have hol:=zDD 3 h s to (spansOf ((midC l h.lb k m).map (·.id)))
   have hvl:=zPQ (zJH g0).1 h.lb
   have hids:=zPP (zJH g0).1 h.lb
   generalize spansOf ((midC l h.lb k m).map (·.id)) = sp at *
   obtain ⟨r3,hr3,hbh⟩:=zPX (fuel:=4000000) (d:=45) hS hr1 (by omega) (by omega) (by omega) hfit
   have hrs3 : ∀ o ∈ l ++ zBO 3 h s to sp,o.rs.length ≤ 1000000000:=fun o ho=>by
    rcases List.mem_append.1 ho with ho | ho
    ·exact hrs2 o ho
    ·obtain ⟨_,_,_,_,rfl⟩:=zCU ho
     exact Nat.zero_le _
   obtain ⟨rn,⟨r4,rfl,hr4⟩,hc4⟩:=zHR (fuel:=4000000) (d:=42) (v:=h.lb) hr3 (by rw [List.length_append]; omega) (by omega) hrs3
   rw [hon] at hr4 hc4
   simp only [if_true] at hr4
   rw [hvw] at hr4
   obtain ⟨k,rfl⟩ : ∃ n : Nat,k = n:=⟨k.toNat,by omega⟩
   obtain ⟨m,rfl⟩ : ∃ n : Nat,m = n:=⟨m.toNat,by omega⟩
   have hmid : ∀ i (hi : i < (zC2 l h.lb).length),(zC2 l h.lb)[i].id ∈ (midC l h.lb k m).map (·.id) ↔ k ≤ i ∧ i < k + m:=fun i hi=>by
    unfold midC
    simp only [Int.toNat_natCast]
    exact zaP hids hi (by omega)
   clear hvw hfit hon hids
   generalize (midC l h.lb k m).map (·.id) = D at *
   generalize zC2 l h.lb = W at *
   have lr1:=hr1.len
   have lr2:=hr2.len
   have lr4:=hr4.len
   rw [List.length_map] at lr4
   have c0 : decide ((W.length : Int) = W.length) = true:=decide_eq_true rfl
   have c1 : decide ((k : Int) < 0) = false:=decide_eq_false (by omega)
   have c2 : decide ((m : Int) < 1) = false:=decide_eq_false (by omega)
   have c3 : decide ((W.length : Int) < k) = false:=decide_eq_false (by omega)
   have w0 : IntKind.i64.wrap ((W.length : Int) - k) = W.length - k:=by rw [wrap_i64] <;> omega
   have c4 : decide ((W.length : Int) - k < m) = false:=decide_eq_false (by omega)
   have w1 : IntKind.i64.wrap ((k : Int) + m) = ((k + m : Nat) : Int):=by rw [wrap_i64] <;> omega
   simp (maxSteps:=2000000) (disch:=first | omega | assumption | (simp only [DS,Nat.reduceAdd, *]; done) | (simp only [DZ]; omega)) only [RUN,RU,zA2,zA1,slot,reduceIte,Nat.reduceEqDiff,Nat.reduceAdd,h0,h1,h2,h3,h4,h5,hal,hgr,hde]
   simp (maxSteps:=2000000) (disch:=first | omega | assumption | (simp only [DS,Nat.reduceAdd, *]; done) | (simp only [DZ]; omega)) only [RUN,RU,zA2,zA1,slot,reduceIte,Nat.reduceEqDiff,Nat.reduceAdd,h0,h3,h4,hc2,hbh,hc4,c1,c2,c3,c4,w0,lr2,lr4,hle]
   refine zBF (I:=fun nq tq Nq => ∃ (iq : Nat) (_x : Nat),nq = W.length - iq ∧ iq ≤ W.length ∧ nth zA5 tq 0 = a ∧ nth zA5 tq 3 = I64 k ∧ nth zA5 tq 4 = I64 m ∧ nth zA5 tq 7 = .ptr 0 0 ∧ nth zA5 tq 11 = .ptr 1 0 ∧ nth zA5 tq 13 = BL true ∧ nth zA5 tq 16 = r2 ∧ nth zA5 tq 20 = r4 ∧ nth zA5 tq 22 = I64 iq ∧ Wf Nq ∧ 2 ≤ Nq.size ∧ Nq.get 0 = some (.row false (hdR h)) ∧ Nq.get 1 = some (.row false (lbR to))) (n:=W.length) (by omega) ?_ ?_
   ·refine ⟨0,0,rfl,Nat.zero_le _, ?_, ?_, ?_, ?_, ?_, ?_, ?_, ?_, ?_,(Wf.mem0.add _).add _,Nat.le_refl 2,by simp (maxSteps:=2000000) (disch:=first | omega | assumption | (simp only [DS,Nat.reduceAdd, *]; done) | (simp only [DZ]; omega)) only [RUN],by simp (maxSteps:=2000000) (disch:=first | omega | assumption | (simp only [DS,Nat.reduceAdd, *]; done) | (simp only [DZ]; omega)) only [RUN]⟩ <;> simp (maxSteps:=2000000) (disch:=first | omega | assumption | (simp only [DS,Nat.reduceAdd, *]; done) | (simp only [DZ]; omega)) only [RUN,reduceIte,Nat.reduceEqDiff,h0,h3,h4]
    all_goals first | rfl | assumption | done
   ·rintro nq tq Nq hltq ⟨iq,_x,rfl,hiq,gq0,gq3,gq4,gq7,gq11,gq13,gq16,gq20,gq22,w,le,m0,m1⟩
    simp only [ht] at hltq ⊢
    have l0 : 0 < Nq.size:=by omega
    have l1 : 1 < Nq.size:=by omega
    by_cases hc : iq < W.length
    ·have d1 : decide ((iq : Int) < W.length) = true:=decide_eq_true (by omega)
     have d2 : IntKind.i64.wrap ((iq : Int) + 1) = ((iq + 1 : Nat) : Int):=by rw [wrap_i64] <;> omega
     obtain ⟨r,hiad,hr,hrl⟩:=hr2.iad iq hc
     obtain ⟨r',hiad4,hr',hrl'⟩:=hr4.iad iq (by rw [List.length_map]; exact hc)
     rw [List.getElem_map] at hr'
     have hm:=hmid iq hc
     generalize W[iq] = c at *
     obtain ⟨rfl,_⟩:=hr
     obtain ⟨rfl,_⟩:=hr'
     unfold upC at hiad4
     have gY : ∀ z r j,j < Nq.size → ((Nq.add z).upd Nq.size r).get j = Nq.get j:=fun z r j hj=>by
      rw [zA4 (w.add _) _ _ _ (by omega),zAF w _ _ hj]
     have d5 : decide (c = c) = true:=decide_eq_true rfl
     by_cases p1 : k ≤ iq
     ·have p1' : decide ((k : Int) ≤ iq) = true:=decide_eq_true (by omega)
      by_cases p2 : iq < k + m
      ·have p2' : decide ((iq : Int) < ((k + m : Nat) : Int)) = true:=decide_eq_true (by omega)
       have hin:=hm.2 ⟨p1,p2⟩
       cases p3 : to.leq h.lb with
       | true =>
        simp only [p3] at hle2
        simp only [hin,p3,Bool.true_eq_false,and_false,if_false] at hiad4
        simp (maxSteps:=2000000) (disch:=first | omega | assumption | (simp only [DS,Nat.reduceAdd, *]; done) | (simp only [DZ]; omega)) only [RUN,RU,zA2,zA1,slot,lay,reduceIte,Nat.reduceEqDiff,Nat.reduceBEq,Nat.reduceAdd,Nat.reduceLeDiff,gq0,gq3,gq4,gq7,gq11,gq13,gq16,gq20,gq22,lr4,d1,d2,hiad,hiad4,w,m0,m1,p1',p2',w1,hle2,↓pCeN,zG4,ETA,CellV.eta]
        exact ⟨hltq,W.length - (iq + 1),by omega,iq + 1,0,rfl,by omega,rfl,by omega⟩
       | false =>
        simp only [p3] at hle2
        simp only [hin,p3,and_self,if_true] at hiad4
        have d6 : decide ((⟨c.id, -1⟩ : CellV) = ⟨c.id, -1⟩) = true:=decide_eq_true rfl
        simp (maxSteps:=2000000) (disch:=first | omega | assumption | (simp only [DS,Nat.reduceAdd, *]; done) | (simp only [DZ]; omega)) only [RUN,RU,zA2,zA1,slot,lay,reduceIte,Nat.reduceEqDiff,Nat.reduceBEq,Nat.reduceAdd,Nat.reduceLeDiff,gq0,gq3,gq4,gq7,gq11,gq13,gq16,gq20,gq22,lr4,d1,d2,hiad,hiad4,w,m0,m1,p1',p2',w1,hle2,↓pCeN,zG4,ETA]
        exact ⟨hltq,W.length - (iq + 1),by omega,iq + 1,0,rfl,by omega,rfl,by omega⟩
      ·have p2' : decide ((iq : Int) < ((k + m : Nat) : Int)) = false:=decide_eq_false (by omega)
       have hin : c.id ∉ D:=fun h=>p2 (hm.1 h).2
       simp only [hin,false_and,if_false] at hiad4
       simp (maxSteps:=2000000) (disch:=first | omega | assumption | (simp only [DS,Nat.reduceAdd, *]; done) | (simp only [DZ]; omega)) only [RUN,RU,zA2,zA1,slot,lay,reduceIte,Nat.reduceEqDiff,Nat.reduceBEq,Nat.reduceAdd,Nat.reduceLeDiff,gq0,gq3,gq4,gq7,gq11,gq13,gq16,gq20,gq22,lr4,d1,d2,hiad,hiad4,w,m0,m1,p1',p2',w1,↓pCeN,zG4,ETA,CellV.eta]
       exact ⟨hltq,W.length - (iq + 1),by omega,iq + 1,0,rfl,by omega,rfl,by omega⟩
     ·have p1' : decide ((k : Int) ≤ iq) = false:=decide_eq_false (by omega)
      have hin : c.id ∉ D:=fun h=>p1 (hm.1 h).1
      simp only [hin,false_and,if_false] at hiad4
      simp (maxSteps:=2000000) (disch:=first | omega | assumption | (simp only [DS,Nat.reduceAdd, *]; done) | (simp only [DZ]; omega)) only [RUN,RU,zA2,zA1,slot,lay,reduceIte,Nat.reduceEqDiff,Nat.reduceBEq,Nat.reduceAdd,Nat.reduceLeDiff,gq0,gq3,gq4,gq7,gq11,gq13,gq16,gq20,gq22,lr4,d1,d2,hiad,hiad4,w,m0,m1,p1',↓pCeN,zG4,ETA,CellV.eta]
      exact ⟨hltq,W.length - (iq + 1),by omega,iq + 1,0,rfl,by omega,rfl,by omega⟩
    ·obtain rfl : iq = W.length:=by omega
     have d1 : decide ((W.length : Int) < W.length) = false:=decide_eq_false (by omega)
     simp (maxSteps:=2000000) (disch:=first | omega | assumption | (simp only [DS,Nat.reduceAdd, *]; done) | (simp only [DZ]; omega)) only [RUN,RU,zA2,zA1,zA0,zAA,frzL,reduceIte,Nat.reduceEqDiff,gq13,gq20,gq22,lr4]
  ·have q2':=decide_eq_false q2
   rw [if_neg q2] at hr1
   have lr1:=hr1.len
   simp (maxSteps:=2000000) (disch:=first | omega | assumption | (simp only [DS,Nat.reduceAdd, *]; done) | (simp only [DZ]; omega)) only [RUN,RU,zA2,zA1,zA0,zAA,frzL,slot,reduceIte,Nat.reduceEqDiff,Nat.reduceAdd,h0,h1,h2,h3,h4,h5,hal,hgr,hde,q2',lr1]
   rfl
end Go.Proofs.YtblegbfgedeldaaGreat
namespace Go.Proofs.YtblegbfgedeldaaGreat
open Go Go.Ax
abbrev gLb : GT:=.ag [.int .u8,.int .u32]
abbrev gHd : GT:=.ag [gLb,.int .u8]
abbrev gId : GT:=.ag [gHd,.int .i64]
abbrev gSp : GT:=.ag [gId,.int .i64]
abbrev gOp : GT:=.ag [.int .u8,gHd,.int .i64,gSp,gId,gLb,.sl (.int .i32)]
theorem zEA {n : Int} (h : (Lit.int .u8 n).wf = true) : 0 ≤ n ∧ n ≤ 255:=by
 simp [Lit.wf,IntKind.min,IntKind.max,IntKind.signed,IntKind.bits] at h
 omega
theorem zFK {n : Int} (h : (Lit.int .u32 n).wf = true) : 0 ≤ n ∧ n < 4294967296:=by
 simp [Lit.wf,IntKind.min,IntKind.max,IntKind.signed,IntKind.bits] at h
 omega
theorem zKV {n : Int} (h : (Lit.int .i64 n).wf = true) : i64R n:=by
 simp [Lit.wf,IntKind.min,IntKind.max,IntKind.signed,IntKind.bits] at h
 unfold i64R
 omega
def zST (r : List AV) (x : Int) : Prop:=zB6 r x ∧ (-2147483648 ≤ x ∧ x ≤ 2147483647)
theorem zdF (r : List AV) (h : Is (.int .i32) r) : ∃ x,zST r x:=by
 simp only [Is] at h
 obtain ⟨n,rfl,hw⟩:=h
 refine ⟨n,rfl, ?_⟩
 simp [Lit.wf,IntKind.min,IntKind.max,IntKind.signed,IntKind.bits] at hw
 omega
theorem zOA : ∀ {rows : List (List AV)} {l : List Int},All2 zST rows l → All2 zB6 rows l ∧ i32s l
 | _,_,.nil=>⟨.nil,fun x h=>by cases h⟩
 | _,_,.cons a t=>by
  obtain ⟨h1,h2⟩:=zOA t
  refine ⟨.cons a.1 h1,fun x h=>?_⟩
  rcases List.mem_cons.1 h with rfl | h
  ·exact a.2
  ·exact h2 x h
theorem zeK {a : AV} {l : List Int} (h : Sl 1 zST a l) : Sl 1 zB6 a l ∧ i32s l:=by
 rcases h with ⟨rfl,rfl⟩ | ⟨rows,cap,rfl,hA,hr⟩
 ·exact ⟨.inl ⟨rfl,rfl⟩,fun x h=>by cases h⟩
 ·obtain ⟨h1,h2⟩:=zOA hA
  exact ⟨.inr ⟨rows,cap,rfl,h1,hr⟩,h2⟩
theorem zWZ {r : List AV} (h : Is (.sl (.int .i32)) r) : ∃ a l,r = [a] ∧ Sl 1 zB6 a l ∧ i32s l:=by
 obtain ⟨a,l,e,hs⟩:=Is.slice zdF h
 obtain ⟨h1,h2⟩:=zeK hs
 exact ⟨a,l,e,h1,h2⟩
theorem of_lb (r : List AV) (h : Is gLb r) : ∃ x,isLb r x:=by
 simp only [Is,IsL] at h
 obtain ⟨_,_,rfl,⟨n1,rfl,w1⟩,_,_,rfl,⟨n2,rfl,w2⟩,rfl⟩:=h
 exact ⟨⟨n1,n2⟩,rfl,(zEA w1).1,(zEA w1).2,(zFK w2).1,(zFK w2).2⟩
theorem of_op (r : List AV) (h : Is gOp r) : ∃ x,isOp r x:=by
 simp only [Is,IsL] at h
 obtain ⟨_,_,rfl,⟨n1,rfl,w1⟩,_,_,rfl,⟨_,_,rfl,⟨_,_,rfl,⟨n2,rfl,w2⟩,_,_,rfl,⟨n3,rfl,w3⟩,rfl⟩,_,_,rfl,⟨n4,rfl,w4⟩,rfl⟩,_,_,rfl,⟨n5,rfl,w5⟩,_,_,rfl,⟨_,_,rfl,⟨_,_,rfl,⟨_,_,rfl,⟨_,_,rfl,⟨n6,rfl,w6⟩,_,_,rfl,⟨n7,rfl,w7⟩,rfl⟩,_,_,rfl,⟨n8,rfl,w8⟩,rfl⟩,_,_,rfl,⟨n9,rfl,w9⟩,rfl⟩,_,_,rfl,⟨n10,rfl,w10⟩,rfl⟩,_,_,rfl,⟨_,_,rfl,⟨_,_,rfl,⟨_,_,rfl,⟨n11,rfl,w11⟩,_,_,rfl,⟨n12,rfl,w12⟩,rfl⟩,_,_,rfl,⟨n13,rfl,w13⟩,rfl⟩,_,_,rfl,⟨n14,rfl,w14⟩,rfl⟩,_,_,rfl,⟨_,_,rfl,⟨n15,rfl,w15⟩,_,_,rfl,⟨n16,rfl,w16⟩,rfl⟩,_,_,rfl,hr,rfl⟩:=h
 have r1 : 0 ≤ n1 ∧ n1 ≤ 255:=by exact zEA w1
 have r2 : 0 ≤ n2 ∧ n2 ≤ 255:=by exact zEA w2
 have r3 : 0 ≤ n3 ∧ n3 < 4294967296:=by exact zFK w3
 have r4 : 0 ≤ n4 ∧ n4 ≤ 255:=by exact zEA w4
 have r5 : i64R n5:=by exact zKV w5
 have r6 : 0 ≤ n6 ∧ n6 ≤ 255:=by exact zEA w6
 have r7 : 0 ≤ n7 ∧ n7 < 4294967296:=by exact zFK w7
 have r8 : 0 ≤ n8 ∧ n8 ≤ 255:=by exact zEA w8
 have r9 : i64R n9:=by exact zKV w9
 have r10 : i64R n10:=by exact zKV w10
 have r11 : 0 ≤ n11 ∧ n11 ≤ 255:=by exact zEA w11
 have r12 : 0 ≤ n12 ∧ n12 < 4294967296:=by exact zFK w12
 have r13 : 0 ≤ n13 ∧ n13 ≤ 255:=by exact zEA w13
 have r14 : i64R n14:=by exact zKV w14
 have r15 : 0 ≤ n15 ∧ n15 ≤ 255:=by exact zEA w15
 have r16 : 0 ≤ n16 ∧ n16 < 4294967296:=by exact zFK w16
 obtain ⟨ra,l,e,hs,hi⟩:=zWZ (r:=_) (by simp only [Is]; exact hr)
 subst e
 exact ⟨⟨n1,⟨⟨n2,n3⟩,n4⟩,n5,⟨⟨⟨⟨n6,n7⟩,n8⟩,n9⟩,n10⟩,⟨⟨⟨n11,n12⟩,n13⟩,n14⟩,⟨n15,n16⟩,l⟩,ra,rfl,hs,r1,⟨⟨r2.1,r2.2,r3.1,r3.2⟩,r4⟩,r5,⟨⟨⟨⟨r6.1,r6.2,r7.1,r7.2⟩,r8⟩,r9⟩,r10⟩,⟨⟨⟨r11.1,r11.2,r12.1,r12.2⟩,r13⟩,r14⟩,⟨r15.1,r15.2,r16.1,r16.2⟩,hi⟩
end Go.Proofs.YtblegbfgedeldaaGreat
namespace Go.Proofs.YtblegbfgedeldaaGreat.editorRaises
open Go Go.Ax
theorem of_hd (r : List AV) (h : Is gHd r) : ∃ x : Hd,r = hdR x ∧ x.ok:=by
 simp only [Is,IsL] at h
 obtain ⟨_,_,rfl,⟨_,_,rfl,⟨n1,rfl,w1⟩,_,_,rfl,⟨n2,rfl,w2⟩,rfl⟩,_,_,rfl,⟨n3,rfl,w3⟩,rfl⟩:=h
 have r1:=zEA w1
 have r2:=zFK w2
 have r3:=zEA w3
 exact ⟨⟨⟨n1,n2⟩,n3⟩,rfl,⟨r1.1,r1.2,r2.1,r2.2⟩,r3.1,r3.2⟩
theorem of_int (a : AV) (h : IsA (.int .i64) a) : ∃ n,a = I64 n:=by
 have h : Is (.int .i64) [a]:=h
 simp only [Is] at h
 obtain ⟨n,hn,_⟩:=h
 exact ⟨n,by simpa using hn⟩
theorem run_args (a0 a1 a2 a3 a4 a5 : AV) (h0 : IsA (.sl gOp) a0) (h1 : IsA gHd a1) (h2 : IsA (.int .i64) a2) (h3 : IsA (.int .i64) a3) (h4 : IsA (.int .i64) a4) (h5 : IsA gLb a5) : zAE Tryz.prog (fsT tbl) 4000000 61 (.fn 5) [a0,a1,a2,a3,a4,a5] mem0 = some (BL true,mem0):=by
 obtain ⟨a,l,ha,hl⟩:=Is.slice of_op h0
 obtain rfl : a0 = a:=by simpa using ha
 obtain ⟨c1,rfl,h1⟩:=h1
 obtain ⟨h,rfl,hh⟩:=of_hd c1 h1
 obtain ⟨s,rfl⟩:=of_int a2 h2
 obtain ⟨k,rfl⟩:=of_int a3 h3
 obtain ⟨m,rfl⟩:=of_int a4 h4
 obtain ⟨c5,rfl,h5⟩:=h5
 obtain ⟨to,rfl,ht⟩:=of_lb c5 h5
 exact zY1 hl (ze0 hl) hh ht mem0
end Go.Proofs.YtblegbfgedeldaaGreat.editorRaises
