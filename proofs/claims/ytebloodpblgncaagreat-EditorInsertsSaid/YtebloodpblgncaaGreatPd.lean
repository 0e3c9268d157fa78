/-
  Texts joined: EdJ SwV EdW.
-/
import Derived.Test.YtebloodpblgncaaGreatEdT
import Derived.Test.YtebloodpblgncaaGreatEf
import Derived.Test.YtebloodpblgncaaGreatPc
set_option linter.unusedSimpArgs false
set_option linter.unusedVariables false
set_option maxRecDepth 100000
namespace Go.Proofs.YtebloodpblgncaaGreat
open Go Go.Ax
variable {fuel : Nat} {M : Mem} {Q : AV → Mem → Prop} {d : Nat} {l : List Op} {a : AV} {v : Lb}
theorem in_z {h : Hd} {s k : Int} {t : List UInt8} (e : inE l h s k t = 0) : edE l h s = 0 ∧ ofE t = 0 ∧ zKU l h.lb k = 0 ∧ (ofM t).length ≠ 0 ∧ zHB l h = 0 ∧ zBW l h + (ofM t).length ≤ 1099511627777:=by
 unfold inE at e
 split at e
 ·rename_i h1
  split at e
  ·rename_i h2
   split at e
   ·rename_i h3
    split at e
    ·cases e
    ·rename_i h4
     split at e
     ·rename_i h5
      split at e
      ·cases e
      ·exact ⟨h1,h2,h3,h4,h5,by omega⟩
     ·rename_i h5; exact absurd e h5
   ·cases e
  ·rename_i h2; exact absurd e h2
 ·rename_i h1; exact absurd e h1
theorem zb1 {l : List Op} (hok : ∀ o ∈ l,o.ok) (hl : l.length ≤ 25) {h : Hd} {s k : Int} {t : List UInt8} (hz : inE l h s k t = 0) :
  zFO l h.lb = 0 ∧ (0 ≤ k ∧ k ≤ (zBS l h.lb).length) ∧ zSH l (zCD h s (zBW l h) (zDH l h.lb k) (ofM t)) = 0 ∧ zFO (l ++ [zCD h s (zBW l h) (zDH l h.lb k) (ofM t)]) h.lb = 0 ∧
  zBS (l ++ [zCD h s (zBW l h) (zDH l h.lb k) (ofM t)]) h.lb = (zBS l h.lb).take k.toNat ++ newC h (zBW l h) (ofM t) ++ (zBS l h.lb).drop k.toNat:=by
 obtain ⟨z1,z2,z3,z4,z5,z6⟩:=in_z hz
 obtain ⟨e1,e2,e3,e4⟩:=ed_z z1
 obtain ⟨k1,k2,k3⟩:=zO1 z2
 obtain ⟨q6,q7,q8⟩:=left_of z3
 obtain ⟨n1,n2,n3⟩:=zbA z5
 have haf:=left_at z3
 have nb:=zL0 l h z5
 have tge:=zOI (cs:=zCG (elsR (textOf l))) (v:=h.lb)
 have htop : ∀ x ∈ elsR (textOf (lowL l h.lb)),x.id.c < zBW l h:=fun x hx=>by
  rw [zNW e1 hok] at hx
  obtain ⟨f1,f2⟩:=List.mem_filter.1 hx
  have f3 : x.id.c ≤ topH l h:=tge.2 ⟨x.id,x.ch⟩ (List.mem_map.2 ⟨x,f1,rfl⟩) f2
  omega
 have hafv : zDH l h.lb k = Eid.z ∨ ∃ c ∈ zBS l h.lb,c.id = zDH l h.lb k:=haf.imp (fun h=>h.2) fun h=>by
  obtain ⟨_,c,f1,f2⟩:=h
  exact ⟨c,List.mem_of_getElem? f1,f2⟩
 have hafm : zDH l h.lb k = Eid.z ∨ ((zDH l h.lb k).may = true ∧ (zDH l h.lb k).c < zBW l h):=hafv.imp (fun h=>h) fun ⟨c,f1,f2⟩=>by
  obtain ⟨x,x1,x2,_⟩:=zOK f1
  rw [← f2,← x2]
  exact ⟨(zSK e1 x x1).2.2,htop x x1⟩
 obtain ⟨om,orf⟩:=zb3 (s:=s) n1 (by omega) ⟨nb.1,z6⟩ (by omega) k1 hafm
 have ofit:=zWV e1 hok (by omega) om orf k2 htop hafv
 have h9 : zAR [] (l ++ [zCD h s (zBW l h) (zDH l h.lb k) (ofM t)]) = true:=by rw [zDZ,e1,om,ofit]; rfl
 refine ⟨q6,⟨q7,q8⟩, ?_, ?_,zWY e1 om ofit htop (k:=k.toNat) (by omega) haf⟩
 ·unfold zSH
  rw [if_pos e1,if_pos om]
  exact ofit
 ·unfold zFO
  rw [h9,(zPP q6).2]
  rfl
theorem zTB {W N : List CellV} {k i : Nat} (hk : k ≤ W.length) (hi : i < (W.take k ++ N ++ W.drop k).length) :
  (i < k → ∃ hi' : i < W.length,(W.take k ++ N ++ W.drop k)[i] = W[i]) ∧ (k ≤ i → i < k + N.length → ∃ hi' : i - k < N.length,(W.take k ++ N ++ W.drop k)[i] = N[i - k]) ∧ (k + N.length ≤ i → ∃ hi' : i - N.length < W.length,(W.take k ++ N ++ W.drop k)[i] = W[i - N.length]):=by
 have hl : (W.take k).length = k:=by rw [List.length_take]; omega
 simp only [List.length_append,List.length_drop] at hi
 rw [hl] at hi
 refine ⟨fun h=>⟨by omega, ?_⟩,fun h1 h2=>⟨by omega, ?_⟩,fun h=>⟨by omega, ?_⟩⟩
 ·rw [List.getElem_append_left (by rw [List.length_append]; omega),List.getElem_append_left (by omega),List.getElem_take]
 ·rw [List.getElem_append_left (by rw [List.length_append]; omega),List.getElem_append_right (by omega)]
  simp only [hl]
 ·rw [List.getElem_append_right (by rw [List.length_append]; omega),List.getElem_drop]
  congr 1
  rw [List.length_append]
  omega
set_option maxHeartbeats 16000000 in
theorem zcF {h : Hd} {s k : Int} {t : List UInt8} (hS : Sl 17 isOp a l) (hok : ∀ o ∈ l,o.ok) (hho : h.ok) (M : Mem) : zAE Tryz.prog (fsT tbl) 4000000 61 (.fn 3) [a,hdA h,I64 s,I64 k,STR t] M = some (BL true,M):=by
 have ll:=hS.len
 have hal:=zRR
 have hgr:=fun M=>zT4 (fuel:=4000000) (d:=59) (many:=20) hS (by omega) M
 have ln:=fun t x r=>zeW (P:=Tryz.prog) (t:=t) Tryz.underlying9 x r
 apply zBG
 refine zAJ tf3 rfl (by simp only [icyL,fun M=>hS.icy M 12 (by omega),zAY (zP5 h) (show 1 < 12 by omega),zJ6]) (by simp [a3]) fun b' ht hx=>?_
 have h0:=hx 0 _ rfl
 have h1:=hx 1 _ rfl
 have h2:=hx 2 _ rfl
 have h3:=hx 3 _ rfl
 have h4:=hx 4 _ rfl
 clear hx
 simp only [a3,c3,zz5,zzm,zzg] at ht ⊢
 cases q1 : zLW l 20 with
 | true =>
  rw [q1] at hgr
  simp (maxSteps:=2000000) (disch:=first | omega | assumption | (simp only [DS,Nat.reduceAdd, *]; done) | (simp only [DZ]; omega)) only [RUN,RU,zA2,zA1,zA0,zAA,frzL,reduceIte,Nat.reduceEqDiff,h0,h1,hal,hgr]
 | false =>
  rw [q1] at hgr
  obtain ⟨hl20,hrs⟩:=zNR (by omega) q1
  have hrs2 : ∀ o ∈ l,o.rs.length ≤ 1000000000:=fun o ho=>by have:=hrs o ho; omega
  by_cases q0 : 1000 < t.length
  ·have q0' : decide ((1000 : Int) < t.length) = true:=decide_eq_true (by omega)
   simp (maxSteps:=2000000) (disch:=first | omega | assumption | (simp only [DS,Nat.reduceAdd, *]; done) | (simp only [DZ]; omega)) only [RUN,RU,zA2,zA1,zA0,zAA,frzL,reduceIte,Nat.reduceEqDiff,h0,h1,h4,hal,hgr,ln,zEF,q0']
  have q0' : decide ((1000 : Int) < t.length) = false:=decide_eq_false (by omega)
  obtain ⟨ri,⟨rr,rfl,hrr⟩,hin⟩:=zNH (fuel:=4000000) (d:=39) (h:=h) (s:=s) (k:=k) (t:=t) hS (by omega) (by omega) (by omega) hrs2
  have orr:=hrr.one
  by_cases q2 : inE l h s k t = 0
  ·obtain ⟨g0,⟨g1,g2⟩,hfit,hon,hvw⟩:=zb1 hok (by omega) q2
   obtain ⟨z1,z2,z3,z4,z5,z6⟩:=in_z q2
   obtain ⟨k1,k2,k3⟩:=zO1 z2
   have nb:=zL0 l h z5
   have e3:=ed_z z1
   obtain ⟨rc,⟨r2,rfl,hr2⟩,hc2⟩:=zHW (fuel:=4000000) (d:=42) (v:=h.lb) hS (by omega) (by omega) hrs2
   obtain ⟨ro,hro,hof⟩:=zIX (fuel:=4000000) (d:=57) t (by omega) (by omega)
   rw [z2] at hof
   rw [g0] at hr2 hc2
   simp only [if_true] at hr2
   have hafok : (zDH l h.lb k).ok:=by
    rcases left_at z3 with ⟨_,e⟩ | ⟨_,c,f1,f2⟩
    ·rw [e]; exact Eid.z_ok
    ·rw [← f2]; exact cells_ok hr2 c (List.mem_of_getElem? f1)
   unfold inO at hin hrr
   rw [q2] at hin
   rw [q2,if_pos rfl] at hrr
   rw [if_pos rfl] at hin
   obtain ⟨k,rfl⟩ : ∃ n : Nat,k = n:=⟨k.toNat,by omega⟩
   simp only [Int.toNat_natCast] at hvw
   have hvl:=zQA (zPP g0).1 h.lb
   have ook : (zCD h s (zBW l h) (zDH l h.lb k) (ofM t)).ok:=⟨by show (0 : Int) ≤ 1 ∧ (1 : Int) ≤ 255; decide,hho,by show -9223372036854775808 ≤ s ∧ s ≤ 9223372036854775807; omega,⟨⟨hho,by show -9223372036854775808 ≤ zBW l h ∧ zBW l h ≤ 9223372036854775807; omega⟩,by show -9223372036854775808 ≤ ((ofM t).length : Int) ∧ ((ofM t).length : Int) ≤ 9223372036854775807; omega⟩,hafok,Lb.z_ok,k3⟩
   simp (maxSteps:=2000000) (disch:=first | omega | assumption | (simp only [DS,Nat.reduceAdd, *]; done) | (simp only [DZ]; omega)) only [RUN,RU,zA2,zA1,slot,lay,reduceIte,Nat.reduceEqDiff,Nat.reduceAdd,h0,h1,h2,h3,h4,hal,hgr,ln,zEF,q0',hin]
   simp (maxSteps:=2000000) (disch:=first | omega | assumption | (simp only [DS,Nat.reduceAdd, *]; done) | (simp only [DZ]; omega)) only [RUN,RU,zA2,zA1,slot,lay,zAI,zAB,reduceIte,Nat.reduceEqDiff,Nat.reduceBEq,Nat.reduceAdd,h0,hc2]
   have nl : (newC h (zBW l h) (ofM t)).length = (ofM t).length:=by simp [newC]
   have hng : ∀ j (hj : j < (newC h (zBW l h) (ofM t)).length),(newC h (zBW l h) (ofM t))[j] = ⟨⟨h,zBW l h + j⟩,(ofM t).getD j 0⟩:=fun j hj=>by simp [newC]
   refine SlR.hand2 (n:=59) (R:=fun r => ∃ r3,r = .tup [r3,BL true] ∧ Sl 17 isOp r3 (l ++ [zCD h s (zBW l h) (zDH l h.lb k) (ofM t)])) tf8 rfl (SlR.of (zOG (rows:=[opR (zCD h s (zBW l h) (zDH l h.lb k) (ofM t)) rr]) (l:=[zCD h s (zBW l h) (zDH l h.lb k) (ofM t)]) (.cons ⟨rr,rfl,hrr,ook⟩ .nil) (by simp) rfl (.inr rfl) (by simp (maxSteps:=2000000) (disch:=first | omega | assumption | (simp only [DS,Nat.reduceAdd, *]; done) | (simp only [DZ]; omega)) only [RUN]; rfl))) ((((Wf.mem0.add _).add _).upd _ _).add _) zKI (fun M=>hS.icy M 12 (by omega)) (fun o' ho'=>by
    obtain ⟨r3,hr3,hbh⟩:=zQH (fuel:=4000000) (d:=45) hS ho' (by omega) (by simp) (by omega) (fun i hi=>by
     have e : i = 0:=by simpa using hi
     subst e
     simpa using hfit)
    exact ⟨_,⟨r3,rfl,hr3⟩,hbh⟩) fun r M1 hr w1 s1 m1 k1=>?_
   obtain ⟨r3,rfl,hr3⟩:=hr
   have g0':=k1 0 (by simp [rowOf])
   have g1':=k1 1 (by simp [rowOf])
   simp (maxSteps:=2000000) (disch:=first | omega | assumption | (simp only [DS,Nat.reduceAdd, *]; done) | (simp only [DZ]; omega)) only [RUN] at g0' g1'
   have hrs3 : ∀ o ∈ l ++ [zCD h s (zBW l h) (zDH l h.lb k) (ofM t)],o.rs.length ≤ 1000000000:=fun o ho=>by
    rcases List.mem_append.1 ho with ho | ho
    ·exact hrs2 o ho
    ·rw [List.mem_singleton] at ho
     subst ho
     show (ofM t).length ≤ _
     omega
   obtain ⟨rn,⟨r4,rfl,hr4⟩,hc4⟩:=zHW (fuel:=4000000) (d:=42) (v:=h.lb) hr3 (by simp; omega) (by omega) hrs3
   rw [hon] at hr4 hc4
   simp only [if_true] at hr4
   rw [hvw] at hr4
   have hat:=fun i hi=>zTB (W:=zBS l h.lb) (N:=newC h (zBW l h) (ofM t)) (k:=k) (i:=i) (by omega) hi
   have hl4 : ((zBS l h.lb).take k ++ newC h (zBW l h) (ofM t) ++ (zBS l h.lb).drop k).length = (zBS l h.lb).length + (ofM t).length:=by
    simp only [List.length_append,List.length_take,List.length_drop,nl]; omega
   have hW : (zBS l h.lb).length ≤ 5000:=by omega
   clear hvw hfit hon k1 m1
   generalize (zBS l h.lb).take k ++ newC h (zBW l h) (ofM t) ++ (zBS l h.lb).drop k = Z at *
   generalize newC h (zBW l h) (ofM t) = C at *
   generalize zBS l h.lb = W at *
   generalize ofM t = row at *
   have hW2 : W.length + row.length < 4000000:=by omega
   have lr2:=hr2.len
   have lr4:=hr4.len
   have lro:=hro.len
   rw [hl4] at lr4
   have c1 : decide ((k : Int) < 0) = false:=decide_eq_false (by omega)
   have c3 : decide ((W.length : Int) < k) = false:=decide_eq_false (by omega)
   have w0 : IntKind.i64.wrap ((W.length : Int) + row.length) = ((W.length + row.length : Nat) : Int):=by rw [wrap_i64] <;> omega
   have c4 : decide (((W.length + row.length : Nat) : Int) = ((W.length + row.length : Nat) : Int)) = true:=decide_eq_true rfl
   have c5 : decide ((zCD h s (zBW l h) (zDH l h.lb k) row).sr = s) = true:=decide_eq_true rfl
   have l0:=Mem.get_lt g0'
   have l1:=Mem.get_lt g1'
   have w2 : IntKind.i64.wrap ((k : Int) + row.length) = ((k + row.length : Nat) : Int):=by rw [wrap_i64] <;> omega
   simp (maxSteps:=2000000) (disch:=first | omega | assumption | (simp only [DS,Nat.reduceAdd, *]; done) | (simp only [DZ]; omega)) only [RUN,RU,zA2,zA1,slot,reduceIte,Nat.reduceEqDiff,h2,h3,h4,g0',g1',hc4,hof,c1,c3,w0,c5,lr2,lr4,lro]
   refine zBF (I:=fun nq tq Nq => ∃ (iq : Nat) (_x : Nat),nq = W.length + row.length - iq ∧ iq ≤ W.length + row.length ∧ nth zA6 tq 2 = I64 s ∧ nth zA6 tq 3 = I64 k ∧ nth zA6 tq 6 = .ptr 0 0 ∧ nth zA6 tq 11 = BL true ∧ nth zA6 tq 14 = r2 ∧ nth zA6 tq 18 = r4 ∧ nth zA6 tq 20 = ro ∧ nth zA6 tq 22 = I64 iq ∧ Wf Nq ∧ Nq.get 0 = some (.row false (hdR h))) (n:=W.length + row.length) (by omega) ?_ ?_
   ·refine ⟨0,0,rfl,Nat.zero_le _, ?_, ?_, ?_, ?_, ?_, ?_, ?_, ?_,w1,g0'⟩ <;> simp (maxSteps:=2000000) (disch:=first | omega | assumption | (simp only [DS,Nat.reduceAdd, *]; done) | (simp only [DZ]; omega)) only [RUN,reduceIte,Nat.reduceEqDiff,h2,h3]
    all_goals first | rfl | assumption | done
   ·rintro nq tq Nq hltq ⟨iq,_x,rfl,hiq,gq2,gq3,gq6,gq11,gq14,gq18,gq20,gq22,w,m0⟩
    simp only [ht] at hltq ⊢
    have l0:=Mem.get_lt m0
    by_cases hc : iq < W.length + row.length
    ·have d1 : decide ((iq : Int) < ((W.length + row.length : Nat) : Int)) = true:=decide_eq_true (by omega)
     have d2 : IntKind.i64.wrap ((iq : Int) + 1) = ((iq + 1 : Nat) : Int):=by rw [wrap_i64] <;> omega
     obtain ⟨r',hiad4,hr',hrl'⟩:=hr4.iad iq (by omega)
     obtain ⟨a1,a2,a3⟩:=hat iq (by omega)
     obtain ⟨rfl,_⟩:=hr'
     by_cases p1 : iq < k
     ·obtain ⟨hi',e⟩:=a1 p1
      rw [e] at hiad4
      obtain ⟨r,hiad,hr,hrl⟩:=hr2.iad iq hi'
      obtain ⟨rfl,_⟩:=hr
      have p1' : decide ((iq : Int) < k) = true:=decide_eq_true (by omega)
      have p2' : decide (((k + row.length : Nat) : Int) ≤ iq) = false:=decide_eq_false (by omega)
      have p3' : decide ((k : Int) ≤ iq) = false:=decide_eq_false (by omega)
      have d5 : decide (W[iq] = W[iq]) = true:=decide_eq_true rfl
      simp (maxSteps:=2000000) (disch:=first | omega | assumption | (simp only [DS,Nat.reduceAdd, *]; done) | (simp only [DZ]; omega)) only [RUN,RU,zA2,zA1,slot,reduceIte,Nat.reduceEqDiff,Nat.reduceBEq,Nat.reduceAdd,gq2,gq3,gq6,gq11,gq14,gq18,gq20,gq22,lr4,lro,d1,d2,hiad,hiad4,w,m0,p1',p2',p3',w2,↓pCeN,zMM,ETA,CellV.eta]
      exact ⟨hltq,W.length + row.length - (iq + 1),by omega,iq + 1,0,rfl,by omega,rfl⟩
     ·have p1' : decide ((iq : Int) < k) = false:=decide_eq_false (by omega)
      have p3' : decide ((k : Int) ≤ iq) = true:=decide_eq_true (by omega)
      by_cases p2 : iq < k + row.length
      ·obtain ⟨hi',e⟩:=a2 (by omega) (by omega)
       have hb1 : iq - k < row.length:=by omega
       have egd : row.getD (iq - k) 0 = row[iq - k]'hb1:=by rw [List.getD_eq_getElem?_getD,List.getElem?_eq_getElem hb1]; rfl
       rw [e,hng,egd] at hiad4
       have p2' : decide (((k + row.length : Nat) : Int) ≤ iq) = false:=decide_eq_false (by omega)
       have p4' : decide ((iq : Int) < ((k + row.length : Nat) : Int)) = true:=decide_eq_true (by omega)
       have w3 : IntKind.i64.wrap ((iq : Int) - k) = ((iq - k : Nat) : Int):=by rw [wrap_i64] <;> omega
       obtain ⟨rc,hiado,hrc,_⟩:=hro.iad (iq - k) hb1
       have hrc : rc = [I32 (row[iq - k]'hb1)]:=hrc
       subst hrc
       have d5 : decide (row[iq - k]'hb1 = row[iq - k]'hb1) = true:=decide_eq_true rfl
       have d6 : decide (h = h) = true:=decide_eq_true rfl
       simp (maxSteps:=2000000) (disch:=first | omega | assumption | (simp only [DS,Nat.reduceAdd, *]; done) | (simp only [DZ]; omega)) only [RUN,RU,zA2,zA1,slot,reduceIte,Nat.reduceEqDiff,Nat.reduceBEq,Nat.reduceAdd,gq2,gq3,gq6,gq11,gq14,gq18,gq20,gq22,lr4,lro,d1,d2,hiad4,hiado,w,m0,p1',p2',p3',p4',w2,w3,↓pHdN,zU9,ETA]
       exact ⟨hltq,W.length + row.length - (iq + 1),by omega,iq + 1,0,rfl,by omega,rfl⟩
      ·obtain ⟨hi',e⟩:=a3 (by omega)
       simp only [nl] at e hi'
       rw [e] at hiad4
       obtain ⟨r,hiad,hr,hrl⟩:=hr2.iad (iq - row.length) hi'
       obtain ⟨rfl,_⟩:=hr
       have p2' : decide (((k + row.length : Nat) : Int) ≤ iq) = true:=decide_eq_true (by omega)
       have p4' : decide ((iq : Int) < ((k + row.length : Nat) : Int)) = false:=decide_eq_false (by omega)
       have w3 : IntKind.i64.wrap ((iq : Int) - row.length) = ((iq - row.length : Nat) : Int):=by rw [wrap_i64] <;> omega
       have d5 : decide (W[iq - row.length] = W[iq - row.length]) = true:=decide_eq_true rfl
       simp (maxSteps:=2000000) (disch:=first | omega | assumption | (simp only [DS,Nat.reduceAdd, *]; done) | (simp only [DZ]; omega)) only [RUN,RU,zA2,zA1,slot,reduceIte,Nat.reduceEqDiff,Nat.reduceBEq,Nat.reduceAdd,gq2,gq3,gq6,gq11,gq14,gq18,gq20,gq22,lr4,lro,d1,d2,hiad,hiad4,w,m0,p1',p2',p3',p4',w2,w3,↓pCeN,zMM,ETA,CellV.eta]
       exact ⟨hltq,W.length + row.length - (iq + 1),by omega,iq + 1,0,rfl,by omega,rfl⟩
    ·obtain rfl : iq = W.length + row.length:=by omega
     have d1 : decide (((W.length + row.length : Nat) : Int) < ((W.length + row.length : Nat) : Int)) = false:=decide_eq_false (by omega)
     simp (maxSteps:=2000000) (disch:=first | omega | assumption | (simp only [DS,Nat.reduceAdd, *]; done) | (simp only [DZ]; omega)) only [RUN,RU,zA2,zA1,zA0,zAA,frzL,reduceIte,Nat.reduceEqDiff,gq11,gq18,gq22,lr4]
  ·have q2':=decide_eq_false q2
   unfold inO at hin hrr
   rw [if_neg q2] at hin hrr
   simp (maxSteps:=2000000) (disch:=first | omega | assumption | (simp only [DS,Nat.reduceAdd, *]; done) | (simp only [DZ]; omega)) only [RUN,RU,zA2,zA1,zA0,zAA,frzL,slot,lay,reduceIte,Nat.reduceEqDiff,Nat.reduceAdd,h0,h1,h2,h3,h4,hal,hgr,ln,zEF,q0',hin,q2']
   rfl
end Go.Proofs.YtebloodpblgncaaGreat
namespace Go.Proofs.YtebloodpblgncaaGreat
open Go Go.Ax
abbrev gLb : GT:=.ag [.int .u8,.int .u32]
abbrev gHd : GT:=.ag [gLb,.int .u8]
abbrev gId : GT:=.ag [gHd,.int .i64]
abbrev gSp : GT:=.ag [gId,.int .i64]
abbrev gOp : GT:=.ag [.int .u8,gHd,.int .i64,gSp,gId,gLb,.sl (.int .i32)]
theorem zFF {n : Int} (h : (Lit.int .u8 n).wf = true) : 0 ≤ n ∧ n ≤ 255:=by
 simp [Lit.wf,IntKind.min,IntKind.max,IntKind.signed,IntKind.bits] at h
 omega
theorem zIT {n : Int} (h : (Lit.int .u32 n).wf = true) : 0 ≤ n ∧ n < 4294967296:=by
 simp [Lit.wf,IntKind.min,IntKind.max,IntKind.signed,IntKind.bits] at h
 omega
theorem zL6 {n : Int} (h : (Lit.int .i64 n).wf = true) : i64R n:=by
 simp [Lit.wf,IntKind.min,IntKind.max,IntKind.signed,IntKind.bits] at h
 unfold i64R
 omega
def zTD (r : List AV) (x : Int) : Prop:=zB2 r x ∧ (-2147483648 ≤ x ∧ x ≤ 2147483647)
theorem ze5 (r : List AV) (h : Is (.int .i32) r) : ∃ x,zTD r x:=by
 simp only [Is] at h
 obtain ⟨n,rfl,hw⟩:=h
 refine ⟨n,rfl, ?_⟩
 simp [Lit.wf,IntKind.min,IntKind.max,IntKind.signed,IntKind.bits] at hw
 omega
theorem zOS : ∀ {rows : List (List AV)} {l : List Int},All2 zTD rows l → All2 zB2 rows l ∧ i32s l
 | _,_,.nil=>⟨.nil,fun x h=>by cases h⟩
 | _,_,.cons a t=>by
  obtain ⟨h1,h2⟩:=zOS t
  refine ⟨.cons a.1 h1,fun x h=>?_⟩
  rcases List.mem_cons.1 h with rfl | h
  ·exact a.2
  ·exact h2 x h
theorem zfA {a : AV} {l : List Int} (h : Sl 1 zTD a l) : Sl 1 zB2 a l ∧ i32s l:=by
 rcases h with ⟨rfl,rfl⟩ | ⟨rows,cap,rfl,hA,hr⟩
 ·exact ⟨.inl ⟨rfl,rfl⟩,fun x h=>by cases h⟩
 ·obtain ⟨h1,h2⟩:=zOS hA
  exact ⟨.inr ⟨rows,cap,rfl,h1,hr⟩,h2⟩
theorem zXH {r : List AV} (h : Is (.sl (.int .i32)) r) : ∃ a l,r = [a] ∧ Sl 1 zB2 a l ∧ i32s l:=by
 obtain ⟨a,l,e,hs⟩:=Is.slice ze5 h
 obtain ⟨h1,h2⟩:=zfA hs
 exact ⟨a,l,e,h1,h2⟩
theorem of_op (r : List AV) (h : Is gOp r) : ∃ x,isOp r x:=by
 simp only [Is,IsL] at h
 obtain ⟨_,_,rfl,⟨n1,rfl,w1⟩,_,_,rfl,⟨_,_,rfl,⟨_,_,rfl,⟨n2,rfl,w2⟩,_,_,rfl,⟨n3,rfl,w3⟩,rfl⟩,_,_,rfl,⟨n4,rfl,w4⟩,rfl⟩,_,_,rfl,⟨n5,rfl,w5⟩,_,_,rfl,⟨_,_,rfl,⟨_,_,rfl,⟨_,_,rfl,⟨_,_,rfl,⟨n6,rfl,w6⟩,_,_,rfl,⟨n7,rfl,w7⟩,rfl⟩,_,_,rfl,⟨n8,rfl,w8⟩,rfl⟩,_,_,rfl,⟨n9,rfl,w9⟩,rfl⟩,_,_,rfl,⟨n10,rfl,w10⟩,rfl⟩,_,_,rfl,⟨_,_,rfl,⟨_,_,rfl,⟨_,_,rfl,⟨n11,rfl,w11⟩,_,_,rfl,⟨n12,rfl,w12⟩,rfl⟩,_,_,rfl,⟨n13,rfl,w13⟩,rfl⟩,_,_,rfl,⟨n14,rfl,w14⟩,rfl⟩,_,_,rfl,⟨_,_,rfl,⟨n15,rfl,w15⟩,_,_,rfl,⟨n16,rfl,w16⟩,rfl⟩,_,_,rfl,hr,rfl⟩:=h
 have r1 : 0 ≤ n1 ∧ n1 ≤ 255:=by exact zFF w1
 have r2 : 0 ≤ n2 ∧ n2 ≤ 255:=by exact zFF w2
 have r3 : 0 ≤ n3 ∧ n3 < 4294967296:=by exact zIT w3
 have r4 : 0 ≤ n4 ∧ n4 ≤ 255:=by exact zFF w4
 have r5 : i64R n5:=by exact zL6 w5
 have r6 : 0 ≤ n6 ∧ n6 ≤ 255:=by exact zFF w6
 have r7 : 0 ≤ n7 ∧ n7 < 4294967296:=by exact zIT w7
 have r8 : 0 ≤ n8 ∧ n8 ≤ 255:=by exact zFF w8
 have r9 : i64R n9:=by exact zL6 w9
 have r10 : i64R n10:=by exact zL6 w10
 have r11 : 0 ≤ n11 ∧ n11 ≤ 255:=by exact zFF w11
 have r12 : 0 ≤ n12 ∧ n12 < 4294967296:=by exact zIT w12
 have r13 : 0 ≤ n13 ∧ n13 ≤ 255:=by exact zFF w13
 have r14 : i64R n14:=by exact zL6 w14
 have r15 : 0 ≤ n15 ∧ n15 ≤ 255:=by exact zFF w15
 have r16 : 0 ≤ n16 ∧ n16 < 4294967296:=by exact zIT w16
 obtain ⟨ra,l,e,hs,hi⟩:=zXH (r:=_) (by simp only [Is]; exact hr)
 subst e
 exact ⟨⟨n1,⟨⟨n2,n3⟩,n4⟩,n5,⟨⟨⟨⟨n6,n7⟩,n8⟩,n9⟩,n10⟩,⟨⟨⟨n11,n12⟩,n13⟩,n14⟩,⟨n15,n16⟩,l⟩,ra,rfl,hs,r1,⟨⟨r2.1,r2.2,r3.1,r3.2⟩,r4⟩,r5,⟨⟨⟨⟨r6.1,r6.2,r7.1,r7.2⟩,r8⟩,r9⟩,r10⟩,⟨⟨⟨r11.1,r11.2,r12.1,r12.2⟩,r13⟩,r14⟩,⟨r15.1,r15.2,r16.1,r16.2⟩,hi⟩
end Go.Proofs.YtebloodpblgncaaGreat
namespace Go.Proofs.YtebloodpblgncaaGreat.editorInserts
open Go Go.Ax
theorem of_hd (r : List AV) (h : Is gHd r) : ∃ x : Hd,r = hdR x ∧ x.ok:=by
 simp only [Is,IsL] at h
 obtain ⟨_,_,rfl,⟨_,_,rfl,⟨n1,rfl,w1⟩,_,_,rfl,⟨n2,rfl,w2⟩,rfl⟩,_,_,rfl,⟨n3,rfl,w3⟩,rfl⟩:=h
 have r1:=zFF w1
 have r2:=zIT w2
 have r3:=zFF w3
 exact ⟨⟨⟨n1,n2⟩,n3⟩,rfl,⟨r1.1,r1.2,r2.1,r2.2⟩,r3.1,r3.2⟩
theorem of_int (a : AV) (h : IsA (.int .i64) a) : ∃ n,a = I64 n:=by
 have h : Is (.int .i64) [a]:=h
 simp only [Is] at h
 obtain ⟨n,hn,_⟩:=h
 exact ⟨n,by simpa using hn⟩
theorem ze6 (a : AV) (h : IsA .str a) : ∃ l : List UInt8,a = STR l:=by
 have h : Is .str [a]:=h
 simp only [Is] at h
 obtain ⟨s,hs,_⟩:=h
 simp only [List.cons.injEq,and_true] at hs
 exact ⟨s.data.toList,hs⟩
theorem run_args (a0 a1 a2 a3 a4 : AV) (h0 : IsA (.sl gOp) a0) (h1 : IsA gHd a1) (h2 : IsA (.int .i64) a2) (h3 : IsA (.int .i64) a3) (h4 : IsA .str a4) : zAE Tryz.prog (fsT tbl) 4000000 61 (.fn 3) [a0,a1,a2,a3,a4] mem0 = some (BL true,mem0):=by
 obtain ⟨a,l,ha,hl⟩:=Is.slice of_op h0
 obtain rfl : a0 = a:=by simpa using ha
 obtain ⟨c1,rfl,h1⟩:=h1
 obtain ⟨h,rfl,hh⟩:=of_hd c1 h1
 obtain ⟨s,rfl⟩:=of_int a2 h2
 obtain ⟨k,rfl⟩:=of_int a3 h3
 obtain ⟨t,rfl⟩:=ze6 a4 h4
 exact zcF hl (zeP hl) hh mem0
end Go.Proofs.YtebloodpblgncaaGreat.editorInserts
