/-
  Texts joined: EdD SwV EdU.
-/
import Derived.Test.YtkofgapckhpkdaaGreatEdT
import Derived.Test.YtkofgapckhpkdaaGreatEf
import Derived.Test.YtkofgapckhpkdaaGreatPc
set_option linter.unusedSimpArgs false
set_option linter.unusedVariables false
set_option maxRecDepth 100000
namespace Go.Proofs.YtkofgapckhpkdaaGreat
open Go Go.Ax
variable {fuel : Nat} {M : Mem} {Q : AV → Mem → Prop} {d : Nat} {l : List Op} {a : AV} {v : Lb}
theorem zVN {l : List Op} (hok : ∀ o ∈ l,o.ok) (hl : l.length ≤ 25) {h : Hd} {s k m : Int} (hz : delE l h s k m = 0) :
  zFH l h.lb = 0 ∧ (0 ≤ k ∧ k ≤ (zBH l h.lb).length ∧ 1 ≤ m ∧ m ≤ (zBH l h.lb).length - k) ∧ (1 ≤ s ∧ s < 16777152) ∧ (spansOf ((midC l h.lb k m).map (·.id))).length ≤ 64 ∧
  (∀ i (hi : i < (zBV 2 h s Lb.z (spansOf ((midC l h.lb k m).map (·.id)))).length),zLD (l ++ (zBV 2 h s Lb.z (spansOf ((midC l h.lb k m).map (·.id)))).take i) (zBV 2 h s Lb.z (spansOf ((midC l h.lb k m).map (·.id))))[i] = 0) ∧
  zFH (l ++ zBV 2 h s Lb.z (spansOf ((midC l h.lb k m).map (·.id)))) h.lb = 0 ∧
  zBH (l ++ zBV 2 h s Lb.z (spansOf ((midC l h.lb k m).map (·.id)))) h.lb = (zBH l h.lb).take k.toNat ++ (zBH l h.lb).drop (k.toNat + m.toNat):=by
 unfold delE at hz
 split at hz
 ·rename_i z1
  split at hz
  ·rename_i z2
   split at hz
   ·rename_i z3
    obtain ⟨e1,e2,e3,e4⟩:=ed_z z1
    obtain ⟨f1,f2⟩:=zcJ z2
    obtain ⟨g0,g1⟩:=vsp_z f2
    have hlb:=(zM4 g0).2
    have hnl:=zT7 (l:=l) (v:=h.lb) (k:=k) f1
    have hmay : ∀ x ∈ (midC l h.lb k m).map (·.id),x ∈ zAM l ∧ x.hd.lb.leq h.lb = true ∧ x.may = true:=fun x hx=>by
     obtain ⟨c,hc,rfl⟩:=List.mem_map.1 hx
     exact zQU e1 hok (List.mem_of_mem_drop (List.mem_of_mem_take hc))
    obtain ⟨s1,s2⟩:=zPI fun x hx=>(hmay x hx).2.2
    have hin : ∀ x ∈ spansOf ((midC l h.lb k m).map (·.id)),∀ y ∈ x.ids,y ∈ zAM l ∧ y.hd.lb.leq h.lb = true:=fun x hx y hy=>by
     have : y ∈ (midC l h.lb k m).map (·.id):=by rw [← s1]; exact List.mem_flatMap.2 ⟨x,hx,hy⟩
     exact ⟨(hmay y this).1,(hmay y this).2.1⟩
    have hfit:=zVM e1 (by omega) (h:=h) (s:=s) e2 ⟨e3,by omega⟩ hnl s2 hin (fun x hx=>of_decide_eq_true (List.all_eq_true.1 z3 x hx))
    generalize spansOf ((midC l h.lb k m).map (·.id)) = sp at *
    have hh:=(hfit (zBV 2 h s Lb.z sp).length (Nat.le_refl _)).1
    rw [List.take_length] at hh
    refine ⟨g0,g1,⟨e3,e4⟩,hnl,fun i hi=>(hfit i (by omega)).2 hi, ?_, ?_⟩
    ·unfold zFH
     rw [hh,hlb]
     rfl
    ·exact zRU e1 hh s2 s1
   ·cases hz
  ·rename_i z2; exact absurd hz z2
 ·rename_i z1; exact absurd hz z1
set_option maxHeartbeats 16000000 in
theorem zY1 {h : Hd} {s k m : Int} (hS : Sl 17 isOp a l) (hok : ∀ o ∈ l,o.ok) (hho : h.ok) (M : Mem) : zAE Tryz.prog (fsT tbl) 4000000 61 (.fn 3) [a,hdA h,I64 s,I64 k,I64 m] M = some (BL true,M):=by
 have ll:=hS.len
 have hal:=zR7
 have hgr:=fun M=>zSH (fuel:=4000000) (d:=59) (many:=20) hS (by omega) M
 apply zBK
 refine zAJ tf3 rfl (by simp only [icyL,fun M=>hS.icy M 12 (by omega),zAU (zJ6 h) (show 1 < 12 by omega),zGH]) (by simp [a3]) fun b' ht hx=>?_
 have h0:=hx 0 _ rfl
 have h1:=hx 1 _ rfl
 have h2:=hx 2 _ rfl
 have h3:=hx 3 _ rfl
 have h4:=hx 4 _ rfl
 clear hx
 simp only [a3,c3,zz0,zzm,zzg] at ht ⊢
 cases q1 : zLK l 20 with
 | true =>
  rw [q1] at hgr
  simp (maxSteps:=2000000) (disch:=first | omega | assumption | (simp only [DS,Nat.reduceAdd, *]; done) | (simp only [DZ]; omega)) only [RUN,RU,zA2,zA1,zA0,zAA,frzL,reduceIte,Nat.reduceEqDiff,h0,h1,hal,hgr]
 | false =>
  rw [q1] at hgr
  obtain ⟨hl20,hrs⟩:=zND (by omega) q1
  have hrs2 : ∀ o ∈ l,o.rs.length ≤ 1000000000:=fun o ho=>by have:=hrs o ho; omega
  obtain ⟨rd,⟨r1,rfl,hr1⟩,hde⟩:=zQ1 (fuel:=4000000) (d:=39) (h:=h) (s:=s) (k:=k) (m:=m) hS hho (by omega) (by omega) hrs2
  by_cases q2 : delE l h s k m = 0
  ·obtain ⟨g0,⟨g1,g2,g3,g4⟩,⟨e3,e4⟩,hnl,hfit,hon,hvw⟩:=zVN hok (by omega) q2
   obtain ⟨rc,⟨r2,rfl,hr2⟩,hc2⟩:=zHM (fuel:=4000000) (d:=42) (v:=h.lb) hS (by omega) (by omega) hrs2
   rw [q2] at hr1 hde
   rw [g0] at hr2 hc2
   simp only [if_true] at hr1 hr2
   have hol:=zDV 2 h s Lb.z (spansOf ((midC l h.lb k m).map (·.id)))
   have hvl:=zPM (zM4 g0).1 h.lb
   generalize spansOf ((midC l h.lb k m).map (·.id)) = sp at *
   obtain ⟨r3,hr3,hbh⟩:=zPU (fuel:=4000000) (d:=45) hS hr1 (by omega) (by omega) (by omega) hfit
   have hrs3 : ∀ o ∈ l ++ zBV 2 h s Lb.z sp,o.rs.length ≤ 1000000000:=fun o ho=>by
    rcases List.mem_append.1 ho with ho | ho
    ·exact hrs2 o ho
    ·obtain ⟨_,_,_,_,rfl⟩:=zDW ho
     exact Nat.zero_le _
   obtain ⟨rn,⟨r4,rfl,hr4⟩,hc4⟩:=zHM (fuel:=4000000) (d:=42) (v:=h.lb) hr3 (by rw [List.length_append]; omega) (by omega) hrs3
   rw [hon] at hr4 hc4
   simp only [if_true] at hr4
   rw [hvw] at hr4
   obtain ⟨k,rfl⟩ : ∃ n : Nat,k = n:=⟨k.toNat,by omega⟩
   obtain ⟨m,rfl⟩ : ∃ n : Nat,m = n:=⟨m.toNat,by omega⟩
   simp only [Int.toNat_natCast] at hr4
   clear hvw hfit hon
   have lr1:=hr1.len
   have lr2:=hr2.len
   have c1 : decide ((k : Int) < 0) = false:=decide_eq_false (by omega)
   have c2 : decide ((m : Int) < 1) = false:=decide_eq_false (by omega)
   have c3 : decide (((zBH l h.lb).length : Int) < k) = false:=decide_eq_false (by omega)
   have w0 : IntKind.i64.wrap (((zBH l h.lb).length : Int) - k) = (zBH l h.lb).length - k:=by rw [wrap_i64] <;> omega
   have c4 : decide (((zBH l h.lb).length : Int) - k < m) = false:=decide_eq_false (by omega)
   have w1 : IntKind.i64.wrap ((k : Int) + m) = ((k + m : Nat) : Int):=by rw [wrap_i64] <;> omega
   obtain ⟨sa,hsa,hsl⟩:=zXS hr2 (j:=k) (by omega)
   obtain ⟨sb,hsb,hsm⟩:=zNX hr2 (i:=k + m) (by omega)
   simp (maxSteps:=2000000) (disch:=first | omega | assumption | (simp only [DS,Nat.reduceAdd, *]; done) | (simp only [DZ]; omega)) only [RUN,RU,zA2,zA1,slot,reduceIte,Nat.reduceEqDiff,h0,h1,h2,h3,h4,hal,hgr,hde]
   simp (maxSteps:=2000000) (disch:=first | omega | assumption | (simp only [DS,Nat.reduceAdd, *]; done) | (simp only [DZ]; omega)) only [RUN,RU,zA2,zA1,slot,reduceIte,Nat.reduceEqDiff,Nat.reduceBEq,h0,h3,h4,hc2,hbh,hc4,hr2.fz.rows,c1,c2,c3,c4,w0,lr2]
   simp (maxSteps:=2000000) (disch:=first | omega | assumption | (simp only [DS,Nat.reduceAdd, *]; done) | (simp only [DZ]; omega)) only [RUN,RU,zA2,reduceIte,Nat.reduceEqDiff,Nat.reduceBEq,Nat.reduceAdd,hsa,hsl.fz.rows]
   refine zPN (bytes:=32) (Wf.mem0.add _) SlM.nil zFE.cel hsl (by omega) (by simp; omega) (by simp; omega) fun o1 M1 m1 wf1 le1 sz1 kp1 nw1 wm1 rl1 on1 oc1=>?_
   have g0':=kp1 0 (by simp only [zA6,zBC]; omega) (by simp [rowOf])
   simp (maxSteps:=2000000) (disch:=first | omega | assumption | (simp only [DS,Nat.reduceAdd, *]; done) | (simp only [DZ]; omega)) only [RUN] at g0'
   have nn1 : ∀ id,rowOf o1 = some id → 1 ≤ id:=fun id h=>by
    rcases nw1 id h with h' | h'
    ·cases h'
    ·simp only [zA6,zBC] at h'; exact h'
   rw [List.nil_append] at m1
   clear kp1 nw1
   simp (maxSteps:=2000000) (disch:=first | omega | assumption | (simp only [DS,Nat.reduceAdd, *]; done) | (simp only [DZ]; omega)) only [RUN,RU,zA2,reduceIte,Nat.reduceEqDiff,Nat.reduceBEq,Nat.reduceAdd,h3,h4,hr2.fz.rows,w1,hsb,hsm.fz.rows,rl1,zC6]
   refine zPN (bytes:=32) wf1 m1 zFE.cel hsm (by omega) (by simp; omega) (by simp; omega) fun o2 M2 m2 wf2 le2 sz2 kp2 nw2 wm2 rl2 on2 oc2=>?_
   have g02:=(kp2 0 (Mem.get_lt g0') (fun h=>by have:=nn1 _ h; omega)).trans g0'
   simp (maxSteps:=2000000) (disch:=first | omega | assumption | (simp only [DS,Nat.reduceAdd, *]; done) | (simp only [DZ]; omega)) only [RUN,RU,zA2,zA1,reduceIte,Nat.reduceEqDiff,Nat.reduceAdd]
   clear kp2 nw2 m1
   refine zBF (I:=fun nq tq Nq => ∃ (iq : Nat) (_x : Nat),nq = sp.length - iq ∧ iq ≤ sp.length ∧ nth zA5 tq 0 = a ∧ nth zA5 tq 2 = I64 s ∧ nth zA5 tq 6 = .ptr 0 0 ∧ nth zA5 tq 11 = BL true ∧ nth zA5 tq 12 = r1 ∧ nth zA5 tq 18 = r4 ∧ nth zA5 tq 20 = o2 ∧ nth zA5 tq 21 = I64 iq ∧ Wf Nq ∧ Nq.get 0 = some (.row false (hdR h)) ∧ SlM Nq 5 zDH o2 ((zBH l h.lb).take k ++ (zBH l h.lb).drop (k + m))) (n:=sp.length) (by omega) ?_ ?_
   ·refine ⟨0,0,rfl,Nat.zero_le _, ?_, ?_, ?_, ?_, ?_, ?_, ?_, ?_,wf2,g02,m2⟩ <;> simp (maxSteps:=2000000) (disch:=first | omega | assumption | (simp only [DS,Nat.reduceAdd, *]; done) | (simp only [DZ]; omega)) only [RUN,reduceIte,Nat.reduceEqDiff,h0,h2]
    all_goals first | rfl | assumption | done
   ·rintro nq tq Nq hltq ⟨iq,_x,rfl,hiq,gq0,gq2,gq6,gq11,gq12,gq18,gq20,gq21,w,m0,sm⟩
    simp only [ht] at hltq ⊢
    have l0:=Mem.get_lt m0
    by_cases hc : iq < sp.length
    ·have d1 : decide ((iq : Int) < (zBV 2 h s Lb.z sp).length) = true:=decide_eq_true (by omega)
     have d2 : IntKind.i64.wrap ((iq : Int) + 1) = ((iq + 1 : Nat) : Int):=by rw [wrap_i64] <;> omega
     have d3 : IntKind.i64.wrap (s + (iq : Int)) = s + iq:=by rw [wrap_i64] <;> omega
     have d4 : decide (s + (iq : Int) = s + iq) = true:=decide_eq_true rfl
     have d5 : decide (h = h) = true:=decide_eq_true rfl
     obtain ⟨r,hiad,hr,hrl⟩:=hr1.iad iq (by omega)
     rw [zEL] at hr
     obtain ⟨ra,rfl,hra,_⟩:=hr
     simp (maxSteps:=2000000) (disch:=first | omega | assumption | (simp only [DS,Nat.reduceAdd, *]; done) | (simp only [DZ]; omega)) only [RUN,RU,zA2,zA1,slot,reduceIte,Nat.reduceEqDiff,Nat.reduceBEq,Nat.reduceAdd,gq0,gq2,gq6,gq11,gq12,gq18,gq20,gq21,lr1,d1,d2,d3,hiad,m0,w,↓pHdN,zTP,ETA]
     exact ⟨hltq,sp.length - (iq + 1),by omega,iq + 1,0,rfl,by omega,rfl,sm⟩
    ·obtain rfl : iq = sp.length:=by omega
     have d1 : decide ((sp.length : Int) < (zBV 2 h s Lb.z sp).length) = false:=decide_eq_false (by omega)
     have hl7 : ((zBH l h.lb).take k ++ (zBH l h.lb).drop (k + m)).length ≤ 10000:=by simp; omega
     simp (maxSteps:=2000000) (disch:=first | omega | assumption | (simp only [DS,Nat.reduceAdd, *]; done) | (simp only [DZ]; omega)) only [RUN,RU,zA2,zA1,reduceIte,Nat.reduceEqDiff,gq11,gq12,gq18,gq20,gq21,lr1,d1]
     refine SlR.hand2 (n:=59) (R:=fun r=>r = BL true) tf9 rfl (SlR.of sm) w zFE (fun M=>hr4.icy M 12 (by omega)) (fun o' ho'=>⟨_,rfl,fun M=>by
      have:=zKU (fuel:=4000000) (d:=59) hr4 ho' (by omega) (by omega) M
      rw [decide_eq_true rfl] at this
      exact this⟩) fun r M6 hr w6 s6 n6 k6=>?_
     subst hr
     simp (maxSteps:=2000000) (disch:=first | omega | assumption | (simp only [DS,Nat.reduceAdd, *]; done) | (simp only [DZ]; omega)) only [RUN,RU,zA2,zA1,zA0,zAA,frzL,reduceIte,Nat.reduceEqDiff]
  ·have q2':=decide_eq_false q2
   rw [if_neg q2] at hr1
   have lr1:=hr1.len
   simp (maxSteps:=2000000) (disch:=first | omega | assumption | (simp only [DS,Nat.reduceAdd, *]; done) | (simp only [DZ]; omega)) only [RUN,RU,zA2,zA1,zA0,zAA,frzL,slot,reduceIte,Nat.reduceEqDiff,h0,h1,h2,h3,h4,hal,hgr,hde,q2',lr1]
   rfl
end Go.Proofs.YtkofgapckhpkdaaGreat
namespace Go.Proofs.YtkofgapckhpkdaaGreat
open Go Go.Ax
abbrev gLb : GT:=.ag [.int .u8,.int .u32]
abbrev gHd : GT:=.ag [gLb,.int .u8]
abbrev gId : GT:=.ag [gHd,.int .i64]
abbrev gSp : GT:=.ag [gId,.int .i64]
abbrev gOp : GT:=.ag [.int .u8,gHd,.int .i64,gSp,gId,gLb,.sl (.int .i32)]
theorem zF6 {n : Int} (h : (Lit.int .u8 n).wf = true) : 0 ≤ n ∧ n ≤ 255:=by
 simp [Lit.wf,IntKind.min,IntKind.max,IntKind.signed,IntKind.bits] at h
 omega
theorem zIM {n : Int} (h : (Lit.int .u32 n).wf = true) : 0 ≤ n ∧ n < 4294967296:=by
 simp [Lit.wf,IntKind.min,IntKind.max,IntKind.signed,IntKind.bits] at h
 omega
theorem zKR {n : Int} (h : (Lit.int .i64 n).wf = true) : i64R n:=by
 simp [Lit.wf,IntKind.min,IntKind.max,IntKind.signed,IntKind.bits] at h
 unfold i64R
 omega
def zSR (r : List AV) (x : Int) : Prop:=zB6 r x ∧ (-2147483648 ≤ x ∧ x ≤ 2147483647)
theorem zdG (r : List AV) (h : Is (.int .i32) r) : ∃ x,zSR r x:=by
 simp only [Is] at h
 obtain ⟨n,rfl,hw⟩:=h
 refine ⟨n,rfl, ?_⟩
 simp [Lit.wf,IntKind.min,IntKind.max,IntKind.signed,IntKind.bits] at hw
 omega
theorem zO7 : ∀ {rows : List (List AV)} {l : List Int},All2 zSR rows l → All2 zB6 rows l ∧ i32s l
 | _,_,.nil=>⟨.nil,fun x h=>by cases h⟩
 | _,_,.cons a t=>by
  obtain ⟨h1,h2⟩:=zO7 t
  refine ⟨.cons a.1 h1,fun x h=>?_⟩
  rcases List.mem_cons.1 h with rfl | h
  ·exact a.2
  ·exact h2 x h
theorem zeK {a : AV} {l : List Int} (h : Sl 1 zSR a l) : Sl 1 zB6 a l ∧ i32s l:=by
 rcases h with ⟨rfl,rfl⟩ | ⟨rows,cap,rfl,hA,hr⟩
 ·exact ⟨.inl ⟨rfl,rfl⟩,fun x h=>by cases h⟩
 ·obtain ⟨h1,h2⟩:=zO7 hA
  exact ⟨.inr ⟨rows,cap,rfl,h1,hr⟩,h2⟩
theorem zWY {r : List AV} (h : Is (.sl (.int .i32)) r) : ∃ a l,r = [a] ∧ Sl 1 zB6 a l ∧ i32s l:=by
 obtain ⟨a,l,e,hs⟩:=Is.slice zdG h
 obtain ⟨h1,h2⟩:=zeK hs
 exact ⟨a,l,e,h1,h2⟩
theorem of_op (r : List AV) (h : Is gOp r) : ∃ x,isOp r x:=by
 simp only [Is,IsL] at h
 obtain ⟨_,_,rfl,⟨n1,rfl,w1⟩,_,_,rfl,⟨_,_,rfl,⟨_,_,rfl,⟨n2,rfl,w2⟩,_,_,rfl,⟨n3,rfl,w3⟩,rfl⟩,_,_,rfl,⟨n4,rfl,w4⟩,rfl⟩,_,_,rfl,⟨n5,rfl,w5⟩,_,_,rfl,⟨_,_,rfl,⟨_,_,rfl,⟨_,_,rfl,⟨_,_,rfl,⟨n6,rfl,w6⟩,_,_,rfl,⟨n7,rfl,w7⟩,rfl⟩,_,_,rfl,⟨n8,rfl,w8⟩,rfl⟩,_,_,rfl,⟨n9,rfl,w9⟩,rfl⟩,_,_,rfl,⟨n10,rfl,w10⟩,rfl⟩,_,_,rfl,⟨_,_,rfl,⟨_,_,rfl,⟨_,_,rfl,⟨n11,rfl,w11⟩,_,_,rfl,⟨n12,rfl,w12⟩,rfl⟩,_,_,rfl,⟨n13,rfl,w13⟩,rfl⟩,_,_,rfl,⟨n14,rfl,w14⟩,rfl⟩,_,_,rfl,⟨_,_,rfl,⟨n15,rfl,w15⟩,_,_,rfl,⟨n16,rfl,w16⟩,rfl⟩,_,_,rfl,hr,rfl⟩:=h
 have r1 : 0 ≤ n1 ∧ n1 ≤ 255:=by exact zF6 w1
 have r2 : 0 ≤ n2 ∧ n2 ≤ 255:=by exact zF6 w2
 have r3 : 0 ≤ n3 ∧ n3 < 4294967296:=by exact zIM w3
 have r4 : 0 ≤ n4 ∧ n4 ≤ 255:=by exact zF6 w4
 have r5 : i64R n5:=by exact zKR w5
 have r6 : 0 ≤ n6 ∧ n6 ≤ 255:=by exact zF6 w6
 have r7 : 0 ≤ n7 ∧ n7 < 4294967296:=by exact zIM w7
 have r8 : 0 ≤ n8 ∧ n8 ≤ 255:=by exact zF6 w8
 have r9 : i64R n9:=by exact zKR w9
 have r10 : i64R n10:=by exact zKR w10
 have r11 : 0 ≤ n11 ∧ n11 ≤ 255:=by exact zF6 w11
 have r12 : 0 ≤ n12 ∧ n12 < 4294967296:=by exact zIM w12
 have r13 : 0 ≤ n13 ∧ n13 ≤ 255:=by exact zF6 w13
 have r14 : i64R n14:=by exact zKR w14
 have r15 : 0 ≤ n15 ∧ n15 ≤ 255:=by exact zF6 w15
 have r16 : 0 ≤ n16 ∧ n16 < 4294967296:=by exact zIM w16
 obtain ⟨ra,l,e,hs,hi⟩:=zWY (r:=_) (by simp only [Is]; exact hr)
 subst e
 exact ⟨⟨n1,⟨⟨n2,n3⟩,n4⟩,n5,⟨⟨⟨⟨n6,n7⟩,n8⟩,n9⟩,n10⟩,⟨⟨⟨n11,n12⟩,n13⟩,n14⟩,⟨n15,n16⟩,l⟩,ra,rfl,hs,r1,⟨⟨r2.1,r2.2,r3.1,r3.2⟩,r4⟩,r5,⟨⟨⟨⟨r6.1,r6.2,r7.1,r7.2⟩,r8⟩,r9⟩,r10⟩,⟨⟨⟨r11.1,r11.2,r12.1,r12.2⟩,r13⟩,r14⟩,⟨r15.1,r15.2,r16.1,r16.2⟩,hi⟩
end Go.Proofs.YtkofgapckhpkdaaGreat
namespace Go.Proofs.YtkofgapckhpkdaaGreat.editorDeletes
open Go Go.Ax
theorem of_hd (r : List AV) (h : Is gHd r) : ∃ x : Hd,r = hdR x ∧ x.ok:=by
 simp only [Is,IsL] at h
 obtain ⟨_,_,rfl,⟨_,_,rfl,⟨n1,rfl,w1⟩,_,_,rfl,⟨n2,rfl,w2⟩,rfl⟩,_,_,rfl,⟨n3,rfl,w3⟩,rfl⟩:=h
 have r1:=zF6 w1
 have r2:=zIM w2
 have r3:=zF6 w3
 exact ⟨⟨⟨n1,n2⟩,n3⟩,rfl,⟨r1.1,r1.2,r2.1,r2.2⟩,r3.1,r3.2⟩
theorem of_int (a : AV) (h : IsA (.int .i64) a) : ∃ n,a = I64 n:=by
 have h : Is (.int .i64) [a]:=h
 simp only [Is] at h
 obtain ⟨n,hn,_⟩:=h
 exact ⟨n,by simpa using hn⟩
theorem run_args (a0 a1 a2 a3 a4 : AV) (h0 : IsA (.sl gOp) a0) (h1 : IsA gHd a1) (h2 : IsA (.int .i64) a2) (h3 : IsA (.int .i64) a3) (h4 : IsA (.int .i64) a4) : zAE Tryz.prog (fsT tbl) 4000000 61 (.fn 3) [a0,a1,a2,a3,a4] mem0 = some (BL true,mem0):=by
 obtain ⟨a,l,ha,hl⟩:=Is.slice of_op h0
 obtain rfl : a0 = a:=by simpa using ha
 obtain ⟨c1,rfl,h1⟩:=h1
 obtain ⟨h,rfl,hh⟩:=of_hd c1 h1
 obtain ⟨s,rfl⟩:=of_int a2 h2
 obtain ⟨k,rfl⟩:=of_int a3 h3
 obtain ⟨m,rfl⟩:=of_int a4 h4
 exact zY1 hl (ze1 hl) hh mem0
end Go.Proofs.YtkofgapckhpkdaaGreat.editorDeletes
