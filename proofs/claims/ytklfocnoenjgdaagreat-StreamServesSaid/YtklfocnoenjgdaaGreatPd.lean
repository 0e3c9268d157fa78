/-
  Texts joined: VqG SwR SwG SwS VuF SwV VuG.
-/
import Derived.Test.YtklfocnoenjgdaaGreatEf
import Derived.Test.YtklfocnoenjgdaaGreatVuA
import Derived.Test.YtklfocnoenjgdaaGreatPc
set_option linter.unusedSimpArgs false
set_option linter.unusedVariables false
set_option maxRecDepth 100000
namespace Go.Proofs.YtklfocnoenjgdaaGreat
open Go Go.Ax
variable {fuel : Nat} {M : Mem} {Q : AV → Mem → Prop} {d : Nat}
set_option maxHeartbeats 4000000 in
theorem zL6 {a b : AV} {l m : List CellV} (ha : Sl 5 zDS a l) (hb : Sl 5 zDS b m) (hf : l.length < fuel) (hl : l.length ≤ 1000000000) (M : Mem) :
  zAE Tryz.prog (fsT tbl) fuel (d + 1) (.fn 11) [a,b] M = some (BL (decide (l = m)),M):=by
 have hla:=ha.len
 have hlb:=hb.len
 apply zBI
 refine zAI tf11 rfl (by simp only [icyL,fun M=>ha.icy M 12 (by omega),fun M=>hb.icy M 12 (by omega)]) (by simp [a11]) fun b' ht hx=>?_
 have h0:=hx 0 _ rfl
 have h1:=hx 1 _ rfl
 clear hx
 simp only [a11,c11,zzm] at ht ⊢
 by_cases hll : l.length = m.length
 ·have q1 : decide ((l.length : Int) = m.length) = true:=by simp; omega
  simp (maxSteps:=2000000) (disch:=first | omega | assumption | (simp only [DS,Nat.reduceAdd, *]; done) | (simp only [DZ]; omega)) only [RUN,RU,zA2,zA1,reduceIte,Nat.reduceEqDiff,h0,h1,hla,hlb,q1]
  refine zB8 (I:=fun n t N => ∃ (i : Nat),n = l.length - i ∧ i ≤ l.length ∧ nth zA5 t 0 = a ∧ nth zA5 t 1 = b ∧ nth zA5 t 5 = I64 i ∧ l.take i = m.take i) (n:=l.length) (by omega) ?_ ?_
  ·refine ⟨0,rfl,Nat.zero_le _, ?_, ?_, ?_,rfl⟩ <;> simp (maxSteps:=2000000) (disch:=first | omega | assumption | (simp only [DS,Nat.reduceAdd, *]; done) | (simp only [DZ]; omega)) only [RUN,reduceIte,Nat.reduceEqDiff,h0,h1]
   all_goals first | rfl | assumption | done
  ·rintro n t N hlt ⟨i,rfl,hi,g0,g1,g5,tk⟩
   simp only [ht] at hlt ⊢
   by_cases hlt' : i < l.length
   ·have hc' : decide ((i : Int) < l.length) = true:=by simp; omega
    have hmt : i < m.length:=by omega
    have w1 : IntKind.i64.wrap ((i : Int) + 1) = ((i + 1 : Nat) : Int):=by rw [wrap_i64] <;> omega
    obtain ⟨r,hr,⟨rfl,_⟩,_⟩:=ha.iad i hlt'
    obtain ⟨r2,hr2,⟨rfl,_⟩,_⟩:=hb.iad i hmt
    by_cases he : l[i] = m[i]
    ·have q2 : decide (l[i] = m[i]) = true:=by simp [he]
     simp (maxSteps:=2000000) (disch:=first | omega | assumption | (simp only [DS,Nat.reduceAdd, *]; done) | (simp only [DZ]; omega)) only [RUN,RU,zA2,zA1,slot,reduceIte,Nat.reduceEqDiff,Nat.reduceBEq,Nat.reduceAdd,g0,g1,g5,hla,hc',hr,hr2,w1,↓pCeN,zMM,ETA,CellV.eta,q2]
     refine ⟨hlt,l.length - (i + 1),by omega,i + 1,rfl,by omega,rfl, ?_⟩
     rw [List.take_add_one,List.take_add_one,tk,List.getElem?_eq_getElem hlt',List.getElem?_eq_getElem hmt,he]
    ·have q2 : decide (l[i] = m[i]) = false:=by simp [he]
     simp (maxSteps:=2000000) (disch:=first | omega | assumption | (simp only [DS,Nat.reduceAdd, *]; done) | (simp only [DZ]; omega)) only [RUN,RU,zA2,zA1,zA0,zAB,frzL,slot,reduceIte,Nat.reduceEqDiff,Nat.reduceBEq,Nat.reduceAdd,g0,g1,g5,hla,hc',hr,hr2,↓pCeN,zMM,ETA,CellV.eta,q2]
     have : decide (l = m) = false:=by
      simp only [decide_eq_false_iff_not]
      rintro rfl; exact he rfl
     rw [this]
   ·have hc' : decide ((i : Int) < l.length) = false:=by simp; omega
    simp (maxSteps:=2000000) (disch:=first | omega | assumption | (simp only [DS,Nat.reduceAdd, *]; done) | (simp only [DZ]; omega)) only [RUN,RU,zA2,zA1,zA0,zAB,frzL,reduceIte,Nat.reduceEqDiff,g0,g5,hla,hc']
    have : decide (l = m) = true:=by
     simp only [decide_eq_true_eq]
     rw [show i = l.length by omega,List.take_length] at tk
     rw [tk,show l.length = m.length from hll,List.take_length]
    rw [this]
 ·have q1 : decide ((l.length : Int) = m.length) = false:=by simp; omega
  have q3 : decide (l = m) = false:=by
   simp only [decide_eq_false_iff_not]
   rintro rfl; exact hll rfl
  simp (maxSteps:=2000000) (disch:=first | omega | assumption | (simp only [DS,Nat.reduceAdd, *]; done) | (simp only [DZ]; omega)) only [RUN,RU,zA2,zA1,zA0,zAB,frzL,reduceIte,Nat.reduceEqDiff,h0,h1,hla,hlb,q1,q3]
end Go.Proofs.YtklfocnoenjgdaaGreat
namespace Go.Proofs.YtklfocnoenjgdaaGreat
open Go Go.Ax
variable {fuel : Nat} {M : Mem} {Q : AV → Mem → Prop} {d : Nat}
theorem zUN {a b : AV} {l m : List Int} (ha : Sl 1 zAT a l) (hb : Sl 1 zAT b m) (hf : l.length < fuel) (hl : l.length ≤ 1000000000) (M : Mem) :
  zAE Tryz.prog (fsT tbl) fuel (d + 1) (.fn 22) [a,b] M = some (BL (decide (l = m)),M):=by
 have hla:=ha.len
 have hlb:=hb.len
 apply zBI
 refine zAI tf22 rfl (by simp (maxSteps:=2000000) (disch:=first | omega | assumption | (simp only [DS,Nat.reduceAdd, *]; done) | (simp only [DZ]; omega)) only [icyL,ha.fz.icy,hb.fz.icy]) (by simp [a22]) fun b' ht hx=>?_
 have h0:=hx 0 _ rfl
 have h1:=hx 1 _ rfl
 clear hx
 simp only [a22,c22,zzm] at ht ⊢
 by_cases hll : l.length = m.length
 ·have q1 : decide ((l.length : Int) = m.length) = true:=by simp; omega
  simp (maxSteps:=2000000) (disch:=first | omega | assumption | (simp only [DS,Nat.reduceAdd, *]; done) | (simp only [DZ]; omega)) only [RUN,RU,zA2,zA1,reduceIte,Nat.reduceEqDiff,h0,h1,hla,hlb,q1]
  refine zB8 (I:=fun n t N => ∃ (i : Nat),n = l.length - i ∧ i ≤ l.length ∧ nth zA5 t 0 = a ∧ nth zA5 t 1 = b ∧ nth zA5 t 5 = I64 i ∧ l.take i = m.take i) (n:=l.length) (by omega) ?_ ?_
  ·refine ⟨0,rfl,Nat.zero_le _, ?_, ?_, ?_,rfl⟩ <;> simp (maxSteps:=2000000) (disch:=first | omega | assumption | (simp only [DS,Nat.reduceAdd, *]; done) | (simp only [DZ]; omega)) only [RUN,reduceIte,Nat.reduceEqDiff,h0,h1]
   all_goals first | rfl | assumption | done
  ·rintro n t N hlt ⟨i,rfl,hi,g0,g1,g5,tk⟩
   simp only [ht] at hlt ⊢
   by_cases hlt' : i < l.length
   ·have hc' : decide ((i : Int) < l.length) = true:=by simp; omega
    have hmt : i < m.length:=by omega
    have w1 : IntKind.i64.wrap ((i : Int) + 1) = ((i + 1 : Nat) : Int):=by rw [wrap_i64] <;> omega
    obtain ⟨r,hr,rfl,_⟩:=ha.iad i hlt'
    obtain ⟨r2,hr2,rfl,_⟩:=hb.iad i hmt
    by_cases he : l[i] = m[i]
    ·have q2 : decide (l[i] = m[i]) = true:=by simp [he]
     simp (maxSteps:=2000000) (disch:=first | omega | assumption | (simp only [DS,Nat.reduceAdd, *]; done) | (simp only [DZ]; omega)) only [RUN,RU,zA2,zA1,reduceIte,Nat.reduceEqDiff,Nat.reduceBEq,Nat.reduceAdd,g0,g1,g5,hla,hc',hr,hr2,w1,q2]
     refine ⟨hlt,l.length - (i + 1),by omega,i + 1,rfl,by omega,rfl, ?_⟩
     rw [List.take_add_one,List.take_add_one,tk,List.getElem?_eq_getElem hlt',List.getElem?_eq_getElem hmt,he]
    ·have q2 : decide (l[i] = m[i]) = false:=by simp [he]
     simp (maxSteps:=2000000) (disch:=first | omega | assumption | (simp only [DS,Nat.reduceAdd, *]; done) | (simp only [DZ]; omega)) only [RUN,RU,zA2,zA1,zA0,zAB,frzL,reduceIte,Nat.reduceEqDiff,Nat.reduceBEq,Nat.reduceAdd,g0,g1,g5,hla,hc',hr,hr2,q2]
     have : decide (l = m) = false:=by
      simp only [decide_eq_false_iff_not]
      rintro rfl; exact he rfl
     rw [this]
   ·have hc' : decide ((i : Int) < l.length) = false:=by simp; omega
    simp (maxSteps:=2000000) (disch:=first | omega | assumption | (simp only [DS,Nat.reduceAdd, *]; done) | (simp only [DZ]; omega)) only [RUN,RU,zA2,zA1,zA0,zAB,frzL,reduceIte,Nat.reduceEqDiff,g0,g5,hla,hc']
    have : decide (l = m) = true:=by
     simp only [decide_eq_true_eq]
     rw [show i = l.length by omega,List.take_length] at tk
     rw [tk,show l.length = m.length from hll,List.take_length]
    rw [this]
 ·have q1 : decide ((l.length : Int) = m.length) = false:=by simp; omega
  have q3 : decide (l = m) = false:=by
   simp only [decide_eq_false_iff_not]
   rintro rfl; exact hll rfl
  simp (maxSteps:=2000000) (disch:=first | omega | assumption | (simp only [DS,Nat.reduceAdd, *]; done) | (simp only [DZ]; omega)) only [RUN,RU,zA2,zA1,zA0,zAB,frzL,reduceIte,Nat.reduceEqDiff,h0,h1,hla,hlb,q1,q3]
def opEq (o p : Op) : Bool:=decide (o.kd = p.kd) && decide (o.hd = p.hd) && decide (o.sr = p.sr) && decide (o.sp = p.sp) && decide (o.af = p.af) && decide (o.to = p.to) && decide (o.rs = p.rs)
theorem zXR (o p : Op) : opEq o p = true ↔ o = p:=by
 obtain ⟨a1,a2,a3,a4,a5,a6,a7⟩:=o
 obtain ⟨b1,b2,b3,b4,b5,b6,b7⟩:=p
 simp [opEq,and_assoc]
set_option maxHeartbeats 8000000 in
theorem zRE {o p : Op} {ra rb : AV} (hR : Sl 1 zAT ra o.rs) (hP : Sl 1 zAT rb p.rs) (hl : o.rs.length ≤ 1000000000) (hf : o.rs.length < fuel) (M : Mem) : zAE Tryz.prog (fsT tbl) fuel (d + 2) (.fn 9) [.agg (opR o ra),.agg (opR p rb)] M = some (BL (opEq o p),M):=by
 have ora:=hR.one
 have orb:=hP.one
 have hs:=fun M=>zUN (fuel:=fuel) (d:=d) hR hP hf hl M
 apply zBI
 refine zAI tf9 rfl (by simp only [icyL,zH8 hR.fz,zH8 hP.fz]) (by simp [a9]) fun b' ht hx=>?_
 have h0:=hx 0 _ rfl
 have h1:=hx 1 _ rfl
 clear hx
 simp only [a9,c9,zzm] at ht ⊢
 unfold opEq
 cases q1 : decide (o.kd = p.kd)
 ·simp (maxSteps:=2000000) (disch:=first | omega | assumption | (simp only [DS,Nat.reduceAdd, *]; done) | (simp only [DZ]; omega)) only [RUN,RU,zA2,zA1,zA0,zAB,frzL,reduceIte,Nat.reduceEqDiff,Nat.reduceAdd,h0,h1,q1,Bool.false_and]
 cases q2 : decide (o.hd = p.hd)
 ·simp (maxSteps:=2000000) (disch:=first | omega | assumption | (simp only [DS,Nat.reduceAdd, *]; done) | (simp only [DZ]; omega)) only [RUN,RU,zA2,zA1,zA0,zAB,frzL,slot,reduceIte,Nat.reduceEqDiff,Nat.reduceAdd,h0,h1,↓pHdE,zDB,ETA,q1,q2,Bool.false_and]
 cases q3 : decide (o.sr = p.sr)
 ·simp (maxSteps:=2000000) (disch:=first | omega | assumption | (simp only [DS,Nat.reduceAdd, *]; done) | (simp only [DZ]; omega)) only [RUN,RU,zA2,zA1,zA0,zAB,frzL,slot,reduceIte,Nat.reduceEqDiff,Nat.reduceAdd,h0,h1,↓pHdE,zDB,ETA,q1,q2,q3,Bool.false_and]
 cases q4 : decide (o.sp = p.sp)
 ·simp (maxSteps:=2000000) (disch:=first | omega | assumption | (simp only [DS,Nat.reduceAdd, *]; done) | (simp only [DZ]; omega)) only [RUN,RU,zA2,zA1,zA0,zAB,frzL,slot,reduceIte,Nat.reduceEqDiff,Nat.reduceAdd,h0,h1,↓pHdE,zDB,↓pSpE,zDD,ETA,q1,q2,q3,q4,Bool.false_and]
 cases q5 : decide (o.af = p.af)
 ·simp (maxSteps:=2000000) (disch:=first | omega | assumption | (simp only [DS,Nat.reduceAdd, *]; done) | (simp only [DZ]; omega)) only [RUN,RU,zA2,zA1,zA0,zAB,frzL,slot,reduceIte,Nat.reduceEqDiff,Nat.reduceAdd,h0,h1,↓pIdE,zAS,↓pHdE,zDB,↓pSpE,zDD,ETA,q1,q2,q3,q4,q5,Bool.false_and]
 cases q6 : decide (o.to = p.to)
 ·simp (maxSteps:=2000000) (disch:=first | omega | assumption | (simp only [DS,Nat.reduceAdd, *]; done) | (simp only [DZ]; omega)) only [RUN,RU,zA2,zA1,zA0,zAB,frzL,slot,reduceIte,Nat.reduceEqDiff,Nat.reduceAdd,h0,h1,↓pIdE,zAS,↓pHdE,zDB,↓pLbE,zDC,↓pSpE,zDD,ETA,q1,q2,q3,q4,q5,q6,Bool.false_and]
 ·simp (maxSteps:=2000000) (disch:=first | omega | assumption | (simp only [DS,Nat.reduceAdd, *]; done) | (simp only [DZ]; omega)) only [RUN,RU,zA2,zA1,zA0,zAB,frzL,slot,reduceIte,Nat.reduceEqDiff,Nat.reduceAdd,h0,h1,↓pIdE,zAS,↓pHdE,zDB,↓pLbE,zDC,↓pSpE,zDD,ETA,q1,q2,q3,q4,q5,q6,hs]
end Go.Proofs.YtklfocnoenjgdaaGreat
namespace Go.Proofs.YtklfocnoenjgdaaGreat
open Go Go.Ax
variable {fuel : Nat} {M : Mem} {Q : AV → Mem → Prop} {d : Nat} {l : List Op} {a : AV}
def wO (o : Op) : Int:=imax (imin (imax o.sp.n 0) 100) (imin (o.rs.length : Int) 1000)
def sumW (l : List Op) : Int:=(l.map wO).sum
def zLU (l : List Op) (many : Int) : Bool:=decide (many < l.length) || decide (300 < sumW (l.take 300))
theorem zQM (o : Op) : 0 ≤ wO o ∧ wO o ≤ 1000 ∧ ((o.rs.length : Int) ≤ wO o ∨ 1000 ≤ wO o):=by
 unfold wO imax imin
 repeat' split
 all_goals omega
theorem sumW_snoc (l : List Op) (o : Op) : sumW (l ++ [o]) = sumW l + wO o:=by unfold sumW; simp
theorem zLB : ∀ (l : List Op),0 ≤ sumW l ∧ sumW l ≤ 1000 * l.length
 | []=>by simp [sumW]
 | o :: l=>by
  have h1:=zLB l
  have h2:=zQM o
  unfold sumW at *
  simp only [List.map_cons,List.sum_cons,List.length_cons]
  omega
theorem zQI : ∀ (l : List Op) (o : Op),o ∈ l → wO o ≤ sumW l
 | [],_,h=>by cases h
 | p :: l,o,h=>by
  have h1:=zLB l
  have h2:=zQM p
  rcases List.mem_cons.1 h with rfl | h
  ·unfold sumW at *; simp only [List.map_cons,List.sum_cons]; omega
  ·have:=zQI l o h
   unfold sumW at *; simp only [List.map_cons,List.sum_cons]; omega
theorem zNW {many : Int} (hm : many ≤ 300) (h : zLU l many = false) : (l.length : Int) ≤ many ∧ ∀ o ∈ l,o.rs.length ≤ 300:=by
 unfold zLU at h
 simp only [Bool.or_eq_false_iff,decide_eq_false_iff_not] at h
 refine ⟨by omega,fun o ho=>?_⟩
 have ht : l.take 300 = l:=List.take_of_length_le (by omega)
 rw [ht] at h
 have:=zQI l o ho
 have:=zQM o
 omega
set_option maxHeartbeats 4000000 in
theorem zT9 {many : Int} (hS : Sl 17 isOp a l) (hf : 400 < fuel) (M : Mem) : zAE Tryz.prog (fsT tbl) fuel (d + 1) (.fn 5) [a,I64 many] M = some (BL (zLU l many),M):=by
 have ll:=hS.len
 apply zBI
 refine zAI tf5 rfl (by simp only [icyL,fun M=>hS.icy M 12 (by omega),zJ7]) (by simp [a5]) fun b' ht hx=>?_
 have h0:=hx 0 _ rfl
 have h1:=hx 1 _ rfl
 clear hx
 simp only [a5,c5,zzm,zzg] at ht ⊢
 unfold zLU
 simp (maxSteps:=2000000) (disch:=first | omega | assumption | (simp only [DS,Nat.reduceAdd, *]; done) | (simp only [DZ]; omega)) only [RUN,RU,zA2,zA1]
 refine zB8 (I:=fun n t N => ∃ (i : Nat),n = 300 - i ∧ i ≤ 300 ∧ nth zA5 t 0 = a ∧ nth zA5 t 1 = I64 many ∧ nth zA5 t 5 = I64 (sumW (l.take i)) ∧ nth zA5 t 6 = I64 i ∧ N = mem0 ∧ i ≤ l.length) (n:=300) (by omega) ?_ ?_
 ·refine ⟨0,rfl,Nat.zero_le _, ?_, ?_, ?_, ?_,rfl,Nat.zero_le _⟩ <;> simp (maxSteps:=2000000) (disch:=first | omega | assumption | (simp only [DS,Nat.reduceAdd, *]; done) | (simp only [DZ]; omega)) only [RUN,RU,reduceIte,Nat.reduceEqDiff,h0,h1]
  all_goals first | rfl | assumption | done
 ·rintro n t N hlt ⟨i,rfl,hi,g0,g1,g5,g6,hm,hil⟩
  simp only [ht] at hlt ⊢
  subst hm
  by_cases hc : i < l.length
  ·have q1 : decide ((i : Int) < l.length) = true:=decide_eq_true (by omega)
   by_cases hc3 : i < 300
   ·have q2 : decide ((i : Int) < 300) = true:=decide_eq_true (by omega)
    have w1 : IntKind.i64.wrap ((i : Int) + 1) = ((i + 1 : Nat) : Int):=by rw [wrap_i64] <;> omega
    obtain ⟨r,hiad,hr,hrl⟩:=hS.iad i hc
    have hsn:=sumW_snoc (l.take i) l[i]
    rw [← take_snoc l i hc] at hsn
    have hps:=zLB (l.take i)
    rw [List.length_take] at hps
    have hwo:=zQM l[i]
    generalize l[i] = e at *
    obtain ⟨ra,rfl,hra,hok⟩:=hr
    have lra:=hra.len
    have w2 : IntKind.i64.wrap (sumW (l.take i) + wO e) = sumW (l.take (i + 1)):=by rw [hsn]; exact wrap_i64 (by omega) (by omega)
    simp (maxSteps:=2000000) (disch:=first | omega | assumption | (simp only [DS,Nat.reduceAdd, *]; done) | (simp only [DZ]; omega)) only [RUN,RU,zA2,zA1,reduceIte,Nat.reduceEqDiff,Nat.reduceBEq,Nat.reduceAdd,g0,g1,g5,g6,ll,q1,q2,w1,hiad,lra,zC6,BMM]
    refine ⟨hlt,300 - (i + 1),by omega,i + 1,rfl,by omega, ?_,rfl,by omega⟩
    show AV.sc (.int .i64 (IntKind.i64.wrap (sumW (l.take i) + wO e))) = I64 _
    rw [w2]
   ·have q2 : decide ((i : Int) < 300) = false:=decide_eq_false (by omega)
    obtain rfl : i = 300:=by omega
    cases q3 : decide (many < (l.length : Int))
    all_goals simp (maxSteps:=2000000) (disch:=first | omega | assumption | (simp only [DS,Nat.reduceAdd, *]; done) | (simp only [DZ]; omega)) only [RUN,RU,zA2,zA1,zA0,zAB,frzL,reduceIte,Nat.reduceEqDiff,Nat.reduceSub,g0,g1,g5,g6,ll,q1,q2,q3]
  ·have q1 : decide ((i : Int) < l.length) = false:=decide_eq_false (by omega)
   obtain rfl : i = l.length:=by omega
   have et : l.take 300 = l.take l.length:=by rw [List.take_of_length_le (Nat.le_refl _),List.take_of_length_le (by omega)]
   rw [et]
   cases q3 : decide (many < (l.length : Int))
   all_goals simp (maxSteps:=2000000) (disch:=first | omega | assumption | (simp only [DS,Nat.reduceAdd, *]; done) | (simp only [DZ]; omega)) only [RUN,RU,zA2,zA1,zA0,zAB,frzL,reduceIte,Nat.reduceEqDiff,g0,g1,g5,g6,ll,q3]
end Go.Proofs.YtklfocnoenjgdaaGreat
namespace Go.Proofs.YtklfocnoenjgdaaGreat
open Go Go.Ax
variable {fuel : Nat} {M : Mem} {Q : AV → Mem → Prop} {d : Nat} {l : List Op} {a : AV}
/-! ### Copies -/
theorem zcR {o : Op} {ra : AV} (hS : Sl 1 zAT ra o.rs) (hl : o.rs.length ≤ 1000000000) (wf : Wf M) (hw : M.wm ≤ M.size) (k : ∀ a' N,Wf N → M.size ≤ N.size → (∀ j,j < M.size → N.get j = M.get j) → SlM N 1 zAT a' o.rs → (∀ id,rowOf a' = some id → M.size ≤ id) → N.wm = M.wm → Q (.agg (opR o a')) N) :
  W3 (zAE Tryz.prog (fsT tbl) fuel (d + 1) (.fn 8) [.agg (opR o ra)] M) Q:=by
 have ora:=hS.one
 have hwf:=wf
 refine zAZ tf8 rfl (by simp [a8]) fun b' ht hx=>?_
 have h0:=hx 0 _ rfl
 clear hx
 simp only [a8,c8,zz5] at ht ⊢
 simp (maxSteps:=2000000) (disch:=first | omega | assumption | (simp only [DS,Nat.reduceAdd, *]; done) | (simp only [DZ]; omega)) only [RUN,RU,zA2,zA1,reduceIte,Nat.reduceEqDiff,h0,hS.fz.rows]
 refine zQL (by simp (maxSteps:=2000000) (disch:=first | omega | assumption | (simp only [DS,Nat.reduceAdd, *]; done) | (simp only [DZ]; omega)) only [RUN,wf]) SlM.nil zF1.cel hS (by omega) (by simp; omega) (by simp; omega) fun a' N m' w' le' sz' kp' nw' wm' rl' on' oc'=>?_
 simp only [zA6] at le' kp' nw'
 rw [List.nil_append] at m'
 have g0 : N.get M.size = some (.row false (opR o ra)):=by rw [kp' _ (by omega) (by simp [rowOf])]; simp (maxSteps:=2000000) (disch:=first | omega | assumption | (simp only [DS,Nat.reduceAdd, *]; done) | (simp only [DZ]; omega)) only [RUN]
 have g1 : N.get (M.size + 1) = some (.row false (opR ⟨0,Hd.z,0,⟨Eid.z,0⟩,Eid.z,Lb.z,[]⟩ NIL)):=by rw [kp' _ (by omega) (by simp [rowOf])]; simp (maxSteps:=2000000) (disch:=first | omega | assumption | (simp only [DS,Nat.reduceAdd, *]; done) | (simp only [DZ]; omega)) only [RUN]
 have nr : ∀ id,rowOf a' = some id → M.size + 2 ≤ id:=fun id h=>by
  rcases nw' id h with h' | h'
  ·cases h'
  ·omega
 have z0 : M.size < N.size:=by omega
 have z1 : M.size + 1 < N.size:=by omega
 simp (maxSteps:=2000000) (disch:=first | omega | assumption | (simp only [DS,Nat.reduceAdd, *]; done) | (simp only [DZ]; omega)) only [RUN,RU,zA2,zA1,zA0,zAB,slot,lay,reduceIte,Nat.reduceEqDiff,Nat.reduceAdd,g0,g1,oc']
 refine k a' _ ((w'.upd _ _).upd _ _) (by simp only [zA9]; omega) (fun j hj=>?_) (m'.keep fun j hj=>?_) (fun id h=>by have:=nr id h; omega) wm'
 ·rw [zA3 (w'.upd _ _) _ _ _ (by omega),zA3 w' _ _ _ (by omega),kp' j (by omega) (by simp [rowOf]),zAF (wf.add _) _ _ (by rw [zA6]; omega),zAF wf _ _ hj]
 ·have:=nr j hj
  rw [zA3 (w'.upd _ _) _ _ _ (by omega),zA3 w' _ _ _ (by omega)]
end Go.Proofs.YtklfocnoenjgdaaGreat
namespace Go.Proofs.YtklfocnoenjgdaaGreat
open Go Go.Ax
variable {fuel : Nat} {M : Mem} {Q : AV → Mem → Prop} {d : Nat} {l : List Op} {a : AV} {v : Lb}
set_option maxHeartbeats 32000000 in
theorem zUQ {b : AV} {wh : List Int} {cut : Int} (hS : Sl 17 isOp a l) (hW : Sl 1 zbC b wh) (M : Mem) : zAE Tryz.prog (fsT tbl) 4000000 61 (.fn 3) [a,lbA v,b,I64 cut] M = some (BL true,M):=by
 have ll:=hS.len
 have lw:=hW.len
 have hal:=zS1
 have hgr:=fun M=>zT9 (fuel:=4000000) (d:=59) (many:=15) hS (by omega) M
 apply zBI
 refine zAI tf3 rfl (by simp only [icyL,fun M=>hS.icy M 12 (by omega),fun M=>hW.icy M 12 (by omega),zAV (zCD v) (show 1 < 12 by omega),zJ7]) (by simp [a3]) fun b' ht hx=>?_
 have h0:=hx 0 _ rfl
 have h1:=hx 1 _ rfl
 have h2:=hx 2 _ rfl
 have h3:=hx 3 _ rfl
 clear hx
 simp only [a3,c3,zz5,zzm,zzg] at ht ⊢
 cases q1 : zLU l 15 with
 | true =>
  rw [q1] at hgr
  simp (maxSteps:=2000000) (disch:=first | omega | assumption | (simp only [DS,Nat.reduceAdd, *]; done) | (simp only [DZ]; omega)) only [RUN,RU,zA2,zA1,zA0,zAB,frzL,reduceIte,Nat.reduceEqDiff,h0,h1,hal,hgr]
 | false =>
  rw [q1] at hgr
  obtain ⟨hl15,hrs⟩:=zNW (by omega) q1
  have hrs2 : ∀ o ∈ l,o.rs.length ≤ 1000000000:=fun o ho=>by have:=hrs o ho; omega
  by_cases q2 : 20 < wh.length
  ·have q2' : decide ((20 : Int) < wh.length) = true:=decide_eq_true (by omega)
   simp (maxSteps:=2000000) (disch:=first | omega | assumption | (simp only [DS,Nat.reduceAdd, *]; done) | (simp only [DZ]; omega)) only [RUN,RU,zA2,zA1,zA0,zAB,frzL,reduceIte,Nat.reduceEqDiff,h0,h1,h2,hal,hgr,lw,q2']
  ·have q2' : decide ((20 : Int) < wh.length) = false:=decide_eq_false (by omega)
   obtain ⟨ro,⟨rl,rfl,hrl⟩,hon⟩:=zHO (fuel:=4000000) (d:=45) (v:=v) hS (by omega) (by omega) hrs2
   by_cases q3 : zED l v = 0
   ·obtain ⟨q4,q5⟩:=zZV q3
    rw [q3] at hon
    rw [if_pos q3] at hrl
    have q6:=zDR v q4
    have hlow:=zE4 l v
    obtain ⟨rm,hrm,hpu⟩:=zRG (fuel:=4000000) (d:=43) (v:=v) hS hW (by omega) (by omega) (by omega) (fun o ho=>by have:=hrs o ho; omega) q4 q5
    have hdone : All2 (SimB l v) (lowL l v) (zFG l v (nsF l wh)):=zUC q4 v _
    generalize zFG l v (nsF l wh) = mine at *
    have hml : (lowL l v).length = mine.length:=hdone.length_eq
    have lrl:=hrl.len
    have lrm:=hrm.len
    have hgot:=zb2 hdone
    have hmh:=zHJ q4 hgot
    have hmo:=zKW hmh q5
    have hmrs:=zZC hgot hrs
    have hmrs2 : ∀ o ∈ mine,o.rs.length ≤ 1000000000:=fun o ho=>by have:=hmrs o ho; omega
    have q7 : decide ((mine.length : Int) = (lowL l v).length) = true:=decide_eq_true (by omega)
    simp (maxSteps:=2000000) (disch:=first | omega | assumption | (simp only [DS,Nat.reduceAdd, *]; done) | (simp only [DZ]; omega)) only [RUN,RU,zA2,zA1,slot,reduceIte,Nat.reduceEqDiff,h0,h1,h2,hal,hgr,lw,q2',hon,hpu,lrl,lrm,q7]
    refine zB8 (I:=fun nq tq Nq => ∃ (iq : Nat),nq = mine.length - iq ∧ iq ≤ mine.length ∧ nth zA5 tq 0 = a ∧ nth zA5 tq 3 = I64 cut ∧ nth zA5 tq 5 = .ptr 0 0 ∧ nth zA5 tq 9 = BL true ∧ nth zA5 tq 10 = rl ∧ nth zA5 tq 12 = rm ∧ nth zA5 tq 14 = I64 iq ∧ Wf Nq ∧ Nq.get 0 = some (.row false (lbR v)) ∧ Nq.wm = 0) (n:=mine.length) (by omega) ?_ ?_
    ·refine ⟨0,rfl,Nat.zero_le _, ?_, ?_, ?_, ?_, ?_, ?_, ?_,Wf.mem0.add _,by simp (maxSteps:=2000000) (disch:=first | omega | assumption | (simp only [DS,Nat.reduceAdd, *]; done) | (simp only [DZ]; omega)) only [RUN],rfl⟩ <;> simp (maxSteps:=2000000) (disch:=first | omega | assumption | (simp only [DS,Nat.reduceAdd, *]; done) | (simp only [DZ]; omega)) only [RUN,reduceIte,Nat.reduceEqDiff,h0,h3]
     all_goals first | rfl | assumption | done
    ·rintro nq tq Nq hltq ⟨iq,rfl,hiq,gq0,gq3,gq5,gq9,gq10,gq12,gq14,wq,gq,mq⟩
     simp only [ht] at hltq ⊢
     have l0q:=Mem.get_lt gq
     by_cases hc : iq < mine.length
     ·have c1 : decide ((iq : Int) < mine.length) = true:=decide_eq_true (by omega)
      have w1 : IntKind.i64.wrap ((iq : Int) + 1) = ((iq + 1 : Nat) : Int):=by rw [wrap_i64] <;> omega
      have hcl : iq < (lowL l v).length:=by omega
      obtain ⟨rs1,hp1,hlen,hch⟩:=zS2 hdone hcl hc
      obtain ⟨rr,hiad,hri,_⟩:=hrm.iad iq hc
      obtain ⟨rr2,hiad2,hri2,_⟩:=hrl.iad iq hcl
      have hpl:=hmrs mine[iq] (List.getElem_mem hc)
      generalize hpp : mine[iq] = p at *
      generalize hoo : (lowL l v)[iq] = o at *
      clear hpp hoo
      obtain ⟨ra,rfl,hra,hok⟩:=hri
      obtain ⟨rb,rfl,hrb,hokb⟩:=hri2
      have lrb:=hrb.len
      have hpr : p.rs = rs1:=by rw [hp1]
      have hol : o.rs.length ≤ 300:=by rw [← hlen,← hpr]; exact hpl
      simp (maxSteps:=2000000) (disch:=first | omega | assumption | (simp only [DS,Nat.reduceAdd, *]; done) | (simp only [DZ]; omega)) only [RUN,RU,zA2,zA1,slot,reduceIte,Nat.reduceEqDiff,gq12,gq14,lrm,c1,hiad]
      refine zcR (fuel:=4000000) (d:=59) hra (by omega) wq (by omega) fun a' N2 w2 le2 kp2 sm2 nw2 wm2=>?_
      rw [hpr] at sm2
      have oa2:=sm2.one
      have ca2:=sm2.cells
      have rl2:=zAW sm2.rl (Nat.le_refl N2.size)
      have nlt : ∀ id,rowOf a' = some id → Nq.size ≤ id ∧ id < N2.size:=fun id h=>⟨nw2 id h,sm2.lt id h⟩
      simp (maxSteps:=2000000) (disch:=first | omega | assumption | (simp only [DS,Nat.reduceAdd, *]; done) | (simp only [DZ]; omega)) only [RUN,RU,zA2,zA1,lay,reduceIte,Nat.reduceEqDiff,Nat.reduceAdd]
      have hX : ∀ z y,(((N2.add z).upd N2.size y).get 0 = some (.row false (lbR v))):=fun z y=>by rw [zA3 (w2.add _) _ _ _ (by omega),zAF w2 _ _ (by omega),kp2 0 l0q]; exact gq
      refine zB8 (I:=fun nk tk Nk => ∃ (ik : Nat),nk = o.rs.length - ik ∧ ik ≤ o.rs.length ∧ nth zA5 tk 0 = a ∧ nth zA5 tk 3 = I64 cut ∧ nth zA5 tk 5 = .ptr 0 0 ∧ nth zA5 tk 9 = BL true ∧ nth zA5 tk 10 = rl ∧ nth zA5 tk 12 = rm ∧ nth zA5 tk 14 = I64 iq ∧ nth zA5 tk 15 = .ptr N2.size 0 ∧ nth zA5 tk 16 = I64 ik ∧ Wf Nk ∧ Nk.get 0 = some (.row false (lbR v)) ∧ Nk.wm = 0 ∧ Nk.get N2.size = some (.row false (opR p a')) ∧ SlM Nk 1 zAT a' (patL o.rs rs1 ik)) (n:=o.rs.length) (by omega) ?_ ?_
      ·refine ⟨0,rfl,Nat.zero_le _, ?_, ?_, ?_, ?_, ?_, ?_, ?_, ?_, ?_,(w2.add _).upd _ _,hX _ _,wm2.trans mq,zAG (w2.add _) _ _ (by rw [zA6]; omega),(by rw [zY2]; exact sm2.keep fun j hj=>by rw [zA3 (w2.add _) _ _ _ (by have:=(nlt j hj).2; omega),zAF w2 _ _ (nlt j hj).2])⟩ <;> simp (maxSteps:=2000000) (disch:=first | omega | assumption | (simp only [DS,Nat.reduceAdd, *]; done) | (simp only [DZ]; omega)) only [RUN,reduceIte,Nat.reduceEqDiff,gq0,gq3,gq5,gq9,gq10,gq12,gq14]
       all_goals first | rfl | assumption | done
      ·rintro nk tk Nk hltk ⟨ik,rfl,hik,gk0,gk3,gk5,gk9,gk10,gk12,gk14,gk15,gk16,wk,gk,mk,xk,sk⟩
       simp only [hltq] at hltk ⊢
       have hcur:=zc0 hlen ik (by omega)
       have lsk:=sk.len
       rw [hcur] at lsk
       have osk:=sk.one
       have lxk:=Mem.get_lt xk
       by_cases hc2 : ik < o.rs.length
       ·have c2 : decide ((ik : Int) < o.rs.length) = true:=decide_eq_true (by omega)
        have w3 : IntKind.i64.wrap ((ik : Int) + 1) = ((ik + 1 : Nat) : Int):=by rw [wrap_i64] <;> omega
        obtain ⟨id,cs,hrow,lid,hg,hcs,hcl2,hia,hset⟩:=zfO sk (i:=ik) (by omega)
        rw [zbZ hlen hc2] at hcs
        obtain ⟨rc,hiab,hrc,_⟩:=hrb.iad ik hc2
        have hrc : rc = [I32 o.rs[ik]]:=hrc
        subst hrc
        have hid:=nlt id hrow
        by_cases hb1 : rs1[ik] = -1
        ·have c3 : decide (rs1[ik] = -1) = true:=decide_eq_true hb1
         simp (maxSteps:=2000000) (disch:=first | omega | assumption | (simp only [DS,Nat.reduceAdd, *]; done) | (simp only [DZ]; omega)) only [RUN,RU,zA2,zA1,lay,reduceIte,Nat.reduceEqDiff,Nat.reduceBEq,Nat.reduceAdd,gk0,gk3,gk5,gk9,gk10,gk12,gk14,gk15,gk16,xk,lsk,lrb,c2,hiad2,hia,hg,hcs,c3,hiab,w3]
         refine ⟨hltk,o.rs.length - (ik + 1),by omega,ik + 1,rfl,by omega,rfl,wk,gk,mk, ?_⟩
         rw [← zc1 hlen hc2]
         exact hset _ _ (zAG wk _ _ lid)
        ·have c3 : decide (rs1[ik] = -1) = false:=decide_eq_false hb1
         simp (maxSteps:=2000000) (disch:=first | omega | assumption | (simp only [DS,Nat.reduceAdd, *]; done) | (simp only [DZ]; omega)) only [RUN,RU,zA2,zA1,reduceIte,Nat.reduceEqDiff,gk0,gk3,gk5,gk9,gk10,gk12,gk14,gk15,gk16,xk,lsk,lrb,c2,hiad2,hia,hg,hcs,c3,w3]
         have he : rs1[ik] = o.rs[ik]:=by
          have h:=hch ik hc2
          rw [List.getD_eq_getElem?_getD,List.getD_eq_getElem?_getD,List.getElem?_eq_getElem hc2,List.getElem?_eq_getElem (by omega)] at h
          exact h.elim (fun h=>h) (fun h=>absurd h.1 hb1)
         exact ⟨hltk,o.rs.length - (ik + 1),by omega,ik + 1,rfl,by omega,rfl,wk,gk,mk,by rw [zY1 hlen hc2 he]; exact sk⟩
       ·obtain rfl : ik = o.rs.length:=by omega
        have c2 : decide ((o.rs.length : Int) < o.rs.length) = false:=decide_eq_false (by omega)
        rw [zbY hlen] at sk
        have rlk:=zAW sk.rl (Nat.le_refl Nk.size)
        simp (maxSteps:=2000000) (disch:=first | omega | assumption | (simp only [DS,Nat.reduceAdd, *]; done) | (simp only [DZ]; omega)) only [RUN,RU,zA2,zA1,slot,reduceIte,Nat.reduceEqDiff,Nat.reduceBEq,Nat.reduceAdd,gk10,gk14,gk15,gk16,xk,lsk,hiad2]
        refine zON (n:=59) (R:=fun r=>r = BL true) (opH p) a' (rest:=[.agg (opR o rb)]) tf9 rfl (opK.hz p) sk wk zF1 (fun M=>by simp only [icyL,zH8 hrb.fz]) (fun a2 h2=>⟨_,rfl,fun M=>?_⟩) fun r N' hr w' s' m' k'=>?_
        ·have hs:=zRE (fuel:=4000000) (d:=58) (o:=o) (p:=o) h2 hrb (by omega) (by omega) M
         rw [(zXR o o).2 rfl] at hs
         rw [hp1]
         exact hs
        ·subst hr
         simp (maxSteps:=2000000) (disch:=first | omega | assumption | (simp only [DS,Nat.reduceAdd, *]; done) | (simp only [DZ]; omega)) only [RUN,RU,zA2,zA1,reduceIte,Nat.reduceEqDiff,Nat.reduceAdd,gk0,gk3,gk5,gk9,gk10,gk12,gk14,w1,w']
         exact ⟨hltk,mine.length - (iq + 1),by omega,iq + 1,rfl,by omega,rfl,by rw [k' 0 (fun h=>by have:=nlt 0 h; omega)]; exact gk,mk⟩
     ·obtain rfl : iq = mine.length:=by omega
      have c1 : decide ((mine.length : Int) < mine.length) = false:=decide_eq_false (by omega)
      obtain ⟨rA,⟨r1,rfl,hr1⟩,hc1⟩:=zFR (fuel:=4000000) (d:=42) (v:=v) hrm (by omega) (by omega) hmrs2
      obtain ⟨rB,⟨r2,rfl,hr2⟩,hc2⟩:=zFR (fuel:=4000000) (d:=42) (v:=v) hS (by omega) (by omega) hrs2
      rw [hmo] at hc1
      rw [if_pos hmo] at hr1
      rw [q3] at hc2
      rw [if_pos q3] at hr2
      have hvw:=zOL q4 hdone
      have hv1:=zQJ hmh v
      have hso:=fun M=>zL6 (fuel:=4000000) (d:=59) hr1 hr2 (by omega) (by omega) M
      rw [decide_eq_true hvw] at hso
      have hcut:=zK4 (lowL l v).length cut
      unfold imin at hcut
      have hcn:=zP1 (lowL l v).length cut
      generalize zI4 (lowL l v).length cut = n at *
      obtain ⟨t1,hs1,ht1⟩:=zRP hrm (j:=n) (by omega)
      obtain ⟨t2,hs2,ht2⟩:=zRP hrl (j:=n) hcn
      have hgt:=zWV hdone (n:=n) (by omega)
      have hth:=zHJ q4 hgt
      have hto:=zKW hth q5
      have huh:=zG2 q6 n
      have huo:=zKW huh q5
      have hl1 : (mine.take n).length ≤ 15:=by rw [List.length_take]; omega
      have hl2 : ((lowL l v).take n).length ≤ 15:=by rw [List.length_take]; omega
      obtain ⟨rC,⟨r3,rfl,hr3⟩,hc3⟩:=zFR (fuel:=4000000) (d:=42) (v:=v) ht1 (by omega) (by omega) (fun o ho=>hmrs2 o (List.mem_of_mem_take ho))
      obtain ⟨rD,⟨r4,rfl,hr4⟩,hc4⟩:=zFR (fuel:=4000000) (d:=42) (v:=v) ht2 (by omega) (by omega) (fun o ho=>hrs2 o (List.mem_filter.1 (List.mem_of_mem_take ho)).1)
      rw [hto] at hc3
      rw [if_pos hto] at hr3
      rw [huo] at hc4
      rw [if_pos huo] at hr4
      have hvs:=zQK huh (zGG n hdone) (fun o ho=>(List.mem_filter.1 (List.mem_of_mem_take ho)).2)
      have hv4:=zQJ huh v
      generalize zEN (mine.take n) v = C at *
      generalize zEN ((lowL l v).take n) v = D at *
      have hCD : D.length = C.length:=hvs.length_eq
      have l3:=hr3.len
      have l4:=hr4.len
      have c5 : decide ((C.length : Int) = D.length) = true:=decide_eq_true (by omega)
      simp (maxSteps:=2000000) (disch:=first | omega | assumption | (simp only [DS,Nat.reduceAdd, *]; done) | (simp only [DZ]; omega)) only [RUN,RU,zA2,zA1,slot,reduceIte,Nat.reduceEqDiff,Nat.reduceBEq,Nat.reduceAdd,gq0,gq3,gq5,gq10,gq12,gq14,lrm,lrl,gq,hc1,hc2,hso,zC6,BMM,hcut,hs1,hs2,hc3,hc4,l3,l4,c5,hrm.fz.rows,hrl.fz.rows]
      refine zB8 (I:=fun nm tm Nm => ∃ (im : Nat),nm = C.length - im ∧ im ≤ C.length ∧ nth zA5 tm 9 = BL true ∧ nth zA5 tm 22 = r3 ∧ nth zA5 tm 24 = r4 ∧ nth zA5 tm 26 = I64 im ∧ Wf Nm) (n:=C.length) (by omega) ?_ ?_
      ·refine ⟨0,rfl,Nat.zero_le _, ?_, ?_, ?_, ?_,wq⟩ <;> simp (maxSteps:=2000000) (disch:=first | omega | assumption | (simp only [DS,Nat.reduceAdd, *]; done) | (simp only [DZ]; omega)) only [RUN,reduceIte,Nat.reduceEqDiff,gq9]
       all_goals first | rfl | assumption | done
      ·rintro nm tm Nm hltm ⟨im,rfl,him,gm9,gm22,gm24,gm26,wm⟩
       simp only [hltq] at hltm ⊢
       by_cases hd1 : im < C.length
       ·have c6 : decide ((im : Int) < C.length) = true:=decide_eq_true (by omega)
        have w4 : IntKind.i64.wrap ((im : Int) + 1) = ((im + 1 : Nat) : Int):=by rw [wrap_i64] <;> omega
        have hdd : im < D.length:=by omega
        obtain ⟨hid,hchh⟩:=zS2 hvs hdd hd1
        obtain ⟨rx,hix,⟨rfl,_⟩,_⟩:=hr3.iad im hd1
        obtain ⟨ry,hiy,⟨rfl,_⟩,_⟩:=hr4.iad im hdd
        have c7 : decide (C[im].id = D[im].id) = true:=decide_eq_true hid
        by_cases he : C[im].ch = D[im].ch
        ·have c8 : decide (C[im].ch = D[im].ch) = true:=decide_eq_true he
         simp (maxSteps:=2000000) (disch:=first | omega | assumption | (simp only [DS,Nat.reduceAdd, *]; done) | (simp only [DZ]; omega)) only [RUN,RU,zA2,zA1,slot,reduceIte,Nat.reduceEqDiff,Nat.reduceBEq,Nat.reduceAdd,gm9,gm22,gm24,gm26,l3,c6,hix,hiy,c7,c8,w4,↓pIdN,zB5,ETA]
         exact ⟨hltm,C.length - (im + 1),by omega,im + 1,rfl,by omega,rfl,wm⟩
        ·have c8 : decide (C[im].ch = D[im].ch) = false:=decide_eq_false he
         have c9 : decide (C[im].ch = -1) = true:=decide_eq_true (hchh.elim (fun h=>absurd h he) (fun h=>h.1))
         simp (maxSteps:=2000000) (disch:=first | omega | assumption | (simp only [DS,Nat.reduceAdd, *]; done) | (simp only [DZ]; omega)) only [RUN,RU,zA2,zA1,slot,reduceIte,Nat.reduceEqDiff,Nat.reduceBEq,Nat.reduceAdd,gm9,gm22,gm24,gm26,l3,c6,hix,hiy,c7,c8,c9,w4,↓pIdN,zB5,ETA]
         exact ⟨hltm,C.length - (im + 1),by omega,im + 1,rfl,by omega,rfl,wm⟩
       ·obtain rfl : im = C.length:=by omega
        have c6 : decide ((C.length : Int) < C.length) = false:=decide_eq_false (by omega)
        simp (maxSteps:=2000000) (disch:=first | omega | assumption | (simp only [DS,Nat.reduceAdd, *]; done) | (simp only [DZ]; omega)) only [RUN,RU,zA2,zA1,zA0,zAB,frzL,reduceIte,Nat.reduceEqDiff,gm9,gm22,gm26,l3]
   ·have q3':=decide_eq_false q3
    rw [if_neg q3] at hrl
    have lrl:=hrl.len
    simp (maxSteps:=2000000) (disch:=first | omega | assumption | (simp only [DS,Nat.reduceAdd, *]; done) | (simp only [DZ]; omega)) only [RUN,RU,zA2,zA1,zA0,zAB,frzL,slot,reduceIte,Nat.reduceEqDiff,h0,h1,h2,hal,hgr,lw,q2',hon,q3',lrl]
    rfl
end Go.Proofs.YtklfocnoenjgdaaGreat
namespace Go.Proofs.YtklfocnoenjgdaaGreat
open Go Go.Ax
abbrev gLb : GT:=.ag [.int .u8,.int .u32]
abbrev gHd : GT:=.ag [gLb,.int .u8]
abbrev gId : GT:=.ag [gHd,.int .i64]
abbrev gSp : GT:=.ag [gId,.int .i64]
abbrev gOp : GT:=.ag [.int .u8,gHd,.int .i64,gSp,gId,gLb,.sl (.int .i32)]
theorem zF5 {n : Int} (h : (Lit.int .u8 n).wf = true) : 0 ≤ n ∧ n ≤ 255:=by
 simp [Lit.wf,IntKind.min,IntKind.max,IntKind.signed,IntKind.bits] at h
 omega
theorem zGW {n : Int} (h : (Lit.int .u32 n).wf = true) : 0 ≤ n ∧ n < 4294967296:=by
 simp [Lit.wf,IntKind.min,IntKind.max,IntKind.signed,IntKind.bits] at h
 omega
theorem zL3 {n : Int} (h : (Lit.int .i64 n).wf = true) : i64R n:=by
 simp [Lit.wf,IntKind.min,IntKind.max,IntKind.signed,IntKind.bits] at h
 unfold i64R
 omega
def zTG (r : List AV) (x : Int) : Prop:=zAT r x ∧ (-2147483648 ≤ x ∧ x ≤ 2147483647)
theorem zeN (r : List AV) (h : Is (.int .i32) r) : ∃ x,zTG r x:=by
 simp only [Is] at h
 obtain ⟨n,rfl,hw⟩:=h
 refine ⟨n,rfl, ?_⟩
 simp [Lit.wf,IntKind.min,IntKind.max,IntKind.signed,IntKind.bits] at hw
 omega
theorem zOV : ∀ {rows : List (List AV)} {l : List Int},All2 zTG rows l → All2 zAT rows l ∧ i32s l
 | _,_,.nil=>⟨.nil,fun x h=>by cases h⟩
 | _,_,.cons a t=>by
  obtain ⟨h1,h2⟩:=zOV t
  refine ⟨.cons a.1 h1,fun x h=>?_⟩
  rcases List.mem_cons.1 h with rfl | h
  ·exact a.2
  ·exact h2 x h
theorem zfR {a : AV} {l : List Int} (h : Sl 1 zTG a l) : Sl 1 zAT a l ∧ i32s l:=by
 rcases h with ⟨rfl,rfl⟩ | ⟨rows,cap,rfl,hA,hr⟩
 ·exact ⟨.inl ⟨rfl,rfl⟩,fun x h=>by cases h⟩
 ·obtain ⟨h1,h2⟩:=zOV hA
  exact ⟨.inr ⟨rows,cap,rfl,h1,hr⟩,h2⟩
theorem zXO {r : List AV} (h : Is (.sl (.int .i32)) r) : ∃ a l,r = [a] ∧ Sl 1 zAT a l ∧ i32s l:=by
 obtain ⟨a,l,e,hs⟩:=Is.slice zeN h
 obtain ⟨h1,h2⟩:=zfR hs
 exact ⟨a,l,e,h1,h2⟩
theorem of_lb (r : List AV) (h : Is gLb r) : ∃ x,isLb r x:=by
 simp only [Is,IsL] at h
 obtain ⟨_,_,rfl,⟨n1,rfl,w1⟩,_,_,rfl,⟨n2,rfl,w2⟩,rfl⟩:=h
 exact ⟨⟨n1,n2⟩,rfl,(zF5 w1).1,(zF5 w1).2,(zGW w2).1,(zGW w2).2⟩
theorem of_op (r : List AV) (h : Is gOp r) : ∃ x,isOp r x:=by
 simp only [Is,IsL] at h
 obtain ⟨_,_,rfl,⟨n1,rfl,w1⟩,_,_,rfl,⟨_,_,rfl,⟨_,_,rfl,⟨n2,rfl,w2⟩,_,_,rfl,⟨n3,rfl,w3⟩,rfl⟩,_,_,rfl,⟨n4,rfl,w4⟩,rfl⟩,_,_,rfl,⟨n5,rfl,w5⟩,_,_,rfl,⟨_,_,rfl,⟨_,_,rfl,⟨_,_,rfl,⟨_,_,rfl,⟨n6,rfl,w6⟩,_,_,rfl,⟨n7,rfl,w7⟩,rfl⟩,_,_,rfl,⟨n8,rfl,w8⟩,rfl⟩,_,_,rfl,⟨n9,rfl,w9⟩,rfl⟩,_,_,rfl,⟨n10,rfl,w10⟩,rfl⟩,_,_,rfl,⟨_,_,rfl,⟨_,_,rfl,⟨_,_,rfl,⟨n11,rfl,w11⟩,_,_,rfl,⟨n12,rfl,w12⟩,rfl⟩,_,_,rfl,⟨n13,rfl,w13⟩,rfl⟩,_,_,rfl,⟨n14,rfl,w14⟩,rfl⟩,_,_,rfl,⟨_,_,rfl,⟨n15,rfl,w15⟩,_,_,rfl,⟨n16,rfl,w16⟩,rfl⟩,_,_,rfl,hr,rfl⟩:=h
 have r1 : 0 ≤ n1 ∧ n1 ≤ 255:=by exact zF5 w1
 have r2 : 0 ≤ n2 ∧ n2 ≤ 255:=by exact zF5 w2
 have r3 : 0 ≤ n3 ∧ n3 < 4294967296:=by exact zGW w3
 have r4 : 0 ≤ n4 ∧ n4 ≤ 255:=by exact zF5 w4
 have r5 : i64R n5:=by exact zL3 w5
 have r6 : 0 ≤ n6 ∧ n6 ≤ 255:=by exact zF5 w6
 have r7 : 0 ≤ n7 ∧ n7 < 4294967296:=by exact zGW w7
 have r8 : 0 ≤ n8 ∧ n8 ≤ 255:=by exact zF5 w8
 have r9 : i64R n9:=by exact zL3 w9
 have r10 : i64R n10:=by exact zL3 w10
 have r11 : 0 ≤ n11 ∧ n11 ≤ 255:=by exact zF5 w11
 have r12 : 0 ≤ n12 ∧ n12 < 4294967296:=by exact zGW w12
 have r13 : 0 ≤ n13 ∧ n13 ≤ 255:=by exact zF5 w13
 have r14 : i64R n14:=by exact zL3 w14
 have r15 : 0 ≤ n15 ∧ n15 ≤ 255:=by exact zF5 w15
 have r16 : 0 ≤ n16 ∧ n16 < 4294967296:=by exact zGW w16
 obtain ⟨ra,l,e,hs,hi⟩:=zXO (r:=_) (by simp only [Is]; exact hr)
 subst e
 exact ⟨⟨n1,⟨⟨n2,n3⟩,n4⟩,n5,⟨⟨⟨⟨n6,n7⟩,n8⟩,n9⟩,n10⟩,⟨⟨⟨n11,n12⟩,n13⟩,n14⟩,⟨n15,n16⟩,l⟩,ra,rfl,hs,r1,⟨⟨r2.1,r2.2,r3.1,r3.2⟩,r4⟩,r5,⟨⟨⟨⟨r6.1,r6.2,r7.1,r7.2⟩,r8⟩,r9⟩,r10⟩,⟨⟨⟨r11.1,r11.2,r12.1,r12.2⟩,r13⟩,r14⟩,⟨r15.1,r15.2,r16.1,r16.2⟩,hi⟩
end Go.Proofs.YtklfocnoenjgdaaGreat
namespace Go.Proofs.YtklfocnoenjgdaaGreat.streamServes
open Go Go.Ax
theorem zeO (r : List AV) (h : Is (.int .i64) r) : ∃ x,zbC r x:=by
 simp only [Is] at h
 obtain ⟨n,rfl,_⟩:=h
 exact ⟨n,rfl⟩
theorem run_args (a0 a1 a2 a3 : AV) (h0 : IsA (.sl gOp) a0) (h1 : IsA gLb a1) (h2 : IsA (.sl (.int .i64)) a2) (h3 : IsA (.int .i64) a3) : zAE Tryz.prog (fsT tbl) 4000000 61 (.fn 3) [a0,a1,a2,a3] mem0 = some (BL true,mem0):=by
 obtain ⟨a,l,ha,hl⟩:=Is.slice of_op h0
 obtain rfl : a0 = a:=by simpa using ha
 obtain ⟨c1,rfl,h1⟩:=h1
 obtain ⟨v,rfl,_⟩:=of_lb c1 h1
 obtain ⟨b,w,hb,hw⟩:=Is.slice zeO h2
 obtain rfl : a2 = b:=by simpa using hb
 have h3 : Is (.int .i64) [a3]:=h3
 simp only [Is] at h3
 obtain ⟨n,hn,_⟩:=h3
 obtain rfl : a3 = I64 n:=by simpa using hn
 exact zUQ hl hw mem0
end Go.Proofs.YtklfocnoenjgdaaGreat.streamServes
